/- The texts that the proof of the law FnExactFsCrash rests on, part 3: printed functions with their contracts, words, plain laws; the last part ends in the statement itself. No condition but those that each theorem states. -/
import Derived.Test.YtmchcoafkaggkaaKFnExactFsCrash2
set_option linter.unusedVariables false
set_option linter.unusedSimpArgs false
section
set_option linter.unusedVariables false
set_option linter.unusedSimpArgs false
namespace Go.Proofs.Ytmchcoafkaggkaa.L
open Go.RowKit Go.Proofs.Ytmchcoafkaggkaa Go.Proofs.YtmchcoafkaggkaaW.PrintWords Go.Proofs.YtmchcoafkaggkaaW.PrintLast Go.Proofs.YtmchcoafkaggkaaW.PrintMore
theorem infoFl : (Try.prog.info? 58).map (·.size) = some 3 := by kernel_rfl
theorem setRow_farF (W : World) {g k : Nat} {c : Array Value} (h : k ≠ g) : (W.setRow g c).heap[k]? = W.heap[k]? := by
  simp only [World.setRow, Array.getElem?_modify]
  rw [if_neg (fun e => h e.symm)]
theorem ba_head (a b : ByteArray) (j : Nat) : (a ++ b).extract 0 (a.size + j) = a ++ b.extract 0 j := by
  apply ByteArray.ext
  apply Array.ext_getElem?
  intro i
  have e : a.size = a.data.size := rfl
  rw [e]
  simp only [ByteArray.data_extract, ByteArray.data_append, Array.getElem?_extract, Array.getElem?_append, Array.size_append, Array.size_extract, Nat.zero_add, Nat.sub_zero]
  by_cases h : i < a.data.size
  · rw [if_pos h, if_pos h, if_pos (by omega)]
  · rw [if_neg h, if_neg h]
    by_cases h2 : i - a.data.size < min j b.data.size
    · rw [if_pos h2, if_pos (by omega)]
    · rw [if_neg h2, if_neg (by omega)]
theorem crash_cut (x : S58) (T : ByteArray) (s : Nat) (hs : x.f2 = (s : Int)) (h : s ≤ x.f1.size) :
    fileCrash x T = ⟨x.f0, (x.f1.extract 0 s) ++ T.extract 0 (x.f1.size - s), ((((x.f1.extract 0 s) ++ T.extract 0 (x.f1.size - s)).size : Nat) : Int)⟩ := by
  have hsz : (x.f1.extract 0 s).size = s := by rw [ByteArray.size_extract]; omega
  have e : ((x.f1.extract 0 s) ++ T).extract 0 (min x.f1.size ((x.f1.extract 0 s) ++ T).size) = (x.f1.extract 0 s) ++ T.extract 0 (x.f1.size - s) := by
    by_cases hc : x.f1.size ≤ s + T.size
    · rw [show min x.f1.size ((x.f1.extract 0 s) ++ T).size = (x.f1.extract 0 s).size + (x.f1.size - s) by rw [ByteArray.size_append]; omega, ba_head]
    · have h1 : min x.f1.size ((x.f1.extract 0 s) ++ T).size = (x.f1.extract 0 s).size + T.size := by rw [ByteArray.size_append]; omega
      rw [h1, ba_head]
      congr 1
      apply ByteArray.ext
      simp only [ByteArray.data_extract]
      have e1 : T.size = T.data.size := rfl
      apply Array.ext_getElem?
      intro i
      simp only [Array.getElem?_extract]
      by_cases hi : i < T.data.size
      · rw [if_pos (by omega), if_pos (by omega)]
      · rw [if_neg (by omega), if_neg (by omega)]
  unfold fileCrash
  rw [hs, Int.toNat_natCast, e]
theorem ex_all (T : ByteArray) (n : Nat) (h : T.size ≤ n) : T.extract 0 n = T := by
  apply ByteArray.ext
  simp only [ByteArray.data_extract]
  have e1 : T.size = T.data.size := rfl
  apply Array.ext_getElem?
  intro i
  simp only [Array.getElem?_extract]
  by_cases hi : i < T.data.size
  · rw [if_pos (by omega)]; simp
  · rw [if_neg (by omega), Array.getElem?_eq_none (by omega)]
/-- What the loop's round keeps: the answer's cells, the copy's cells, the row made so far, the file's own cells, the blocks that were there. -/
def SpSt (w : World) (gr go gf : Nat) (cap cnt : Int) (W : World) (v : Value) (xs : List (S58)) (row : Array Value) : Prop :=
  W.heap[gr]? = some (.cells #[.slice none 0 0, .int .i64 0, .int .i64 0, .int .i64 0, .int .i64 0, .bool false] 30 (0, 0)) ∧ W.heap[go]? = some (.cells #[v, .int .i64 cap, .int .i64 cnt, .int .i64 0, .int .i64 0, .bool false] 30 (0, 0)) ∧ Kd.R k58 58 W w.heap.size (fun k => k ≠ gf) v xs ∧ W.heap[gf]? = some (.cells row 58 (0, 0)) ∧ Below w.heap.size w W ∧ w.heap.size ≤ gf ∧ gr ≠ gf ∧ go ≠ gf
theorem SpSt.put {w : World} {gr go gf : Nat} {cap cnt : Int} {W : World} {v : Value} {xs : List (S58)} {row row' : Array Value} (h : SpSt w gr go gf cap cnt W v xs row) (j : Nat) (u : Value) (e : row.setIfInBounds j u = row') : SpSt w gr go gf cap cnt (W.setCell ⟨gf, j, none⟩ u) v xs row' :=
  ⟨blk_far h.1 (p := ⟨gf, j, none⟩) h.2.2.2.2.2.2.1 u, blk_far h.2.1 (p := ⟨gf, j, none⟩) h.2.2.2.2.2.2.2 u, Kd.R_far (p := ⟨gf, j, none⟩) h.2.2.1 (fun k hk => hk) u, blk_put h.2.2.2.1 j u e, below_set h.2.2.2.2.1 h.2.2.2.2.2.1, h.2.2.2.2.2⟩
theorem SpSt.setRow {w : World} {gr go gf : Nat} {cap cnt : Int} {W : World} {v : Value} {xs : List (S58)} {row : Array Value} (h : SpSt w gr go gf cap cnt W v xs row) (row' : Array Value) : SpSt w gr go gf cap cnt (W.setRow gf row') v xs row' :=
  ⟨(setRow_farF W h.2.2.2.2.2.2.1).trans h.1, (setRow_farF W h.2.2.2.2.2.2.2).trans h.2.1, Kd.R_step h.2.2.1 (fun k hk _ => setRow_farF W hk), heap_setRow_sameF h.2.2.2.1, below_setRowF h.2.2.2.2.1 h.2.2.2.2.2.1 _, h.2.2.2.2.2⟩
set_option maxHeartbeats 8000000 in
set_option maxRecDepth 100000 in
theorem specCrash_any (A : Option Addr) (c : Nat) (l : List (S58)) (cap cnt cr fa : Int) (dn : Bool) (A1 : Option Addr) (c1 : Nat) (t : List ByteArray) (w : World)
    (hr : Kd.C k58 w A l.length l) (hc : l.length ≤ c) (hr1 : Kd.C Kd.string w A1 t.length t) (hc1 : t.length ≤ c1) (hl : l.length ≤ 1000000) (ht : t.length ≤ 1000000000000)
    (hok : ∀ x ∈ l, 0 ≤ x.f2 ∧ x.f2 ≤ x.f1.size ∧ x.f1.size ≤ 1000000000000) (hts : ∀ y ∈ t, y.size ≤ 1000000000000)
    (hval : ∀ w', Kd.C k58 w' A l.length l → Calls Try.prog 30 #[.agg #[.slice A l.length c, .int .i64 cap, .int .i64 cnt, .int .i64 cr, .int .i64 fa, .bool dn]] w' fun e w'' => e = .returned (.bool true) ∧ Below w'.heap.size w' w'') :
    Calls Try.prog 9 #[.agg #[.slice A l.length c, .int .i64 cap, .int .i64 cnt, .int .i64 cr, .int .i64 fa, .bool dn], .slice A1 t.length c1] w fun e w' =>
      ∃ v0_ : Value, e = .returned (.agg #[v0_, .int .i64 cap, .int .i64 cnt, .int .i64 0, .int .i64 0, .bool false]) ∧ Kd.R k58 58 w' w.heap.size (fun _ => True) v0_ (crashN l t l.length) ∧ Below w.heap.size w w' := by
  have HR := Aside0.mk hr
  have HC := Aside0.mk hc
  have HR1 := Aside0.mk hr1
  have HC1 := Aside0.mk hc1
  have HV := Aside0.mk hval
  have HOK := Aside0.mk (And.intro hok hts)
  clear hr hc hr1 hc1 hval hok hts
  go_enter Try.func9, Try.ntmps9
  go_upto_region 3 with (first | ((with_reducible refine gate_dst (N := 2) rfl ?_); refine box_event ?hg (N := 2) ?hd (cs := #[.slice A l.length c, .int .i64 cap, .int .i64 cnt, .int .i64 cr, .int .i64 fa, .bool dn]) (t := 30) ?hr ?_; (case hd => rfl); (case hg => rfl); (case hr => first | (go_simp; done) | (go_simp; rfl)); intro gb hg w5 hbox hb; have HB := Aside0.mk hb; have HX := Aside0.mk hbox; clear hb hbox hg) | ((with_reducible refine gate_dst (N := 4) rfl ?_); refine box_event ?hg (N := 4) ?hd (cs := #[.slice none 0 0, .int .i64 0, .int .i64 0, .int .i64 0, .int .i64 0, .bool false]) (t := 30) ?hr ?_; (case hd => rfl); (case hg => rfl); (case hr => first | (go_simp; done) | (go_simp; rfl)); intro gr hg w6 hbox hb; have HX6 := Aside0.mk (blk_below HX.out hb); have HB6 := Aside0.mk (below_step HB.out hb); have HY6 := Aside0.mk hbox; have HG6 := Aside0.mk (Nat.le_trans HB.out.size (Nat.le_of_eq hg.symm)); clear hb hbox hg) | ((with_reducible refine gate_dst (N := 9) rfl ?_); refine wpList_load_row rfl 30 (.tmp 2) rfl gb ?hp 30 #[.slice A l.length c, .int .i64 cap, .int .i64 cnt, .int .i64 cr, .int .i64 fa, .bool dn] (0, 0) _ ?hg Try.underlying30 ?ha ?hi ?_; (case hp => rfl); (case hg => exact HX6.out); (case ha => rfl); (case hi => exact infoFs)) | (go_at_call 30; (with_reducible refine (HV.out _ (Kd.C_below HR.out HB6.out)).mono ?_); rintro e w7 ⟨rfl, hb⟩; have HX7 := Aside0.mk (blk_below HX6.out hb); have HY7 := Aside0.mk (blk_below HY6.out hb); have HB7 := Aside0.mk (below_step HB6.out hb); clear hb))
  have q0 : w7.cell? ⟨gb, 0, none⟩ = some (.slice A l.length c) := (blk_cell HX7.out 0).trans rfl
  have q1 : w7.cell? ⟨gb, 1, none⟩ = some (.int .i64 cap) := (blk_cell HX7.out 1).trans rfl
  have q2 : w7.cell? ⟨gb, 2, none⟩ = some (.int .i64 cnt) := (blk_cell HX7.out 2).trans rfl
  go_upto_region 4 with (first | ((with_reducible refine gate_dst (N := 5) rfl ?_); refine box_event ?hg (N := 5) ?hd (cs := #[.slice none 0 0, .int .i64 0, .int .i64 0, .int .i64 0, .int .i64 0, .bool false]) (t := 30) ?hr ?_; (case hd => rfl); (case hg => rfl); (case hr => first | (go_simp; done) | (go_simp; rfl)); intro go hg w8 hbox hb; have HX8 := Aside0.mk (blk_below HX7.out hb); have HY8 := Aside0.mk (blk_below HY7.out hb); have HB8 := Aside0.mk (below_step HB7.out hb); have HQ8 := Aside0.mk hbox; have HG8 := Aside0.mk (And.intro (Nat.le_trans HB7.out.size (Nat.le_of_eq hg.symm)) (And.intro (Nat.ne_of_lt (hg ▸ blk_lt HY7.out : gr < go)) (Nat.ne_of_lt (hg ▸ blk_lt HX7.out : gb < go)))); clear hb hbox hg) | ((with_reducible refine gate_store (t := 30) (p := 5) rfl ?_); refine wpList_store_row rfl 30 (.tmp 5) (.tmp 17) rfl go #[.slice none 0 0, .int .i64 cap, .int .i64 cnt, .int .i64 0, .int .i64 0, .bool false] ?hx ?hy 30 #[.slice none 0 0, .int .i64 0, .int .i64 0, .int .i64 0, .int .i64 0, .bool false] ?hg ?hi ?ho ?h1 ?_; (case hx => rfl); (case hy => rfl); (case hg => exact HQ8.out); (case hi => exact infoFs); (case ho => rfl); (case h1 => simp [Value.oneCell'])))
  clear q0 q1 q2
  have HX9 := Aside0.mk ((setRow_farF w8 HG8.out.2.2 (c := #[.slice none 0 0, .int .i64 cap, .int .i64 cnt, .int .i64 0, .int .i64 0, .bool false])).trans HX8.out)
  have HY9 := Aside0.mk ((setRow_farF w8 HG8.out.2.1 (c := #[.slice none 0 0, .int .i64 cap, .int .i64 cnt, .int .i64 0, .int .i64 0, .bool false])).trans HY8.out)
  have HQ9 := Aside0.mk (heap_setRow_sameF (cs' := #[.slice none 0 0, .int .i64 cap, .int .i64 cnt, .int .i64 0, .int .i64 0, .bool false]) HQ8.out)
  have HB9 := Aside0.mk (below_setRowF HB8.out HG8.out.1 #[.slice none 0 0, .int .i64 cap, .int .i64 cnt, .int .i64 0, .int .i64 0, .bool false])
  obtain ⟨W9, hW9⟩ : ∃ W, w8.setRow go #[.slice none 0 0, .int .i64 cap, .int .i64 cnt, .int .i64 0, .int .i64 0, .bool false] = W := ⟨_, rfl⟩
  rw [hW9] at HX9 HY9 HQ9 HB9 ⊢
  clear hW9 HX8 HY8 HQ8 HB8
  have q0 : W9.cell? ⟨gb, 0, none⟩ = some (.slice A l.length c) := (blk_cell HX9.out 0).trans rfl
  go_wp2
  clear q0
  go_loopg [21] l.length (fun g s21 wx => ∃ (i : Nat) (v : Value), i + g = l.length ∧ s21 = .int .i64 i ∧ Aside0 (wx.heap[gr]? = some (.cells #[.slice none 0 0, .int .i64 0, .int .i64 0, .int .i64 0, .int .i64 0, .bool false] 30 (0, 0))) ∧ Aside0 (wx.heap[go]? = some (.cells #[v, .int .i64 cap, .int .i64 cnt, .int .i64 0, .int .i64 0, .bool false] 30 (0, 0))) ∧ Aside0 (Kd.R k58 58 wx w.heap.size (fun _ => True) v ((crashN l t l.length).take i)) ∧ Aside0 (Below w.heap.size w wx))
  case atStart => exact ⟨0, _, by omega, rfl, HY9, HQ9, ⟨by rw [List.take_zero]; exact Kd.R_nil _ _ _ _ _⟩, HB9⟩
  case round =>
    obtain ⟨i, v, hig, rfl, HY, HQ, HO, HB⟩ := hrel
    cases gk with
    | zero =>
      obtain rfl : i = l.length := by omega
      have hfull : (crashN l t l.length).take l.length = crashN l t l.length := List.take_of_length_le (by rw [crashN_length]; exact Nat.le_refl _)
      rw [hfull] at HO
      obtain ⟨A2, c2, rfl⟩ := Kd.R_slice HO.out
      rw [crashN_length] at HQ HO
      go_wp2_with (first | ((with_reducible refine gate_dst (N := 70) rfl ?_); refine wpList_load_row rfl 30 (.tmp 5) rfl go ?hp 30 #[.slice A2 l.length c2, .int .i64 cap, .int .i64 cnt, .int .i64 0, .int .i64 0, .bool false] (0, 0) _ ?hg Try.underlying30 ?ha ?hi ?_; (case hp => rfl); (case hg => exact HQ.out); (case ha => rfl); (case hi => exact infoFs)) | ((with_reducible refine gate_store (t := 30) (p := 4) rfl ?_); refine wpList_store_row rfl 30 (.tmp 4) (.tmp 70) rfl gr #[.slice A2 l.length c2, .int .i64 cap, .int .i64 cnt, .int .i64 0, .int .i64 0, .bool false] ?hx ?hy 30 #[.slice none 0 0, .int .i64 0, .int .i64 0, .int .i64 0, .int .i64 0, .bool false] ?hg ?hi ?ho ?h1 ?_; (case hx => rfl); (case hy => rfl); (case hg => exact HY.out); (case hi => exact infoFs); (case ho => rfl); (case h1 => simp [Value.oneCell'])))
      have ho10 := Kd.R_types HO.out HY.out (by decide)
      have ho11 : Kd.R k58 58 (wr.setRow gr #[.slice A2 l.length c2, .int .i64 cap, .int .i64 cnt, .int .i64 0, .int .i64 0, .bool false]) w.heap.size (fun _ => True) (.slice A2 l.length c2) (crashN l t l.length) :=
        Kd.R_mono (Kd.R_step ho10 (fun k hk _ => setRow_farF wr hk.2)) (fun _ _ => trivial)
      refine bodyPost_ret (v := .agg #[.slice A2 l.length c2, .int .i64 cap, .int .i64 cnt, .int .i64 0, .int .i64 0, .bool false]) (results_cell_row rfl _ _ gr 30 #[.slice A2 l.length c2, .int .i64 cap, .int .i64 cnt, .int .i64 0, .int .i64 0, .bool false] (0, 0) _ rfl (heap_setRow_sameF HY.out) Try.underlying30 rfl infoFs) rfl ⟨_, rfl, ho11, ?_⟩
      exact below_setRowF HB.out HG6.out _
    | succ gk =>
      have hi : i < l.length := by omega
      have hiz : (i : Int) < l.length := by omega
      have hi0 : (0 : Int) ≤ (i : Int) := by omega
      obtain ⟨ad, hA, x0, x1, x2⟩ := at_T58 HR.out (i : Int) hi0 hiz
      subst hA
      replace x0 := (HB.out.cell (World.block_lt_of_cell? w _ x0)).trans x0
      replace x1 := (HB.out.cell (World.block_lt_of_cell? w _ x1)).trans x1
      replace x2 := (HB.out.cell (World.block_lt_of_cell? w _ x2)).trans x2
      have hrd : rd_T58 l (i : Int) = l[i] := by simp [rd_T58, hi]
      rw [hrd, Int.toNat_natCast] at x0 x1 x2
      have HOKi := HOK.out.1 _ (List.getElem_mem hi)
      have hnext : (crashN l t l.length).take i ++ [fileCrash l[i] (t.getD i ⟨#[]⟩)] = (crashN l t l.length).take (i + 1) := by
        have hlen : i < (crashN l t l.length).length := by rw [crashN_length]; exact hi
        rw [List.take_succ_eq_append_getElem hlen]
        congr 2
        simp [crashN, hi]
      obtain ⟨X, hX⟩ : ∃ X, l[i] = X := ⟨_, rfl⟩
      rw [hX] at HOKi hnext x0 x1 x2
      obtain ⟨b0, b1, b2⟩ := HOKi
      have hyl : ((crashN l t l.length).take i).length ≤ 1000000 := by rw [List.length_take]; omega
      obtain ⟨ys, hys⟩ : ∃ ys, (crashN l t l.length).take i = ys := ⟨_, rfl⟩
      rw [hys] at HO hnext hyl
      have HN := Aside0.mk hnext
      clear hnext hrd hX hys
      go_upto_region 7 with (first | ((with_reducible refine gate_dst (N := 7) rfl ?_); refine box_event ?hg (N := 7) ?hd (cs := #[.string ⟨#[]⟩, .string ⟨#[]⟩, .int .i64 0]) (t := 58) ?hr ?_; (case hd => rfl); (case hg => rfl); (case hr => first | (go_simp; done) | (go_simp; rfl)); intro gf hg w28 hbox hb; have HZ := Aside0.mk (show SpSt w gr go gf cap cnt w28 v ys #[.string ⟨#[]⟩, .string ⟨#[]⟩, .int .i64 0] from ⟨blk_below HY.out hb, blk_below HQ.out hb, Kd.R_below (Kd.R_mono (Kd.R_bound HO.out) (fun k hk => (by rw [hg]; exact Nat.ne_of_lt hk.2.2.1 : k ≠ gf))) hb, hbox, below_step HB.out hb, Nat.le_trans HB.out.size (Nat.le_of_eq hg.symm), Nat.ne_of_lt (hg ▸ blk_lt HY.out : gr < gf), Nat.ne_of_lt (hg ▸ blk_lt HQ.out : go < gf)⟩); clear hb hbox hg) | ((with_reducible refine gate_store (t := 58) (p := 7) rfl ?_); refine wpList_store_row rfl 58 (.tmp 7) (.tmp 25) rfl gf #[.string X.f0, .string X.f1, .int .i64 X.f2] ?hx ?hy 58 #[.string ⟨#[]⟩, .string ⟨#[]⟩, .int .i64 0] ?hg ?hi ?ho ?h1 ?_; (case hx => rfl); (case hy => rfl); (case hg => exact HZ.out.2.2.2.1); (case hi => exact infoFl); (case ho => rfl); (case h1 => simp [Value.oneCell'])))
      clear x0 x1 x2 HY HQ HO HB
      have H1 := Aside0.mk (HZ.out.setRow #[.string X.f0, .string X.f1, .int .i64 X.f2])
      obtain ⟨W1, hW1⟩ : ∃ W, w28.setRow gf #[.string X.f0, .string X.f1, .int .i64 X.f2] = W := ⟨_, rfl⟩
      rw [hW1] at H1 ⊢
      clear hW1 HZ
      obtain ⟨s, hs⟩ : ∃ s : Nat, X.f2 = (s : Int) := ⟨X.f2.toNat, by omega⟩
      have hsn : s ≤ X.f1.size := by omega
      have hcut := fun T => crash_cut X T s hs hsn
      rw [hs] at H1
      obtain ⟨m, hm⟩ : ∃ m : Nat, X.f1.size - s = m := ⟨_, rfl⟩
      have hw : IntKind.i64.wrap ((X.f1.size : Int) - (s : Int)) = (m : Int) := by rw [IntKind.wrap_i64]; omega
      have hm0 : (0 : Int) ≤ (m : Int) := by omega
      have hs0 : (0 : Int) ≤ (s : Int) := by omega
      have hs1 : (s : Int) ≤ (X.f1.size : Int) := by omega
      have hfs : (X.f1.extract 0 s).size = s := by rw [ByteArray.size_extract]; omega
      have f1 : W1.cell? ⟨gf, 1, none⟩ = some (.string X.f1) := (blk_cell H1.out.2.2.2.1 1).trans rfl
      have f2 : W1.cell? ⟨gf, 2, none⟩ = some (.int .i64 s) := (blk_cell H1.out.2.2.2.1 2).trans rfl
      have fz : ∀ j, W1.frozen? ⟨gf, j, none⟩ = false := fun j => blk_frozen H1.out.2.2.2.1 j
      rw [hm] at hcut
      have HM := Aside0.mk (And.intro hm (And.intro hs hcut))
      clear hm hcut
      by_cases hti : i < t.length
      · have htz : (i : Int) < (t.length : Int) := by omega
        obtain ⟨ad1, hA1, hct⟩ := tail_at (Kd.C_below HR1.out H1.out.2.2.2.2.1) i hti
        subst hA1
        obtain ⟨T, hT⟩ : ∃ T, t[i] = T := ⟨_, rfl⟩
        have hTs := HOK.out.2 _ (List.getElem_mem hti)
        have hTd : t.getD i ⟨#[]⟩ = T := by rw [← hT]; simp [List.getD_eq_getElem?_getD, hti]
        rw [hT] at hct hTs
        clear hT
        by_cases hgt : m < T.size
        · have hgz : (m : Int) < (T.size : Int) := by omega
          have hgl : (m : Int) ≤ (T.size : Int) := by omega
          have hTc : (T.extract 0 m).size ≤ 1000000000000 := by rw [ByteArray.size_extract]; omega
          have hlim : (9223372036854775807 < (X.f1.extract 0 s).size + (T.extract 0 m).size) = False := eq_false (by omega)
          obtain ⟨D, hD⟩ : ∃ D, X.f1.extract 0 s ++ T.extract 0 m = D := ⟨_, rfl⟩
          have hDs : D.size ≤ 3000000000000 := by rw [← hD, ByteArray.size_append]; omega
          have hfin : fileCrash X (t.getD i ⟨#[]⟩) = ⟨X.f0, D, (D.size : Int)⟩ := by rw [HM.out.2.2, ← hD]; rw [hTd]
          obtain ⟨zs, hzs⟩ : ∃ zs, ys ++ [(⟨X.f0, D, (D.size : Int)⟩ : S58)] = zs := ⟨_, rfl⟩
          have hzn : zs = (crashN l t l.length).take (i + 1) := by rw [← hzs, ← hfin]; exact HN.out
          have HFIN := Aside0.mk hzn
          clear hfin hzn
          go_upto_region 13 with fail
          try rw [hD]
          have H2 := Aside0.mk (H1.out.put 1 (.string D) (row' := #[.string X.f0, .string D, .int .i64 s]) rfl)
          obtain ⟨W2, hW2⟩ : ∃ W, W1.setCell ⟨gf, 1, none⟩ (.string D) = W := ⟨_, rfl⟩
          rw [hW2] at H2 ⊢
          clear hW2 f1 f2 fz H1 hD
          have f1 : W2.cell? ⟨gf, 1, none⟩ = some (.string D) := (blk_cell H2.out.2.2.2.1 1).trans rfl
          have f2 : W2.cell? ⟨gf, 2, none⟩ = some (.int .i64 s) := (blk_cell H2.out.2.2.2.1 2).trans rfl
          have fz : ∀ j, W2.frozen? ⟨gf, j, none⟩ = false := fun j => blk_frozen H2.out.2.2.2.1 j
          go_upto_region 14 with fail
          have H3 := Aside0.mk (H2.out.put 2 (.int .i64 D.size) (row' := #[.string X.f0, .string D, .int .i64 D.size]) rfl)
          obtain ⟨W3, hW3⟩ : ∃ W, W2.setCell ⟨gf, 2, none⟩ (.int .i64 D.size) = W := ⟨_, rfl⟩
          rw [hW3] at H3 ⊢
          clear hW3 f1 f2 fz H2
          have g0 : W3.cell? ⟨go, 0, none⟩ = some v := (blk_cell H3.out.2.1 0).trans rfl
          obtain ⟨A3, c3, hv3⟩ := Kd.R_slice H3.out.2.2.1
          subst hv3
          go_wp2_with (first | ((with_reducible refine gate_dst (N := 65) rfl ?_); refine wpList_load_row rfl 58 (.tmp 7) rfl gf ?hp 58 #[.string X.f0, .string D, .int .i64 D.size] (0, 0) _ ?hg Try.underlying58 ?ha ?hi ?_; (case hp => rfl); (case hg => exact H3.out.2.2.2.1); (case ha => rfl); (case hi => exact infoFl)) | ((with_reducible refine gate_builtin (b := .append) (xs := #[.tmp 64, .tmp 66]) rfl ?_); at_builtin; refine Kd.R_append k58 (w0 := w) w.heap.size rfl (.tmp 64) (.tmp 66) 28 58 (.agg #[(.string ⟨#[]⟩), (.string ⟨#[]⟩), (.int .i64 0)]) 40 rfl Try.underlying28 info58 rfl (by decide) (by omega) (.slice A3 ys.length c3) ys (⟨X.f0, D, (D.size : Int)⟩ : S58) [.string X.f0, .string D, .int .i64 D.size] (fun k_ => k_ ≠ gf) (fun _ => False) rfl (by first | (go_simp; done) | (go_simp; rfl)) ?aP (fun _ hk => hk.elim) ?aF ?aO ?aB ?aS ?aL ?_; (case aP => exact k58_mkM _ _ _ (⟨X.f0, D, (D.size : Int)⟩ : S58)); (case aB => exact H3.out.2.2.2.2.1); (case aF => exact Kd.freshB H3.out.2.2.2.1); (case aO => exact H3.out.2.2.1); (case aS => exact H3.out.2.2.2.2.1.size); (case aL => omega); intro v4 w40 ho4 hb4 hg4 hat4; rw [hzs] at ho4; have HO4 := Aside0.mk ho4; have HB4 := Aside0.mk hb4; have HY4 := Aside0.mk (blk_grown H3.out.1 hg4 (Kd.R_ne H3.out.2.2.1 H3.out.1 (by decide))); have HQ4 := Aside0.mk (blk_grown H3.out.2.1 hg4 (Kd.R_ne H3.out.2.2.1 H3.out.2.1 (by decide))); have HGO := Aside0.mk (Nat.le_trans HG8.out.1 (Nat.le_refl go)); have hz0 : w40.cell? ⟨go, 0, none⟩ = some (.slice A3 ys.length c3) := (blk_cell HQ4.out 0).trans rfl; have hzf : ∀ j, w40.frozen? ⟨go, j, none⟩ = false := fun j => blk_frozen HQ4.out j; obtain ⟨A5, c5, hv5⟩ := Kd.R_slice HO4.out; subst hv5; clear ho4 hb4 hg4 hat4))
          go_roundg gk
          case measure => omega
          case rel =>
            refine ⟨i + 1, .slice A5 zs.length c5, by omega, by first | rfl | simp, ⟨?_⟩, ⟨?_⟩, ⟨?_⟩, ⟨?_⟩⟩
            · exact blk_far HY4.out (p := ⟨go, 0, none⟩) HG8.out.2.1 _
            · exact blk_put HQ4.out 0 _ rfl
            · have h6 := Kd.R_types HO4.out HQ4.out (by decide)
              rw [← HFIN.out]
              exact Kd.R_mono (Kd.R_far (p := ⟨go, 0, none⟩) h6 (fun k hk => hk.2) _) (fun _ _ => trivial)
            · exact below_set HB4.out HG8.out.1
        · have hgz : ¬ (m : Int) < (T.size : Int) := by omega
          have hlim : (9223372036854775807 < (X.f1.extract 0 s).size + T.size) = False := eq_false (by omega)
          obtain ⟨D, hD⟩ : ∃ D, X.f1.extract 0 s ++ T = D := ⟨_, rfl⟩
          have hDs : D.size ≤ 3000000000000 := by rw [← hD, ByteArray.size_append]; omega
          have hfin : fileCrash X (t.getD i ⟨#[]⟩) = ⟨X.f0, D, (D.size : Int)⟩ := by rw [HM.out.2.2, ← hD]; rw [hTd, ex_all T m (by omega)]
          obtain ⟨zs, hzs⟩ : ∃ zs, ys ++ [(⟨X.f0, D, (D.size : Int)⟩ : S58)] = zs := ⟨_, rfl⟩
          have hzn : zs = (crashN l t l.length).take (i + 1) := by rw [← hzs, ← hfin]; exact HN.out
          have HFIN := Aside0.mk hzn
          clear hfin hzn
          go_upto_region 13 with fail
          try rw [hD]
          have H2 := Aside0.mk (H1.out.put 1 (.string D) (row' := #[.string X.f0, .string D, .int .i64 s]) rfl)
          obtain ⟨W2, hW2⟩ : ∃ W, W1.setCell ⟨gf, 1, none⟩ (.string D) = W := ⟨_, rfl⟩
          rw [hW2] at H2 ⊢
          clear hW2 f1 f2 fz H1 hD
          have f1 : W2.cell? ⟨gf, 1, none⟩ = some (.string D) := (blk_cell H2.out.2.2.2.1 1).trans rfl
          have f2 : W2.cell? ⟨gf, 2, none⟩ = some (.int .i64 s) := (blk_cell H2.out.2.2.2.1 2).trans rfl
          have fz : ∀ j, W2.frozen? ⟨gf, j, none⟩ = false := fun j => blk_frozen H2.out.2.2.2.1 j
          go_upto_region 14 with fail
          have H3 := Aside0.mk (H2.out.put 2 (.int .i64 D.size) (row' := #[.string X.f0, .string D, .int .i64 D.size]) rfl)
          obtain ⟨W3, hW3⟩ : ∃ W, W2.setCell ⟨gf, 2, none⟩ (.int .i64 D.size) = W := ⟨_, rfl⟩
          rw [hW3] at H3 ⊢
          clear hW3 f1 f2 fz H2
          have g0 : W3.cell? ⟨go, 0, none⟩ = some v := (blk_cell H3.out.2.1 0).trans rfl
          obtain ⟨A3, c3, hv3⟩ := Kd.R_slice H3.out.2.2.1
          subst hv3
          go_wp2_with (first | ((with_reducible refine gate_dst (N := 65) rfl ?_); refine wpList_load_row rfl 58 (.tmp 7) rfl gf ?hp 58 #[.string X.f0, .string D, .int .i64 D.size] (0, 0) _ ?hg Try.underlying58 ?ha ?hi ?_; (case hp => rfl); (case hg => exact H3.out.2.2.2.1); (case ha => rfl); (case hi => exact infoFl)) | ((with_reducible refine gate_builtin (b := .append) (xs := #[.tmp 64, .tmp 66]) rfl ?_); at_builtin; refine Kd.R_append k58 (w0 := w) w.heap.size rfl (.tmp 64) (.tmp 66) 28 58 (.agg #[(.string ⟨#[]⟩), (.string ⟨#[]⟩), (.int .i64 0)]) 40 rfl Try.underlying28 info58 rfl (by decide) (by omega) (.slice A3 ys.length c3) ys (⟨X.f0, D, (D.size : Int)⟩ : S58) [.string X.f0, .string D, .int .i64 D.size] (fun k_ => k_ ≠ gf) (fun _ => False) rfl (by first | (go_simp; done) | (go_simp; rfl)) ?aP (fun _ hk => hk.elim) ?aF ?aO ?aB ?aS ?aL ?_; (case aP => exact k58_mkM _ _ _ (⟨X.f0, D, (D.size : Int)⟩ : S58)); (case aB => exact H3.out.2.2.2.2.1); (case aF => exact Kd.freshB H3.out.2.2.2.1); (case aO => exact H3.out.2.2.1); (case aS => exact H3.out.2.2.2.2.1.size); (case aL => omega); intro v4 w40 ho4 hb4 hg4 hat4; rw [hzs] at ho4; have HO4 := Aside0.mk ho4; have HB4 := Aside0.mk hb4; have HY4 := Aside0.mk (blk_grown H3.out.1 hg4 (Kd.R_ne H3.out.2.2.1 H3.out.1 (by decide))); have HQ4 := Aside0.mk (blk_grown H3.out.2.1 hg4 (Kd.R_ne H3.out.2.2.1 H3.out.2.1 (by decide))); have HGO := Aside0.mk (Nat.le_trans HG8.out.1 (Nat.le_refl go)); have hz0 : w40.cell? ⟨go, 0, none⟩ = some (.slice A3 ys.length c3) := (blk_cell HQ4.out 0).trans rfl; have hzf : ∀ j, w40.frozen? ⟨go, j, none⟩ = false := fun j => blk_frozen HQ4.out j; obtain ⟨A5, c5, hv5⟩ := Kd.R_slice HO4.out; subst hv5; clear ho4 hb4 hg4 hat4))
          go_roundg gk
          case measure => omega
          case rel =>
            refine ⟨i + 1, .slice A5 zs.length c5, by omega, by first | rfl | simp, ⟨?_⟩, ⟨?_⟩, ⟨?_⟩, ⟨?_⟩⟩
            · exact blk_far HY4.out (p := ⟨go, 0, none⟩) HG8.out.2.1 _
            · exact blk_put HQ4.out 0 _ rfl
            · have h6 := Kd.R_types HO4.out HQ4.out (by decide)
              rw [← HFIN.out]
              exact Kd.R_mono (Kd.R_far (p := ⟨go, 0, none⟩) h6 (fun k hk => hk.2) _) (fun _ _ => trivial)
            · exact below_set HB4.out HG8.out.1
      · have htz : ¬ (i : Int) < (t.length : Int) := by omega
        have hTd : t.getD i ⟨#[]⟩ = (⟨#[]⟩ : ByteArray) := by rw [List.getD_eq_getElem?_getD, List.getElem?_eq_none (by omega)]; rfl
        have hgz : ¬ (m : Int) < 0 := by omega
        have hsz0 : (⟨#[]⟩ : ByteArray).size = 0 := rfl
        have hlim : (9223372036854775807 < (X.f1.extract 0 s).size + (⟨#[]⟩ : ByteArray).size) = False := eq_false (by omega)
        have hlim0 : (9223372036854775807 < (X.f1.extract 0 s).size) = False := eq_false (by omega)
        obtain ⟨D, hD⟩ : ∃ D, X.f1.extract 0 s ++ (⟨#[]⟩ : ByteArray) = D := ⟨_, rfl⟩
        have hDs : D.size ≤ 3000000000000 := by rw [← hD, ByteArray.size_append]; omega
        have hfin : fileCrash X (t.getD i ⟨#[]⟩) = ⟨X.f0, D, (D.size : Int)⟩ := by rw [HM.out.2.2, ← hD]; rw [hTd, ex_all (⟨#[]⟩ : ByteArray) m (by omega)]
        obtain ⟨zs, hzs⟩ : ∃ zs, ys ++ [(⟨X.f0, D, (D.size : Int)⟩ : S58)] = zs := ⟨_, rfl⟩
        have hzn : zs = (crashN l t l.length).take (i + 1) := by rw [← hzs, ← hfin]; exact HN.out
        have HFIN := Aside0.mk hzn
        clear hfin hzn
        go_upto_region 13 with fail
        try rw [hD]
        have H2 := Aside0.mk (H1.out.put 1 (.string D) (row' := #[.string X.f0, .string D, .int .i64 s]) rfl)
        obtain ⟨W2, hW2⟩ : ∃ W, W1.setCell ⟨gf, 1, none⟩ (.string D) = W := ⟨_, rfl⟩
        rw [hW2] at H2 ⊢
        clear hW2 f1 f2 fz H1 hD
        have f1 : W2.cell? ⟨gf, 1, none⟩ = some (.string D) := (blk_cell H2.out.2.2.2.1 1).trans rfl
        have f2 : W2.cell? ⟨gf, 2, none⟩ = some (.int .i64 s) := (blk_cell H2.out.2.2.2.1 2).trans rfl
        have fz : ∀ j, W2.frozen? ⟨gf, j, none⟩ = false := fun j => blk_frozen H2.out.2.2.2.1 j
        go_upto_region 14 with fail
        have H3 := Aside0.mk (H2.out.put 2 (.int .i64 D.size) (row' := #[.string X.f0, .string D, .int .i64 D.size]) rfl)
        obtain ⟨W3, hW3⟩ : ∃ W, W2.setCell ⟨gf, 2, none⟩ (.int .i64 D.size) = W := ⟨_, rfl⟩
        rw [hW3] at H3 ⊢
        clear hW3 f1 f2 fz H2
        have g0 : W3.cell? ⟨go, 0, none⟩ = some v := (blk_cell H3.out.2.1 0).trans rfl
        obtain ⟨A3, c3, hv3⟩ := Kd.R_slice H3.out.2.2.1
        subst hv3
        go_wp2_with (first | ((with_reducible refine gate_dst (N := 65) rfl ?_); refine wpList_load_row rfl 58 (.tmp 7) rfl gf ?hp 58 #[.string X.f0, .string D, .int .i64 D.size] (0, 0) _ ?hg Try.underlying58 ?ha ?hi ?_; (case hp => rfl); (case hg => exact H3.out.2.2.2.1); (case ha => rfl); (case hi => exact infoFl)) | ((with_reducible refine gate_builtin (b := .append) (xs := #[.tmp 64, .tmp 66]) rfl ?_); at_builtin; refine Kd.R_append k58 (w0 := w) w.heap.size rfl (.tmp 64) (.tmp 66) 28 58 (.agg #[(.string ⟨#[]⟩), (.string ⟨#[]⟩), (.int .i64 0)]) 40 rfl Try.underlying28 info58 rfl (by decide) (by omega) (.slice A3 ys.length c3) ys (⟨X.f0, D, (D.size : Int)⟩ : S58) [.string X.f0, .string D, .int .i64 D.size] (fun k_ => k_ ≠ gf) (fun _ => False) rfl (by first | (go_simp; done) | (go_simp; rfl)) ?aP (fun _ hk => hk.elim) ?aF ?aO ?aB ?aS ?aL ?_; (case aP => exact k58_mkM _ _ _ (⟨X.f0, D, (D.size : Int)⟩ : S58)); (case aB => exact H3.out.2.2.2.2.1); (case aF => exact Kd.freshB H3.out.2.2.2.1); (case aO => exact H3.out.2.2.1); (case aS => exact H3.out.2.2.2.2.1.size); (case aL => omega); intro v4 w40 ho4 hb4 hg4 hat4; rw [hzs] at ho4; have HO4 := Aside0.mk ho4; have HB4 := Aside0.mk hb4; have HY4 := Aside0.mk (blk_grown H3.out.1 hg4 (Kd.R_ne H3.out.2.2.1 H3.out.1 (by decide))); have HQ4 := Aside0.mk (blk_grown H3.out.2.1 hg4 (Kd.R_ne H3.out.2.2.1 H3.out.2.1 (by decide))); have HGO := Aside0.mk (Nat.le_trans HG8.out.1 (Nat.le_refl go)); have hz0 : w40.cell? ⟨go, 0, none⟩ = some (.slice A3 ys.length c3) := (blk_cell HQ4.out 0).trans rfl; have hzf : ∀ j, w40.frozen? ⟨go, j, none⟩ = false := fun j => blk_frozen HQ4.out j; obtain ⟨A5, c5, hv5⟩ := Kd.R_slice HO4.out; subst hv5; clear ho4 hb4 hg4 hat4))
        go_roundg gk
        case measure => omega
        case rel =>
          refine ⟨i + 1, .slice A5 zs.length c5, by omega, by first | rfl | simp, ⟨?_⟩, ⟨?_⟩, ⟨?_⟩, ⟨?_⟩⟩
          · exact blk_far HY4.out (p := ⟨go, 0, none⟩) HG8.out.2.1 _
          · exact blk_put HQ4.out 0 _ rfl
          · have h6 := Kd.R_types HO4.out HQ4.out (by decide)
            rw [← HFIN.out]
            exact Kd.R_mono (Kd.R_far (p := ⟨go, 0, none⟩) h6 (fun k hk => hk.2) _) (fun _ _ => trivial)
          · exact below_set HB4.out HG8.out.1
set_option maxHeartbeats 8000000 in
set_option maxRecDepth 100000 in
theorem specCrash_bad (A : Option Addr) (c : Nat) (l : List (S58)) (cap cnt cr fa : Int) (dn : Bool) (A1 : Option Addr) (c1 : Nat) (t : List ByteArray) (w : World)
    (hr : Kd.C k58 w A l.length l)
    (hval : ∀ w', Kd.C k58 w' A l.length l → Calls Try.prog 30 #[.agg #[.slice A l.length c, .int .i64 cap, .int .i64 cnt, .int .i64 cr, .int .i64 fa, .bool dn]] w' fun e w'' => e = .returned (.bool false) ∧ Below w'.heap.size w' w'') :
    Calls Try.prog 9 #[.agg #[.slice A l.length c, .int .i64 cap, .int .i64 cnt, .int .i64 cr, .int .i64 fa, .bool dn], .slice A1 t.length c1] w fun e w' =>
      e = .returned (.agg #[.slice none 0 0, .int .i64 0, .int .i64 0, .int .i64 0, .int .i64 0, .bool false]) ∧ Below w.heap.size w w' := by
  have HR := Aside0.mk hr
  have HV := Aside0.mk hval
  clear hr hval
  go_enter Try.func9, Try.ntmps9
  go_wp2_with (first | ((with_reducible refine gate_dst (N := 2) rfl ?_); refine box_event ?hg (N := 2) ?hd (cs := #[.slice A l.length c, .int .i64 cap, .int .i64 cnt, .int .i64 cr, .int .i64 fa, .bool dn]) (t := 30) ?hr ?_; (case hd => rfl); (case hg => rfl); (case hr => first | (go_simp; done) | (go_simp; rfl)); intro gb hg w5 hbox hb; have HB := Aside0.mk hb; have HX := Aside0.mk hbox; clear hb hbox hg) | ((with_reducible refine gate_dst (N := 4) rfl ?_); refine box_event ?hg (N := 4) ?hd (cs := #[.slice none 0 0, .int .i64 0, .int .i64 0, .int .i64 0, .int .i64 0, .bool false]) (t := 30) ?hr ?_; (case hd => rfl); (case hg => rfl); (case hr => first | (go_simp; done) | (go_simp; rfl)); intro gr hg w6 hbox hb; have HX6 := Aside0.mk (blk_below HX.out hb); have HB6 := Aside0.mk (below_step HB.out hb); have HY6 := Aside0.mk hbox; have HG6 := Aside0.mk (Nat.le_trans HB.out.size (Nat.le_of_eq hg.symm)); clear hb hbox hg) | ((with_reducible refine gate_dst (N := 9) rfl ?_); refine wpList_load_row rfl 30 (.tmp 2) rfl gb ?hp 30 #[.slice A l.length c, .int .i64 cap, .int .i64 cnt, .int .i64 cr, .int .i64 fa, .bool dn] (0, 0) _ ?hg Try.underlying30 ?ha ?hi ?_; (case hp => rfl); (case hg => exact HX6.out); (case ha => rfl); (case hi => exact infoFs)) | (go_at_call 30; (with_reducible refine (HV.out _ (Kd.C_below HR.out HB6.out)).mono ?_); rintro e w7 ⟨rfl, hb7⟩) | ((with_reducible refine gate_store (t := 30) (p := 4) rfl ?_); refine wpList_store_row rfl 30 (.tmp 4) (.tmp 12) rfl gr #[.slice none 0 0, .int .i64 0, .int .i64 0, .int .i64 0, .int .i64 0, .bool false] ?hx ?hy 30 #[.slice none 0 0, .int .i64 0, .int .i64 0, .int .i64 0, .int .i64 0, .bool false] ?hg ?hi ?ho ?h1 ?_; (case hx => rfl); (case hy => rfl); (case hg => exact blk_below HY6.out hb7); (case hi => exact infoFs); (case ho => rfl); (case h1 => simp [Value.oneCell'])))
  refine bodyPost_ret (v := .agg #[.slice none 0 0, .int .i64 0, .int .i64 0, .int .i64 0, .int .i64 0, .bool false]) (results_cell_row rfl _ _ gr 30 #[.slice none 0 0, .int .i64 0, .int .i64 0, .int .i64 0, .int .i64 0, .bool false] (0, 0) _ rfl (heap_setRow_sameF (blk_below HY6.out hb7)) Try.underlying30 rfl infoFs) rfl ⟨rfl, ?_⟩
  exact below_setRowF (below_step HB6.out hb7) HG6.out _
end Go.Proofs.Ytmchcoafkaggkaa.L
end
section
namespace Go.Proofs.Ytmchcoafkaggkaa.L
open Go.RowKit Go.Proofs.YtmchcoafkaggkaaW.PrintWords Go.Proofs.YtmchcoafkaggkaaW.PrintLast Go.Proofs.YtmchcoafkaggkaaW.PrintMore
attribute [local go_sem] max2_int min2_int max_two min_two max_three min_three max_four min_four
set_option linter.unusedVariables false
set_option linter.unusedSimpArgs false
def spec_FsCrash.f (k : Nat) (l0_0 : List (S58)) (a0_1 : Int) (a0_2 : Int) (a0_3 : Int) (a0_4 : Int) (a0_5 : Bool) (l1 : List ByteArray) : Option ((List (S58)) × Int × Int × Int × Int × Bool) :=
  (spec_FsValid.f k l0_0 a0_1 a0_2 a0_3 a0_4 a0_5).bind fun t => if t = true then (if crashOk l0_0 l1 = true then some (crashN l0_0 l1 l0_0.length, a0_1, a0_2, 0, 0, false) else none) else some (([] : List (S58)), 0, 0, 0, 0, false)
theorem spec_FsCrash.mono : ∀ a0 a1 a2 a3 a4 a5 a6 k, LeO (spec_FsCrash.f k a0 a1 a2 a3 a4 a5 a6) (spec_FsCrash.f (k + 1) a0 a1 a2 a3 a4 a5 a6) := by
  intro a0 a1 a2 a3 a4 a5 a6 k
  exact LeO.bind (spec_FsValid.mono _ _ _ _ _ _ _) (fun _ => LeO.refl _)
theorem spec_FsCrash.calls (k : Nat) (A0_0 : Option Addr) (c0_0 : Nat) (l0_0 : List (S58)) (a0_1 : Int) (a0_2 : Int) (a0_3 : Int) (a0_4 : Int) (a0_5 : Bool) (A1 : Option Addr) (c1 : Nat) (l1 : List ByteArray) (r1 : List (S58)) (r2 : Int) (r3 : Int) (r4 : Int) (r5 : Int) (r6 : Bool) (w : World) (hr0_0 : Kd.C k58 w A0_0 l0_0.length l0_0) (hc0_0 : l0_0.length ≤ c0_0) (hr1 : Kd.C Kd.string w A1 l1.length l1) (hc1 : l1.length ≤ c1) (h : spec_FsCrash.f k l0_0 a0_1 a0_2 a0_3 a0_4 a0_5 l1 = some (r1, r2, r3, r4, r5, r6)) :
    Calls Try.prog 9 #[.agg #[.slice A0_0 l0_0.length c0_0, .int .i64 a0_1, .int .i64 a0_2, .int .i64 a0_3, .int .i64 a0_4, .bool a0_5], .slice A1 l1.length c1] w fun e w' => ∃ v0_ : Value, e = .returned (.agg #[v0_, .int .i64 r2, .int .i64 r3, .int .i64 r4, .int .i64 r5, .bool r6]) ∧ Kd.R k58 58 w' w.heap.size (fun _ => True) v0_ r1 ∧ Below w.heap.size w w' := by
  unfold spec_FsCrash.f at h
  obtain ⟨b, hb, h⟩ := Option.bind_eq_some_iff.mp h
  have hval : ∀ w', Kd.C k58 w' A0_0 l0_0.length l0_0 → Calls Try.prog 30 #[.agg #[.slice A0_0 l0_0.length c0_0, .int .i64 a0_1, .int .i64 a0_2, .int .i64 a0_3, .int .i64 a0_4, .bool a0_5]] w' fun e w'' => e = .returned (.bool b) ∧ Below w'.heap.size w' w'' :=
    fun w' hr => spec_FsValid.calls k A0_0 c0_0 l0_0 a0_1 a0_2 a0_3 a0_4 a0_5 b w' hr hc0_0 hb
  cases b with
  | false =>
    simp only [Bool.false_eq_true, if_false, Option.some.injEq, Prod.mk.injEq] at h
    obtain ⟨rfl, rfl, rfl, rfl, rfl, rfl⟩ := h
    refine (specCrash_bad A0_0 c0_0 l0_0 a0_1 a0_2 a0_3 a0_4 a0_5 A1 c1 l1 w hr0_0 hval).mono ?_
    rintro e w' ⟨rfl, hb2⟩
    exact ⟨_, rfl, Kd.R_nil _ _ _ _ _, hb2⟩
  | true =>
    simp only [if_true] at h
    by_cases hok : crashOk l0_0 l1 = true
    · rw [if_pos hok] at h
      simp only [Option.some.injEq, Prod.mk.injEq] at h
      obtain ⟨rfl, rfl, rfl, rfl, rfl, rfl⟩ := h
      unfold crashOk at hok
      simp only [Bool.and_eq_true, decide_eq_true_eq, List.all_eq_true] at hok
      exact specCrash_any A0_0 c0_0 l0_0 a0_1 a0_2 a0_3 a0_4 a0_5 A1 c1 l1 w hr0_0 hc0_0 hr1 hc1 hok.1 hok.2.1 hok.2.2.1 hok.2.2.2 hval
    · rw [if_neg hok] at h
      cases h
def laws_toFile.f (a0_0 : ByteArray) (a0_1 : ByteArray) (a0_2 : Int) : Option (ByteArray × ByteArray × Int) := some (a0_0, a0_1, a0_2)
set_option maxHeartbeats 8000000 in
set_option maxRecDepth 100000 in
theorem laws_toFile.calls (a0_0 : ByteArray) (a0_1 : ByteArray) (a0_2 : Int) (r1 : ByteArray) (r2 : ByteArray) (r3 : Int) (w : World) (h : laws_toFile.f a0_0 a0_1 a0_2 = some (r1, r2, r3)) :
    Calls Try.prog 54 #[.agg #[.string a0_0, .string a0_1, .int .i64 a0_2]] w fun e w' => e = .returned (.agg #[.string r1, .string r2, .int .i64 r3]) ∧ Below w.heap.size w w' := by
  have hu83 := Try.underlying83
  have hu58 := Try.underlying58
  have HB := Aside0.mk (Below.refl w.heap.size w)
  have H : (some (a0_0, a0_1, a0_2)) = some (r1, r2, r3) := h
  clear h
  simp only [Option.some.injEq, Prod.mk.injEq] at H
  obtain ⟨rfl, rfl, rfl⟩ := H
  go_enter Try.func54, Try.ntmps54
  go_wp2_with (first | ((with_reducible refine gate_dst (N := 1) rfl ?_); refine box_event ?hg (N := 1) ?hd (cs := #[.string a0_0, .string a0_1, .int .i64 a0_2]) (t := 83) ?hr ?_; (case hd => rfl); (case hg => rfl); (case hr => first | (go_simp; done) | (go_simp; rfl)); intro gb124 hg w2 hbox hb; have n0_ := Aside0.mk (below_step (by repeat (first | (with_reducible first | exact HB.out | apply below_alloc | apply pw_below_drewN | apply below_drew1) | exact HB.out)) hb); have n1_ := Aside0.mk (hbox); have n2_ := Aside0.mk ((by rw [hg]; exact (below_size (by repeat (first | (with_reducible first | exact HB.out | apply below_alloc | apply pw_below_drewN | apply below_drew1) | exact HB.out))) : w.heap.size ≤ gb124)); have n3_ := Aside0.mk ((by rw [hg]; exact (below_size (by repeat (first | (with_reducible first | exact HB.out | apply below_alloc | apply pw_below_drewN | apply below_drew1) | exact HB.out))) : w.heap.size ≤ gb124)); clear HB; have HB := n0_; have BK124 := n1_; have GW124 := n2_; have GE124 := n3_; clear n0_ n1_ n2_ n3_; clear hb hbox hg) | ((with_reducible refine gate_dst (N := 2) rfl ?_); refine box_event ?hg (N := 2) ?hd (cs := #[.string (⟨#[]⟩ : ByteArray), .string (⟨#[]⟩ : ByteArray), .int .i64 0]) (t := 58) ?hr ?_; (case hd => rfl); (case hg => rfl); (case hr => first | (go_simp; done) | (go_simp; rfl)); intro gb125 hg w3 hbox hb; have n0_ := Aside0.mk (blk_below (g := gb124) (o := .cells #[.string a0_0, .string a0_1, .int .i64 a0_2] 83 (0, 0)) (by (with_reducible repeat (first | refine blk_drewN ?_ _ | refine blk_drew ?_ | refine blk_alloc ?_ _)); exact BK124.out) hb); have n1_ := Aside0.mk (below_step (by repeat (first | (with_reducible first | exact HB.out | apply below_alloc | apply pw_below_drewN | apply below_drew1 | refine below_set ?_ GE124.out) | exact HB.out)) hb); have n2_ := Aside0.mk (hbox); have n3_ := Aside0.mk ((by rw [hg]; exact (below_size (by repeat (first | (with_reducible first | exact HB.out | apply below_alloc | apply pw_below_drewN | apply below_drew1 | refine below_set ?_ GE124.out) | exact HB.out))) : w.heap.size ≤ gb125)); have n4_ := Aside0.mk ((by rw [hg]; exact (below_size (by repeat (first | (with_reducible first | exact HB.out | apply below_alloc | apply pw_below_drewN | apply below_drew1 | refine below_set ?_ GE124.out) | exact HB.out))) : w.heap.size ≤ gb125)); have n5_ := Aside0.mk ((by rw [hg]; exact Nat.ne_of_lt (blk_lt (g := gb124) (o := .cells #[.string a0_0, .string a0_1, .int .i64 a0_2] 83 (0, 0)) (by (with_reducible repeat (first | refine blk_drewN ?_ _ | refine blk_drew ?_ | refine blk_alloc ?_ _)); exact BK124.out)) : gb124 ≠ gb125)); have n6_ := Aside0.mk ((by rw [hg]; exact Nat.ne_of_gt (blk_lt (g := gb124) (o := .cells #[.string a0_0, .string a0_1, .int .i64 a0_2] 83 (0, 0)) (by (with_reducible repeat (first | refine blk_drewN ?_ _ | refine blk_drew ?_ | refine blk_alloc ?_ _)); exact BK124.out)) : gb125 ≠ gb124)); clear BK124; clear HB; have BK124 := n0_; have HB := n1_; have BK125 := n2_; have GW125 := n3_; have GE125 := n4_; have NB124_125 := n5_; have NB125_124 := n6_; clear n0_ n1_ n2_ n3_ n4_ n5_ n6_; clear hb hbox hg) | ((with_reducible refine gate_dst (N := 3) rfl ?_); refine box_event ?hg (N := 3) ?hd (cs := #[.string (⟨#[]⟩ : ByteArray), .string (⟨#[]⟩ : ByteArray), .int .i64 0]) (t := 58) ?hr ?_; (case hd => rfl); (case hg => rfl); (case hr => first | (go_simp; done) | (go_simp; rfl)); intro gb126 hg w4 hbox hb; have n0_ := Aside0.mk (blk_below (g := gb124) (o := .cells #[.string a0_0, .string a0_1, .int .i64 a0_2] 83 (0, 0)) (by (with_reducible repeat (first | refine blk_drewN ?_ _ | refine blk_drew ?_ | refine blk_alloc ?_ _)); exact BK124.out) hb); have n1_ := Aside0.mk (blk_below (g := gb125) (o := .cells #[.string (⟨#[]⟩ : ByteArray), .string (⟨#[]⟩ : ByteArray), .int .i64 0] 58 (0, 0)) (by (with_reducible repeat (first | refine blk_drewN ?_ _ | refine blk_drew ?_ | refine blk_alloc ?_ _)); exact BK125.out) hb); have n2_ := Aside0.mk (below_step (by repeat (first | (with_reducible first | exact HB.out | apply below_alloc | apply pw_below_drewN | apply below_drew1 | refine below_set ?_ GE124.out | refine below_set ?_ GE125.out) | exact HB.out)) hb); have n3_ := Aside0.mk (hbox); have n4_ := Aside0.mk ((by rw [hg]; exact (below_size (by repeat (first | (with_reducible first | exact HB.out | apply below_alloc | apply pw_below_drewN | apply below_drew1 | refine below_set ?_ GE124.out | refine below_set ?_ GE125.out) | exact HB.out))) : w.heap.size ≤ gb126)); have n5_ := Aside0.mk ((by rw [hg]; exact (below_size (by repeat (first | (with_reducible first | exact HB.out | apply below_alloc | apply pw_below_drewN | apply below_drew1 | refine below_set ?_ GE124.out | refine below_set ?_ GE125.out) | exact HB.out))) : w.heap.size ≤ gb126)); have n6_ := Aside0.mk ((by rw [hg]; exact Nat.ne_of_lt (blk_lt (g := gb124) (o := .cells #[.string a0_0, .string a0_1, .int .i64 a0_2] 83 (0, 0)) (by (with_reducible repeat (first | refine blk_drewN ?_ _ | refine blk_drew ?_ | refine blk_alloc ?_ _)); exact BK124.out)) : gb124 ≠ gb126)); have n7_ := Aside0.mk ((by rw [hg]; exact Nat.ne_of_gt (blk_lt (g := gb124) (o := .cells #[.string a0_0, .string a0_1, .int .i64 a0_2] 83 (0, 0)) (by (with_reducible repeat (first | refine blk_drewN ?_ _ | refine blk_drew ?_ | refine blk_alloc ?_ _)); exact BK124.out)) : gb126 ≠ gb124)); have n8_ := Aside0.mk ((by rw [hg]; exact Nat.ne_of_lt (blk_lt (g := gb125) (o := .cells #[.string (⟨#[]⟩ : ByteArray), .string (⟨#[]⟩ : ByteArray), .int .i64 0] 58 (0, 0)) (by (with_reducible repeat (first | refine blk_drewN ?_ _ | refine blk_drew ?_ | refine blk_alloc ?_ _)); exact BK125.out)) : gb125 ≠ gb126)); have n9_ := Aside0.mk ((by rw [hg]; exact Nat.ne_of_gt (blk_lt (g := gb125) (o := .cells #[.string (⟨#[]⟩ : ByteArray), .string (⟨#[]⟩ : ByteArray), .int .i64 0] 58 (0, 0)) (by (with_reducible repeat (first | refine blk_drewN ?_ _ | refine blk_drew ?_ | refine blk_alloc ?_ _)); exact BK125.out)) : gb126 ≠ gb125)); clear BK124; clear BK125; clear HB; have BK124 := n0_; have BK125 := n1_; have HB := n2_; have BK126 := n3_; have GW126 := n4_; have GE126 := n5_; have NB124_126 := n6_; have NB126_124 := n7_; have NB125_126 := n8_; have NB126_125 := n9_; clear n0_ n1_ n2_ n3_ n4_ n5_ n6_ n7_ n8_ n9_; clear hb hbox hg; have hnb5 := NB124_125.out; have hnc5 := NB125_124.out; have hnb6 := NB124_126.out; have hnc6 := NB126_124.out; have hcz7_0 : w4.cell? ⟨gb124, 0, none⟩ = some (.string a0_0) := (blk_cell BK124.out 0).trans rfl; have hcz7_1 : w4.cell? ⟨gb124, 1, none⟩ = some (.string a0_1) := (blk_cell BK124.out 1).trans rfl; have hcz7_2 : w4.cell? ⟨gb124, 2, none⟩ = some (.int .i64 a0_2) := (blk_cell BK124.out 2).trans rfl; have hfz7_0 := blk_frozen BK124.out 0; have hfz7_1 := blk_frozen BK124.out 1; have hfz7_2 := blk_frozen BK124.out 2; have hnb8 := NB126_125.out; have hnc8 := NB125_126.out; have hcz9_0 : w4.cell? ⟨gb126, 0, none⟩ = some (.string (⟨#[]⟩ : ByteArray)) := (blk_cell BK126.out 0).trans rfl; have hcz9_1 : w4.cell? ⟨gb126, 1, none⟩ = some (.string (⟨#[]⟩ : ByteArray)) := (blk_cell BK126.out 1).trans rfl; have hcz9_2 : w4.cell? ⟨gb126, 2, none⟩ = some (.int .i64 0) := (blk_cell BK126.out 2).trans rfl; have hfz9_0 := blk_frozen BK126.out 0; have hfz9_1 := blk_frozen BK126.out 1; have hfz9_2 := blk_frozen BK126.out 2; have hcz10_0 : w4.cell? ⟨gb125, 0, none⟩ = some (.string (⟨#[]⟩ : ByteArray)) := (blk_cell BK125.out 0).trans rfl; have hcz10_1 : w4.cell? ⟨gb125, 1, none⟩ = some (.string (⟨#[]⟩ : ByteArray)) := (blk_cell BK125.out 1).trans rfl; have hcz10_2 : w4.cell? ⟨gb125, 2, none⟩ = some (.int .i64 0) := (blk_cell BK125.out 2).trans rfl; have hfz10_0 := blk_frozen BK125.out 0; have hfz10_1 := blk_frozen BK125.out 1; have hfz10_2 := blk_frozen BK125.out 2))
  refine bodyPost_ret (results_cell_row rfl _ _ gb125 58 #[.string a0_0, .string a0_1, .int .i64 a0_2] (0, 0) _ rfl (by (with_reducible repeat (first | refine blk_drewN ?_ _ | refine blk_drew ?_ | refine blk_alloc ?_ _)); refine blk_put (cs := #[.string a0_0, .string a0_1, .int .i64 0]) ?_ 2 _ rfl; (with_reducible repeat (first | refine blk_drewN ?_ _ | refine blk_drew ?_ | refine blk_alloc ?_ _)); refine blk_put (cs := #[.string a0_0, .string (⟨#[]⟩ : ByteArray), .int .i64 0]) ?_ 1 _ rfl; (with_reducible repeat (first | refine blk_drewN ?_ _ | refine blk_drew ?_ | refine blk_alloc ?_ _)); refine blk_put (cs := #[.string (⟨#[]⟩ : ByteArray), .string (⟨#[]⟩ : ByteArray), .int .i64 0]) ?_ 0 _ rfl; (with_reducible repeat (first | refine blk_drewN ?_ _ | refine blk_drew ?_ | refine blk_alloc ?_ _)); refine blk_far ?_ NB125_126.out _; (with_reducible repeat (first | refine blk_drewN ?_ _ | refine blk_drew ?_ | refine blk_alloc ?_ _)); refine blk_far ?_ NB125_126.out _; (with_reducible repeat (first | refine blk_drewN ?_ _ | refine blk_drew ?_ | refine blk_alloc ?_ _)); refine blk_far ?_ NB125_126.out _; (with_reducible repeat (first | refine blk_drewN ?_ _ | refine blk_drew ?_ | refine blk_alloc ?_ _)); exact BK125.out) Try.underlying58 rfl (by kernel_rfl)) rfl ?_
  exact ⟨by first | rfl | (simp [errW_none, errW_some] <;> rfl) | (simp [*, errW_none, errW_some] <;> rfl), by repeat (first | (with_reducible first | exact HB.out | apply below_alloc | apply pw_below_drewN | apply below_drew1 | refine below_set ?_ GE124.out | refine below_set ?_ GE125.out | refine below_set ?_ GE126.out) | exact HB.out)⟩
def laws_toFileS.l0 : Nat → List (S83) → List (S58) → Int → Option ((List (S58)))
  | 0, _, _, _ => none
  | k + 1, x0, x3, x4 => if x4 < (x0.length : Int) then (if 0 ≤ x4 then ((laws_toFile.f ((rd_T83 x0 x4).f0) ((rd_T83 x0 x4).f1) ((rd_T83 x0 x4).f2)).bind fun bt131 => (if x4 < (x3.length : Int) then (laws_toFileS.l0 k x0 (x3.set (x4 : Int).toNat (⟨bt131.1, bt131.2.1, bt131.2.2⟩ : S58)) (wrap64 (x4 + 1))) else (none))) else (none)) else (some x3)
def laws_toFileS.f (k : Nat) (l0 : List (S83)) : Option ((List (S58))) := if 0 ≤ (l0.length : Int) then (if ((l0.length : Int) : Int).toNat ≤ 7036874417766 then (laws_toFileS.l0 k l0 (List.replicate ((l0.length : Int) : Int).toNat z58) 0) else (none)) else (none)
theorem laws_toFileS.mono_l : ∀ k, (∀ y0 y1 y2, LeO (laws_toFileS.l0 k y0 y1 y2) (laws_toFileS.l0 (k + 1) y0 y1 y2))
  | 0 => fun _ _ _ r h => by simp [laws_toFileS.l0] at h
  | k + 1 => by
    have ih0 := laws_toFileS.mono_l k
    · intro y0 y1 y2
      unfold laws_toFileS.l0
      repeat' first
      | (with_reducible exact ih0 _ _ _)
      | (with_reducible exact LeO.refl _)
      | (with_reducible exact LeO.none _)
      | (with_reducible refine LeO.ite ?_ ?_)
      | (with_reducible refine LeO.bind ?_ (fun _ => ?_))
      | exact ih0 _ _ _
      | exact LeO.none _
      | refine LeO.ite ?_ ?_
      | refine LeO.bind ?_ (fun _ => ?_)
theorem laws_toFileS.mono : ∀ a0 k, LeO (laws_toFileS.f k a0) (laws_toFileS.f (k + 1) a0) := by
  intro a0 k
  have ih0 := laws_toFileS.mono_l k
  unfold laws_toFileS.f
  repeat' first
      | (with_reducible exact ih0 _ _ _)
      | (with_reducible exact LeO.refl _)
      | (with_reducible exact LeO.none _)
      | (with_reducible refine LeO.ite ?_ ?_)
      | (with_reducible refine LeO.bind ?_ (fun _ => ?_))
      | exact ih0 _ _ _
      | exact LeO.none _
      | refine LeO.ite ?_ ?_
      | refine LeO.bind ?_ (fun _ => ?_)
set_option maxHeartbeats 8000000 in
set_option maxRecDepth 100000 in
theorem laws_toFileS.calls (k : Nat) (A0 : Option Addr) (c0 : Nat) (l0 : List (S83)) (r : List (S58)) (w : World) (hr0 : Kd.C k83 w A0 l0.length l0) (hc0 : l0.length ≤ c0) (h : laws_toFileS.f k l0 = some r) :
    Calls Try.prog 31 #[.slice A0 l0.length c0] w fun e w' => ∃ v0_ : Value, e = .returned (v0_) ∧ Kd.R k58 58 w' w.heap.size (fun _ => True) v0_ r ∧ Below w.heap.size w w' := by
  have hu83 := Try.underlying83
  have hu58 := Try.underlying58
  have HR0 := Aside0.mk hr0
  have HC0 := Aside0.mk hc0
  clear hr0 hc0
  have HB := Aside0.mk (Below.refl w.heap.size w)
  have H : (if 0 ≤ (l0.length : Int) then (if ((l0.length : Int) : Int).toNat ≤ 7036874417766 then (laws_toFileS.l0 k l0 (List.replicate ((l0.length : Int) : Int).toNat z58) 0) else (none)) else (none)) = some r := h
  clear h
  by_cases c2 : 0 ≤ (l0.length : Int)
  · rw [if_pos c2] at H
    have c2b0 := eq_true c2
    have c2b1 : decide (0 ≤ (l0.length : Int)) = true := decide_eq_true c2
    clear c2
    by_cases c3 : ((l0.length : Int) : Int).toNat ≤ 7036874417766
    · rw [if_pos c3] at H
      have c3b0 := eq_true c3
      have c3b1 : decide (((l0.length : Int) : Int).toNat ≤ 7036874417766) = true := decide_eq_true c3
      clear c3
      obtain ⟨y127, hy127⟩ : ∃ y_ : List (S58), y_ = (List.replicate ((l0.length : Int) : Int).toNat z58) := ⟨_, rfl⟩
      replace H : (laws_toFileS.l0 k l0 y127 0) = some r := by first | (rw [hy127]; with_reducible exact H) | (have H2_ := (Option.bind_some _ _).symm.trans H; rw [hy127]; with_reducible exact H2_) | (have H2_ := (Option.bind_some _ _).symm.trans H; with_reducible exact H2_) | with_reducible exact H | (rw [hy127]; exact H) | exact H
      have Ny127 := Aside0.mk hy127
      clear hy127
      have H' := Aside0.mk H
      clear H
      go_enter Try.func31, Try.ntmps31
      go_wp2_with (first | ((with_reducible refine gate_dst (N := 7) rfl ?_); refine Kd.R_make k58 _ 58 rfl (N := 7) rfl 28 _ _ rfl (l0.length : Int) rfl rfl Try.underlying28 (.agg #[(.string ⟨#[]⟩), (.string ⟨#[]⟩), (.int .i64 0)]) 40 info58 rfl (by decide) (by omega) z58 (ok := fun _ => True) (okp := fun _ => True) (k58_mkM _ _ _ z58 ) (fun _ hk => hk) trivial (of_decide_eq_true (by first | (with_reducible assumption) | assumption)) (Nat.le_trans (Nat.mul_le_mul_right _ (of_decide_eq_true (by first | (with_reducible assumption) | assumption) : (l0.length : Int).toNat ≤ 7036874417766)) (by omega)) (Below.refl _ _) (Nat.le_refl _) ?_; intro v128 w4 ho5 hb hg_ hnew_; clear hg_ hnew_; (first | rw [← Ny127.out] at ho5 | (simp only [Int.reduceToNat] at ho5; rw [← Ny127.out] at ho5)); have n0_ := Aside0.mk (Kd.R_lower ho5 (below_size (by repeat (first | (with_reducible first | exact HB.out | apply below_alloc | apply pw_below_drewN | apply below_drew1) | exact HB.out)))); have n1_ := Aside0.mk (below_step (by repeat (first | (with_reducible first | exact HB.out | apply below_alloc | apply pw_below_drewN | apply below_drew1) | exact HB.out)) hb); clear HB; have HO129 := n0_; have HB := n1_; clear n0_ n1_; clear hb ho5))
      go_loopg [4] k (fun kq v4 w' => ∃ (x3_1 : List (S58)) (x4_1 : Int), v4 = .int .i64 x4_1 ∧ Aside0 (laws_toFileS.l0 kq l0 x3_1 x4_1 = some r) ∧ Aside0 (kq ≤ k) ∧ Aside0 (Kd.R k58 58 w' w.heap.size (fun _ => True) v128 x3_1) ∧ Aside0 (Below w.heap.size w w'))
      case atStart => exact ⟨(y127), (0), (by first | rfl | (simp; done) | (simp [*]; done)), H', ⟨Nat.le_refl _⟩, ⟨by (with_reducible repeat (first | apply Kd.R_alloc | apply Kd.R_drewN | apply Kd.R_drew)); exact HO129.out⟩, ⟨by repeat (first | (with_reducible first | exact HB.out | apply below_alloc | apply pw_below_drewN | apply below_drew1) | exact HB.out)⟩⟩
      case round =>
        clear H'
        try clear c2
        try clear c2b0
        try clear c2b1
        try clear p2
        try clear c3
        try clear c3b0
        try clear c3b1
        obtain ⟨x3_1, x4_1, rfl, HA, HK1, HO_3, HB⟩ := hrel
        cases gk with
        | zero => exact absurd HA.out (by simp [laws_toFileS.l0])
        | succ k1 =>
          have H := HA.out
          clear HA
          simp only [laws_toFileS.l0] at H
          by_cases c6 : x4_1 < (l0.length : Int)
          · rw [if_pos c6] at H
            have c6b0 : decide (x4_1 < (l0.length : Int)) = true := decide_eq_true c6
            clear c6
            by_cases c7 : 0 ≤ x4_1
            · rw [if_pos c7] at H
              have c7b0 : decide (0 ≤ x4_1) = true := decide_eq_true c7
              clear c7
              replace H := Option.bind_eq_some_iff.mp H
              obtain ⟨⟨t131, t132, t133⟩, A80, H⟩ := H
              replace H : (if x4_1 < (x3_1.length : Int) then (laws_toFileS.l0 k1 l0 (x3_1.set (x4_1 : Int).toNat (⟨t131, t132, t133⟩ : S58)) (wrap64 (x4_1 + 1))) else (none)) = some r := H
              have A8 := Aside0.mk A80
              clear A80
              by_cases c9 : x4_1 < (x3_1.length : Int)
              · rw [if_pos c9] at H
                have c9b0 : decide (x4_1 < (x3_1.length : Int)) = true := decide_eq_true c9
                clear c9
                obtain ⟨y134, hy134⟩ : ∃ y_ : List (S58), y_ = (x3_1.set (x4_1 : Int).toNat (⟨t131, t132, t133⟩ : S58)) := ⟨_, rfl⟩
                replace H : (laws_toFileS.l0 k1 l0 y134 (wrap64 (x4_1 + 1))) = some r := by first | (rw [hy134]; with_reducible exact H) | (have H2_ := (Option.bind_some _ _).symm.trans H; rw [hy134]; with_reducible exact H2_) | (have H2_ := (Option.bind_some _ _).symm.trans H; with_reducible exact H2_) | with_reducible exact H | (rw [hy134]; exact H) | exact H
                have Ny134 := Aside0.mk hy134
                clear hy134
                have H' := Aside0.mk H
                clear H
                have p130 : 0 ≤ (x4_1 : Int) := of_decide_eq_true (by first | (with_reducible assumption) | assumption)
                have q130 : x4_1 < (l0.length : Int) := of_decide_eq_true (by first | (with_reducible assumption) | assumption)
                obtain ⟨ad130, e130, hx130_0, hx130_1, hx130_2⟩ := at_T83 HR0.out x4_1 p130 q130
                cases e130
                replace hx130_0 := (HB.out.cell (World.block_lt_of_cell? w _ hx130_0)).trans hx130_0
                replace hx130_1 := (HB.out.cell (World.block_lt_of_cell? w _ hx130_1)).trans hx130_1
                replace hx130_2 := (HB.out.cell (World.block_lt_of_cell? w _ hx130_2)).trans hx130_2
                replace p130 := eq_true p130
                replace q130 := eq_true q130
                go_wp2_with (first | ((with_reducible refine gate_callee (f := 54) rfl ?_); refine goesL_ (some 20) rfl rfl Try.func54 (by kernel_rfl) rfl #[.agg #[.string ((rd_T83 l0 x4_1).f0), .string ((rd_T83 l0 x4_1).f1), .int .i64 ((rd_T83 l0 x4_1).f2)]] rfl (by (try simp only [List.map_toArray, List.map_cons, List.map_nil]); first | done | rfl | (simp only [List.length_drop, List.length_take]; rfl)) ?_; (with_reducible refine (laws_toFile.calls ((rd_T83 l0 x4_1).f0) ((rd_T83 l0 x4_1).f1) ((rd_T83 l0 x4_1).f2) t131 t132 t133 _ A8.out).mono ?_); rintro e w11 ⟨rfl, hb⟩; refine ⟨_, rfl, ?_⟩; have n0_ := Aside0.mk (Kd.R_below (by (with_reducible repeat (first | apply Kd.R_alloc | apply Kd.R_drewN | apply Kd.R_drew)); exact HO_3.out) hb); have n1_ := Aside0.mk (below_step (by repeat (first | (with_reducible first | exact HB.out | apply below_alloc | apply pw_below_drewN | apply below_drew1) | exact HB.out)) hb); clear HO_3; clear HB; have HO_3 := n0_; have HB := n1_; clear n0_ n1_; (try clear hb); (try clear hb2); (try clear hk); (try clear hi); have p10 : 0 ≤ (x4_1 : Int) := of_decide_eq_true (by first | (with_reducible assumption) | assumption); have q10 : (x4_1 : Int) < ((x3_1.length : Int) : Int) := of_decide_eq_true (by first | (with_reducible assumption) | assumption); obtain ⟨go10, co10, eo10, gb10, gl10, cl10, HG10⟩ := Kd.R_form HO_3.out (by omega); (first | cases eo10 | (injection eo10 with ea_ en_ ec_; (first | subst ea_ | (injection ea_ with ea_; subst ea_)); subst ec_; clear en_)); have GB10 := Aside0.mk gb10; have GG10 := Aside0.mk HG10; clear gb10 gl10 HG10; obtain ⟨ce10, hcl10, hM10, hcc10, hfr10⟩ := Kd.R_elem HO_3.out z58 (x4_1 : Int) p10 q10; obtain rfl := k58_openM hM10; have hx10_0 : w11.cell? ⟨go10, (x4_1 : Int).toNat * 3, none⟩ = some (.string ((rd_T58 x3_1 x4_1).f0)) := hcc10 0 _ rfl; have hx10_1 : w11.cell? ⟨go10, (x4_1 : Int).toNat * 3 + 1, none⟩ = some (.string ((rd_T58 x3_1 x4_1).f1)) := hcc10 1 _ rfl; have hx10_2 : w11.cell? ⟨go10, (x4_1 : Int).toNat * 3 + 2, none⟩ = some (.int .i64 ((rd_T58 x3_1 x4_1).f2)) := hcc10 2 _ rfl; have hf10_0 : w11.frozen? ⟨go10, (x4_1 : Int).toNat * 3, none⟩ = false := hfr10 0; have hf10_1 : w11.frozen? ⟨go10, (x4_1 : Int).toNat * 3 + 1, none⟩ = false := hfr10 1; have hf10_2 : w11.frozen? ⟨go10, (x4_1 : Int).toNat * 3 + 2, none⟩ = false := hfr10 2; clear hcl10 hcc10 hfr10; (try clear hM10); replace p10 := eq_true p10; replace q10 := eq_true q10; have HX12 := Aside0.mk (show Kd.R k58 58 w11 w.heap.size (fun _ => True) (.slice (some ⟨go10, 0, none⟩) x3_1.length co10) x3_1 from (by (with_reducible repeat (first | apply Kd.R_alloc | apply Kd.R_drewN | apply Kd.R_drew)); exact HO_3.out)); obtain ⟨ce12, hcl12, hM12, hcc12, hfr12⟩ := Kd.R_elem HX12.out z58 (x4_1 : Int) (of_decide_eq_true (by first | (with_reducible assumption) | assumption)) (by have h_ : (x4_1 : Int) < ((x3_1.length : Int) : Int) := of_decide_eq_true (by first | (with_reducible assumption) | assumption); first | exact h_ | (have e_ := (Kd.R_reads' HO_3.out).1; omega) | simpa using h_); obtain rfl := k58_openM hM12; have HP12 := Kd.R_seg HX12.out (x4_1 : Int) (of_decide_eq_true (by first | (with_reducible assumption) | assumption)) (by have h_ : (x4_1 : Int) < ((x3_1.length : Int) : Int) := of_decide_eq_true (by first | (with_reducible assumption) | assumption); first | exact h_ | (have e_ := (Kd.R_reads' HO_3.out).1; omega) | simpa using h_) (seg := [.string t131, .string t132, .int .i64 t133]) (j := 0) hcl12 hcc12 (show 3 ≤ 3 from by decide) (x' := (⟨t131, t132, t133⟩ : S58)) (k58_mkM _ _ _ (⟨t131, t132, t133⟩ : S58) ) (fun _ hk => hk); have hx12_0 := hcc12 0 _ rfl; (try simp only [show (k58).sz = 3 from rfl, Nat.mul_one, Nat.add_zero] at hx12_0); have hf12_0 := hfr12 0; (try simp only [show (k58).sz = 3 from rfl, Nat.mul_one, Nat.add_zero] at hf12_0); have hx12_1 := hcc12 1 _ rfl; (try simp only [show (k58).sz = 3 from rfl, Nat.mul_one, Nat.add_zero] at hx12_1); have hf12_1 := hfr12 1; (try simp only [show (k58).sz = 3 from rfl, Nat.mul_one, Nat.add_zero] at hf12_1); have hx12_2 := hcc12 2 _ rfl; (try simp only [show (k58).sz = 3 from rfl, Nat.mul_one, Nat.add_zero] at hx12_2); have hf12_2 := hfr12 2; (try simp only [show (k58).sz = 3 from rfl, Nat.mul_one, Nat.add_zero] at hf12_2); clear hcl12 hcc12 hfr12; (try clear hM12)) | ((with_reducible refine gate_store (t := 58) (p := 21) rfl ?_); refine store_event (t := 58) (p := 21) (v := ?vo_w13) (w1 := (((w11.setCell ⟨go10, (x4_1 : Int).toNat * 3, none⟩ (.string t131)).setCell ⟨go10, (x4_1 : Int).toNat * 3 + 1, none⟩ (.string t132)).setCell ⟨go10, (x4_1 : Int).toNat * 3 + 2, none⟩ (.int .i64 t133))) ?hg ?ho ?hn ?hr ?_; (case ho => rfl); (case hg => rfl); (case hn => rfl); (case hr => first | (go_simp; done) | (go_simp; rfl)); intro w13 hw; have hg : w11.grownBy w13 (some go10) := (by rw [hw]; exact HP12.2); have hp_ : Kd.R k58 58 w13 w.heap.size (fun _ => True) (.slice (some ⟨go10, 0, none⟩) x3_1.length co10) y134 := (by rw [hw, Ny134.out]; exact HP12.1); clear HP12; have n0_ := Aside0.mk (hp_); have n1_ := Aside0.mk ((by rw [hw]; exact below_set (below_set (below_set (HB.out) GB10.out) GB10.out) GB10.out : Below w.heap.size w w13)); clear HO_3; clear HB; have HO_3 := n0_; have HB := n1_; clear n0_ n1_; clear hg hw hp_))
                go_roundg k1
                case measure => have := HK1.out; omega
                case rel => exact ⟨(y134), (wrap64 (x4_1 + 1)), (by first | rfl | (simp; done) | (simp [*]; done)), H', ⟨by have := HK1.out; omega⟩, ⟨by (with_reducible repeat (first | apply Kd.R_alloc | apply Kd.R_drewN | apply Kd.R_drew)); exact HO_3.out⟩, ⟨by repeat (first | (with_reducible first | exact HB.out | apply below_alloc | apply pw_below_drewN | apply below_drew1) | exact HB.out)⟩⟩
              · rw [if_neg c9] at H
                exact absurd H (by simp)
            · rw [if_neg c7] at H
              exact absurd H (by simp)
          · rw [if_neg c6] at H
            have c6b0 : decide (x4_1 < (l0.length : Int)) = false := decide_eq_false c6
            clear c6
            obtain rfl := Option.some.inj H
            go_wp2
            go_ret
            exact ⟨_, by first | rfl | (simp [errW_none, errW_some] <;> rfl) | (simp [*, errW_none, errW_some] <;> rfl), by (with_reducible repeat (first | apply Kd.R_alloc | apply Kd.R_drewN | apply Kd.R_drew)); exact HO_3.out, by repeat (first | (with_reducible first | exact HB.out | apply below_alloc | apply pw_below_drewN | apply below_drew1) | exact HB.out)⟩
    · rw [if_neg c3] at H
      exact absurd H (by simp)
  · rw [if_neg c2] at H
    exact absurd H (by simp)
def laws_toFs.f (k : Nat) (l0_0 : List (S83)) (a0_1 : Int) (a0_2 : Int) (a0_3 : Int) (a0_4 : Int) (a0_5 : Bool) : Option ((List (S58)) × Int × Int × Int × Int × Bool) := (laws_toFileS.f k l0_0).bind fun t138 => (some (t138, a0_1, a0_2, a0_3, a0_4, a0_5))
theorem laws_toFs.mono : ∀ a0 a1 a2 a3 a4 a5 k, LeO (laws_toFs.f k a0 a1 a2 a3 a4 a5) (laws_toFs.f (k + 1) a0 a1 a2 a3 a4 a5) := by
  intro a0 a1 a2 a3 a4 a5 k
  unfold laws_toFs.f
  repeat' first
      | (with_reducible exact laws_toFileS.mono _ _)
      | (with_reducible exact LeO.refl _)
      | (with_reducible exact LeO.none _)
      | (with_reducible refine LeO.ite ?_ ?_)
      | (with_reducible refine LeO.bind ?_ (fun _ => ?_))
      | exact laws_toFileS.mono _ _
      | exact LeO.none _
      | refine LeO.ite ?_ ?_
      | refine LeO.bind ?_ (fun _ => ?_)
set_option maxHeartbeats 8000000 in
set_option maxRecDepth 100000 in
theorem laws_toFs.calls (k : Nat) (A0_0 : Option Addr) (c0_0 : Nat) (l0_0 : List (S83)) (a0_1 : Int) (a0_2 : Int) (a0_3 : Int) (a0_4 : Int) (a0_5 : Bool) (r1 : List (S58)) (r2 : Int) (r3 : Int) (r4 : Int) (r5 : Int) (r6 : Bool) (w : World) (hr0_0 : Kd.C k83 w A0_0 l0_0.length l0_0) (hc0_0 : l0_0.length ≤ c0_0) (h : laws_toFs.f k l0_0 a0_1 a0_2 a0_3 a0_4 a0_5 = some (r1, r2, r3, r4, r5, r6)) :
    Calls Try.prog 10 #[.agg #[.slice A0_0 l0_0.length c0_0, .int .i64 a0_1, .int .i64 a0_2, .int .i64 a0_3, .int .i64 a0_4, .bool a0_5]] w fun e w' => ∃ v0_ : Value, e = .returned (.agg #[v0_, .int .i64 r2, .int .i64 r3, .int .i64 r4, .int .i64 r5, .bool r6]) ∧ Kd.R k58 58 w' w.heap.size (fun _ => True) v0_ r1 ∧ Below w.heap.size w w' := by
  have hu24 := Try.underlying24
  have hu30 := Try.underlying30
  have HR0_0 := Aside0.mk hr0_0
  have HC0_0 := Aside0.mk hc0_0
  clear hr0_0 hc0_0
  have HB := Aside0.mk (Below.refl w.heap.size w)
  have H : ((laws_toFileS.f k l0_0).bind fun t138 => (some (t138, a0_1, a0_2, a0_3, a0_4, a0_5))) = some (r1, r2, r3, r4, r5, r6) := h
  clear h
  replace H := Option.bind_eq_some_iff.mp H
  obtain ⟨t138, A20, H⟩ := H
  replace H : (some (t138, a0_1, a0_2, a0_3, a0_4, a0_5)) = some (r1, r2, r3, r4, r5, r6) := H
  have A2 := Aside0.mk A20
  clear A20
  simp only [Option.some.injEq, Prod.mk.injEq] at H
  obtain ⟨rfl, rfl, rfl, rfl, rfl, rfl⟩ := H
  go_enter Try.func10, Try.ntmps10
  go_wp2_with (first | ((with_reducible refine gate_dst (N := 1) rfl ?_); refine box_event ?hg (N := 1) ?hd (cs := #[.slice A0_0 l0_0.length c0_0, .int .i64 a0_1, .int .i64 a0_2, .int .i64 a0_3, .int .i64 a0_4, .bool a0_5]) (t := 24) ?hr ?_; (case hd => rfl); (case hg => rfl); (case hr => first | (go_simp; done) | (go_simp; rfl)); intro gb135 hg w3 hbox hb; have n0_ := Aside0.mk (below_step (by repeat (first | (with_reducible first | exact HB.out | apply below_alloc | apply pw_below_drewN | apply below_drew1) | exact HB.out)) hb); have n1_ := Aside0.mk (hbox); have n2_ := Aside0.mk ((by rw [hg]; exact (below_size (by repeat (first | (with_reducible first | exact HB.out | apply below_alloc | apply pw_below_drewN | apply below_drew1) | exact HB.out))) : w.heap.size ≤ gb135)); have n3_ := Aside0.mk ((by rw [hg]; exact (below_size (by repeat (first | (with_reducible first | exact HB.out | apply below_alloc | apply pw_below_drewN | apply below_drew1) | exact HB.out))) : w.heap.size ≤ gb135)); clear HB; have HB := n0_; have BK135 := n1_; have GW135 := n2_; have GE135 := n3_; clear n0_ n1_ n2_ n3_; clear hb hbox hg) | ((with_reducible refine gate_dst (N := 2) rfl ?_); refine box_event ?hg (N := 2) ?hd (cs := #[.slice none 0 0, .int .i64 0, .int .i64 0, .int .i64 0, .int .i64 0, .bool false]) (t := 30) ?hr ?_; (case hd => rfl); (case hg => rfl); (case hr => first | (go_simp; done) | (go_simp; rfl)); intro gb136 hg w4 hbox hb; have n0_ := Aside0.mk (blk_below (g := gb135) (o := .cells #[.slice A0_0 l0_0.length c0_0, .int .i64 a0_1, .int .i64 a0_2, .int .i64 a0_3, .int .i64 a0_4, .bool a0_5] 24 (0, 0)) (by (with_reducible repeat (first | refine blk_drewN ?_ _ | refine blk_drew ?_ | refine blk_alloc ?_ _)); exact BK135.out) hb); have n1_ := Aside0.mk (below_step (by repeat (first | (with_reducible first | exact HB.out | apply below_alloc | apply pw_below_drewN | apply below_drew1 | refine below_set ?_ GE135.out) | exact HB.out)) hb); have n2_ := Aside0.mk (hbox); have n3_ := Aside0.mk ((by rw [hg]; exact (below_size (by repeat (first | (with_reducible first | exact HB.out | apply below_alloc | apply pw_below_drewN | apply below_drew1 | refine below_set ?_ GE135.out) | exact HB.out))) : w.heap.size ≤ gb136)); have n4_ := Aside0.mk ((by rw [hg]; exact (below_size (by repeat (first | (with_reducible first | exact HB.out | apply below_alloc | apply pw_below_drewN | apply below_drew1 | refine below_set ?_ GE135.out) | exact HB.out))) : w.heap.size ≤ gb136)); have n5_ := Aside0.mk ((by rw [hg]; exact Nat.ne_of_lt (blk_lt (g := gb135) (o := .cells #[.slice A0_0 l0_0.length c0_0, .int .i64 a0_1, .int .i64 a0_2, .int .i64 a0_3, .int .i64 a0_4, .bool a0_5] 24 (0, 0)) (by (with_reducible repeat (first | refine blk_drewN ?_ _ | refine blk_drew ?_ | refine blk_alloc ?_ _)); exact BK135.out)) : gb135 ≠ gb136)); have n6_ := Aside0.mk ((by rw [hg]; exact Nat.ne_of_gt (blk_lt (g := gb135) (o := .cells #[.slice A0_0 l0_0.length c0_0, .int .i64 a0_1, .int .i64 a0_2, .int .i64 a0_3, .int .i64 a0_4, .bool a0_5] 24 (0, 0)) (by (with_reducible repeat (first | refine blk_drewN ?_ _ | refine blk_drew ?_ | refine blk_alloc ?_ _)); exact BK135.out)) : gb136 ≠ gb135)); clear BK135; clear HB; have BK135 := n0_; have HB := n1_; have BK136 := n2_; have GW136 := n3_; have GE136 := n4_; have NB135_136 := n5_; have NB136_135 := n6_; clear n0_ n1_ n2_ n3_ n4_ n5_ n6_; clear hb hbox hg) | ((with_reducible refine gate_dst (N := 3) rfl ?_); refine box_event ?hg (N := 3) ?hd (cs := #[.slice none 0 0, .int .i64 0, .int .i64 0, .int .i64 0, .int .i64 0, .bool false]) (t := 30) ?hr ?_; (case hd => rfl); (case hg => rfl); (case hr => first | (go_simp; done) | (go_simp; rfl)); intro gb137 hg w5 hbox hb; have n0_ := Aside0.mk (blk_below (g := gb135) (o := .cells #[.slice A0_0 l0_0.length c0_0, .int .i64 a0_1, .int .i64 a0_2, .int .i64 a0_3, .int .i64 a0_4, .bool a0_5] 24 (0, 0)) (by (with_reducible repeat (first | refine blk_drewN ?_ _ | refine blk_drew ?_ | refine blk_alloc ?_ _)); exact BK135.out) hb); have n1_ := Aside0.mk (blk_below (g := gb136) (o := .cells #[.slice none 0 0, .int .i64 0, .int .i64 0, .int .i64 0, .int .i64 0, .bool false] 30 (0, 0)) (by (with_reducible repeat (first | refine blk_drewN ?_ _ | refine blk_drew ?_ | refine blk_alloc ?_ _)); exact BK136.out) hb); have n2_ := Aside0.mk (below_step (by repeat (first | (with_reducible first | exact HB.out | apply below_alloc | apply pw_below_drewN | apply below_drew1 | refine below_set ?_ GE135.out | refine below_set ?_ GE136.out) | exact HB.out)) hb); have n3_ := Aside0.mk (hbox); have n4_ := Aside0.mk ((by rw [hg]; exact (below_size (by repeat (first | (with_reducible first | exact HB.out | apply below_alloc | apply pw_below_drewN | apply below_drew1 | refine below_set ?_ GE135.out | refine below_set ?_ GE136.out) | exact HB.out))) : w.heap.size ≤ gb137)); have n5_ := Aside0.mk ((by rw [hg]; exact (below_size (by repeat (first | (with_reducible first | exact HB.out | apply below_alloc | apply pw_below_drewN | apply below_drew1 | refine below_set ?_ GE135.out | refine below_set ?_ GE136.out) | exact HB.out))) : w.heap.size ≤ gb137)); have n6_ := Aside0.mk ((by rw [hg]; exact Nat.ne_of_lt (blk_lt (g := gb135) (o := .cells #[.slice A0_0 l0_0.length c0_0, .int .i64 a0_1, .int .i64 a0_2, .int .i64 a0_3, .int .i64 a0_4, .bool a0_5] 24 (0, 0)) (by (with_reducible repeat (first | refine blk_drewN ?_ _ | refine blk_drew ?_ | refine blk_alloc ?_ _)); exact BK135.out)) : gb135 ≠ gb137)); have n7_ := Aside0.mk ((by rw [hg]; exact Nat.ne_of_gt (blk_lt (g := gb135) (o := .cells #[.slice A0_0 l0_0.length c0_0, .int .i64 a0_1, .int .i64 a0_2, .int .i64 a0_3, .int .i64 a0_4, .bool a0_5] 24 (0, 0)) (by (with_reducible repeat (first | refine blk_drewN ?_ _ | refine blk_drew ?_ | refine blk_alloc ?_ _)); exact BK135.out)) : gb137 ≠ gb135)); have n8_ := Aside0.mk ((by rw [hg]; exact Nat.ne_of_lt (blk_lt (g := gb136) (o := .cells #[.slice none 0 0, .int .i64 0, .int .i64 0, .int .i64 0, .int .i64 0, .bool false] 30 (0, 0)) (by (with_reducible repeat (first | refine blk_drewN ?_ _ | refine blk_drew ?_ | refine blk_alloc ?_ _)); exact BK136.out)) : gb136 ≠ gb137)); have n9_ := Aside0.mk ((by rw [hg]; exact Nat.ne_of_gt (blk_lt (g := gb136) (o := .cells #[.slice none 0 0, .int .i64 0, .int .i64 0, .int .i64 0, .int .i64 0, .bool false] 30 (0, 0)) (by (with_reducible repeat (first | refine blk_drewN ?_ _ | refine blk_drew ?_ | refine blk_alloc ?_ _)); exact BK136.out)) : gb137 ≠ gb136)); clear BK135; clear BK136; clear HB; have BK135 := n0_; have BK136 := n1_; have HB := n2_; have BK137 := n3_; have GW137 := n4_; have GE137 := n5_; have NB135_137 := n6_; have NB137_135 := n7_; have NB136_137 := n8_; have NB137_136 := n9_; clear n0_ n1_ n2_ n3_ n4_ n5_ n6_ n7_ n8_ n9_; clear hb hbox hg; have hnb6 := NB135_136.out; have hnc6 := NB136_135.out; have hnb7 := NB135_137.out; have hnc7 := NB137_135.out; have hcz8_0 : w5.cell? ⟨gb135, 0, none⟩ = some (.slice A0_0 l0_0.length c0_0) := (blk_cell BK135.out 0).trans rfl; have hcz8_1 : w5.cell? ⟨gb135, 1, none⟩ = some (.int .i64 a0_1) := (blk_cell BK135.out 1).trans rfl; have hcz8_2 : w5.cell? ⟨gb135, 2, none⟩ = some (.int .i64 a0_2) := (blk_cell BK135.out 2).trans rfl; have hcz8_3 : w5.cell? ⟨gb135, 3, none⟩ = some (.int .i64 a0_3) := (blk_cell BK135.out 3).trans rfl; have hcz8_4 : w5.cell? ⟨gb135, 4, none⟩ = some (.int .i64 a0_4) := (blk_cell BK135.out 4).trans rfl; have hcz8_5 : w5.cell? ⟨gb135, 5, none⟩ = some (.bool a0_5) := (blk_cell BK135.out 5).trans rfl; have hfz8_0 := blk_frozen BK135.out 0; have hfz8_1 := blk_frozen BK135.out 1; have hfz8_2 := blk_frozen BK135.out 2; have hfz8_3 := blk_frozen BK135.out 3; have hfz8_4 := blk_frozen BK135.out 4; have hfz8_5 := blk_frozen BK135.out 5) | ((with_reducible refine gate_callee (f := 31) rfl ?_); refine goesL_ (some 6) rfl rfl Try.func31 (by kernel_rfl) rfl #[.slice A0_0 l0_0.length c0_0] rfl (by (try simp only [List.map_toArray, List.map_cons, List.map_nil]); first | done | rfl | (simp only [List.length_drop, List.length_take]; rfl)) ?_; (with_reducible refine (laws_toFileS.calls k _ _ l0_0 t138 _ ?side1 ?side2 A2.out).mono ?_); (case side1 => repeat (first | exact (Kd.C_below HR0_0.out HB.out) | (with_reducible refine Kd.C_alloc ?_ _) | (with_reducible refine Kd.C_drewN ?_ _) | (with_reducible refine Kd.C_drew ?_))); (case side2 => exact HC0_0.out); rintro e w9 ⟨v139, rfl, ho0, hb⟩; refine ⟨_, rfl, ?_⟩; have n0_ := Aside0.mk (Kd.R_lower ho0 (below_size (by repeat (first | (with_reducible first | exact HB.out | apply below_alloc | apply pw_below_drewN | apply below_drew1 | refine below_set ?_ GE135.out | refine below_set ?_ GE136.out | refine below_set ?_ GE137.out) | exact HB.out)))); have n1_ := Aside0.mk (blk_below (g := gb135) (o := .cells #[.slice A0_0 l0_0.length c0_0, .int .i64 a0_1, .int .i64 a0_2, .int .i64 a0_3, .int .i64 a0_4, .bool a0_5] 24 (0, 0)) (by (with_reducible repeat (first | refine blk_drewN ?_ _ | refine blk_drew ?_ | refine blk_alloc ?_ _)); exact BK135.out) hb); have n2_ := Aside0.mk (blk_below (g := gb136) (o := .cells #[.slice none 0 0, .int .i64 0, .int .i64 0, .int .i64 0, .int .i64 0, .bool false] 30 (0, 0)) (by (with_reducible repeat (first | refine blk_drewN ?_ _ | refine blk_drew ?_ | refine blk_alloc ?_ _)); exact BK136.out) hb); have n3_ := Aside0.mk (blk_below (g := gb137) (o := .cells #[.slice none 0 0, .int .i64 0, .int .i64 0, .int .i64 0, .int .i64 0, .bool false] 30 (0, 0)) (by (with_reducible repeat (first | refine blk_drewN ?_ _ | refine blk_drew ?_ | refine blk_alloc ?_ _)); exact BK137.out) hb); have n4_ := Aside0.mk (below_step (by repeat (first | (with_reducible first | exact HB.out | apply below_alloc | apply pw_below_drewN | apply below_drew1 | refine below_set ?_ GE135.out | refine below_set ?_ GE136.out | refine below_set ?_ GE137.out) | exact HB.out)) hb); clear BK135; clear BK136; clear BK137; clear HB; have HO140 := n0_; have BK135 := n1_; have BK136 := n2_; have BK137 := n3_; have HB := n4_; clear n0_ n1_ n2_ n3_ n4_; (try clear hb); (try clear hb2); (try clear hk); (try clear hi); (try clear ho0); obtain ⟨Ao10, co10, eo10⟩ := Kd.R_slice HO140.out; subst eo10; have hnb11 := NB137_136.out; have hnc11 := NB136_137.out; have hcz12_0 : w9.cell? ⟨gb137, 0, none⟩ = some (.slice none 0 0) := (blk_cell BK137.out 0).trans rfl; have hcz12_1 : w9.cell? ⟨gb137, 1, none⟩ = some (.int .i64 0) := (blk_cell BK137.out 1).trans rfl; have hcz12_2 : w9.cell? ⟨gb137, 2, none⟩ = some (.int .i64 0) := (blk_cell BK137.out 2).trans rfl; have hcz12_3 : w9.cell? ⟨gb137, 3, none⟩ = some (.int .i64 0) := (blk_cell BK137.out 3).trans rfl; have hcz12_4 : w9.cell? ⟨gb137, 4, none⟩ = some (.int .i64 0) := (blk_cell BK137.out 4).trans rfl; have hcz12_5 : w9.cell? ⟨gb137, 5, none⟩ = some (.bool false) := (blk_cell BK137.out 5).trans rfl; have hfz12_0 := blk_frozen BK137.out 0; have hfz12_1 := blk_frozen BK137.out 1; have hfz12_2 := blk_frozen BK137.out 2; have hfz12_3 := blk_frozen BK137.out 3; have hfz12_4 := blk_frozen BK137.out 4; have hfz12_5 := blk_frozen BK137.out 5; have hcz13_0 : w9.cell? ⟨gb135, 0, none⟩ = some (.slice A0_0 l0_0.length c0_0) := (blk_cell BK135.out 0).trans rfl; have hcz13_1 : w9.cell? ⟨gb135, 1, none⟩ = some (.int .i64 a0_1) := (blk_cell BK135.out 1).trans rfl; have hcz13_2 : w9.cell? ⟨gb135, 2, none⟩ = some (.int .i64 a0_2) := (blk_cell BK135.out 2).trans rfl; have hcz13_3 : w9.cell? ⟨gb135, 3, none⟩ = some (.int .i64 a0_3) := (blk_cell BK135.out 3).trans rfl; have hcz13_4 : w9.cell? ⟨gb135, 4, none⟩ = some (.int .i64 a0_4) := (blk_cell BK135.out 4).trans rfl; have hcz13_5 : w9.cell? ⟨gb135, 5, none⟩ = some (.bool a0_5) := (blk_cell BK135.out 5).trans rfl; have hfz13_0 := blk_frozen BK135.out 0; have hfz13_1 := blk_frozen BK135.out 1; have hfz13_2 := blk_frozen BK135.out 2; have hfz13_3 := blk_frozen BK135.out 3; have hfz13_4 := blk_frozen BK135.out 4; have hfz13_5 := blk_frozen BK135.out 5; have hcz14_0 : w9.cell? ⟨gb136, 0, none⟩ = some (.slice none 0 0) := (blk_cell BK136.out 0).trans rfl; have hcz14_1 : w9.cell? ⟨gb136, 1, none⟩ = some (.int .i64 0) := (blk_cell BK136.out 1).trans rfl; have hcz14_2 : w9.cell? ⟨gb136, 2, none⟩ = some (.int .i64 0) := (blk_cell BK136.out 2).trans rfl; have hcz14_3 : w9.cell? ⟨gb136, 3, none⟩ = some (.int .i64 0) := (blk_cell BK136.out 3).trans rfl; have hcz14_4 : w9.cell? ⟨gb136, 4, none⟩ = some (.int .i64 0) := (blk_cell BK136.out 4).trans rfl; have hcz14_5 : w9.cell? ⟨gb136, 5, none⟩ = some (.bool false) := (blk_cell BK136.out 5).trans rfl; have hfz14_0 := blk_frozen BK136.out 0; have hfz14_1 := blk_frozen BK136.out 1; have hfz14_2 := blk_frozen BK136.out 2; have hfz14_3 := blk_frozen BK136.out 3; have hfz14_4 := blk_frozen BK136.out 4; have hfz14_5 := blk_frozen BK136.out 5))
  refine bodyPost_ret (results_cell_row rfl _ _ gb136 30 #[.slice Ao10 t138.length co10, .int .i64 a0_1, .int .i64 a0_2, .int .i64 a0_3, .int .i64 a0_4, .bool a0_5] (0, 0) _ rfl (by (with_reducible repeat (first | refine blk_drewN ?_ _ | refine blk_drew ?_ | refine blk_alloc ?_ _)); refine blk_put (cs := #[.slice Ao10 t138.length co10, .int .i64 a0_1, .int .i64 a0_2, .int .i64 a0_3, .int .i64 a0_4, .bool false]) ?_ 5 _ rfl; (with_reducible repeat (first | refine blk_drewN ?_ _ | refine blk_drew ?_ | refine blk_alloc ?_ _)); refine blk_put (cs := #[.slice Ao10 t138.length co10, .int .i64 a0_1, .int .i64 a0_2, .int .i64 a0_3, .int .i64 0, .bool false]) ?_ 4 _ rfl; (with_reducible repeat (first | refine blk_drewN ?_ _ | refine blk_drew ?_ | refine blk_alloc ?_ _)); refine blk_put (cs := #[.slice Ao10 t138.length co10, .int .i64 a0_1, .int .i64 a0_2, .int .i64 0, .int .i64 0, .bool false]) ?_ 3 _ rfl; (with_reducible repeat (first | refine blk_drewN ?_ _ | refine blk_drew ?_ | refine blk_alloc ?_ _)); refine blk_put (cs := #[.slice Ao10 t138.length co10, .int .i64 a0_1, .int .i64 0, .int .i64 0, .int .i64 0, .bool false]) ?_ 2 _ rfl; (with_reducible repeat (first | refine blk_drewN ?_ _ | refine blk_drew ?_ | refine blk_alloc ?_ _)); refine blk_put (cs := #[.slice Ao10 t138.length co10, .int .i64 0, .int .i64 0, .int .i64 0, .int .i64 0, .bool false]) ?_ 1 _ rfl; (with_reducible repeat (first | refine blk_drewN ?_ _ | refine blk_drew ?_ | refine blk_alloc ?_ _)); refine blk_put (cs := #[.slice none 0 0, .int .i64 0, .int .i64 0, .int .i64 0, .int .i64 0, .bool false]) ?_ 0 _ rfl; (with_reducible repeat (first | refine blk_drewN ?_ _ | refine blk_drew ?_ | refine blk_alloc ?_ _)); refine blk_far ?_ NB136_137.out _; (with_reducible repeat (first | refine blk_drewN ?_ _ | refine blk_drew ?_ | refine blk_alloc ?_ _)); refine blk_far ?_ NB136_137.out _; (with_reducible repeat (first | refine blk_drewN ?_ _ | refine blk_drew ?_ | refine blk_alloc ?_ _)); refine blk_far ?_ NB136_137.out _; (with_reducible repeat (first | refine blk_drewN ?_ _ | refine blk_drew ?_ | refine blk_alloc ?_ _)); refine blk_far ?_ NB136_137.out _; (with_reducible repeat (first | refine blk_drewN ?_ _ | refine blk_drew ?_ | refine blk_alloc ?_ _)); refine blk_far ?_ NB136_137.out _; (with_reducible repeat (first | refine blk_drewN ?_ _ | refine blk_drew ?_ | refine blk_alloc ?_ _)); refine blk_far ?_ NB136_137.out _; (with_reducible repeat (first | refine blk_drewN ?_ _ | refine blk_drew ?_ | refine blk_alloc ?_ _)); exact BK136.out) Try.underlying30 rfl (by kernel_rfl)) rfl ?_
  exact ⟨_, by first | rfl | (simp [errW_none, errW_some] <;> rfl) | (simp [*, errW_none, errW_some] <;> rfl), by (with_reducible repeat (first | apply Kd.R_alloc | apply Kd.R_drewN | apply Kd.R_drew)); exact Kd.R_mono (Kd.R_far (p := ⟨gb136, 5, none⟩) (Kd.R_far (p := ⟨gb136, 4, none⟩) (Kd.R_far (p := ⟨gb136, 3, none⟩) (Kd.R_far (p := ⟨gb136, 2, none⟩) (Kd.R_far (p := ⟨gb136, 1, none⟩) (Kd.R_far (p := ⟨gb136, 0, none⟩) (Kd.R_far (p := ⟨gb137, 5, none⟩) (Kd.R_far (p := ⟨gb137, 4, none⟩) (Kd.R_far (p := ⟨gb137, 3, none⟩) (Kd.R_far (p := ⟨gb137, 2, none⟩) (Kd.R_far (p := ⟨gb137, 1, none⟩) (Kd.R_far (p := ⟨gb137, 0, none⟩) (Kd.R_types (Kd.R_types HO140.out BK137.out (by decide)) BK136.out (by decide)) (fun _ hk => hk.1.2) (.slice Ao10 t138.length co10)) (fun _ hk => hk.1.2) (.int .i64 a0_1)) (fun _ hk => hk.1.2) (.int .i64 a0_2)) (fun _ hk => hk.1.2) (.int .i64 a0_3)) (fun _ hk => hk.1.2) (.int .i64 a0_4)) (fun _ hk => hk.1.2) (.bool a0_5)) (fun _ hk => hk.2) (.slice Ao10 t138.length co10)) (fun _ hk => hk.2) (.int .i64 a0_1)) (fun _ hk => hk.2) (.int .i64 a0_2)) (fun _ hk => hk.2) (.int .i64 a0_3)) (fun _ hk => hk.2) (.int .i64 a0_4)) (fun _ hk => hk.2) (.bool a0_5)) (fun _ hk => trivial), by repeat (first | (with_reducible first | exact HB.out | apply below_alloc | apply pw_below_drewN | apply below_drew1 | refine below_set ?_ GE135.out | refine below_set ?_ GE136.out | refine below_set ?_ GE137.out) | exact HB.out)⟩
def laws_toStringS.l0 : Nat → List ByteArray → List ByteArray → Int → Option (List ByteArray)
  | 0, _, _, _ => none
  | k + 1, x0, x3, x4 => if x4 < (x0.length : Int) then (if 0 ≤ x4 then (if x4 < (x3.length : Int) then (laws_toStringS.l0 k x0 (x3.set (x4 : Int).toNat (rdOf ByteArray.empty x0 x4)) (wrap64 (x4 + 1))) else (none)) else (none)) else (some x3)
def laws_toStringS.f (k : Nat) (l0 : List ByteArray) : Option (List ByteArray) := if 0 ≤ (l0.length : Int) then (if ((l0.length : Int) : Int).toNat ≤ 17592186044416 then (laws_toStringS.l0 k l0 (List.replicate ((l0.length : Int) : Int).toNat (⟨#[]⟩ : ByteArray)) 0) else (none)) else (none)
theorem laws_toStringS.mono_l : ∀ k, (∀ y0 y1 y2, LeO (laws_toStringS.l0 k y0 y1 y2) (laws_toStringS.l0 (k + 1) y0 y1 y2))
  | 0 => fun _ _ _ r h => by simp [laws_toStringS.l0] at h
  | k + 1 => by
    have ih0 := laws_toStringS.mono_l k
    · intro y0 y1 y2
      unfold laws_toStringS.l0
      repeat' first
      | (with_reducible exact ih0 _ _ _)
      | (with_reducible exact LeO.refl _)
      | (with_reducible exact LeO.none _)
      | (with_reducible refine LeO.ite ?_ ?_)
      | (with_reducible refine LeO.bind ?_ (fun _ => ?_))
      | exact ih0 _ _ _
      | exact LeO.none _
      | refine LeO.ite ?_ ?_
      | refine LeO.bind ?_ (fun _ => ?_)
theorem laws_toStringS.mono : ∀ a0 k, LeO (laws_toStringS.f k a0) (laws_toStringS.f (k + 1) a0) := by
  intro a0 k
  have ih0 := laws_toStringS.mono_l k
  unfold laws_toStringS.f
  repeat' first
      | (with_reducible exact ih0 _ _ _)
      | (with_reducible exact LeO.refl _)
      | (with_reducible exact LeO.none _)
      | (with_reducible refine LeO.ite ?_ ?_)
      | (with_reducible refine LeO.bind ?_ (fun _ => ?_))
      | exact ih0 _ _ _
      | exact LeO.none _
      | refine LeO.ite ?_ ?_
      | refine LeO.bind ?_ (fun _ => ?_)
set_option maxHeartbeats 8000000 in
set_option maxRecDepth 100000 in
theorem laws_toStringS.calls (k : Nat) (A0 : Option Addr) (c0 : Nat) (l0 : List ByteArray) (r : List ByteArray) (w : World) (hr0 : Kd.C Kd.string w A0 l0.length l0) (hc0 : l0.length ≤ c0) (h : laws_toStringS.f k l0 = some r) :
    Calls Try.prog 11 #[.slice A0 l0.length c0] w fun e w' => ∃ v0_ : Value, e = .returned (v0_) ∧ Kd.R Kd.string 9 w' w.heap.size (fun _ => True) v0_ r ∧ Below w.heap.size w w' := by
  have HR0 := Aside0.mk hr0
  have HC0 := Aside0.mk hc0
  clear hr0 hc0
  have HB := Aside0.mk (Below.refl w.heap.size w)
  have H : (if 0 ≤ (l0.length : Int) then (if ((l0.length : Int) : Int).toNat ≤ 17592186044416 then (laws_toStringS.l0 k l0 (List.replicate ((l0.length : Int) : Int).toNat (⟨#[]⟩ : ByteArray)) 0) else (none)) else (none)) = some r := h
  clear h
  by_cases c2 : 0 ≤ (l0.length : Int)
  · rw [if_pos c2] at H
    have c2b0 := eq_true c2
    have c2b1 : decide (0 ≤ (l0.length : Int)) = true := decide_eq_true c2
    clear c2
    by_cases c3 : ((l0.length : Int) : Int).toNat ≤ 17592186044416
    · rw [if_pos c3] at H
      have c3b0 := eq_true c3
      have c3b1 : decide (((l0.length : Int) : Int).toNat ≤ 17592186044416) = true := decide_eq_true c3
      clear c3
      obtain ⟨y141, hy141⟩ : ∃ y_ : List ByteArray, y_ = (List.replicate ((l0.length : Int) : Int).toNat (⟨#[]⟩ : ByteArray)) := ⟨_, rfl⟩
      replace H : (laws_toStringS.l0 k l0 y141 0) = some r := by first | (rw [hy141]; with_reducible exact H) | (have H2_ := (Option.bind_some _ _).symm.trans H; rw [hy141]; with_reducible exact H2_) | (have H2_ := (Option.bind_some _ _).symm.trans H; with_reducible exact H2_) | with_reducible exact H | (rw [hy141]; exact H) | exact H
      have Ny141 := Aside0.mk hy141
      clear hy141
      have H' := Aside0.mk H
      clear H
      go_enter Try.func11, Try.ntmps11
      go_wp2_with (first | ((with_reducible refine gate_dst (N := 7) rfl ?_); refine Kd.R_make Kd.string _ 9 rfl (N := 7) rfl 25 _ _ rfl (l0.length : Int) rfl rfl Try.underlying25 (.string ⟨#[]⟩) 16 info9 rfl (by decide) (by omega) (⟨#[]⟩ : ByteArray) (ok := fun _ => True) (okp := fun _ => True) rfl (fun _ hk => hk) trivial (of_decide_eq_true (by first | (with_reducible assumption) | assumption)) (Nat.le_trans (Nat.mul_le_mul_right _ (of_decide_eq_true (by first | (with_reducible assumption) | assumption) : (l0.length : Int).toNat ≤ 17592186044416)) (by omega)) (Below.refl _ _) (Nat.le_refl _) ?_; intro v142 w4 ho5 hb hg_ hnew_; clear hg_ hnew_; (first | rw [← Ny141.out] at ho5 | (simp only [Int.reduceToNat] at ho5; rw [← Ny141.out] at ho5)); have n0_ := Aside0.mk (Kd.R_lower ho5 (below_size (by repeat (first | (with_reducible first | exact HB.out | apply below_alloc | apply pw_below_drewN | apply below_drew1) | exact HB.out)))); have n1_ := Aside0.mk (below_step (by repeat (first | (with_reducible first | exact HB.out | apply below_alloc | apply pw_below_drewN | apply below_drew1) | exact HB.out)) hb); clear HB; have HO143 := n0_; have HB := n1_; clear n0_ n1_; clear hb ho5))
      go_loopg [4] k (fun kq v4 w' => ∃ (x3_1 : List ByteArray) (x4_1 : Int), v4 = .int .i64 x4_1 ∧ Aside0 (laws_toStringS.l0 kq l0 x3_1 x4_1 = some r) ∧ Aside0 (kq ≤ k) ∧ Aside0 (Kd.R Kd.string 9 w' w.heap.size (fun _ => True) v142 x3_1) ∧ Aside0 (Below w.heap.size w w'))
      case atStart => exact ⟨(y141), (0), (by first | rfl | (simp; done) | (simp [*]; done)), H', ⟨Nat.le_refl _⟩, ⟨by (with_reducible repeat (first | apply Kd.R_alloc | apply Kd.R_drewN | apply Kd.R_drew)); exact HO143.out⟩, ⟨by repeat (first | (with_reducible first | exact HB.out | apply below_alloc | apply pw_below_drewN | apply below_drew1) | exact HB.out)⟩⟩
      case round =>
        clear H'
        try clear c1
        try clear c2
        try clear c2b0
        try clear c2b1
        try clear p2
        try clear c3
        try clear c3b0
        try clear c3b1
        obtain ⟨x3_1, x4_1, rfl, HA, HK1, HO_3, HB⟩ := hrel
        cases gk with
        | zero => exact absurd HA.out (by simp [laws_toStringS.l0])
        | succ k1 =>
          have H := HA.out
          clear HA
          simp only [laws_toStringS.l0] at H
          by_cases c6 : x4_1 < (l0.length : Int)
          · rw [if_pos c6] at H
            have c6b0 : decide (x4_1 < (l0.length : Int)) = true := decide_eq_true c6
            clear c6
            by_cases c7 : 0 ≤ x4_1
            · rw [if_pos c7] at H
              have c7b0 : decide (0 ≤ x4_1) = true := decide_eq_true c7
              clear c7
              by_cases c8 : x4_1 < (x3_1.length : Int)
              · rw [if_pos c8] at H
                have c8b0 : decide (x4_1 < (x3_1.length : Int)) = true := decide_eq_true c8
                clear c8
                obtain ⟨y145, hy145⟩ : ∃ y_ : List ByteArray, y_ = (x3_1.set (x4_1 : Int).toNat (rdOf ByteArray.empty l0 x4_1)) := ⟨_, rfl⟩
                replace H : (laws_toStringS.l0 k1 l0 y145 (wrap64 (x4_1 + 1))) = some r := by first | (rw [hy145]; with_reducible exact H) | (have H2_ := (Option.bind_some _ _).symm.trans H; rw [hy145]; with_reducible exact H2_) | (have H2_ := (Option.bind_some _ _).symm.trans H; with_reducible exact H2_) | with_reducible exact H | (rw [hy145]; exact H) | exact H
                have Ny145 := Aside0.mk hy145
                clear hy145
                have H' := Aside0.mk H
                clear H
                have p144 : 0 ≤ (x4_1 : Int) := of_decide_eq_true (by first | (with_reducible assumption) | assumption)
                have q144 : x4_1 < (l0.length : Int) := of_decide_eq_true (by first | (with_reducible assumption) | assumption)
                obtain ⟨ad144, e144, hx144_0⟩ := Kd.at_string HR0.out x4_1 p144 q144
                cases e144
                replace hx144_0 := (HB.out.cell (World.block_lt_of_cell? w _ hx144_0)).trans hx144_0
                replace p144 := eq_true p144
                replace q144 := eq_true q144
                have p9 : 0 ≤ (x4_1 : Int) := of_decide_eq_true (by first | (with_reducible assumption) | assumption)
                have q9 : (x4_1 : Int) < ((x3_1.length : Int) : Int) := of_decide_eq_true (by first | (with_reducible assumption) | assumption)
                obtain ⟨go9, co9, eo9, gb9, gl9, cl9, HG9⟩ := Kd.R_form HO_3.out (by omega)
                (first | cases eo9 | (injection eo9 with ea_ en_ ec_; (first | subst ea_ | (injection ea_ with ea_; subst ea_)); subst ec_; clear en_))
                have GB9 := Aside0.mk gb9
                have GG9 := Aside0.mk HG9
                clear gb9 gl9 HG9
                obtain ⟨hx9_0, hf9_0⟩ := Kd.R_celln (⟨#[]⟩ : ByteArray) HO_3.out (x4_1 : Int) p9 q9
                replace p9 := eq_true p9
                replace q9 := eq_true q9
                have HP10 := Kd.R_putg HO_3.out (x4_1 : Int) (rdOf ByteArray.empty l0 x4_1)
                go_wp2_with (first | ((with_reducible refine gate_store (t := 9) (p := 20) rfl ?_); refine store_event (t := 9) (p := 20) (v := ?vo_w11) (w1 := (wr.setCell ⟨go9, (x4_1 : Int).toNat, none⟩ (.string (rdOf ByteArray.empty l0 x4_1)))) ?hg ?ho ?hn ?hr ?_; (case ho => rfl); (case hg => rfl); (case hn => rfl); (case hr => first | (go_simp; done) | (go_simp; rfl)); intro w11 hw; have hg : wr.grownBy w11 (some go9) := (by rw [hw]; exact HP10.2); have hp_ : Kd.R Kd.string 9 w11 w.heap.size (fun _ => True) (.slice (some ⟨go9, 0, none⟩) x3_1.length co9) y145 := (by rw [hw, Ny145.out]; exact HP10.1); clear HP10; have n0_ := Aside0.mk (hp_); have n1_ := Aside0.mk ((by rw [hw]; exact below_set (HB.out) GB9.out : Below w.heap.size w w11)); clear HO_3; clear HB; have HO_3 := n0_; have HB := n1_; clear n0_ n1_; clear hg hw hp_))
                go_roundg k1
                case measure => have := HK1.out; omega
                case rel => exact ⟨(y145), (wrap64 (x4_1 + 1)), (by first | rfl | (simp; done) | (simp [*]; done)), H', ⟨by have := HK1.out; omega⟩, ⟨by (with_reducible repeat (first | apply Kd.R_alloc | apply Kd.R_drewN | apply Kd.R_drew)); exact HO_3.out⟩, ⟨by repeat (first | (with_reducible first | exact HB.out | apply below_alloc | apply pw_below_drewN | apply below_drew1) | exact HB.out)⟩⟩
              · rw [if_neg c8] at H
                exact absurd H (by simp)
            · rw [if_neg c7] at H
              exact absurd H (by simp)
          · rw [if_neg c6] at H
            have c6b0 : decide (x4_1 < (l0.length : Int)) = false := decide_eq_false c6
            clear c6
            obtain rfl := Option.some.inj H
            go_wp2
            go_ret
            exact ⟨_, by first | rfl | (simp [errW_none, errW_some] <;> rfl) | (simp [*, errW_none, errW_some] <;> rfl), by (with_reducible repeat (first | apply Kd.R_alloc | apply Kd.R_drewN | apply Kd.R_drew)); exact HO_3.out, by repeat (first | (with_reducible first | exact HB.out | apply below_alloc | apply pw_below_drewN | apply below_drew1) | exact HB.out)⟩
    · rw [if_neg c3] at H
      exact absurd H (by simp)
  · rw [if_neg c2] at H
    exact absurd H (by simp)
set_option maxHeartbeats 400000 in
theorem all_any (F : Nat) (p : Int → Bool) (hF : ∀ (b : Int) (w : World), 0 ≤ b → b ≤ 255 → Calls Try.prog F #[.int .u8 b] w fun e w' => e = .returned (.bool (p b)) ∧ Drawn0 w w')
    (hE : ∀ args w, (callFunc F args).run Try.prog w = .ok (.enter F args) w) (s : ByteArray) (w : World) (hs : s.size ≤ 9223372036854775807) :
    Calls Try.prog 69 #[.string s, .func (.func F) #[] #[]] w fun e w' => e = .returned (.bool (allFrom p s s.size 0)) ∧ Drawn0 w w' := by
  have HF := Aside0.mk hF
  clear hF
  go_enter Try.func69, Try.ntmps69
  go_wp2
  go_loopg [8, 5] s.size (fun g s8 _ wx => ∃ i : Nat, i + g = s.size ∧ s8 = .int .i64 i ∧ Aside0 (allFrom p s s.size 0 = allFrom p s g i) ∧ Drawn0 w wx)
  case atStart => exact ⟨0, by omega, rfl, ⟨rfl⟩, Drawn0.refl _⟩
  case round =>
    obtain ⟨i, hig, rfl, HR, ⟨m, rfl⟩⟩ := hrel
    cases gk with
    | zero =>
      obtain rfl : i = s.size := by omega
      go_wp2
      go_ret
      exact ⟨by rw [HR.out]; rfl, ⟨⟨m, rfl⟩⟩⟩
    | succ g =>
      have hi : i < s.size := by omega
      have hiz : (i : Int) < s.size := by omega
      have hb : ((s[i]'hi).toNat : Int) = bt s i := by simp [bt, hi]
      obtain ⟨b, hbe⟩ : ∃ b, bt s i = b := ⟨_, rfl⟩
      have hbr := bt_range s i
      rw [hbe] at hb hbr
      have HS : Aside0 (allFrom p s s.size 0 = (p b && allFrom p s g (i + 1))) := ⟨by rw [HR.out, ← hbe]; rfl⟩
      clear hbe HR
      cases hp : p b
      · go_wp2_with ((with_reducible refine (HF.out b _ hbr.1 hbr.2).mono ?_); rintro e w' ⟨rfl, ⟨n, rfl⟩⟩; rw [hp])
        go_ret
        exact ⟨by rw [HS.out, hp]; rfl, ⟨⟨_, rfl⟩⟩⟩
      · go_wp2_with ((with_reducible refine (HF.out b _ hbr.1 hbr.2).mono ?_); rintro e w' ⟨rfl, ⟨n, rfl⟩⟩; rw [hp])
        go_roundg g
        case measure => omega
        case rel => exact ⟨i + 1, by omega, by first | rfl | simp, ⟨by rw [HS.out, hp]; rfl⟩, ⟨⟨_, rfl⟩⟩⟩
def impl_isLetter.f (a0 : Int) : Option (Bool) := if a0 ≥ 97 then (some (decide (a0 ≤ 122))) else (some false)
set_option maxHeartbeats 8000000 in
set_option maxRecDepth 100000 in
theorem impl_isLetter.calls (a0 : Int) (r : Bool) (w : World) (h : impl_isLetter.f a0 = some r) :
    Calls Try.prog 71 #[.int .u8 a0] w fun e w' => e = .returned (.bool r) ∧ Drawn0 w w' := by
  have H : (if a0 ≥ 97 then (some (decide (a0 ≤ 122))) else (some false)) = some r := h
  clear h
  by_cases c2 : a0 ≥ 97
  · rw [if_pos c2] at H
    have c2b0 : decide (97 ≤ a0) = true := decide_eq_true c2
    clear c2
    obtain rfl := Option.some.inj H
    go_enter Try.func71, Try.ntmps71
    go_wp2
    go_ret
    exact ⟨by first | rfl | (simp; done) | (simp [*]; done), by repeat (first | exact Drawn0.refl _ | apply Drawn0.step)⟩
  · rw [if_neg c2] at H
    have c2b0 : decide (97 ≤ a0) = false := decide_eq_false c2
    clear c2
    obtain rfl := Option.some.inj H
    go_enter Try.func71, Try.ntmps71
    go_wp2
    go_ret
    exact ⟨by first | rfl | (simp; done) | (simp [*]; done), by repeat (first | exact Drawn0.refl _ | apply Drawn0.step)⟩
def impl_isDigit.f (a0 : Int) : Option (Bool) := if a0 ≥ 48 then (some (decide (a0 ≤ 57))) else (some false)
set_option maxHeartbeats 8000000 in
set_option maxRecDepth 100000 in
theorem impl_isDigit.calls (a0 : Int) (r : Bool) (w : World) (h : impl_isDigit.f a0 = some r) :
    Calls Try.prog 72 #[.int .u8 a0] w fun e w' => e = .returned (.bool r) ∧ Drawn0 w w' := by
  have H : (if a0 ≥ 48 then (some (decide (a0 ≤ 57))) else (some false)) = some r := h
  clear h
  by_cases c2 : a0 ≥ 48
  · rw [if_pos c2] at H
    have c2b0 : decide (48 ≤ a0) = true := decide_eq_true c2
    clear c2
    obtain rfl := Option.some.inj H
    go_enter Try.func72, Try.ntmps72
    go_wp2
    go_ret
    exact ⟨by first | rfl | (simp; done) | (simp [*]; done), by repeat (first | exact Drawn0.refl _ | apply Drawn0.step)⟩
  · rw [if_neg c2] at H
    have c2b0 : decide (48 ≤ a0) = false := decide_eq_false c2
    clear c2
    obtain rfl := Option.some.inj H
    go_enter Try.func72, Try.ntmps72
    go_wp2
    go_ret
    exact ⟨by first | rfl | (simp; done) | (simp [*]; done), by repeat (first | exact Drawn0.refl _ | apply Drawn0.step)⟩
def impl_isFileName_1.f (a0 : Int) : Option (Bool) := (impl_isLetter.f a0).bind fun t146 => (if t146 = true then (some true) else ((impl_isDigit.f a0).bind fun t147 => (if t147 = true then (some true) else (some (a0 == 45)))))
set_option maxHeartbeats 8000000 in
set_option maxRecDepth 100000 in
theorem impl_isFileName_1.calls (a0 : Int) (r : Bool) (w : World) (h : impl_isFileName_1.f a0 = some r) :
    Calls Try.prog 70 #[.int .u8 a0] w fun e w' => e = .returned (.bool r) ∧ Drawn0 w w' := by
  have H : ((impl_isLetter.f a0).bind fun t146 => (if t146 = true then (some true) else ((impl_isDigit.f a0).bind fun t147 => (if t147 = true then (some true) else (some (a0 == 45)))))) = some r := h
  clear h
  replace H := Option.bind_eq_some_iff.mp H
  obtain ⟨t146, A20, H⟩ := H
  replace H : (if t146 = true then (some true) else ((impl_isDigit.f a0).bind fun t147 => (if t147 = true then (some true) else (some (a0 == 45))))) = some r := H
  have A2 := Aside0.mk A20
  clear A20
  by_cases c3 : t146 = true
  · subst c3
    have H1 : (some true) = some r := by rw [if_pos rfl] at H; exact H
    clear H
    have H := H1
    clear H1
    obtain rfl := Option.some.inj H
    go_enter Try.func70, Try.ntmps70
    go_wp2_with (first | ((with_reducible refine gate_callee (f := 71) rfl ?_); refine goesL_ (some 4) rfl rfl Try.func71 (by kernel_rfl) rfl #[.int .u8 a0] rfl (by (try simp only [List.map_toArray, List.map_cons, List.map_nil]); first | done | rfl | (simp only [List.length_drop, List.length_take]; rfl)) ?_; (with_reducible refine (impl_isLetter.calls a0 true _ A2.out).mono ?_); rintro e w' ⟨rfl, ⟨nd, rfl⟩⟩; refine ⟨_, rfl, ?_⟩))
    go_ret
    exact ⟨by first | rfl | (simp; done) | (simp [*]; done), by repeat (first | exact Drawn0.refl _ | apply Drawn0.step)⟩
  · replace c3 := Bool.eq_false_iff.mpr c3
    subst c3
    have H1 : ((impl_isDigit.f a0).bind fun t147 => (if t147 = true then (some true) else (some (a0 == 45)))) = some r := by rw [if_neg (show ¬ (false = true) by decide)] at H; exact H
    clear H
    have H := H1
    clear H1
    replace H := Option.bind_eq_some_iff.mp H
    obtain ⟨t147, A40, H⟩ := H
    replace H : (if t147 = true then (some true) else (some (a0 == 45))) = some r := H
    have A4 := Aside0.mk A40
    clear A40
    by_cases c5 : t147 = true
    · subst c5
      have H1 : (some true) = some r := by rw [if_pos rfl] at H; exact H
      clear H
      have H := H1
      clear H1
      obtain rfl := Option.some.inj H
      go_enter Try.func70, Try.ntmps70
      go_wp2_with (first | ((with_reducible refine gate_callee (f := 71) rfl ?_); refine goesL_ (some 4) rfl rfl Try.func71 (by kernel_rfl) rfl #[.int .u8 a0] rfl (by (try simp only [List.map_toArray, List.map_cons, List.map_nil]); first | done | rfl | (simp only [List.length_drop, List.length_take]; rfl)) ?_; (with_reducible refine (impl_isLetter.calls a0 false _ A2.out).mono ?_); rintro e w' ⟨rfl, ⟨nd, rfl⟩⟩; refine ⟨_, rfl, ?_⟩) | (go_at_call 72; (with_reducible refine (impl_isDigit.calls a0 true _ A4.out).mono ?_); rintro e w' ⟨rfl, ⟨nd, rfl⟩⟩))
      go_ret
      exact ⟨by first | rfl | (simp; done) | (simp [*]; done), by repeat (first | exact Drawn0.refl _ | apply Drawn0.step)⟩
    · replace c5 := Bool.eq_false_iff.mpr c5
      subst c5
      have H1 : (some (a0 == 45)) = some r := by rw [if_neg (show ¬ (false = true) by decide)] at H; exact H
      clear H
      have H := H1
      clear H1
      obtain rfl := Option.some.inj H
      go_enter Try.func70, Try.ntmps70
      go_wp2_with (first | ((with_reducible refine gate_callee (f := 71) rfl ?_); refine goesL_ (some 4) rfl rfl Try.func71 (by kernel_rfl) rfl #[.int .u8 a0] rfl (by (try simp only [List.map_toArray, List.map_cons, List.map_nil]); first | done | rfl | (simp only [List.length_drop, List.length_take]; rfl)) ?_; (with_reducible refine (impl_isLetter.calls a0 false _ A2.out).mono ?_); rintro e w' ⟨rfl, ⟨nd, rfl⟩⟩; refine ⟨_, rfl, ?_⟩) | (go_at_call 72; (with_reducible refine (impl_isDigit.calls a0 false _ A4.out).mono ?_); rintro e w' ⟨rfl, ⟨nd, rfl⟩⟩))
      go_ret
      exact ⟨by first | rfl | (simp; done) | (simp [*]; done), by repeat (first | exact Drawn0.refl _ | apply Drawn0.step)⟩
theorem fileByte_eq (c : Int) : impl_isFileName_1.f c = some (fileByte c) := by
  unfold impl_isFileName_1.f impl_isLetter.f impl_isDigit.f fileByte
  by_cases h1 : 97 ≤ c <;> by_cases h2 : c ≤ 122 <;> by_cases h3 : 48 ≤ c <;> by_cases h4 : c ≤ 57 <;> simp [h1, h2, h3, h4]
set_option maxHeartbeats 800000 in
theorem isFileName_any (s : ByteArray) (w : World) (hs : s.size ≤ 9223372036854775807) :
    Calls Try.prog 50 #[.string s] w fun e w' => e = .returned (.bool (decide (1 ≤ s.size) && decide (s.size ≤ 30) && allFrom fileByte s s.size 0)) ∧ Drawn0 w w' := by
  have hall : ∀ w, Calls Try.prog 69 #[.string s, .func (.func 70) #[] #[]] w fun e w' => e = .returned (.bool (allFrom fileByte s s.size 0)) ∧ Drawn0 w w' := fun w =>
    all_any _ fileByte (fun b w _ _ => impl_isFileName_1.calls b _ w (fileByte_eq b)) (fun args w => enters_ (fn := Try.f70) (by kernel_rfl) (by rfl) (by rfl) args w) s w hs
  have HA := Aside0.mk hall
  clear hall
  obtain ⟨r, hr⟩ : ∃ r, allFrom fileByte s s.size 0 = r := ⟨_, rfl⟩
  rw [hr] at HA ⊢
  by_cases h1 : 1 ≤ s.size
  · have h1b : decide ((1 : Int) ≤ (s.size : Int)) = true := decide_eq_true (by omega)
    by_cases h2 : s.size ≤ 30
    · have h2b : decide ((s.size : Int) ≤ 30) = true := decide_eq_true (by omega)
      go_enter Try.func50, Try.ntmps50
      go_wp2_with ((with_reducible refine (HA.out _).mono ?_); rintro e w' ⟨rfl, ⟨n, rfl⟩⟩)
      go_ret
      exact ⟨by simp [h1, h2], ⟨⟨_, rfl⟩⟩⟩
    · have h2b : decide ((s.size : Int) ≤ 30) = false := decide_eq_false (by omega)
      go_enter Try.func50, Try.ntmps50
      go_wp2
      go_ret
      exact ⟨by simp [h1, h2], Drawn0.refl _⟩
  · have h1b : decide ((1 : Int) ≤ (s.size : Int)) = false := decide_eq_false (by omega)
    go_enter Try.func50, Try.ntmps50
    go_wp2
    go_ret
    exact ⟨by simp [h1], Drawn0.refl _⟩
def impl_isFileName.f (a0 : ByteArray) : Option Bool := if a0.size ≤ 9223372036854775807 then some (decide (1 ≤ a0.size) && decide (a0.size ≤ 30) && allFrom fileByte a0 a0.size 0) else none
theorem impl_isFileName.calls (a0 : ByteArray) (r : Bool) (w : World) (h : impl_isFileName.f a0 = some r) :
    Calls Try.prog 50 #[.string a0] w fun e w' => e = .returned (.bool r) ∧ Drawn0 w w' := by
  unfold impl_isFileName.f at h
  by_cases hs : a0.size ≤ 9223372036854775807
  · rw [if_pos hs] at h
    obtain rfl := Option.some.inj h
    exact isFileName_any a0 w hs
  · rw [if_neg hs] at h
    exact absurd h (by simp)
end Go.Proofs.Ytmchcoafkaggkaa.L
end
