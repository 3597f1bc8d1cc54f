/- The texts that the proof of the law FnExactGrow rests on, part 6: printed functions with their contracts, words, plain laws; the last part ends in the statement itself. No condition but those that each theorem states. -/
import Derived.Test.YtmchcoafkaggkaaDoorKFnExactGrow5
set_option linter.unusedVariables false
set_option linter.unusedSimpArgs false
section
set_option linter.unusedVariables false
set_option linter.unusedSimpArgs false
namespace Go.Proofs.YtmchcoafkaggkaaDoor
open Go.RowKit Go.ChangeShapes Go.WideShapes Go.Proofs.YtmchcoafkaggkaaDoorW.PrintWords
/-- Whatever reads as a datum of type t is a value of the kind d that is 'good'. -/
def Opens {α : Type} (P : Program) (t : TypeId) (d : Kd α) (good : α → Prop) : Prop :=
  ∀ (H : Type) (enc : TypeId × Value → H) (W : World) (fuel : Nat) (cs : List Value) (x : DataW H × List MemPlace),
    DataW.trod enc P W 0 (fun _ => true) true fuel t cs = some x → ∃ a, d.K W a cs ∧ good a
theorem opens_int {P : Program} {t : TypeId} {k : IntKind} (ht : P.underlying t = some (.int k)) : Opens P t (Kd.int k) (fun n => (Lit.int k n).wf = true) :=
  fun H enc W fuel cs x h => by
    obtain ⟨n, rfl, _, hw⟩ := DataW.trod_int ht h
    exact ⟨n, rfl, hw⟩
theorem opens_string {P : Program} {t : TypeId} (ht : P.underlying t = some .string) : Opens P t Kd.string (fun s => s.size ≤ maxLen) :=
  fun H enc W fuel cs x h => by
    obtain ⟨n, rfl, _, hw⟩ := DataW.trod_string ht h
    exact ⟨n, rfl, hw⟩
theorem cells_of_some {W : World} {a : Addr} {n : Nat} {cs : List Value} (h : W.cells? 0 a n = some cs) : cs.length = n ∧ ∀ i u, cs[i]? = some u → W.cell? (a.add i) = some u := by
  unfold World.cells? at h
  rw [if_pos (Nat.zero_le _)] at h
  have hl := mapM_some_length h
  rw [List.length_range] at hl
  refine ⟨hl, fun i u hu => ?_⟩
  have hi : i < n := by
    rcases Nat.lt_or_ge i n with h' | h'
    · exact h'
    · rw [List.getElem?_eq_none (by omega)] at hu; cases hu
  have := mapM_some_get h i i (by simp [hi])
  rw [this]; exact hu
theorem opens_slice {α : Type} {P : Program} {t e : TypeId} {d : Kd α} {good : α → Prop} [Inhabited α] (ht : P.underlying t = some (.slice e)) (hc : P.cellsOf e = d.sz) (he : Opens P e d good) :
    Opens P t (Kd.slice e d) (fun l => ∀ a ∈ l, good a) :=
  fun H enc W fuel cs x h => by
    rcases Go.Deep.open_slice ht h with ⟨rfl, _⟩ | ⟨a, len, cap, m, n, D, Pl, rfl, _, hlc, hm, hmm, _, hel⟩
    · exact ⟨[], ⟨none, 0, rfl, Nat.le_refl _, rfl, by simp, fun h => absurd h (by simp)⟩, fun a ha => by cases ha⟩
    · have hmc : m = cap := by simpa using hmm
      subst hmc
      have hx : ∀ i, i < len → ∃ y : α, (∃ cs', W.cells? 0 (a.add (i * P.cellsOf e)) (P.cellsOf e) = some cs' ∧ d.K W y cs') ∧ good y := fun i hi => by
        obtain ⟨cs', h1, h2⟩ := hel i (by omega)
        obtain ⟨y, hy, hg⟩ := he H enc W n cs' _ h2
        exact ⟨y, ⟨cs', h1, hy⟩, hg⟩
      obtain ⟨f, hf⟩ := Go.Deep.choose_lt hx
      have hlen : ((List.range len).map f).length = len := by simp
      refine ⟨(List.range len).map f, ⟨some a, m, by rw [hlen], by rw [hlen]; exact hlc, ?_⟩, fun y hy => ?_⟩
      · refine ⟨rfl, by rw [hlen]; unfold maxLen at hm; omega, fun _ => ⟨a, rfl, fun j p hp => ?_⟩⟩
        have hj : j < len := by
          rcases Nat.lt_or_ge j len with h' | h'
          · exact h'
          · rw [List.getElem?_eq_none (by omega)] at hp; cases hp
        have hpe : f j = p := by simpa [hj] using hp
        obtain ⟨⟨cs', h1, h2⟩, _⟩ := hf j hj
        obtain ⟨hl', hcell⟩ := cells_of_some h1
        refine ⟨cs', by rw [hl', hc], hpe ▸ h2, fun i u hu => ?_⟩
        have := hcell i u hu
        rw [Go.Deep.add_add, hc] at this
        exact this
      · obtain ⟨j, hj, rfl⟩ := List.mem_map.1 hy
        exact (hf j (List.mem_range.1 hj)).2
/-- Two cuts of a list, one behind the other. -/
theorem take_drop_add {α : Type} (cs : List α) (m n : Nat) : (cs.drop m).take n ++ cs.drop (m + n) = cs.drop m := by
  rw [← List.drop_drop]; exact List.take_append_drop n (cs.drop m)
/-- The fields from number i on, of a struct, one kind a field. -/
def OpensF {α : Type} (P : Program) (fs : Array Field) (i off : Nat) (d : Kd α) (good : α → Prop) : Prop :=
  ∀ (H : Type) (enc : TypeId × Value → H) (W : World) (n : Nat) (cs : List Value) (xs : List (DataW H × List MemPlace)), off ≤ cs.length → cs.length - off = d.sz → xs.length = fs.size →
    (∀ (j : Nat) (f : Field), fs[j]? = some f → DataW.trod enc P W 0 (fun _ => true) true n f.type ((cs.drop f.offset).take (P.cellsOf f.type)) = xs[j]?) → ∃ a, d.K W a (cs.drop off) ∧ good a
theorem opensF_last {α : Type} {P : Program} {fs : Array Field} {i off : Nat} {d : Kd α} {good : α → Prop} (f : Field) (hf : fs[i]? = some f) (ho : f.offset = off) (hc : P.cellsOf f.type = d.sz) (h : Opens P f.type d good) :
    OpensF P fs i off d good := fun H enc W n cs xs hle hl hx hg => by
  have hi : i < fs.size := by
    rcases Nat.lt_or_ge i fs.size with h' | h'
    · exact h'
    · rw [Array.getElem?_eq_none h'] at hf; cases hf
  have h1 := hg i f hf
  have hxi : xs[i]? = some (xs[i]'(by omega)) := List.getElem?_eq_getElem (by omega)
  rw [hxi, ho, hc, List.take_of_length_le (by simp; omega)] at h1
  exact h H enc W n _ _ h1
theorem opensF_cons {α β : Type} {P : Program} {fs : Array Field} {i off : Nat} {d : Kd α} {good : α → Prop} {d' : Kd β} {good' : β → Prop} (f : Field) (hf : fs[i]? = some f) (ho : f.offset = off) (hc : P.cellsOf f.type = d.sz)
    (h : Opens P f.type d good) (h' : OpensF P fs (i + 1) (off + d.sz) d' good') : OpensF P fs i off (Kd.pair d d') (fun x => good x.1 ∧ good' x.2) := fun H enc W n cs xs hle hl hx hg => by
  have hi : i < fs.size := by
    rcases Nat.lt_or_ge i fs.size with h' | h'
    · exact h'
    · rw [Array.getElem?_eq_none h'] at hf; cases hf
  have h1 := hg i f hf
  have hxi : xs[i]? = some (xs[i]'(by omega)) := List.getElem?_eq_getElem (by omega)
  rw [hxi, ho, hc] at h1
  obtain ⟨a, ha, hga⟩ := h H enc W n _ _ h1
  have hs : cs.length - off = d.sz + d'.sz := hl
  obtain ⟨b, hb, hgb⟩ := h' H enc W n cs xs (by omega) (by omega) hx hg
  exact ⟨(a, b), ⟨(cs.drop off).take d.sz, cs.drop (off + d.sz), (take_drop_add cs off d.sz).symm, ha, hb⟩, hga, hgb⟩
theorem opens_struct {α : Type} {P : Program} {t : TypeId} {fs : Array Field} {d : Kd α} {good : α → Prop} (ht : P.underlying t = some (.struct fs)) (hc : P.cellsOf t = d.sz) (h : OpensF P fs 0 0 d good) : Opens P t d good :=
  fun H enc W fuel cs x hx => by
    obtain ⟨xs, n, _, _, hl, hxl, hg⟩ := DataW.trod_struct ht hx
    have := h H enc W n cs xs (Nat.zero_le _) (by omega) hxl hg
    simpa using this
theorem len_le {α : Type} {d : Kd α} {W : World} {A : Option Addr} {l : List α} (h : d.C W A l.length l) : l.length ≤ maxLen := by
  have := h.2.1
  unfold maxLen
  omega
end Go.Proofs.YtmchcoafkaggkaaDoor
end
section
set_option linter.unusedVariables false
namespace Go.Proofs.YtmchcoafkaggkaaDoor
open Go Go.RowKit
theorem kw_named : Tryd.prog.globalNamed "loop.example/s02884/impl.roundWords" = some 1 := by kernel_rfl
theorem kw_type : (Tryd.prog.globals[1]?).map (·.type) = some 154 := by kernel_rfl
theorem kw_cells : Tryd.prog.cellsOf 137 = 1 := by kernel_rfl
theorem kw_cells64 : Tryd.prog.cellsOf 154 = 64 := by kernel_rfl
theorem gok_of_laid {W : World} (h : laidMetH Tryd.prog [("loop.example/s02884/impl.roundWords", Rows.laid_loop_example_s02884_impl_roundWords)] W) : GOK W := by
  rw [MakeChecks.laidMetH_plain _ _ _ (by kernel_rfl)] at h
  have hT := Lib.tabIs_of_head (k := .u32) (zs := kw) (rest := []) kw_named kw_type Tryd.underlying154 Tryd.underlying137 kw_cells kw_cells64 h
  exact fun i hi => hT.cell kw_named i hi
end Go.Proofs.YtmchcoafkaggkaaDoor
end
section
set_option linter.unusedVariables false
set_option linter.unusedSimpArgs false
namespace Go.Proofs.YtmchcoafkaggkaaDoor.fnExactGrow
open Go.ChangeShapes Go.WideShapes Go.ChangeAt Go.RowKit Go.Proofs.YtmchcoafkaggkaaDoor Go.Proofs.YtmchcoafkaggkaaDoor.L Go.Proofs.YtmchcoafkaggkaaDoorW.PrintWords
open Go.ChangeMaps (open_string shut_string)
/-- THE ONE PURE STATEMENT of the law: no memory, no Go. -/
def Pure0 : Prop := ∀ (a0 : Int) (a1_0 : Int) (l1_1 : List ByteArray) (a2 : ByteArray), (Lit.int .i64 a0).wf = true → (Lit.int .i64 a1_0).wf = true → l1_1.length ≤ maxLen → (∀ y ∈ l1_1, y.size ≤ maxLen) → a2.size ≤ maxLen → ∃ k, laws_FnExactGrow.f k a0 a1_0 l1_1 a2 = some true
theorem own : ownKnob Tryd.prog.godebug = none := by kernel_rfl
theorem laidOut : laidOutB Tryd.prog = true := by kernel_rfl
/-- The door's own heap meets the condition. -/
theorem door_met (os : Os) (args : Array Value) : laidMetH Tryd.prog Rows.fnExactGrowRow.laid ((World.doorLaid Tryd.prog 104 os).forCall (fun _ _ => 0) ⟨#[], args, []⟩).memory :=
  laidMetH_of_parts3 (fuel := 8) (laidMet_of_run' 8 (by kernel_rfl) (by kernel_rfl)) (by kernel_rfl) (by kernel_rfl)
set_option maxRecDepth 100000 in
theorem lifted (Q : Pure0) (os : Os) (started : os.Started) (H : Type) (enc : TypeId × Value → H) :
    ReturnsInHanded {} Tryd.checked os 4 .any (fun w args => (Rows.fnExactGrowSpec.pre enc Tryd.prog Tryd.f4 [] false w args ∧ laidMetH Tryd.prog Rows.fnExactGrowRow.laid w) ∧ sizedMet enc Tryd.prog Tryd.f4 (OpenSpec.ofChange Rows.fnExactGrowSpec) false w args) (Rows.fnExactGrowSpec.post enc Tryd.prog Tryd.f4 false true false false) := by
  refine returnsInHanded_of_change_and (C := Tryd.checked) (X := fun w _ => laidMetH Tryd.prog Rows.fnExactGrowRow.laid w) (fun _ _ _ hh h => h.of_heap hh) own started (by kernel_rfl) Tryd.func4
    (ChangeSpec.witness_shaped (enc := enc) (C := Tryd.checked) (os := os) (X := fun w _ => laidMetH Tryd.prog Rows.fnExactGrowRow.laid w) false (World.doorLaid Tryd.prog 104 os) #[.int .i64 0, .agg #[.int .i64 0, .slice none 0 0], .string ByteArray.empty] 8 rfl (World.shaped_of_RefB (by kernel_rfl) (by kernel_rfl)) (by kernel_rfl) (by kernel_rfl) (by kernel_rfl) (door_met os _)) ?_
  intro W base args ds gs before hval0 hW _ _ hL _
  have hval : ∀ (j : Nat) t v, Tryd.f4.params[j]? = some t → args[j]? = some v → Value.okWide Tryd.prog W .any base t v := hval0
  have hW' := hW
  obtain ⟨p, q, hA0, hV, rfl, hfz, hnd⟩ := hW
  have hA : DataW.TrodAll enc Tryd.prog W 0 (fun _ => true) true Tryd.f4.params.toList args.toList ds p := hA0
  rw [Tryd.params4] at hA hval
  obtain ⟨v0, vs0, d0, ds0, p0, q0, hargs, rfl, rfl, h0, r0⟩ := trodAll_cons hA
  obtain ⟨v1, vs1, d1, ds1, p1, q1, rfl, rfl, rfl, h1, r1⟩ := trodAll_cons r0
  obtain ⟨v2, vs2, d2, ds2, p2, q2, rfl, rfl, rfl, h2, r2⟩ := trodAll_cons r1
  obtain ⟨rfl, rfl, rfl⟩ := trodAll_nil r2
  obtain rfl : args = #[v0, v1, v2] := by cases args; simp_all
  have hV' := hV
  obtain ⟨g_, t_, cs_, fuel_, dg1, p_, rfl, _⟩ := trodVars_one hV'
  have hG := gok_of_laid hL
  obtain ⟨a0, rfl, rfl, rfl, w0⟩ := open_int Tryd.underlying3 (hval 0 3 v0 rfl rfl) h0
  have k1 := h1
  have lt1 : ∀ x ∈ p1, x.block < W.heap.size := by obtain ⟨m, hm⟩ := k1; exact DataW.trod_lt m _ _ _ hm
  obtain ⟨cs1, rfl, hsz1⟩ := okWide_struct Tryd.underlying24 (hval 1 24 v1 rfl rfl)
  obtain ⟨fuel1, hf1⟩ := h1
  obtain ⟨x1, hK1, hg1⟩ := (opens_struct Tryd.underlying24 (by kernel_rfl) (opensF_cons _ rfl rfl (by kernel_rfl) (opens_int Tryd.underlying3) (opensF_last _ rfl rfl (by kernel_rfl) (opens_slice Tryd.underlying22 (by kernel_rfl) (opens_string Tryd.underlying9))))) H enc W fuel1 cs1.toList _ (by simpa [Value.cells] using hf1)
  obtain ⟨e1_, f1_, hcs1, rfl, ⟨A1_1, c1_1, rfl, hc1_1, hr1_1⟩⟩ := hK1
  obtain rfl : cs1 = #[.int .i64 x1.1, .slice A1_1 x1.2.length c1_1] := by
    have h_ := congrArg List.toArray hcs1
    simpa using h_
  clear hcs1 hsz1
  obtain ⟨a2, rfl, rfl, rfl, w2⟩ := open_string Tryd.underlying9 (hval 2 9 v2 rfl rfl) h2
  clear hA0 hval0
  obtain ⟨k, hk⟩ := Q a0 (x1.1) (x1.2) a2 w0 hg1.1 (len_le hr1_1) hg1.2 w2
  refine (laws_FnExactGrow.calls k a0 (x1.1) A1_1 c1_1 (x1.2) a2 true W hG hr1_1 hc1_1 hk).mono fun e W' he => ?_
  obtain ⟨rfl, bel0⟩ := he
  have bel : Below W.heap.size W W' := bel0
  exact ⟨_, rfl, _, _, _, [], _, _, hW', trodAll_mk1 (shut_bool Tryd.underlying4 _), (trodAll_cons_mk (shut_int Tryd.underlying3 w0) (trodAll_cons_mk (Below.trod laidOut (by kernel_rfl) (of_decide_eq_true (by kernel_rfl)) k1 bel lt1) (trodAll_cons_mk (shut_string Tryd.underlying9 w2) trodAll_mk0))), Below.trodVars laidOut bel (by kernel_rfl) hV, bel.frame _, fun h => by cases h⟩
theorem over (Q : Pure0) : Rows.fnExactGrowRow.holds Tryd.pinned (OpenSpec.ofChange Rows.fnExactGrowSpec) :=
  OpenClaim.holds_of_wide 4 Tryd.f4 rfl rfl rfl rfl rfl rfl rfl ⟨rfl, rfl, rfl, rfl, rfl⟩ rfl rfl rfl rfl rfl (by kernel_rfl) Tryd.func4 (by kernel_rfl)
    (of_decide_eq_true (by kernel_rfl)) (by unfold Func.isWrapper; first | (rw [if_pos (by decide +kernel)]; kernel_rfl) | (rw [if_neg (by decide +kernel)]; exact ⟨rfl, rfl⟩))
    (fun os started H enc _ => lifted Q os started H enc)
/-- The tied card. -/
theorem card (Q : Pure0) : Rows.FnExactGrowCardSaid :=
  Claim7.holds_tied_plain_at .later [] [.data] true (true, "e46ca5e1bfd85a7d8aefe4f7b41fc4a13f6e73b2e4b06bcec9b8379554af815e") false (over Q) (fun _ h => by cases h) (by kernel_rfl) (fun _ h => by cases h) fnExactGrow_row_tie rfl ⟨rfl, rfl⟩ (by kernel_rfl) rfl
    (fun f fn hf hfn => by
      obtain rfl : f = 4 := Option.some.inj ((show Tryd.prog.funcNamed "loop.example/s02884/laws.FnExactGrow" = some 4 by kernel_rfl).symm.trans hf) |>.symm
      obtain rfl : fn = Tryd.f4 := (Option.some.inj (Tryd.func4.symm.trans hfn)).symm
      refine ⟨by kernel_rfl, fun j t ht => ?_⟩
      rw [Tryd.params4] at ht
      have ha : (#[3, 24, 9] : Array TypeId).all (fun t => !Tryd.prog.wantsStandIn t) = true := by kernel_rfl
      have h1 := (Array.all_eq_true_iff_forall_mem.1 ha) t (Array.mem_of_getElem? ht)
      have h2 : Tryd.prog.wantsStandIn t = false := by simpa using h1
      exact h2)
    (by kernel_rfl)
end Go.Proofs.YtmchcoafkaggkaaDoor.fnExactGrow
end
section
set_option linter.unusedVariables false
set_option linter.unusedSimpArgs false
namespace Go.Proofs.YtmchcoafkaggkaaDoor.Pure
open Go Go.RowKit Go.Proofs.YtmchcoafkaggkaaDoor Go.Proofs.YtmchcoafkaggkaaDoor.L Go.Proofs.YtmchcoafkaggkaaDoorW.PrintWords Go.Proofs.YtmchcoafkaggkaaDoorW.PrintMore Go.Proofs.YtmchcoafkaggkaaDoorW.PrintLast
def ls (n : Nat) (f : Nat → Int) : List Int := (List.range n).map f
theorem ls_len (n : Nat) (f : Nat → Int) : (ls n f).length = n := by simp [ls]
theorem rd_ls (n : Nat) (f : Nat → Int) (i : Nat) (h : i < n) : rd (ls n f) (i : Int) = f i := by
  simp [rd, ls, List.getD, h]
theorem ls_snoc (n : Nat) (f : Nat → Int) (v : Int) (h : f n = v) : ls n f ++ [v] = ls (n + 1) f := by
  subst h
  simp [ls, List.range_succ]
theorem or_comm32 (a b : Int) : Go.bits .or .u32 a b = Go.bits .or .u32 b a := by
  simp only [Go.bits, BitVec.or_comm]
theorem turn_eq (x : Int) (n : Int) (h0 : 0 ≤ n) (h1 : n ≤ 32) : spec_l1Turn.f x n = some (rotI x n) := by
  have hw : wrap64 (32 - n) = 32 - n := by unfold wrap64; omega
  rw [spec_l1Turn.f, if_pos h0, hw, if_pos (by omega), rotI, or_comm32]
/-- The number that so many bytes from 'at' on make, the first the highest. -/
def getN (s : ByteArray) (at_ : Int) : Nat → Int
  | 0 => 0
  | i + 1 => getN s at_ i * 256 + bt s (at_ + i)
theorem getN_range (s : ByteArray) (at_ : Int) (i : Nat) : 0 ≤ getN s at_ i ∧ getN s at_ i < 256 ^ i := by
  induction i with
  | zero => simp [getN]
  | succ i ih =>
    have hb := bt_range s (at_ + i)
    rw [getN, Int.pow_succ]
    omega
theorem getN_le (s : ByteArray) (at_ : Int) (i : Nat) (hi : i ≤ 4) : 0 ≤ getN s at_ i ∧ getN s at_ i < 4294967296 := by
  have h := getN_range s at_ i
  have : i = 0 ∨ i = 1 ∨ i = 2 ∨ i = 3 ∨ i = 4 := by omega
  rcases this with rfl | rfl | rfl | rfl | rfl <;> omega
theorem get_l0 (s : ByteArray) (a : Nat) (ha : a + 4 ≤ s.size) (hs : s.size ≤ 1000) (d : Nat) : ∀ i : Nat, i + d = 4 →
    Ev (fun k => spec_l1Get.l0 k s (a : Int) 4 (getN s a i) (i : Int)) (getN s a 4) := by
  induction d with
  | zero =>
    intro i hi
    obtain rfl : i = 4 := by omega
    refine Ev.step (f := fun _ => some (getN s a 4)) (fun k => ?_) (Ev.now _)
    rw [spec_l1Get.l0, if_neg (by omega)]
  | succ d ih =>
    intro i hi
    have c1 : (i : Int) < 4 := by omega
    have c2 : 0 ≤ (a : Int) + (i : Int) := by omega
    have c3 : (a : Int) + (i : Int) < (s.size : Int) := by omega
    have hg := getN_le s a i (by omega)
    have hb := bt_range s ((a : Int) + (i : Int))
    have w1 : wrap64 ((a : Int) + (i : Int)) = (a : Int) + (i : Int) := by unfold wrap64; omega
    have w2 : wrap64 (bt s ((a : Int) + (i : Int))) = bt s ((a : Int) + (i : Int)) := by unfold wrap64; omega
    have w3 : wrap64 (getN s a i * 256) = getN s a i * 256 := by unfold wrap64; omega
    have w4 : wrap64 (getN s a i * 256 + bt s ((a : Int) + (i : Int))) = getN s a (i + 1) := by
      rw [getN]; unfold wrap64; omega
    have w5 : wrap64 ((i : Int) + 1) = ((i + 1 : Nat) : Int) := by unfold wrap64; omega
    refine Ev.step (f := fun k => spec_l1Get.l0 k s (a : Int) 4 (getN s a (i + 1)) ((i + 1 : Nat) : Int)) (fun k => ?_) (ih (i + 1) (by omega))
    rw [spec_l1Get.l0, if_pos c1, w1, if_pos c2, if_pos c3, w2, w3, w4, w5]
theorem get_ev (s : ByteArray) (a : Nat) (ha : a + 4 ≤ s.size) (hs : s.size ≤ 1000) : Ev (fun k => spec_l1Get.f k s (a : Int) 4) (getN s a 4) := by
  have h := get_l0 s a ha hs 4 0 (by omega)
  exact Ev.congr (f := fun k => spec_l1Get.l0 k s (a : Int) 4 (getN s a 0) ((0 : Nat) : Int)) (fun k => rfl) h
theorem or_bytes (a b : Int) (ha : 0 ≤ a) (ha2 : a < 16777216) (hb : 0 ≤ b) (hb2 : b ≤ 255) : Go.bits .or .u32 (a * 256 % 4294967296) (b % 4294967296) = a * 256 + b := by
  obtain ⟨x, rfl⟩ := Int.eq_ofNat_of_zero_le ha
  obtain ⟨y, rfl⟩ := Int.eq_ofNat_of_zero_le hb
  have h1 : ((x : Int) * 256 % 4294967296) = ((x * 256 : Nat) : Int) := by omega
  have h2 : ((y : Int) % 4294967296) = ((y : Nat) : Int) := by omega
  have hx : x * 256 < 4294967296 := by omega
  have hy : y < 4294967296 := by omega
  have hor : x * 256 ||| y = x * 256 + y := by
    have := Nat.two_pow_add_eq_or_of_lt (i := 8) (b := y) (by omega) x
    rw [Nat.mul_comm x 256]
    exact this.symm
  show Go.bits .or .u32 ((x : Int) * 256 % 4294967296) ((y : Int) % 4294967296) = (x : Int) * 256 + (y : Int)
  rw [h1, h2]
  simp only [Go.bits, BitVec.ofInt_natCast, BitVec.toNat_or, BitVec.toNat_ofNat]
  rw [Nat.mod_eq_of_lt (show x * 256 < 2 ^ IntKind.u32.bits from hx), Nat.mod_eq_of_lt (show y < 2 ^ IntKind.u32.bits from hy), hor, IntKind.wrap_u32]
  omega
theorem ld_get (b : ByteArray) (j : Nat) (k : Nat) (hk : k ≤ 4) : ld b j k = getN b ((4 * j : Nat) : Int) k := by
  induction k with
  | zero => rfl
  | succ k ih =>
    have hg := getN_range b ((4 * j : Nat) : Int) k
    have hb := bt_range b (((4 * j : Nat) : Int) + k)
    have hlt : getN b ((4 * j : Nat) : Int) k < 16777216 := by
      have : k = 0 ∨ k = 1 ∨ k = 2 ∨ k = 3 := by omega
      rcases this with rfl | rfl | rfl | rfl <;> omega
    rw [ld, getN, ih (by omega), show 4 * (j : Int) + (k : Int) = ((4 * j : Nat) : Int) + k from by omega, or_bytes _ _ hg.1 hlt hb.1 hb.2]
theorem wst_keep (b : ByteArray) (n d : Nat) : ∀ j, j < n + 16 → wst b (n + d) j = wst b n j := by
  induction d with
  | zero => intro j _; rfl
  | succ d ih =>
    intro j hj
    show wst b ((n + d) + 1) j = _
    rw [wst]
    show (if j = n + d + 16 then _ else wst b (n + d) j) = _
    rw [if_neg (by omega)]
    exact ih j hj
theorem word_low (b : ByteArray) (t : Nat) (ht : t < 16) : wst b 48 t = getN b ((4 * t : Nat) : Int) 4 := by
  have := wst_keep b 0 48 t (by omega)
  rw [show 0 + 48 = 48 from rfl] at this
  rw [this, wst, ph1, if_pos ht, ld_get b t 4 (by omega)]
theorem word_high (b : ByteArray) (t : Nat) (ht : 16 ≤ t) (h64 : t < 64) : wst b 48 t = wnx (wst b 48) t := by
  obtain ⟨n, rfl⟩ : ∃ n, t = n + 16 := ⟨t - 16, by omega⟩
  have k1 := wst_keep b (n + 1) (47 - n) (n + 16) (by omega)
  rw [show n + 1 + (47 - n) = 48 from by omega] at k1
  have k2 : ∀ j, j < n + 16 → wst b 48 j = wst b n j := fun j hj => by
    have := wst_keep b n (48 - n) j hj
    rwa [show n + (48 - n) = 48 from by omega] at this
  rw [k1, wst]
  show (if n + 16 = n + 16 then wnx (wst b n) (n + 16) else _) = _
  rw [if_pos rfl, wnx, wnx, k2 (n + 16 - 16) (by omega), k2 (n + 16 - 15) (by omega), k2 (n + 16 - 7) (by omega), k2 (n + 16 - 2) (by omega)]
theorem words_l0 (b : ByteArray) (hb : b.size = 64) (d : Nat) : ∀ t : Nat, t + d = 64 → Ev (fun k => spec_l1Words.l0 k b (ls t (wst b 48)) (t : Int)) (ls 64 (wst b 48)) := by
  induction d with
  | zero =>
    intro t ht
    obtain rfl : t = 64 := by omega
    refine Ev.step (f := fun _ => some (ls 64 (wst b 48))) (fun k => ?_) (Ev.now _)
    rw [spec_l1Words.l0, if_neg (by omega)]
  | succ d ih =>
    intro t ht
    have w5 : wrap64 ((t : Int) + 1) = ((t + 1 : Nat) : Int) := by unfold wrap64; omega
    have hlen := ls_len t (wst b 48)
    by_cases h16 : t < 16
    · have w4 : wrap64 (4 * (t : Int)) = ((4 * t : Nat) : Int) := by unfold wrap64; omega
      have hg := getN_le b ((4 * t : Nat) : Int) 4 (by omega)
      refine Ev.step (f := fun k => (spec_l1Get.f k b ((4 * t : Nat) : Int) 4).bind fun v => if (ls t (wst b 48)).length < 35184372088832 then spec_l1Words.l0 k b (ls t (wst b 48) ++ [v % 4294967296]) ((t + 1 : Nat) : Int) else none) (fun k => ?_) ?_
      · rw [spec_l1Words.l0, if_pos (by omega), if_pos (by omega), w4, w5]
      · refine (get_ev b (4 * t) (by omega) (by omega)).bind ?_
        have hs := ls_snoc t (wst b 48) (getN b ((4 * t : Nat) : Int) 4 % 4294967296) (by rw [word_low b t h16]; omega)
        simp only [hlen, if_pos (show t < 35184372088832 by omega), hs]
        exact ih (t + 1) (by omega)
    · have e15 : wrap64 ((t : Int) - 15) = ((t - 15 : Nat) : Int) := by unfold wrap64; omega
      have e2 : wrap64 ((t : Int) - 2) = ((t - 2 : Nat) : Int) := by unfold wrap64; omega
      have e16 : wrap64 ((t : Int) - 16) = ((t - 16 : Nat) : Int) := by unfold wrap64; omega
      have e7 : wrap64 ((t : Int) - 7) = ((t - 7 : Nat) : Int) := by unfold wrap64; omega
      refine Ev.step (f := fun k => spec_l1Words.l0 k b (ls (t + 1) (wst b 48)) ((t + 1 : Nat) : Int)) (fun k => ?_) (ih (t + 1) (by omega))
      rw [spec_l1Words.l0, if_pos (by omega), if_neg (by omega), e15, e2, e16, e7, w5, hlen, if_pos (by omega), if_pos (by omega), if_pos (by omega), if_pos (by omega)]
      rw [rd_ls _ _ (t - 15) (by omega), rd_ls _ _ (t - 2) (by omega), rd_ls _ _ (t - 16) (by omega), rd_ls _ _ (t - 7) (by omega)]
      simp only [turn_eq _ 7 (by decide) (by decide), turn_eq _ 18 (by decide) (by decide), turn_eq _ 17 (by decide) (by decide), turn_eq _ 19 (by decide) (by decide), Option.bind_some]
      rw [if_pos (by omega), if_pos (by omega), if_pos (by omega), if_pos (by omega), if_pos (by omega)]
      rw [ls_snoc t (wst b 48) _ (by rw [word_high b t (by omega) (by omega), wnx])]
theorem words_ev (b : ByteArray) (hb : b.size = 64) : Ev (fun k => spec_l1Words.f k b) (ls 64 (wst b 48)) := by
  refine Ev.congr (fun k => ?_) (words_l0 b hb 64 0 (by omega))
  rw [spec_l1Words.f]
  rfl
theorem keys_eq : spec_l1Keys.f = some kw := by
  unfold spec_l1Keys.f
  rfl
theorem ls8 (f : Nat → Int) : ls 8 f = [f 0, f 1, f 2, f 3, f 4, f 5, f 6, f 7] := rfl
theorem kw_len : kw.length = 64 := rfl
theorem block_l1 (st g : Nat → Int) (d : Nat) : ∀ i : Nat, i + d = 8 →
    Ev (fun k => spec_l1Block.l1 k (ls 8 st) (ls 8 g) (ls i (fin g st 8)) 8 (i : Int)) (ls 8 (fin g st 8)) := by
  induction d with
  | zero =>
    intro i hi
    obtain rfl : i = 8 := by omega
    refine Ev.step (f := fun _ => some (ls 8 (fin g st 8))) (fun k => ?_) (Ev.now _)
    rw [spec_l1Block.l1, if_neg (by omega)]
  | succ d ih =>
    intro i hi
    have w5 : wrap64 ((i : Int) + 1) = ((i + 1 : Nat) : Int) := by unfold wrap64; omega
    refine Ev.step (f := fun k => spec_l1Block.l1 k (ls 8 st) (ls 8 g) (ls (i + 1) (fin g st 8)) 8 ((i + 1 : Nat) : Int)) (fun k => ?_) (ih (i + 1) (by omega))
    rw [spec_l1Block.l1, if_pos (by omega), if_pos (by omega), ls_len, ls_len, ls_len, if_pos (by omega), if_pos (by omega), if_pos (by omega), rd_ls 8 g i (by omega), rd_ls 8 st i (by omega), w5]
    rw [ls_snoc i (fin g st 8) _ (by simp [fin]; omega)]
theorem block_l0 (st W : Nat → Int) (d : Nat) : ∀ t : Nat, t + d = 64 →
    Ev (fun k => spec_l1Block.l0 k (ls 8 st) kw (ls 8 (rds st W t)) (ls 64 W) 64 (t : Int)) (ls 8 (fin (rds st W 64) st 8)) := by
  induction d with
  | zero =>
    intro t ht
    obtain rfl : t = 64 := by omega
    refine Ev.step (f := fun k => spec_l1Block.l1 k (ls 8 st) (ls 8 (rds st W 64)) (ls 0 (fin (rds st W 64) st 8)) 8 ((0 : Nat) : Int)) (fun k => ?_) (block_l1 st (rds st W 64) 8 0 rfl)
    rw [spec_l1Block.l0, if_neg (by omega), ls_len]
    rfl
  | succ d ih =>
    intro t ht
    have w5 : wrap64 ((t : Int) + 1) = ((t + 1 : Nat) : Int) := by unfold wrap64; omega
    refine Ev.step (f := fun k => spec_l1Block.l0 k (ls 8 st) kw (ls 8 (rds st W (t + 1))) (ls 64 W) 64 ((t + 1 : Nat) : Int)) (fun k => ?_) (ih (t + 1) (by omega))
    obtain ⟨g, hg⟩ : ∃ g, rds st W t = g := ⟨_, rfl⟩
    have hk : rd kw (t : Int) = kw.getD t 0 := by simp [rd]
    have r0 : rd (ls 8 g) 0 = g 0 := rd_ls 8 g 0 (by omega)
    have r1 : rd (ls 8 g) 1 = g 1 := rd_ls 8 g 1 (by omega)
    have r2 : rd (ls 8 g) 2 = g 2 := rd_ls 8 g 2 (by omega)
    have r3 : rd (ls 8 g) 3 = g 3 := rd_ls 8 g 3 (by omega)
    have r4 : rd (ls 8 g) 4 = g 4 := rd_ls 8 g 4 (by omega)
    have r5 : rd (ls 8 g) 5 = g 5 := rd_ls 8 g 5 (by omega)
    have r6 : rd (ls 8 g) 6 = g 6 := rd_ls 8 g 6 (by omega)
    have r7 : rd (ls 8 g) 7 = g 7 := rd_ls 8 g 7 (by omega)
    have hn : rds st W (t + 1) = rnd W t g := by rw [rds, hg]
    rw [hn, hg]
    rw [spec_l1Block.l0, if_pos (by omega), if_pos (by omega), ls_len, ls_len, if_pos (by omega), if_pos (by decide), if_pos (by decide), if_pos (by decide), kw_len]
    rw [r0, r1, r2, r3, r4, r5, r6, r7, hk, rd_ls 64 W t (by omega), w5]
    simp only [turn_eq _ 6 (by decide) (by decide), turn_eq _ 11 (by decide) (by decide), turn_eq _ 25 (by decide) (by decide), turn_eq _ 2 (by decide) (by decide), turn_eq _ 13 (by decide) (by decide), turn_eq _ 22 (by decide) (by decide), Option.bind_some]
    rw [if_pos (by decide), if_pos (by decide), if_pos (by omega), if_pos (by decide), if_pos (by decide), if_pos (by decide)]
    rw [ls8 (rnd W t g)]
    simp only [rnd, rnd1, rnd2, Int.emod_add_emod, Int.add_emod_emod]
theorem block_ev (st : Nat → Int) (b : ByteArray) (hb : b.size = 64) : Ev (fun k => spec_l1Block.f k (ls 8 st) b) (ls 8 (cmp st b)) := by
  unfold spec_l1Block.f
  simp only [keys_eq, Option.bind_some, List.length_nil, ls_len, Nat.zero_add, List.nil_append, if_pos (show 8 < 35184372088832 by omega)]
  refine (words_ev b hb).bind ?_
  simp only [ls_len]
  exact block_l0 st (wst b 48) 64 0 rfl
theorem out_l2 (st : Nat → Int) (hr : ∀ j, j < 8 → 0 ≤ st j ∧ st j ≤ 4294967295) (d : Nat) : ∀ i : Nat, i + d = 8 →
    Ev (fun k => spec_Sha256.l2 k (shaOut st i) (ls 8 st) 8 (i : Int)) (shaOut st 8) := by
  induction d with
  | zero =>
    intro i hi
    obtain rfl : i = 8 := by omega
    refine Ev.step (f := fun _ => some (shaOut st 8)) (fun k => ?_) (Ev.now _)
    rw [spec_Sha256.l2, if_neg (by omega)]
  | succ d ih =>
    intro i hi
    have w5 : wrap64 ((i : Int) + 1) = ((i + 1 : Nat) : Int) := by unfold wrap64; omega
    have hs := hr i (by omega)
    have w1 : wrap64 (st i) = st i := by unfold wrap64; omega
    refine Ev.step (f := fun k => (spec_l1Num.f k 4 (st i)).bind fun v => if (shaOut st i).size + v.size ≤ 9223372036854775807 then spec_Sha256.l2 k (shaOut st i ++ v) (ls 8 st) 8 ((i + 1 : Nat) : Int) else none) (fun k => ?_) ?_
    · rw [spec_Sha256.l2, if_pos (by omega), if_pos (by omega), ls_len, if_pos (by omega), rd_ls 8 st i (by omega), w1, w5]
    · refine (spec_num 4 (st i) (by omega)).bind ?_
      simp only [shaOut_size, strOfNums_size, numB_length, if_pos (show 4 * i + 4 ≤ 9223372036854775807 by omega)]
      exact ih (i + 1) (by omega)
theorem sha_l1 (X : ByteArray) (n : Nat) (hn : X.size = 64 * n) (hX : X.size ≤ 2000000000000) (d : Nat) : ∀ i : Nat, i + d = n →
    Ev (fun k => spec_Sha256.l1 k X (ls 8 (shaSt X i)) ((64 * i : Nat) : Int)) (shaOut (shaSt X n) 8) := by
  induction d with
  | zero =>
    intro i hi
    obtain rfl : i = n := by omega
    refine Ev.step (f := fun k => spec_Sha256.l2 k (shaOut (shaSt X i) 0) (ls 8 (shaSt X i)) 8 ((0 : Nat) : Int)) (fun k => ?_) (out_l2 _ (fun j hj => shaSt_range X i j hj) 8 0 rfl)
    rw [spec_Sha256.l1, if_neg (by omega), ls_len]
    rfl
  | succ d ih =>
    intro i hi
    have w1 : wrap64 (((64 * i : Nat) : Int) + 64) = ((64 * (i + 1) : Nat) : Int) := by unfold wrap64; omega
    refine Ev.step (f := fun k => (spec_l1Block.f k (ls 8 (shaSt X i)) (X.extract (64 * i) (64 * i + 64))).bind fun v => spec_Sha256.l1 k X v ((64 * (i + 1) : Nat) : Int)) (fun k => ?_) ?_
    · rw [spec_Sha256.l1, if_pos (by omega), if_pos (by omega), w1, if_pos (by omega), if_pos (by omega)]
      rfl
    · refine (block_ev (shaSt X i) (X.extract (64 * i) (64 * i + 64)) (by rw [ByteArray.size_extract]; omega)).bind ?_
      exact ih (i + 1) (by omega)
theorem sha_l0 (s : ByteArray) (hs : s.size ≤ 1099511627776) (d : Nat) : ∀ t : ByteArray, padTo d t = shaPad s → d ≤ 63 →
    Ev (fun k => spec_Sha256.l0 k s t) (shaI s) := by
  induction d with
  | zero =>
    intro t ht _
    obtain rfl : t = shaPad s := ht
    have hm := shaPad_mod s
    have hz := shaPad_size s
    have w1 : wrap64 (8 * (s.size : Int)) = 8 * (s.size : Int) := by unfold wrap64; omega
    have htm := shaText_mod s
    have hts := shaText_le s
    refine Ev.step (f := fun k => (spec_l1Num.f k 8 (8 * (s.size : Int))).bind fun v => if (shaPad s).size + v.size ≤ 9223372036854775807 then spec_Sha256.l1 k (shaPad s ++ v) ([1779033703, 3144134277, 1013904242, 2773480762, 1359893119, 2600822924, 528734635, 1541459225] : List Int) 0 else none) (fun k => ?_) ?_
    · rw [spec_Sha256.l0, if_pos (by omega), w1]
    · refine (spec_num 8 (8 * (s.size : Int)) (by omega)).bind ?_
      simp only [strOfNums_size, numB_length, if_pos (show (shaPad s).size + 8 ≤ 9223372036854775807 by omega)]
      have h := sha_l1 (shaText s) ((shaText s).size / 64) (by omega) (by omega) ((shaText s).size / 64) 0 (by omega)
      exact h
  | succ d ih =>
    intro t ht hd
    have hsz := congrArg ByteArray.size ht
    rw [padTo_size, shaPad_size] at hsz
    refine Ev.step (f := fun k => spec_Sha256.l0 k s (t ++ ⟨#[0]⟩)) (fun k => ?_) (ih _ (show padTo d (t ++ ⟨#[0]⟩) = shaPad s from ht) (by omega))
    rw [spec_Sha256.l0, if_neg (by omega), if_pos (by omega)]
theorem spec_sha (s : ByteArray) (hs : s.size ≤ 1099511627776) : Ev (fun k => spec_Sha256.f k s) (shaI s) := by
  unfold spec_Sha256.f
  simp only [if_pos (show s.size + 1 ≤ 9223372036854775807 by omega)]
  exact sha_l0 s hs _ _ rfl (by omega)
end Go.Proofs.YtmchcoafkaggkaaDoor.Pure
end
section
set_option linter.unusedVariables false
set_option linter.unusedSimpArgs false
namespace Go.Proofs.YtmchcoafkaggkaaDoor.Pure
open Go Go.RowKit Go.Proofs.YtmchcoafkaggkaaDoor Go.Proofs.YtmchcoafkaggkaaDoor.L Go.Proofs.YtmchcoafkaggkaaDoorW.PrintWords Go.Proofs.YtmchcoafkaggkaaDoorW.PrintMore Go.Proofs.YtmchcoafkaggkaaDoorW.PrintLast
/-- The digest of a kind. -/
def dig (kind : Int) (s : ByteArray) : ByteArray := if kind = 0 then shaI s else if kind = 1 then (shaI s).extract 0 1 else ⟨#[]⟩
theorem dig_size (kind : Int) (s : ByteArray) : (dig kind s).size ≤ 32 := by
  have := shaI_size s
  unfold dig
  split
  · omega
  · split
    · rw [ByteArray.size_extract]; omega
    · show (0 : Nat) ≤ 32
      omega
theorem impl_sha (s : ByteArray) (hs : s.size ≤ 1099511627776) : impl_Sha256.f s = some (shaI s) := by rw [impl_Sha256.f, if_pos hs]
theorem impl_dig (kind : Int) (s : ByteArray) (hs : s.size ≤ 1099511627776) : impl_Digest.f kind s = some (dig kind s) := by
  have h1 : (1 : Int) ≤ ((shaI s).size : Int) := by rw [shaI_size]; decide
  unfold impl_Digest.f dig
  rw [impl_sha s hs]
  by_cases h : kind = 0
  · rw [if_pos h, if_pos h]; rfl
  · rw [if_neg h, if_neg h]
    by_cases h2 : kind = 1
    · rw [if_pos h2, if_pos h2]
      simp only [Option.bind_some, if_pos h1]
      rfl
    · rw [if_neg h2, if_neg h2]
theorem spec_dig (kind : Int) (s : ByteArray) (hs : s.size ≤ 1099511627776) : Ev (fun k => spec_Digest.f k kind s) (dig kind s) := by
  have h1 : (1 : Int) ≤ ((shaI s).size : Int) := by rw [shaI_size]; decide
  unfold spec_Digest.f dig
  by_cases h : kind = 0
  · simp only [if_pos h]
    exact (spec_sha s hs).bind (Ev.now _)
  · simp only [if_neg h]
    by_cases h2 : kind = 1
    · simp only [if_pos h2]
      refine (spec_sha s hs).bind ?_
      simp only [if_pos (show (0 : Int) ≤ 1 by decide), if_pos h1]
      exact Ev.now _
    · simp only [if_neg h2]
      exact Ev.now _
def leafB (kind : Int) (e : ByteArray) : ByteArray := dig kind ((⟨#[0]⟩ : ByteArray) ++ e)
def nodeB (kind : Int) (l r : ByteArray) : ByteArray := dig kind (((⟨#[1]⟩ : ByteArray) ++ l) ++ r)
theorem leafB_size (kind : Int) (e : ByteArray) : (leafB kind e).size ≤ 32 := dig_size _ _
theorem nodeB_size (kind : Int) (l r : ByteArray) : (nodeB kind l r).size ≤ 32 := dig_size _ _
theorem pre_size (b : UInt8) (e : ByteArray) : ((⟨#[b]⟩ : ByteArray) ++ e).size = 1 + e.size := by rw [ByteArray.size_append]; rfl
theorem impl_leaf (kind : Int) (e : ByteArray) (he : e.size ≤ 10000000000) : impl_Leaf.f kind e = some (leafB kind e) := by
  rw [impl_Leaf.f, if_pos (by omega), impl_dig kind _ (by rw [pre_size]; omega)]; rfl
theorem spec_leaf (kind : Int) (e : ByteArray) (he : e.size ≤ 10000000000) : Ev (fun k => spec_Leaf.f k kind e) (leafB kind e) := by
  unfold spec_Leaf.f
  simp only [if_pos (show 1 + e.size ≤ 9223372036854775807 by omega)]
  exact (spec_dig kind _ (by rw [pre_size]; omega)).bind (Ev.now _)
theorem impl_node (kind : Int) (l r : ByteArray) (hl : l.size ≤ 10000000000) (hr : r.size ≤ 10000000000) : impl_Node.f kind l r = some (nodeB kind l r) := by
  have hp := pre_size 1 l
  rw [impl_Node.f, if_pos (by omega), if_pos (by omega), impl_dig kind _ (by rw [ByteArray.size_append]; omega)]; rfl
theorem spec_node (kind : Int) (l r : ByteArray) (hl : l.size ≤ 10000000000) (hr : r.size ≤ 10000000000) : Ev (fun k => spec_Node.f k kind l r) (nodeB kind l r) := by
  have hp := pre_size 1 l
  unfold spec_Node.f
  simp only [if_pos (show 1 + l.size ≤ 9223372036854775807 by omega), if_pos (show ((⟨#[1]⟩ : ByteArray) ++ l).size + r.size ≤ 9223372036854775807 by omega)]
  exact (spec_dig kind _ (by rw [ByteArray.size_append]; omega)).bind (Ev.now _)
end Go.Proofs.YtmchcoafkaggkaaDoor.Pure
end
section
set_option linter.unusedVariables false
set_option linter.unusedSimpArgs false
namespace Go.Proofs.YtmchcoafkaggkaaDoor.Pure
open Go.RowKit Go.Proofs.YtmchcoafkaggkaaDoor Go.Proofs.YtmchcoafkaggkaaDoor.L Go.Proofs.YtmchcoafkaggkaaDoorW.PrintWords Go.Proofs.YtmchcoafkaggkaaDoorW.PrintLast
theorem w64 (x : Int) (h : -9223372036854775808 ≤ x ∧ x ≤ 9223372036854775807) : wrap64 x = x := by unfold wrap64; omega
theorem wsucc (i : Nat) (h : i < 9223372036854775807) : wrap64 ((i : Int) + 1) = ((i + 1 : Nat) : Int) := by unfold wrap64; omega
theorem rdS (l : List ByteArray) (i : Nat) (h : i < l.length) : rdOf ByteArray.empty l (i : Int) = l[i] := by
  simp [rdOf, List.getD, h]
theorem toS_l0 (e : Nat) : ∀ (l o : List ByteArray) (i : Nat), i + e = l.length → o.length = l.length → l.length ≤ 17592186044416 → (∀ j, j < i → o[j]? = l[j]?) →
    Ev (fun k => laws_toStringS.l0 k l o i) l := by
  induction e with
  | zero =>
    intro l o i hi ho hl hx
    have : o = l := by
      apply List.ext_getElem?
      intro j
      by_cases hj : j < i
      · exact hx j hj
      · rw [List.getElem?_eq_none (by omega), List.getElem?_eq_none (by omega)]
    subst this
    exact Ev.step (f := fun _ => some o) (fun k => by rw [laws_toStringS.l0, if_neg (by omega)]) (Ev.now _)
  | succ e ih =>
    intro l o i hi ho hl hx
    have hil : i < l.length := by omega
    refine Ev.step (f := fun k => laws_toStringS.l0 k l (o.set i l[i]) ((i + 1 : Nat) : Int)) (fun k => ?_) (ih l (o.set i l[i]) (i + 1) (by omega) (by rw [List.length_set]; exact ho) hl (fun j hj => ?_))
    · rw [laws_toStringS.l0, if_pos (by omega), if_pos (by omega), if_pos (by omega), rdS l i hil, wsucc i (by omega)]
      rfl
    · rw [List.getElem?_set]
      by_cases h : i = j
      · subst h; simp [hil, ho]
      · rw [if_neg h]; exact hx j (by omega)
theorem toS_ev (l : List ByteArray) (h : l.length ≤ 17592186044416) : Ev (fun k => laws_toStringS.f k l) l := by
  refine Ev.congr (fun k => ?_) (toS_l0 l.length l (List.replicate l.length ⟨#[]⟩) 0 (by omega) List.length_replicate h (fun j hj => by omega))
  unfold laws_toStringS.f
  rw [if_pos (by omega), if_pos (by omega)]
  simp
theorem eqS_l0 (e : Nat) : ∀ (l : List ByteArray) (i : Nat), i + e = l.length → l.length ≤ 9223372036854775807 → Ev (fun k => laws_eqStringS.l0 k l l i) true := by
  induction e with
  | zero =>
    intro l i hi hl
    exact Ev.step (f := fun _ => some true) (fun k => by rw [laws_eqStringS.l0, if_neg (by omega)]) (Ev.now _)
  | succ e ih =>
    intro l i hi hl
    exact Ev.step (fun k => by rw [laws_eqStringS.l0, if_pos (by omega), if_pos (by omega), if_pos (by omega), if_pos rfl, wsucc i (by omega)]) (ih l (i + 1) (by omega) hl)
theorem eqS_ev (l : List ByteArray) (hl : l.length ≤ 9223372036854775807) : Ev (fun k => laws_eqStringS.f k l l) true := by
  refine Ev.congr (fun k => ?_) (eqS_l0 l.length l 0 (by omega) hl)
  unfold laws_eqStringS.f
  rw [if_pos rfl]
  rfl
/-- The bytes of the strings of a list. -/
def sumS (l : List ByteArray) : Nat := (l.map ByteArray.size).sum
theorem szS_l0 (e : Nat) : ∀ (l : List ByteArray) (i : Nat) (a : Int), i + e = l.length → l.length ≤ 9223372036854775807 → (∀ y ∈ l, y.size ≤ 9223372036854775807) → 0 ≤ a → a ≤ 9223372036854775807 →
    Ev (fun k => laws_szStringS.l0 k l a i) (if (sumS (l.drop i) : Int) ≤ a then a - sumS (l.drop i) else -1) := by
  induction e with
  | zero =>
    intro l i a hi hl hs h0 h1
    have hd : l.drop i = [] := List.drop_eq_nil_of_le (by omega)
    rw [hd]
    refine Ev.step (f := fun _ => some a) (fun k => by rw [laws_szStringS.l0, if_neg (by omega)]) ?_
    simp [sumS, h0]
    exact Ev.now _
  | succ e ih =>
    intro l i a hi hl hs h0 h1
    have hil : i < l.length := by omega
    have hy := hs _ (List.getElem_mem hil)
    have hd : l.drop i = l[i] :: l.drop (i + 1) := List.drop_eq_getElem_cons hil
    have hsum : sumS (l.drop i) = l[i].size + sumS (l.drop (i + 1)) := by rw [hd]; rfl
    by_cases hc : a - (l[i].size : Int) < 0
    · refine Ev.step (f := fun _ => some (-1)) (fun k => ?_) ?_
      · rw [laws_szStringS.l0, if_pos (by omega), if_pos (by omega), rdS l i hil, w64 _ (by omega), if_pos hc]
      · rw [if_neg (by omega)]; exact Ev.now _
    · refine Ev.step (fun k => ?_) ?_ (f := fun k => laws_szStringS.l0 k l (a - (l[i].size : Int)) ((i + 1 : Nat) : Int))
      · rw [laws_szStringS.l0, if_pos (by omega), if_pos (by omega), rdS l i hil, w64 (a - _) (by omega), if_neg hc, wsucc i (by omega)]
      · have := ih l (i + 1) (a - (l[i].size : Int)) (by omega) hl hs (by omega) (by omega)
        have e1 : ((sumS (l.drop (i + 1)) : Int) ≤ a - (l[i].size : Int)) ↔ ((sumS (l.drop i) : Int) ≤ a) := by rw [hsum]; omega
        have e2 : a - (l[i].size : Int) - (sumS (l.drop (i + 1)) : Int) = a - (sumS (l.drop i) : Int) := by rw [hsum]; omega
        rw [e2] at this
        simpa only [e1] using this
/-- What a list of strings weighs: its places and its bytes. -/
def wtS (l : List ByteArray) : Nat := l.length + sumS l
theorem szS_ev (l : List ByteArray) (a : Int) (hl : l.length ≤ 9223372036854775807) (hs : ∀ y ∈ l, y.size ≤ 9223372036854775807) (h0 : 0 ≤ a) (h1 : a ≤ 1048576) :
    Ev (fun k => laws_szStringS.f k l a) (if (wtS l : Int) ≤ a then a - wtS l else -1) := by
  unfold laws_szStringS.f
  simp only [w64 (a - (l.length : Int)) (by omega)]
  by_cases hc : a - (l.length : Int) < 0
  · simp only [if_pos hc]
    rw [if_neg (by unfold wtS; omega)]
    exact Ev.now _
  · simp only [if_neg hc]
    have h := szS_l0 l.length l 0 (a - (l.length : Int)) (by omega) hl hs (by omega) (by omega)
    simp only [List.drop_zero] at h
    have e1 : ((sumS l : Int) ≤ a - (l.length : Int)) ↔ ((wtS l : Int) ≤ a) := by unfold wtS; omega
    have e2 : a - (l.length : Int) - (sumS l : Int) = a - (wtS l : Int) := by unfold wtS; omega
    rw [e2] at h
    simp only [e1] at h
    exact h
end Go.Proofs.YtmchcoafkaggkaaDoor.Pure
end
section
set_option linter.unusedVariables false
set_option linter.unusedSimpArgs false
namespace Go.Proofs.YtmchcoafkaggkaaDoor.Pure
open Go Go.RowKit Go.Proofs.YtmchcoafkaggkaaDoor Go.Proofs.YtmchcoafkaggkaaDoor.L Go.Proofs.YtmchcoafkaggkaaDoorW.PrintWords Go.Proofs.YtmchcoafkaggkaaDoorW.PrintMore Go.Proofs.YtmchcoafkaggkaaDoorW.PrintLast
/-- How many bits of n are 1: so many steps are enough. -/
def onesN : Nat → Nat → Nat
  | 0, _ => 0
  | d + 1, n => n % 2 + onesN d (n / 2)
theorem ones_le (d n : Nat) : onesN d n ≤ d := by
  induction d generalizing n with
  | zero => exact Nat.le_refl _
  | succ d ih => simp only [onesN]; have := ih (n / 2); omega
set_option maxRecDepth 100000 in
theorem onesCount_small : ∀ n : Nat, n < 2001 → bits_OnesCount64.f (n : Int) = some ((onesN 11 n : Nat) : Int) := by decide +kernel
/-- The width of a kind. -/
def wid (kind : Int) : Nat := if kind = 0 then 32 else if kind = 1 then 1 else 0
theorem impl_width_eq (kind : Int) : impl_width.f kind = some ((wid kind : Nat) : Int) := by
  unfold impl_width.f wid
  split
  · rfl
  · split <;> rfl
theorem widths_l0 (e : Nat) : ∀ (kind : Int) (l : List ByteArray) (i : Nat), i + e = l.length → l.length ≤ 9223372036854775807 →
    Ev (fun k => impl_widths.l0 k kind l l.length i) ((l.drop i).all (fun s => s.size == wid kind) && decide (0 < wid kind)) := by
  induction e with
  | zero =>
    intro kind l i hi hl
    have hd : l.drop i = [] := List.drop_eq_nil_of_le (by omega)
    rw [hd]
    refine Ev.step (f := fun _ => some (decide ((wid kind : Int) > 0))) (fun k => by rw [impl_widths.l0, if_neg (by omega), impl_width_eq]; rfl) ?_
    have : decide ((wid kind : Int) > 0) = decide (0 < wid kind) := by
      by_cases h : 0 < wid kind
      · rw [decide_eq_true h, decide_eq_true (by omega)]
      · rw [decide_eq_false h, decide_eq_false (by omega)]
    rw [this]
    exact Ev.now _
  | succ e ih =>
    intro kind l i hi hl
    have hil : i < l.length := by omega
    have hd : l.drop i = l[i] :: l.drop (i + 1) := List.drop_eq_getElem_cons hil
    rw [hd]
    simp only [List.all_cons]
    by_cases hc : l[i].size = wid kind
    · refine Ev.step (fun k => by rw [impl_widths.l0, if_pos (by omega), if_pos (by omega), if_pos (by omega), rdS l i hil, impl_width_eq, Option.bind_some, if_pos (by omega), wsucc i (by omega)]) ?_
      rw [show (l[i].size == wid kind) = true from beq_iff_eq.2 hc, Bool.true_and]
      exact ih kind l (i + 1) (by omega) hl
    · refine Ev.step (f := fun _ => some false) (fun k => by rw [impl_widths.l0, if_pos (by omega), if_pos (by omega), if_pos (by omega), rdS l i hil, impl_width_eq, Option.bind_some, if_neg (by omega)]) ?_
      rw [show (l[i].size == wid kind) = false from beq_eq_false_iff_ne.2 hc, Bool.false_and, Bool.false_and]
      exact Ev.now _
theorem widths_ev (kind : Int) (l : List ByteArray) (hl : l.length ≤ 9223372036854775807) :
    Ev (fun k => impl_widths.f k kind l) (l.all (fun s => s.size == wid kind) && decide (0 < wid kind)) := by
  have := widths_l0 l.length kind l 0 (by omega) hl
  exact this
/-- The document's TreeOK. -/
def treeOk (kind n : Int) (l : List ByteArray) : Bool :=
  decide (0 < wid kind) && decide (0 ≤ n ∧ n ≤ 2000) && decide (l.length = onesN 11 n.toNat) && l.all (fun s => s.size == wid kind)
theorem impl_treeOk (kind n : Int) (l : List ByteArray) (hl : l.length ≤ 9223372036854775807) : Ev (fun k => impl_TreeOK.f k kind n l) (treeOk kind n l) := by
  unfold impl_TreeOK.f treeOk
  simp only [impl_width_eq, Option.bind_some]
  by_cases hw : 0 < wid kind
  · simp only [if_pos (show (wid kind : Int) > 0 by omega), decide_eq_true hw, Bool.true_and]
    by_cases h0 : 0 ≤ n
    · simp only [if_pos (show n ≥ 0 from h0)]
      by_cases h1 : n ≤ 2000
      · simp only [if_pos h1, decide_eq_true (And.intro h0 h1), Bool.true_and]
        obtain ⟨m, rfl⟩ : ∃ m : Nat, n = m := ⟨n.toNat, by omega⟩
        have hm : IntKind.u64.wrap (m : Int) = m := by simp [IntKind.wrap, IntKind.bits, IntKind.signed]; omega
        have hc : bits_OnesCount.f (m : Int) = some ((onesN 11 m : Nat) : Int) := by unfold bits_OnesCount.f; rw [onesCount_small m (by omega)]; rfl
        simp only [hm, hc, Option.bind_some, Int.toNat_natCast]
        by_cases he : l.length = onesN 11 m
        · simp only [if_pos (show (l.length : Int) = ((onesN 11 m : Nat) : Int) by omega), decide_eq_true he, Bool.true_and]
          have := (widths_ev kind l hl).bind (f := fun _ b => some b) (Ev.now _)
          rw [decide_eq_true hw, Bool.and_true] at this
          exact this
        · simp only [if_neg (show ¬ (l.length : Int) = ((onesN 11 m : Nat) : Int) by omega), decide_eq_false he, Bool.false_and]
          exact Ev.now _
      · simp only [if_neg h1, decide_eq_false (show ¬ (0 ≤ n ∧ n ≤ 2000) from fun h => h1 h.2), Bool.false_and]
        exact Ev.now _
    · simp only [if_neg (show ¬ n ≥ 0 from h0), decide_eq_false (show ¬ (0 ≤ n ∧ n ≤ 2000) from fun h => h0 h.1), Bool.false_and]
      exact Ev.now _
  · simp only [if_neg (show ¬ (wid kind : Int) > 0 by omega), decide_eq_false hw, Bool.false_and]
    exact Ev.now _
theorem spec_ones (d : Nat) : ∀ (kind : Int) (c n : Nat) (n0 : Int) (l : List ByteArray) (r : Bool), n < 2 ^ d → d ≤ 60 → c + d ≤ 1000 →
    Ev (fun k => spec_TreeOK.l1 k kind ((c + onesN d n : Nat) : Int) l l.length 0 n0 l) r → Ev (fun k => spec_TreeOK.l0 k kind c n n0 l) r := by
  induction d with
  | zero =>
    intro kind c n n0 l r hn hd hc h
    have : n = 0 := by omega
    subst this
    rw [show c + onesN 0 0 = c from rfl] at h
    exact Ev.step (fun k => by rw [spec_TreeOK.l0, if_neg (by omega)]) h
  | succ d ih =>
    intro kind c n n0 l r hn hd hc h
    by_cases hz : n = 0
    · subst hz
      have e : ∀ d, onesN d 0 = 0 := fun d => by
        induction d with
        | zero => rfl
        | succ d ih => simp [onesN, ih]
      rw [e, Nat.add_zero] at h
      exact Ev.step (fun k => by rw [spec_TreeOK.l0, if_neg (by omega)]) h
    · have hlt : n < 9223372036854775808 := by
        have : (2 : Nat) ^ (d + 1) ≤ 2 ^ 60 := Nat.pow_le_pow_right (by decide) (by omega)
        omega
      have e1 : Int.tmod (n : Int) 2 = ((n % 2 : Nat) : Int) := (Int.ofNat_tmod n 2).symm
      have e2 : Int.tdiv (n : Int) 2 = ((n / 2 : Nat) : Int) := (Int.ofNat_tdiv n 2).symm
      have e3 : wrap64 ((c : Int) + ((n % 2 : Nat) : Int)) = ((c + n % 2 : Nat) : Int) := by unfold wrap64; omega
      have e4 : wrap64 ((n / 2 : Nat) : Int) = ((n / 2 : Nat) : Int) := by unfold wrap64; omega
      refine Ev.step (fun k => by rw [spec_TreeOK.l0, if_pos (by omega), e1, e2, e3, e4]) ?_
      refine ih kind (c + n % 2) (n / 2) n0 l r (by rw [Nat.pow_succ] at hn; omega) (by omega) (by omega) ?_
      have e5 : c + n % 2 + onesN d (n / 2) = c + onesN (d + 1) n := by simp only [onesN]; omega
      rw [e5]
      exact h
theorem spec_width_eq (kind : Int) (h : 0 < wid kind) : spec_l2Width.f kind = some ((wid kind : Nat) : Int) := by
  unfold spec_l2Width.f wid at *
  by_cases h0 : kind = 0
  · subst h0; rfl
  · by_cases h1 : kind = 1
    · subst h1; rfl
    · rw [if_neg h0, if_neg h1] at h; omega
theorem spec_l1 (e : Nat) : ∀ (kind : Int) (c : Nat) (n0 : Int) (l : List ByteArray) (i : Nat), 0 < wid kind → i + e = l.length → l.length ≤ 9223372036854775807 →
    Ev (fun k => spec_TreeOK.l1 k kind c l l.length i n0 l) ((l.drop i).all (fun s => s.size == wid kind) && decide (l.length = c)) := by
  induction e with
  | zero =>
    intro kind c n0 l i hw hi hl
    have hd : l.drop i = [] := List.drop_eq_nil_of_le (by omega)
    rw [hd]
    refine Ev.step (f := fun _ => some ((l.length : Int) == (c : Int))) (fun k => by rw [spec_TreeOK.l1, if_neg (by omega)]) ?_
    have : ((l.length : Int) == (c : Int)) = decide (l.length = c) := by
      by_cases h : l.length = c
      · rw [decide_eq_true h]; exact beq_iff_eq.2 (by omega)
      · rw [decide_eq_false h]; exact beq_eq_false_iff_ne.2 (by omega)
    rw [this]
    exact Ev.now _
  | succ e ih =>
    intro kind c n0 l i hw hi hl
    have hil : i < l.length := by omega
    have hd : l.drop i = l[i] :: l.drop (i + 1) := List.drop_eq_getElem_cons hil
    rw [hd]
    simp only [List.all_cons]
    by_cases hc : l[i].size = wid kind
    · refine Ev.step (fun k => by rw [spec_TreeOK.l1, if_pos (by omega), if_pos (by omega), if_pos (by omega), rdS l i hil, spec_width_eq kind hw, Option.bind_some, if_pos (by omega), wsucc i (by omega)]) ?_
      rw [show (l[i].size == wid kind) = true from beq_iff_eq.2 hc, Bool.true_and]
      exact ih kind c n0 l (i + 1) hw (by omega) hl
    · refine Ev.step (f := fun _ => some false) (fun k => by rw [spec_TreeOK.l1, if_pos (by omega), if_pos (by omega), if_pos (by omega), rdS l i hil, spec_width_eq kind hw, Option.bind_some, if_neg (by omega)]) ?_
      rw [show (l[i].size == wid kind) = false from beq_eq_false_iff_ne.2 hc, Bool.false_and, Bool.false_and]
      exact Ev.now _
theorem spec_kind (kind : Int) : spec_l2KindOK.f kind = some (decide (0 < wid kind)) := by
  unfold spec_l2KindOK.f wid
  by_cases h0 : kind = 0
  · subst h0; rfl
  · by_cases h1 : kind = 1
    · subst h1; rfl
    · rw [if_neg h0, if_neg h0, if_neg h1, show (kind == 1) = false from beq_eq_false_iff_ne.2 h1]; rfl
theorem spec_treeOk (kind n : Int) (l : List ByteArray) (hl : l.length ≤ 9223372036854775807) : Ev (fun k => spec_TreeOK.f k kind n l) (treeOk kind n l) := by
  have hbad : Ev (fun k => spec_TreeOK.j0 k kind true n l) false := Ev.step (f := fun _ => some false) (fun k => by rw [spec_TreeOK.j0, if_pos rfl]) (Ev.now _)
  unfold spec_TreeOK.f treeOk
  simp only [spec_kind, Option.bind_some]
  by_cases hw : 0 < wid kind
  · simp only [decide_eq_true hw, if_true, Bool.true_and]
    have hb : spec_l1Between.f n 0 2000 = some (decide (0 ≤ n ∧ n ≤ 2000)) := by
      unfold spec_l1Between.f
      by_cases h0 : 0 ≤ n
      · rw [if_pos h0]; simp [h0]
      · rw [if_neg h0]; simp [h0]
    simp only [hb, Option.bind_some]
    by_cases h : 0 ≤ n ∧ n ≤ 2000
    · obtain ⟨m, rfl⟩ : ∃ m : Nat, n = m := ⟨n.toNat, by omega⟩
      simp only [decide_eq_true h, Bool.not_true, Bool.true_and, Int.toNat_natCast]
      refine Ev.step (fun k => by rw [spec_TreeOK.j0, if_neg (by decide)]) ?_
      refine spec_ones 11 kind 0 m m l _ (by omega) (by omega) (by omega) ?_
      rw [Nat.zero_add, Bool.and_comm]
      exact spec_l1 l.length kind _ m l 0 hw (by omega) hl
    · simp only [decide_eq_false h, Bool.not_false, Bool.false_and]
      exact hbad
  · simp only [decide_eq_false hw, Bool.false_and, if_neg (show ¬ (false = true) by decide)]
    exact hbad
theorem treeOk_facts {kind n : Int} {l : List ByteArray} (h : treeOk kind n l = true) : 0 ≤ n ∧ n ≤ 2000 ∧ l.length = onesN 11 n.toNat ∧ ∀ y ∈ l, y.size ≤ 32 := by
  unfold treeOk at h
  simp only [Bool.and_eq_true, decide_eq_true_eq, List.all_eq_true, beq_iff_eq] at h
  refine ⟨h.1.1.2.1, h.1.1.2.2, h.1.2, fun y hy => ?_⟩
  have := h.2 y hy
  unfold wid at this
  split at this
  · omega
  · split at this <;> omega
theorem szT_ev (n : Int) (l : List ByteArray) (hl : l.length ≤ 9223372036854775807) (hs : ∀ y ∈ l, y.size ≤ 9223372036854775807) :
    Ev (fun k => laws_szTree.f k n l 1048576) (if (wtS l : Int) ≤ 1048576 then 1048576 - (wtS l : Int) else -1) := by
  unfold laws_szTree.f
  refine (szS_ev l 1048576 hl hs (by omega) (by omega)).bind (f := fun _ t => if t < 0 then some (-1) else some t) ?_
  by_cases hc : (wtS l : Int) ≤ 1048576
  · simp only [if_pos hc, if_neg (show ¬ (1048576 - (wtS l : Int) < 0) by omega)]; exact Ev.now _
  · simp only [if_neg hc]; exact Ev.now _
theorem toT_ev (n : Int) (l : List ByteArray) (hl : l.length ≤ 1048576) : Ev (fun k => laws_toTree.f k n l) (n, l) := by
  unfold laws_toTree.f
  exact (toS_ev l (by omega)).bind (f := fun _ t => some (n, t)) (Ev.now _)
theorem eqT_ev (n : Int) (l : List ByteArray) (hl : l.length ≤ 9223372036854775807) : Ev (fun k => laws_eqTree.f k n l n l) true := by
  unfold laws_eqTree.f
  simp only [if_true]
  exact (eqS_ev l hl).bind (f := fun _ t => if t = true then some true else some false) (Ev.now _)
end Go.Proofs.YtmchcoafkaggkaaDoor.Pure
end
section
set_option linter.unusedVariables false
set_option linter.unusedSimpArgs false
namespace Go.Proofs.YtmchcoafkaggkaaDoor.Pure
open Go Go.RowKit Go.Proofs.YtmchcoafkaggkaaDoor Go.Proofs.YtmchcoafkaggkaaDoor.L Go.Proofs.YtmchcoafkaggkaaDoorW.PrintWords Go.Proofs.YtmchcoafkaggkaaDoorW.PrintMore Go.Proofs.YtmchcoafkaggkaaDoorW.PrintLast
theorem nums_size (l : List Int) : (strOfNums l).size = l.length := by simp [strOfNums, ByteArray.size]
theorem markText_l0 (d : Nat) : ∀ (n : Nat) (acc : ByteArray), n < 10 ^ d → d ≤ 18 → acc.size + d ≤ 100 → ∃ r, Ev (fun k => laws_markText.l0 k (n : Int) acc) r := by
  induction d with
  | zero =>
    intro n acc hn _ ha
    have : n = 0 := by omega
    subst this
    refine ⟨(⟨#[109]⟩ : ByteArray) ++ acc, Ev.step (f := fun _ => some ((⟨#[109]⟩ : ByteArray) ++ acc)) (fun k => ?_) (Ev.now _)⟩
    rw [laws_markText.l0, if_neg (by omega), if_pos (by omega)]
  | succ d ih =>
    intro n acc hn hd ha
    by_cases hz : n = 0
    · subst hz
      refine ⟨(⟨#[109]⟩ : ByteArray) ++ acc, Ev.step (f := fun _ => some ((⟨#[109]⟩ : ByteArray) ++ acc)) (fun k => ?_) (Ev.now _)⟩
      rw [laws_markText.l0, if_neg (by omega), if_pos (by omega)]
    · have hlt : n < 9223372036854775808 := by
        have : (10 : Nat) ^ (d + 1) ≤ 10 ^ 18 := Nat.pow_le_pow_right (by decide) (by omega)
        omega
      have e2 : Int.tdiv (n : Int) 10 = ((n / 10 : Nat) : Int) := (Int.ofNat_tdiv n 10).symm
      have e4 : wrap64 ((n / 10 : Nat) : Int) = ((n / 10 : Nat) : Int) := by unfold wrap64; omega
      obtain ⟨s, hs⟩ : ∃ s, strOfNums [(wrap64 (48 + (Int.tmod (n : Int) 10))) % 256] = s := ⟨_, rfl⟩
      have hsz : s.size = 1 := by rw [← hs, nums_size]; rfl
      obtain ⟨r, hr⟩ := ih (n / 10) (s ++ acc) (by rw [Nat.pow_succ] at hn; omega) (by omega) (by rw [ByteArray.size_append]; omega)
      refine ⟨r, Ev.step (f := fun k => laws_markText.l0 k ((n / 10 : Nat) : Int) (s ++ acc)) (fun k => ?_) hr⟩
      rw [laws_markText.l0, if_pos (by omega), e2, e4]
      simp only [Option.bind_some, hs]
      rw [if_pos (by omega)]
theorem markText_ex (n : Nat) (hn : n < 1000000000000000000) : ∃ r, Ev (fun k => laws_markText.f k (n : Int)) r := by
  unfold laws_markText.f
  by_cases h : (n : Int) ≤ 0
  · simp only [if_pos h]; exact ⟨_, Ev.now _⟩
  · simp only [if_neg h]
    exact markText_l0 18 n _ hn (by omega) (by show (0 : Nat) + 18 ≤ 100; omega)
/-- What the marks are: one function of the number. -/
theorem marks : ∃ mk : Nat → ByteArray, ∀ n : Nat, n < 1000000000000000000 → Ev (fun k => laws_markText.f k (n : Int)) (mk n) :=
  ⟨fun n => if h : n < 1000000000000000000 then (markText_ex n h).choose else ByteArray.empty, fun n hn => by
    have := (markText_ex n hn).choose_spec
    simpa only [dif_pos hn] using this⟩
/-- So many marks from a on. -/
def markL (mk : Nat → ByteArray) (a n : Nat) : List ByteArray := (List.range n).map fun j => mk (a + j)
theorem markL_length (mk : Nat → ByteArray) (a n : Nat) : (markL mk a n).length = n := by simp [markL]
theorem markL_at (mk : Nat → ByteArray) (a n i : Nat) (h : i < n) : (markL mk a n)[i]? = some (mk (a + i)) := by simp [markL, h]
theorem markS_l0 (mk : Nat → ByteArray) (hmk : ∀ n : Nat, n < 1000000000000000000 → Ev (fun k => laws_markText.f k (n : Int)) (mk n)) (a : Nat) (d : Nat) : ∀ (x : List ByteArray) (i : Nat), i + d = x.length → a + x.length < 1000000000000000 →
    (∀ j, j < i → x[j]? = some (mk (a + j))) → Ev (fun k => laws_markStringS.l0 k x ((a + i : Nat) : Int) (i : Int)) (((a + x.length : Nat) : Int), markL mk a x.length) := by
  induction d with
  | zero =>
    intro x i hi hb hx
    have e : x = markL mk a x.length := by
      apply List.ext_getElem?
      intro j
      by_cases hj : j < x.length
      · rw [hx j (by omega), markL_at mk a _ j hj]
      · rw [List.getElem?_eq_none (by omega), List.getElem?_eq_none (by rw [markL_length]; omega)]
    rw [← e]
    refine Ev.step (f := fun _ => some (((a + x.length : Nat) : Int), x)) (fun k => ?_) (Ev.now _)
    rw [laws_markStringS.l0, if_neg (by omega)]
    obtain rfl : i = x.length := by omega
    rfl
  | succ d ih =>
    intro x i hi hb hx
    have hil : i < x.length := by omega
    have w1 : wrap64 (((a + i : Nat) : Int) + 1) = ((a + (i + 1) : Nat) : Int) := by unfold wrap64; omega
    have hl : (x.set i (mk (a + i))).length = x.length := List.length_set
    refine Ev.step (f := fun k => (laws_markText.f k ((a + i : Nat) : Int)).bind fun t => laws_markStringS.l0 k (x.set i t) ((a + (i + 1) : Nat) : Int) ((i + 1 : Nat) : Int)) (fun k => ?_) ?_
    · rw [laws_markStringS.l0, if_pos (by omega)]
      simp only [if_pos (show (0 : Int) ≤ (i : Int) by omega), w1, wsucc i (show i + 1 ≤ 9223372036854775807 by omega), Int.toNat_natCast]
    · refine (hmk (a + i) (by omega)).bind ?_
      have := ih (x.set i (mk (a + i))) (i + 1) (by omega) (by omega) (fun j hj => by
        by_cases h : j = i
        · subst h; rw [List.getElem?_set_self hil]
        · rw [List.getElem?_set_ne (by omega)]; exact hx j (by omega))
      rw [hl] at this
      exact this
theorem markS_ev (mk : Nat → ByteArray) (hmk : ∀ n : Nat, n < 1000000000000000000 → Ev (fun k => laws_markText.f k (n : Int)) (mk n)) (a : Nat) (x : List ByteArray) (h : a + x.length < 1000000000000000) :
    Ev (fun k => laws_markStringS.f k x (a : Int)) (((a + x.length : Nat) : Int), markL mk a x.length) :=
  Ev.congr (fun k => rfl) (markS_l0 mk hmk a x.length x 0 (by omega) h (fun j hj => by omega))
theorem heldS_l0 (mk : Nat → ByteArray) (hmk : ∀ n : Nat, n < 1000000000000000000 → Ev (fun k => laws_markText.f k (n : Int)) (mk n)) (a n : Nat) (hb : a + n < 1000000000000000) (d : Nat) : ∀ (i : Nat), i + d = n →
    Ev (fun k => laws_heldStringS.l0 k (markL mk a n) ((a + i : Nat) : Int) (i : Int)) ((a + n : Nat) : Int) := by
  induction d with
  | zero =>
    intro i hi
    refine Ev.step (f := fun _ => some ((a + n : Nat) : Int)) (fun k => ?_) (Ev.now _)
    rw [laws_heldStringS.l0, if_neg (by rw [markL_length]; omega)]
    obtain rfl : i = n := by omega
    rfl
  | succ d ih =>
    intro i hi
    have hil : i < (markL mk a n).length := by rw [markL_length]; omega
    have hat : (markL mk a n)[i] = mk (a + i) := by
      have := markL_at mk a n i (by omega)
      rw [List.getElem?_eq_getElem hil] at this
      exact Option.some.inj this
    have w1 : wrap64 (((a + i : Nat) : Int) + 1) = ((a + (i + 1) : Nat) : Int) := by unfold wrap64; omega
    refine Ev.step (f := fun k => (laws_markText.f k ((a + i : Nat) : Int)).bind fun t => if (mk (a + i)).toList = t.toList then laws_heldStringS.l0 k (markL mk a n) ((a + (i + 1) : Nat) : Int) ((i + 1 : Nat) : Int) else some (-1)) (fun k => ?_) ?_
    · rw [laws_heldStringS.l0, if_pos (by omega), if_pos (by omega), w1, wsucc i (by omega), rdS _ i hil, hat]
    · refine (hmk (a + i) (by omega)).bind ?_
      simp only [if_true]
      exact ih (i + 1) (by omega)
theorem heldS_ev (mk : Nat → ByteArray) (hmk : ∀ n : Nat, n < 1000000000000000000 → Ev (fun k => laws_markText.f k (n : Int)) (mk n)) (a n : Nat) (hb : a + n < 1000000000000000) :
    Ev (fun k => laws_heldStringS.f k (markL mk a n) (a : Int)) ((a + n : Nat) : Int) :=
  Ev.congr (fun k => rfl) (heldS_l0 mk hmk a n hb n 0 (by omega))
end Go.Proofs.YtmchcoafkaggkaaDoor.Pure
end
section
set_option linter.unusedVariables false
set_option linter.unusedSimpArgs false
namespace Go.Proofs.YtmchcoafkaggkaaDoor.Pure
open Go Go.RowKit Go.Proofs.YtmchcoafkaggkaaDoor Go.Proofs.YtmchcoafkaggkaaDoor.L Go.Proofs.YtmchcoafkaggkaaDoorW.PrintWords Go.Proofs.YtmchcoafkaggkaaDoorW.PrintMore Go.Proofs.YtmchcoafkaggkaaDoorW.PrintLast
set_option maxRecDepth 100000 in
theorem and1_small : ∀ n : Nat, n < 2001 → Go.bits .and .i64 (n : Int) 1 = ((n % 2 : Nat) : Int) := by decide +kernel
/-- The peaks behind one leaf more. -/
def growL (kind : Int) : Nat → Nat → List ByteArray → ByteArray → List ByteArray
  | 0, _, l, x => l ++ [x]
  | f + 1, n, l, x => if n % 2 = 1 then growL kind f (n / 2) (l.take (l.length - 1)) (nodeB kind (l.getD (l.length - 1) ByteArray.empty) x) else l ++ [x]
theorem growL_length (kind : Int) (f : Nat) : ∀ n l x, (growL kind f n l x).length ≤ l.length + 1 := by
  induction f with
  | zero => intro n l x; simp [growL]
  | succ f ih =>
    intro n l x
    rw [growL]
    split
    · have := ih (n / 2) (l.take (l.length - 1)) (nodeB kind (l.getD (l.length - 1) ByteArray.empty) x)
      rw [List.length_take] at this
      omega
    · simp
theorem spec_grow_l0 (kind n0 : Int) (l0 : List ByteArray) (f : Nat) : ∀ (n : Nat) (l : List ByteArray) (x : ByteArray), n < 2 ^ f → n ≤ 2000 → l.length ≤ 100 → l.length = onesN f n → (∀ y ∈ l, y.size ≤ 32) → x.size ≤ 32 →
    Ev (fun k => spec_Grow.l0 k kind l x (n : Int) n0 l0) (wrap64 (n0 + 1), growL kind f n l x) := by
  induction f with
  | zero =>
    intro n l x hn _ hl _ _ _
    obtain rfl : n = 0 := by omega
    refine Ev.step (f := fun _ => some (wrap64 (n0 + 1), l ++ [x])) (fun k => ?_) (Ev.now _)
    rw [spec_Grow.l0, if_neg (by decide), if_pos (by omega)]
  | succ f ih =>
    intro n l x hn hn2 hl hlen hs hx
    have e1 : Int.tmod (n : Int) 2 = ((n % 2 : Nat) : Int) := (Int.ofNat_tmod n 2).symm
    have e2 : Int.tdiv (n : Int) 2 = ((n / 2 : Nat) : Int) := (Int.ofNat_tdiv n 2).symm
    have e4 : wrap64 ((n / 2 : Nat) : Int) = ((n / 2 : Nat) : Int) := by unfold wrap64; omega
    rw [growL]
    by_cases hc : n % 2 = 1
    · have hl1 : 1 ≤ l.length := by rw [hlen, onesN]; omega
      have w : wrap64 ((l.length : Int) - 1) = ((l.length - 1 : Nat) : Int) := by unfold wrap64; omega
      have g : l.getD (l.length - 1) ByteArray.empty = l[l.length - 1] := by simp [show l.length - 1 < l.length by omega]
      have hm := hs _ (List.getElem_mem (show l.length - 1 < l.length by omega))
      rw [if_pos hc, g]
      refine Ev.step (f := fun k => (spec_Node.f k kind l[l.length - 1] x).bind fun t => spec_Grow.l0 k kind (l.take (l.length - 1)) t ((n / 2 : Nat) : Int) n0 l0) (fun k => ?_) ?_
      · rw [spec_Grow.l0, e1, e2, e4, if_pos (by omega), w, if_pos (by omega), if_pos (by omega), rdS l _ (by omega)]
        simp only [if_pos (show ((l.length - 1 : Nat) : Int) ≤ (l.length : Int) by omega), Int.toNat_natCast]
      · refine (spec_node kind _ x (by omega) (by omega)).bind ?_
        refine ih (n / 2) _ _ (by rw [Nat.pow_succ] at hn; omega) (by omega) (by rw [List.length_take]; omega) ?_ (fun y hy => hs y (List.mem_of_mem_take hy)) (nodeB_size _ _ _)
        rw [List.length_take, hlen, onesN]; omega
    · rw [if_neg hc]
      refine Ev.step (f := fun _ => some (wrap64 (n0 + 1), l ++ [x])) (fun k => ?_) (Ev.now _)
      rw [spec_Grow.l0, e1, if_neg (by omega), if_pos (by omega)]
theorem impl_grow_l0 (kind n1 : Int) (f : Nat) : ∀ (n : Nat) (l : List ByteArray) (x : ByteArray), n < 2 ^ f → n ≤ 2000 → l.length ≤ 100 → l.length = onesN f n → (∀ y ∈ l, y.size ≤ 32) → x.size ≤ 32 →
    Ev (fun k => impl_Grow.l0 k kind x (n : Int) n1 l) (n1, growL kind f n l x) := by
  induction f with
  | zero =>
    intro n l x hn _ hl _ _ _
    obtain rfl : n = 0 := by omega
    have e1 : ¬ Go.bits .and .i64 ((0 : Nat) : Int) 1 = 1 := by rw [and1_small 0 (by omega)]; decide
    refine Ev.step (f := fun _ => some (n1, l ++ [x])) (fun k => ?_) (Ev.now _)
    rw [impl_Grow.l0, if_neg e1, if_pos (by omega)]
  | succ f ih =>
    intro n l x hn hn2 hl hlen hs hx
    have e1 := and1_small n (by omega)
    have e2 : (n : Int) / 2 = ((n / 2 : Nat) : Int) := by omega
    rw [growL]
    by_cases hc : n % 2 = 1
    · have hl1 : 1 ≤ l.length := by rw [hlen, onesN]; omega
      have w : wrap64 ((l.length : Int) - 1) = ((l.length - 1 : Nat) : Int) := by unfold wrap64; omega
      have g : l.getD (l.length - 1) ByteArray.empty = l[l.length - 1] := by simp [show l.length - 1 < l.length by omega]
      have hm := hs _ (List.getElem_mem (show l.length - 1 < l.length by omega))
      rw [if_pos hc, g]
      refine Ev.step (f := fun k => impl_Grow.l0 k kind (nodeB kind l[l.length - 1] x) ((n / 2 : Nat) : Int) n1 (l.take (l.length - 1))) (fun k => ?_) ?_
      · rw [impl_Grow.l0, e1, e2, if_pos (by omega), w, if_pos (by omega), if_pos (by omega), rdS l _ (by omega), impl_node kind _ x (by omega) (by omega)]
        simp only [Option.bind_some, if_pos (show ((l.length - 1 : Nat) : Int) ≤ (l.length : Int) by omega), Int.toNat_natCast]
      · refine ih (n / 2) _ _ (by rw [Nat.pow_succ] at hn; omega) (by omega) (by rw [List.length_take]; omega) ?_ (fun y hy => hs y (List.mem_of_mem_take hy)) (nodeB_size _ _ _)
        rw [List.length_take, hlen, onesN]; omega
    · rw [if_neg hc]
      refine Ev.step (f := fun _ => some (n1, l ++ [x])) (fun k => ?_) (Ev.now _)
      rw [impl_Grow.l0, e1, if_neg (by omega), if_pos (by omega)]
/-- What Grow answers. -/
def grown (kind n : Int) (l : List ByteArray) (e : ByteArray) : Int × List ByteArray :=
  if treeOk kind n l = true then (if n = 2000 then (0, []) else (wrap64 (n + 1), growL kind 11 n.toNat l (leafB kind e))) else (0, [])
theorem ones11 (n : Nat) : onesN 11 n ≤ 11 := ones_le 11 n
theorem spec_grow (kind n : Int) (l : List ByteArray) (e : ByteArray) (hl : l.length ≤ 1000000000) (he : e.size ≤ 1048576) : Ev (fun k => spec_Grow.f k kind n l e) (grown kind n l e) := by
  unfold spec_Grow.f grown
  refine (spec_treeOk kind n l (by omega)).bind ?_
  by_cases ht : treeOk kind n l = true
  · obtain ⟨h0, h1, hlen, hs⟩ := treeOk_facts ht
    simp only [if_pos ht]
    by_cases h2 : n = 2000
    · simp only [if_pos h2, h2, beq_self_eq_true]
      refine Ev.step (f := fun _ => some (0, [])) (fun k => ?_) (Ev.now _)
      rw [spec_Grow.j0, if_pos rfl]
    · simp only [if_neg h2, show (n == 2000) = false from beq_eq_false_iff_ne.2 h2]
      have hl' : l.length ≤ 11 := by rw [hlen]; exact ones11 _
      refine Ev.step (f := fun k => (spec_Leaf.f k kind e).bind fun t => spec_Grow.l0 k kind ([] ++ l) t n n l) (fun k => ?_) ?_
      · rw [spec_Grow.j0, if_neg (by decide)]
        simp only [Option.bind_some]
        rw [if_pos (by simp only [List.length_nil]; omega)]
      · refine (spec_leaf kind e (by omega)).bind ?_
        obtain ⟨m, rfl⟩ : ∃ m : Nat, n = m := ⟨n.toNat, by omega⟩
        rw [List.nil_append]
        exact spec_grow_l0 kind m l 11 m l _ (by omega) (by omega) (by omega) (by simpa using hlen) hs (leafB_size _ _)
  · simp only [if_neg ht]
    refine Ev.step (f := fun _ => some (0, [])) (fun k => ?_) (Ev.now _)
    rw [spec_Grow.j0, if_pos rfl]
theorem impl_grow (kind n : Int) (l : List ByteArray) (e : ByteArray) (hl : l.length ≤ 1000000000) (he : e.size ≤ 1048576) : Ev (fun k => impl_Grow.f k kind n l e) (grown kind n l e) := by
  unfold impl_Grow.f grown
  refine (impl_treeOk kind n l (by omega)).bind ?_
  by_cases ht : treeOk kind n l = true
  · obtain ⟨h0, h1, hlen, hs⟩ := treeOk_facts ht
    simp only [if_pos ht]
    by_cases h2 : n = 2000
    · simp only [if_pos h2, h2, beq_self_eq_true]
      refine Ev.step (f := fun _ => some (0, [])) (fun k => ?_) (Ev.now _)
      rw [impl_Grow.j0, if_pos rfl]
    · simp only [if_neg h2, show (n == 2000) = false from beq_eq_false_iff_ne.2 h2]
      have hl' : l.length ≤ 11 := by rw [hlen]; exact ones11 _
      refine Ev.step (f := fun k => impl_Grow.l0 k kind (leafB kind e) n (wrap64 (n + 1)) ([] ++ l)) (fun k => ?_) ?_
      · rw [impl_Grow.j0, if_neg (by decide), impl_leaf kind e (by omega)]
        simp only [Option.bind_some]
        rw [if_pos (by simp only [List.length_nil]; omega)]
      · obtain ⟨m, rfl⟩ : ∃ m : Nat, n = m := ⟨n.toNat, by omega⟩
        rw [List.nil_append]
        exact impl_grow_l0 kind _ 11 m l _ (by omega) (by omega) (by omega) (by simpa using hlen) hs (leafB_size _ _)
  · simp only [if_neg ht]
    refine Ev.step (f := fun _ => some (0, [])) (fun k => ?_) (Ev.now _)
    rw [impl_Grow.j0, if_pos rfl]
theorem grown_length (kind n : Int) (l : List ByteArray) (e : ByteArray) : (grown kind n l e).2.length ≤ l.length + 1 := by
  unfold grown
  split
  · split
    · simp
    · exact growL_length _ _ _ _ _
  · simp
theorem fnExactGrow_pure : fnExactGrow.Pure0 := by
  intro kind n l e _ _ hl hs he0
  have hl' : l.length ≤ 9223372036854775807 := by unfold maxLen at hl; omega
  obtain ⟨mk, hmk⟩ := marks
  have h : Ev (fun k => laws_FnExactGrow.f k kind n l e) true := by
    unfold laws_FnExactGrow.f
    by_cases he : (e.size : Int) > 1048576
    · simp only [if_pos he]; exact Ev.now _
    · simp only [if_neg he]
      refine (szT_ev n l hl' (fun y hy => by have := hs y hy; unfold maxLen at this; omega)).bind ?_
      by_cases hc : (wtS l : Int) ≤ 1048576
      · simp only [if_pos hc, if_neg (show ¬ (1048576 - (wtS l : Int) < 0) by omega)]
        have hle : l.length ≤ 1048576 := by unfold wtS at hc; omega
        refine (toT_ev n l hle).bind ?_
        refine (spec_grow kind n l e (by omega) (by omega)).bind ?_
        refine (toT_ev n l hle).bind ?_
        refine (impl_grow kind n l e (by omega) (by omega)).bind ?_
        have hgl := grown_length kind n l e
        obtain ⟨gn, gl, hg⟩ : ∃ gn gl, grown kind n l e = (gn, gl) := ⟨_, _, rfl⟩
        have himpl := impl_grow kind n l e (by omega) (by omega)
        rw [hg] at hgl himpl ⊢
        simp only at hgl
        refine (eqT_ev gn gl (by omega)).bind ?_
        simp only [if_true]
        refine (toT_ev n l hle).bind ?_
        refine (eqT_ev n l hl').bind ?_
        simp only [if_true]
        have hmt : ∀ (m : Int) (x : List ByteArray), x.length ≤ 2000000 → Ev (fun k => laws_markTree.f k m x 1) (((1 + x.length : Nat) : Int), markL mk 1 x.length) := fun m x hx => by
          unfold laws_markTree.f
          exact (markS_ev mk hmk 1 x (by omega)).bind (f := fun _ t => some (t.1, t.2)) (Ev.now _)
        have hht : ∀ (m : Int) (x : Nat), x ≤ 2000000 → Ev (fun k => laws_heldTree.f k m (markL mk 1 x) 1) ((1 + x : Nat) : Int) := fun m x hx => by
          unfold laws_heldTree.f
          refine (heldS_ev mk hmk 1 x (by omega)).bind (f := fun _ t => if t < 0 then some (-1) else some t) ?_
          simp only [if_neg (show ¬ ((1 + x : Nat) : Int) < 0 by omega)]
          exact Ev.now _
        refine (hmt n l (by omega)).bind ?_
        simp only [if_neg (show ¬ ((1 + l.length : Nat) : Int) < 0 by omega)]
        refine (eqT_ev gn gl (by omega)).bind ?_
        refine Ev.step (f := fun k => (laws_markTree.f k gn gl 1).bind fun bt => (laws_heldTree.f k gn bt.2 1).bind fun t => if t < 0 then some false else if t = bt.1 then ((laws_toTree.f k n l).bind fun bt3 => (impl_Grow.f k kind bt3.1 bt3.2 e).bind fun bt7 => (laws_eqTree.f k bt7.1 bt7.2 gn gl).bind fun t2 => if t2 = true then ((laws_heldTree.f k gn bt.2 1).bind fun t3 => if t3 < 0 then some false else if t3 = bt.1 then some true else some false) else some false) else some false) (fun k => ?_) ?_
        · rw [laws_FnExactGrow.j0, if_neg (by decide)]
        · refine (hmt gn gl (by omega)).bind ?_
          refine (hht gn gl.length (by omega)).bind ?_
          simp only [if_neg (show ¬ ((1 + gl.length : Nat) : Int) < 0 by omega), if_true]
          refine (toT_ev n l hle).bind ?_
          refine himpl.bind ?_
          refine (eqT_ev gn gl (by omega)).bind ?_
          simp only [if_true]
          refine (hht gn gl.length (by omega)).bind ?_
          simp only [if_neg (show ¬ ((1 + gl.length : Nat) : Int) < 0 by omega), if_true]
          exact Ev.now _
      · simp only [if_neg hc, if_pos (show (-1 : Int) < 0 by decide)]
        exact Ev.now _
  exact h.rounds
end Go.Proofs.YtmchcoafkaggkaaDoor.Pure
namespace Go.Proofs.YtmchcoafkaggkaaDoor
theorem fnExactGrow_holds : Rows.FnExactGrowCardSaid := fnExactGrow.card Pure.fnExactGrow_pure
end Go.Proofs.YtmchcoafkaggkaaDoor
end
