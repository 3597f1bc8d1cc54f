/- The texts that the proof of the law FnBurst rests on, part 7: printed functions with their contracts, words, plain laws; the last part ends in the statement itself. No condition but those that each theorem states. -/
import Derived.Test.YtoebfjfhdodakaaKFnBurst6
set_option linter.unusedVariables false
set_option linter.unusedSimpArgs false
section
set_option linter.unusedVariables false
set_option linter.unusedSimpArgs false
namespace Go.Proofs.Ytoebfjfhdodakaa.Pure
open Go Go.RowKit Go.Proofs.Ytoebfjfhdodakaa Go.Proofs.Ytoebfjfhdodakaa.L Go.Proofs.YtoebfjfhdodakaaW.PrintWords Go.Proofs.YtoebfjfhdodakaaW.PrintMore Go.Proofs.YtoebfjfhdodakaaW.PrintLast
theorem StmG.stmOk {m : Nat} {kind : Int} {table : ByteArray} {cols : List Col} {vals : List Val} {col : ByteArray} {exp wh : List Itm} {outs : List (List Itm)}
    (h : StmG m kind table cols vals col exp wh outs) (hm : m ≤ 20) : stmOk kind table cols vals col exp wh outs = true := by
  obtain ⟨ht, h⟩ := h
  have hnil : (⟨#[]⟩ : ByteArray).toList = ([] : List UInt8) := by rw [ByteArray.toList_eq]
  have hwh : ∀ w, WhG w → whOk w = true := by
    intro w hw
    unfold whOk
    rcases hw with rfl | hw
    · rfl
    · rw [hw.ok (by omega), Bool.or_true]
  unfold Pure.stmOk
  rw [ht, Bool.true_and]
  rcases h with ⟨rfl, rfl, rfl, rfl, rfl, rfl, h1, h2, h3⟩ | ⟨rfl, rfl, rfl, rfl, rfl, rfl, h1, h2, h3⟩ | ⟨rfl, rfl, rfl, rfl, h1, h2, h3⟩ | ⟨rfl, rfl, rfl, rfl, rfl, rfl, h1⟩ | ⟨rfl, rfl, rfl, rfl, rfl, h0, h1, h2, h3⟩
  · have e : cols.all colOk = true := List.all_eq_true.2 h3
    rw [if_pos rfl, e, decide_eq_true (And.intro h1 (by omega : cols.length ≤ 20)), decide_eq_true hnil]
    rfl
  · have e : (vals.all fun v => valOk v.f0 v.f1 v.f2) = true := List.all_eq_true.2 h3
    rw [if_neg (by decide), if_pos rfl, e, decide_eq_true (And.intro h1 (by omega : vals.length ≤ 20)), decide_eq_true hnil]
    rfl
  · rw [if_neg (by decide), if_neg (by decide), if_pos rfl, h1, h2.ok (by omega), hwh wh h3]
    rfl
  · rw [if_neg (by decide), if_neg (by decide), if_neg (by decide), if_pos rfl, hwh wh h1, decide_eq_true hnil]
    rfl
  · have e : outs.all expOk = true := List.all_eq_true.2 fun v hv => (h3 v hv).ok (by omega)
    rw [if_neg (by decide), if_neg (by decide), if_neg (by decide), if_neg (by decide), if_pos rfl, hwh wh h0, e, decide_eq_true (And.intro h1 (by omega : outs.length ≤ 20)), decide_eq_true hnil]
    rfl
theorem exp_bytes {e : List Itm} (h : e.length ≤ 15) (hs : ∀ z ∈ e, z.f2.size ≤ 200) : (expEnc e).size ≤ 4000 := by
  have := foldI_size e hs (encN 2 (e.length : Int))
  rw [encN_size] at this
  unfold expEnc
  omega
theorem foldC_size (l : List Col) (hs : ∀ y ∈ l, y.f0.size ≤ 30) : ∀ s : ByteArray, s.size ≤ (l.foldl stepC s).size ∧ (l.foldl stepC s).size ≤ s.size + l.length * 32 := by
  induction l with
  | nil => intro s; simp
  | cons y l ih =>
    intro s
    have h1 := ih (fun z hz => hs z (List.mem_cons_of_mem _ hz)) (stepC s y)
    have h2 := hs y List.mem_cons_self
    have h3 : (stepC s y).size = s.size + (1 + y.f0.size + 1) := by unfold stepC; rw [ByteArray.size_append, ByteArray.size_append, enc8_size, encN_size]
    rw [List.foldl_cons, List.length_cons, Nat.add_mul]
    omega
theorem foldV_size (l : List Val) (hs : ∀ y ∈ l, y.f2.size ≤ 200) : ∀ s : ByteArray, s.size ≤ (l.foldl stepV s).size ∧ (l.foldl stepV s).size ≤ s.size + l.length * 250 := by
  induction l with
  | nil => intro s; simp
  | cons y l ih =>
    intro s
    have h1 := ih (fun z hz => hs z (List.mem_cons_of_mem _ hz)) (stepV s y)
    have h2 := hs y List.mem_cons_self
    have h3 : s.size ≤ (stepV s y).size ∧ (stepV s y).size ≤ s.size + 250 := by
      unfold stepV
      split
      · rw [ByteArray.size_append, ByteArray.size_append, encN_size, encN_size]; omega
      · rw [ByteArray.size_append, ByteArray.size_append, encN_size, enc16_size]; omega
    rw [List.foldl_cons, List.length_cons, Nat.add_mul]
    omega
theorem foldE_size (l : List (List Itm)) (hs : ∀ y ∈ l, (expEnc y).size ≤ 4000) : ∀ s : ByteArray, s.size ≤ (l.foldl (fun s e => s ++ expEnc e) s).size ∧ (l.foldl (fun s e => s ++ expEnc e) s).size ≤ s.size + l.length * 4000 := by
  induction l with
  | nil => intro s; simp
  | cons y l ih =>
    intro s
    have h1 := ih (fun z hz => hs z (List.mem_cons_of_mem _ hz)) (s ++ expEnc y)
    have h2 := hs y List.mem_cons_self
    have h3 : (s ++ expEnc y).size = s.size + (expEnc y).size := ByteArray.size_append
    rw [List.foldl_cons, List.length_cons, Nat.add_mul]
    omega
theorem capB_size {s : ByteArray} (h1 : 1 ≤ s.size) (h2 : s.size ≤ 60000) : 1 ≤ (capB s).size ∧ (capB s).size ≤ 60000 := by
  unfold capB
  rw [if_neg (by omega)]
  exact ⟨h1, h2⟩
/-- A drawn statement's bytes. -/
theorem StmG.bytes {m : Nat} {kind : Int} {table : ByteArray} {cols : List Col} {vals : List Val} {col : ByteArray} {exp wh : List Itm} {outs : List (List Itm)}
    (h : StmG m kind table cols vals col exp wh outs) (hm : m ≤ 20) : EvP (fun k => spec_EncodeStm.f k kind table cols vals col exp wh outs) (fun e => 1 ≤ e.size ∧ e.size ≤ 60000) := by
  have hok := h.stmOk hm
  have hlen : cols.length ≤ 1000000000 ∧ vals.length ≤ 1000000000 ∧ outs.length ≤ 1000000000 := by
    rcases h.2 with ⟨rfl, rfl, rfl, rfl, rfl, rfl, h1, h2, h3⟩ | ⟨rfl, rfl, rfl, rfl, rfl, rfl, h1, h2, h3⟩ | ⟨rfl, rfl, rfl, rfl, h1, h2, h3⟩ | ⟨rfl, rfl, rfl, rfl, rfl, rfl, h1⟩ | ⟨rfl, rfl, rfl, rfl, rfl, h0, h1, h2, h3⟩ <;> simp <;> omega
  refine ⟨_, spec_enc kind table cols vals col exp wh outs (spec_stm table cols vals col exp wh outs kind hlen.1 hlen.2.1 hlen.2.2), ?_⟩
  have ht := name_small h.1
  have hex : ∀ {e}, ExpQ 15 e → (expEnc e).size ≤ 4000 := fun he => exp_bytes he.2.1 (exp_small (he.ok (by omega))).2
  have hwh : ∀ w, WhG w → (expEnc w).size ≤ 4000 := by
    intro w hw
    rcases hw with rfl | hw
    · exact exp_bytes (by simp) (fun z hz => by cases hz)
    · exact hex hw
  have hhead : ∀ n : Int, ((encN 1 kind ++ enc8 table) ++ encN 1 n).size = 1 + (1 + table.size) + 1 := fun n => by rw [ByteArray.size_append, ByteArray.size_append, encN_size, encN_size, enc8_size]
  unfold encStm
  rw [if_pos hok]
  rcases h.2 with ⟨rfl, rfl, rfl, rfl, rfl, rfl, h1, h2, h3⟩ | ⟨rfl, rfl, rfl, rfl, rfl, rfl, h1, h2, h3⟩ | ⟨rfl, rfl, rfl, rfl, h1, h2, h3⟩ | ⟨rfl, rfl, rfl, rfl, rfl, rfl, h1⟩ | ⟨rfl, rfl, rfl, rfl, rfl, h0, h1, h2, h3⟩
  · rw [if_pos rfl]
    have := foldC_size cols (fun y hy => name_small (colOk_name (h3 y hy))) ((encN 1 1 ++ enc8 table) ++ encN 1 (cols.length : Int))
    rw [hhead] at this
    exact capB_size (by omega) (by omega)
  · rw [if_neg (by decide), if_pos rfl]
    have hv : ∀ y ∈ vals, y.f2.size ≤ 200 := fun y hy => by
      have := h3 y hy
      unfold valOk at this
      by_cases c1 : y.f0 = 1
      · rw [if_pos c1, Bool.and_eq_true] at this
        rw [empty_size (beq_iff_eq.mp this.2)]; omega
      · rw [if_neg c1] at this
        by_cases c2 : y.f0 = 2
        · rw [if_pos c2, Bool.and_eq_true] at this
          have := this.2
          unfold textOk at this
          rw [Bool.and_eq_true, decide_eq_true_eq] at this
          exact this.1
        · rw [if_neg c2] at this; cases this
    have := foldV_size vals hv ((encN 1 2 ++ enc8 table) ++ encN 1 (vals.length : Int))
    rw [hhead] at this
    exact capB_size (by omega) (by omega)
  · rw [if_neg (by decide), if_neg (by decide), if_pos rfl]
    have z1 := hex h2
    have z2 := hwh wh h3
    have z3 := name_small h1
    have e : ((encN 1 3 ++ enc8 table) ++ ((enc8 col ++ expEnc exp) ++ expEnc wh)).size = 1 + (1 + table.size) + ((1 + col.size) + (expEnc exp).size + (expEnc wh).size) := by
      rw [ByteArray.size_append, ByteArray.size_append, ByteArray.size_append, ByteArray.size_append, encN_size, enc8_size, enc8_size]
    exact capB_size (by omega) (by omega)
  · rw [if_neg (by decide), if_neg (by decide), if_neg (by decide), if_pos rfl]
    have z2 := hwh wh h1
    have e : ((encN 1 4 ++ enc8 table) ++ expEnc wh).size = 1 + (1 + table.size) + (expEnc wh).size := by rw [ByteArray.size_append, ByteArray.size_append, encN_size, enc8_size]
    exact capB_size (by omega) (by omega)
  · rw [if_neg (by decide), if_neg (by decide), if_neg (by decide), if_neg (by decide), if_pos rfl]
    have z2 := hwh wh h0
    have := foldE_size outs (fun y hy => hex (h3 y hy)) ((encN 1 5 ++ enc8 table) ++ encN 1 (outs.length : Int))
    rw [hhead] at this
    have e : (outs.foldl (fun s e => s ++ expEnc e) ((encN 1 5 ++ enc8 table) ++ encN 1 (outs.length : Int)) ++ expEnc wh).size = (outs.foldl (fun s e => s ++ expEnc e) ((encN 1 5 ++ enc8 table) ++ encN 1 (outs.length : Int))).size + (expEnc wh).size := ByteArray.size_append
    exact capB_size (by omega) (by omega)
def EntOk (l : List ByteArray) : Prop := ∀ e ∈ l, 1 ≤ e.size ∧ e.size ≤ 60000
theorem EntOk.push {l : List ByteArray} {e : ByteArray} (h : EntOk l) (he : 1 ≤ e.size ∧ e.size ≤ 60000) : EntOk (l ++ [e]) := fun x hx => by
  rcases List.mem_append.1 hx with hx | hx
  · exact h x hx
  · obtain rfl := List.mem_singleton.1 hx
    exact he
theorem entries_l1 {code : List Int} (hC : CodeOk code) (n d : Nat) : ∀ (i : Nat) (l : List ByteArray) (a s b : Int), i + d = n → n ≤ 1000 → l.length + d ≤ 2000 → EntOk l → Cu b a s → b + 1000 * (d : Int) ≤ 100000000000 →
    EvP (fun k => spec_l7DrawEntries.l1 k l (n : Int) (i : Int) code a s) (fun r => EntOk r.1 ∧ r.1.length = l.length + d ∧ Cu (b + 1000 * (d : Int)) r.2.1 r.2.2) := by
  induction d with
  | zero =>
    intro i l a s b hi hn hl hk hc hb
    exact EvP.step (fun k => by rw [spec_l7DrawEntries.l1, if_neg (by omega)]) (EvP.now _ ⟨hk, rfl, hc.mono (by show b ≤ b + 1000 * ((0 : Nat) : Int); omega)⟩)
  | succ d ih =>
    intro i l a s b hi hn hl hk hc hb
    refine EvP.step (fun k => by rw [spec_l7DrawEntries.l1, if_pos (by omega)]) ?_
    refine (stm_ok hC hc (by omega)).bind fun r hr => ?_
    refine (hr.1.bytes (by decide)).bind fun e he => ?_
    refine EvP.pos (by omega) ?_
    refine EvP.congr (fun k => by rw [wsucc i (by omega)]) ?_
    exact (ih (i + 1) _ _ _ (b + 1000) (by omega) hn (by simp; omega) (hk.push he) hr.2 (by show b + 1000 + 1000 * (d : Int) ≤ 100000000000; omega)).mono fun r h => ⟨h.1, by rw [h.2.1, List.length_append, List.length_singleton]; omega, h.2.2.mono (by omega)⟩
theorem entries_ok {code : List Int} (hC : CodeOk code) (most : Int) (hm : 1 ≤ most ∧ most ≤ 100) {a s b : Int} (hc : Cu b a s) (hb : b ≤ 1000000000) :
    EvP (fun k => spec_l7DrawEntries.f k code a s most) (fun r => EntOk r.1 ∧ 4 ≤ r.1.length ∧ r.1.length ≤ 2000 ∧ Cu (b + 200000) r.2.1 r.2.2) := by
  unfold spec_l7DrawEntries.f spec_l7Head.f
  obtain ⟨c1, e1, h1⟩ := usual_ok (⟨#[116]⟩ : ByteArray)
  obtain ⟨c2, e2, h2⟩ := usual_ok (⟨#[117]⟩ : ByteArray)
  simp only [e1, e2, Option.bind_some]
  have g1 : StmG 3 1 (⟨#[116]⟩ : ByteArray) c1 [] (⟨#[]⟩ : ByteArray) [] [] [] := ⟨by decide, .inl ⟨rfl, rfl, rfl, rfl, rfl, rfl, h1.1, h1.2.1, h1.2.2⟩⟩
  have g2 : StmG 3 1 (⟨#[117]⟩ : ByteArray) c2 [] (⟨#[]⟩ : ByteArray) [] [] [] := ⟨by decide, .inl ⟨rfl, rfl, rfl, rfl, rfl, rfl, h2.1, h2.2.1, h2.2.2⟩⟩
  refine EvP.step (fun k => by rw [spec_l7DrawEntries.l0, if_pos (by simp), if_pos (by omega), if_pos (by simp)]) ?_
  refine (g1.bytes (by decide)).bind fun x hx => ?_
  refine EvP.pos (by decide) ?_
  refine EvP.step (fun k => by rw [show wrap64 (0 + 1) = 1 from w64 _ (by omega), spec_l7DrawEntries.l0, if_pos (by simp), if_pos (by omega), if_pos (by simp)]) ?_
  refine (g2.bytes (by decide)).bind fun y hy => ?_
  refine EvP.pos (by simp) ?_
  refine EvP.step (fun k => by rw [show wrap64 (1 + 1) = 2 from w64 _ (by omega), spec_l7DrawEntries.l0, if_neg (by simp)]) ?_
  obtain ⟨q, a', s', e, q0, q1, hc'⟩ := pick_ok hC most (by omega) (by omega) hc (by omega)
  simp only [e, Option.bind_some]
  have hw1 : wrap64 (2 + q) = ((2 + q.toNat : Nat) : Int) := by rw [w64 _ (by omega)]; omega
  rw [hw1]
  have hE : EntOk (([] ++ [x]) ++ [y]) := (EntOk.push (l := []) (fun e h => by cases h) hx).push hy
  refine (entries_l1 hC (2 + q.toNat) (2 + q.toNat) 0 _ a' s' (b + 2) (by omega) (by omega) (by simp; omega) hE hc' (by omega)).mono fun r h => ⟨h.1, ?_, ?_, h.2.2.mono (by omega)⟩
  · rw [h.2.1]; simp; omega
  · rw [h.2.1]; simp; omega
theorem bytes_l0 {code : List Int} (hC : CodeOk code) (n d : Nat) : ∀ (i : Nat) (l : List Int) (a s b : Int), i + d = n → n ≤ 1000 → l.length + d ≤ 2000 → Cu b a s → b + 2 * (d : Int) ≤ 100000000000 →
    EvP (fun k => spec_l1DrawBytes.l0 k l (n : Int) (i : Int) code a s) (fun r => Cu (b + 2 * (d : Int)) r.2.1 r.2.2) := by
  induction d with
  | zero =>
    intro i l a s b hi hn hl hc hb
    exact EvP.step (fun k => by rw [spec_l1DrawBytes.l0, if_neg (by omega)]) (EvP.now _ (hc.mono (by show b ≤ b + 2 * ((0 : Nat) : Int); omega)))
  | succ d ih =>
    intro i l a s b hi hn hl hc hb
    obtain ⟨q, a', s', e, q0, q1, hc'⟩ := pick_ok hC 256 (by decide) (by decide) hc (by omega)
    refine EvP.step (G := fun k => spec_l1DrawBytes.l0 k (l ++ [q % 256]) (n : Int) ((i + 1 : Nat) : Int) code a' s') (fun k => by rw [spec_l1DrawBytes.l0, if_pos (by omega), e, Option.bind_some, if_pos (by omega), wsucc i (by omega)]) ?_
    exact (ih (i + 1) _ _ _ (b + 2) (by omega) hn (by simp; omega) hc' (by omega)).mono fun r h => h.mono (by omega)
theorem bytes_ok {code : List Int} (hC : CodeOk code) (most : Int) (hm : 0 ≤ most ∧ most ≤ 100) {a s b : Int} (hc : Cu b a s) (hb : b ≤ 10000000000) :
    EvP (fun k => spec_l1DrawBytes.f k code a s most) (fun r => Cu (b + 300) r.2.1 r.2.2) := by
  unfold spec_l1DrawBytes.f
  rw [w64 (most + 1) (by omega)]
  obtain ⟨q, a', s', e, q0, q1, hc'⟩ := pick_ok hC (most + 1) (by omega) (by omega) hc (by omega)
  simp only [e, Option.bind_some]
  obtain ⟨n, rfl⟩ : ∃ n : Nat, q = n := ⟨q.toNat, by omega⟩
  exact (bytes_l0 hC n n 0 [] a' s' (b + 2) (by omega) (by omega) (by simp; omega) hc' (by omega)).mono fun r h => h.mono (by omega)
theorem work_l0 {code : List Int} (hC : CodeOk code) (list : List ByteArray) (d : Nat) : ∀ (i : Nat) (l : List ByteArray) (a s b : Int), i + d = 6 → l.length + d ≤ 100 → Cu b a s → b + 300 * (d : Int) ≤ 10000000000 →
    EvP (fun k => spec_DrawWork.l0 k list l (i : Int) code a s) (fun r => r.1 = list) := by
  induction d with
  | zero =>
    intro i l a s b hi hl hc hb
    exact EvP.step (fun k => by rw [spec_DrawWork.l0, if_neg (by omega)]) (EvP.now _ rfl)
  | succ d ih =>
    intro i l a s b hi hl hc hb
    refine EvP.step (fun k => by rw [spec_DrawWork.l0, if_pos (by omega)]) ?_
    refine (bytes_ok hC 40 (by decide) hc (by omega)).bind fun r hr => ?_
    refine EvP.pos (by omega) ?_
    refine EvP.congr (fun k => by rw [wsucc i (by omega)]) ?_
    exact ih (i + 1) _ _ _ (b + 300) (by omega) (by simp; omega) hr (by omega)
/-- What the laws work on: statements' bytes, four at least. -/
theorem work_ok {code : List Int} (hC : CodeOk code) : EvP (fun k => spec_DrawWork.f k code) (fun r => EntOk r.1 ∧ 4 ≤ r.1.length ∧ r.1.length ≤ 2000) := by
  unfold spec_DrawWork.f
  refine (entries_ok hC 12 (by decide) (b := 0) ⟨by decide, by decide, by decide, by decide⟩ (by decide)).bind fun r hr => ?_
  exact (work_l0 hC r.1 6 0 [] _ _ _ rfl (by simp) hr.2.2.2 (by omega)).mono fun q hq => by
    rw [hq]
    exact ⟨hr.1, hr.2.1, hr.2.2.1⟩
end Go.Proofs.Ytoebfjfhdodakaa.Pure
end
section
set_option linter.unusedVariables false
set_option linter.unusedSimpArgs false
namespace Go.Proofs.Ytoebfjfhdodakaa.Pure
open Go Go.RowKit Go.Proofs.Ytoebfjfhdodakaa Go.Proofs.Ytoebfjfhdodakaa.L Go.Proofs.YtoebfjfhdodakaaW.PrintWords Go.Proofs.YtoebfjfhdodakaaW.PrintMore Go.Proofs.YtoebfjfhdodakaaW.PrintLast
theorem hpick_ok {l : List Int} (hC : CodeOk l) (i n : Int) (hi : 0 ≤ i) (hn : 1 ≤ n) : ∃ r, laws_hPick.f l i n = some r ∧ 0 ≤ r ∧ r < n := by
  unfold laws_hPick.f
  by_cases c0 : (l.length : Int) = 0
  · rw [if_pos c0]
    exact ⟨0, rfl, by omega, by omega⟩
  · rw [if_neg c0]
    by_cases c1 : n ≤ 1
    · rw [if_pos c1]
      exact ⟨0, rfl, by omega, by omega⟩
    · rw [if_neg c1]
      have t1 := Int.tmod_nonneg (a := i) (l.length : Int) hi
      have t2 := Int.tmod_lt_of_pos i (b := (l.length : Int)) (by omega)
      have hr := hC.1 _ (rd_mem l (Int.tmod i (l.length : Int)) t1 t2)
      rw [if_pos t1, if_pos t2, if_neg (by omega), w64 _ (by omega)]
      exact ⟨_, rfl, Int.tmod_nonneg _ hr.1, Int.tmod_lt_of_pos _ (by omega)⟩
theorem hstr_ok (e : ByteArray) : Ev (fun k => laws_hStrings.f k [e] [e]) true := by
  unfold laws_hStrings.f
  simp only [if_true]
  refine Ev.step (fun k => by rw [laws_hStrings.l0, if_pos (by simp), if_pos (by omega), if_pos (by simp), if_pos (by simp), if_pos rfl]) ?_
  refine Ev.step (f := fun _ => some true) (fun k => by rw [show wrap64 (0 + 1) = 1 from w64 _ (by omega), laws_hStrings.l0, if_neg (by simp)]) (Ev.now _)
theorem fnBurst_pure : fnBurst.Pure0 := by
  intro l0 l1 h0 g0 h1 g1
  have h : Ev (fun k => laws_FnBurst.f k l0 l1) true := by
    unfold laws_FnBurst.f
    by_cases hl : l0.length ≤ 1048576 ∧ l1.length ≤ 1048576
    · simp only [if_pos hl]
      have hb : ∀ y : Int, (Lit.int .u8 y).wf = true → 0 ≤ y ∧ y ≤ 255 := fun y hy => by
        have := (by simpa [Lit.wf, IntKind.min, IntKind.max, IntKind.bits, IntKind.signed] using hy : 0 ≤ y ∧ y ≤ 255)
        exact this
      have hC0 : CodeOk l0 := ⟨fun y hy => hb y (g0 y hy), hl.1⟩
      have hC1 : CodeOk l1 := ⟨fun y hy => hb y (g1 y hy), hl.2⟩
      obtain ⟨⟨list, texts⟩, hw, hE, h4, hz⟩ := work_ok hC0
      refine hw.bind ?_
      obtain ⟨j, ej, j0, j1⟩ := hpick_ok hC1 0 (list.length : Int) (by omega) (by dsimp only at h4; omega)
      obtain ⟨p1, e1, p10, p11⟩ := hpick_ok hC1 1 256 (by omega) (by omega)
      obtain ⟨p2, e2, p20, p21⟩ := hpick_ok hC1 2 256 (by omega) (by omega)
      simp only [ej, Option.bind_some]
      refine Ev.pos ⟨j0, j1⟩ ?_
      have he := hE _ (rdOf_mem ByteArray.empty list j j0 j1)
      generalize rdOf ByteArray.empty list j = e at he ⊢
      obtain ⟨hfz, _, _, _⟩ := frame_parts e he.1 he.2
      refine (impl_frame e (by omega)).bind ?_
      refine (impl_scan (frameB e) (by omega)).bind ?_
      refine (hstr_ok e).bind ?_
      simp only [e1, e2, Option.bind_some]
      have w1 : wrap64 (8 * (e.size : Int)) = 8 * (e.size : Int) := w64 _ (by omega)
      have x0 := Int.tmod_nonneg (a := wrap64 (wrap64 (p1 * 256) + p2)) (wrap64 (8 * (e.size : Int))) (by rw [w64 (p1 * 256) (by omega), w64 _ (by omega)]; omega)
      have x1 := Int.tmod_lt_of_pos (wrap64 (wrap64 (p1 * 256) + p2)) (b := wrap64 (8 * (e.size : Int))) (by rw [w1]; omega)
      rw [w1] at x0 x1
      rw [w1]
      generalize Int.tmod (wrap64 (wrap64 (p1 * 256) + p2)) (8 * (e.size : Int)) = x at x0 x1 ⊢
      obtain ⟨g, hg⟩ := bGo_some (fun i => laws_hPick.f l1 i 2) (fun i => by
        obtain ⟨r, hr, _⟩ := hpick_ok hC1 (i : Int) 2 (by omega) (by omega)
        exact ⟨r, hr⟩) x.toNat e.size 32 (frameB e)
      simp only [hg, Option.bind_some]
      obtain ⟨hs, hgz⟩ := scan_burst _ x.toNat e g he.1 he.2 (by omega) hg
      refine (impl_scan g (by omega)).bind ?_
      rw [hs, scan_frame e he.1 he.2]
      have ht : totP [e] = e.size + 8 := by simp [totP]; omega
      refine Ev.pos ⟨?_, trivial, hfz, he.1, by omega, rfl, x0, by omega⟩ (Ev.now _)
      rw [ht, hfz]
    · simp only [if_neg hl]
      exact Ev.now _
  exact h.rounds
end Go.Proofs.Ytoebfjfhdodakaa.Pure
namespace Go.Proofs.Ytoebfjfhdodakaa
theorem fnBurst_holds : Rows.FnBurstSaid := fnBurst.over Pure.fnBurst_pure
end Go.Proofs.Ytoebfjfhdodakaa
end
