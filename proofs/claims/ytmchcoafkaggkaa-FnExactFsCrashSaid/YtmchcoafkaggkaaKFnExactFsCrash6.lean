/- The texts that the proof of the law FnExactFsCrash rests on, part 6: printed functions with their contracts, words, plain laws; the last part ends in the statement itself. No condition but those that each theorem states. -/
import Derived.Test.YtmchcoafkaggkaaKFnExactFsCrash5
set_option linter.unusedVariables false
set_option linter.unusedSimpArgs false
section
namespace Go.Proofs.Ytmchcoafkaggkaa.L
open Go.RowKit Go.Proofs.YtmchcoafkaggkaaW.PrintWords Go.Proofs.YtmchcoafkaggkaaW.PrintLast Go.Proofs.YtmchcoafkaggkaaW.PrintMore
attribute [local go_sem] max2_int min2_int max_two min_two max_three min_three max_four min_four
set_option linter.unusedVariables false
set_option linter.unusedSimpArgs false
def laws_FnExactFsCrash.j0 : Nat → List ByteArray → Bool → List (S83) → Int → Int → Int → Int → Bool → List (S58) → Int → Int → Int → Int → Bool → List (S58) → Int → Int → Int → Int → Bool → Option (Bool)
  | 0, _, _, _, _, _, _, _, _, _, _, _, _, _, _, _, _, _, _, _, _ => none
  | k + 1, x1, x63, x197000, x197001, x197002, x197003, x197004, x197005, x219000, x219001, x219002, x219003, x219004, x219005, x240000, x240001, x240002, x240003, x240004, x240005 => if x63 = true then (some false) else ((laws_markFs.f k x240000 x240001 x240002 x240003 x240004 x240005 1).bind fun bt259 => ((laws_heldFs.f k bt259.2 x240001 x240002 x240003 x240004 x240005 1).bind fun t261 => (if t261 < 0 then (some false) else (if t261 = bt259.1 then ((laws_toFs.f k x197000 x197001 x197002 x197003 x197004 x197005).bind fun bt262 => ((laws_toStringS.f k x1).bind fun t270 => ((impl_FsCrash.f k bt262.1 bt262.2.1 bt262.2.2.1 bt262.2.2.2.1 bt262.2.2.2.2.1 bt262.2.2.2.2.2 t270).bind fun bt273 => ((laws_eqFs.f k bt273.1 bt273.2.1 bt273.2.2.1 bt273.2.2.2.1 bt273.2.2.2.2.1 bt273.2.2.2.2.2 x219000 x219001 x219002 x219003 x219004 x219005).bind fun t282 => (if t282 = true then ((laws_heldFs.f k bt259.2 x240001 x240002 x240003 x240004 x240005 1).bind fun t283 => (if t283 < 0 then (some false) else (if t283 = bt259.1 then (some true) else (some false)))) else (some false)))))) else (some false)))))
def laws_FnExactFsCrash.f (k : Nat) (l0_0 : List (S83)) (a0_1 : Int) (a0_2 : Int) (a0_3 : Int) (a0_4 : Int) (a0_5 : Bool) (l1 : List ByteArray) : Option (Bool) := (laws_szFs.f k l0_0 a0_1 a0_2 a0_3 a0_4 a0_5 1048576).bind fun t197 => (if t197 < 0 then (some true) else ((laws_szStringS.f k l1 t197).bind fun t198 => (if t198 < 0 then (some true) else ((laws_toFs.f k l0_0 a0_1 a0_2 a0_3 a0_4 a0_5).bind fun bt199 => ((laws_toStringS.f k l1).bind fun t207 => ((spec_FsCrash.f k bt199.1 bt199.2.1 bt199.2.2.1 bt199.2.2.2.1 bt199.2.2.2.2.1 bt199.2.2.2.2.2 t207).bind fun bt210 => ((laws_toFs.f k l0_0 a0_1 a0_2 a0_3 a0_4 a0_5).bind fun bt219 => ((laws_toStringS.f k l1).bind fun t228 => ((impl_FsCrash.f k bt219.1 bt219.2.1 bt219.2.2.1 bt219.2.2.2.1 bt219.2.2.2.2.1 bt219.2.2.2.2.2 t228).bind fun bt231 => ((laws_eqFs.f k bt231.1 bt231.2.1 bt231.2.2.1 bt231.2.2.2.1 bt231.2.2.2.2.1 bt231.2.2.2.2.2 bt210.1 bt210.2.1 bt210.2.2.1 bt210.2.2.2.1 bt210.2.2.2.2.1 bt210.2.2.2.2.2).bind fun t240 => (if t240 = true then ((laws_toFs.f k l0_0 a0_1 a0_2 a0_3 a0_4 a0_5).bind fun bt241 => ((laws_eqFs.f k bt219.1 bt219.2.1 bt219.2.2.1 bt219.2.2.2.1 bt219.2.2.2.2.1 bt219.2.2.2.2.2 bt241.1 bt241.2.1 bt241.2.2.1 bt241.2.2.2.1 bt241.2.2.2.2.1 bt241.2.2.2.2.2).bind fun t249 => (if t249 = true then ((laws_toStringS.f k l1).bind fun t250 => ((laws_eqStringS.f k t228 t250).bind fun t253 => (if t253 = true then ((laws_markFs.f k bt219.1 bt219.2.1 bt219.2.2.1 bt219.2.2.2.1 bt219.2.2.2.2.1 bt219.2.2.2.2.2 1).bind fun bt254 => ((laws_markStringS.f k t228 bt254.1).bind fun bt256 => (if bt256.1 < 0 then (laws_FnExactFsCrash.j0 k l1 true l0_0 a0_1 a0_2 a0_3 a0_4 a0_5 bt210.1 bt210.2.1 bt210.2.2.1 bt210.2.2.2.1 bt210.2.2.2.2.1 bt210.2.2.2.2.2 bt231.1 bt231.2.1 bt231.2.2.1 bt231.2.2.2.1 bt231.2.2.2.2.1 bt231.2.2.2.2.2) else ((laws_eqFs.f k bt231.1 bt231.2.1 bt231.2.2.1 bt231.2.2.2.1 bt231.2.2.2.2.1 bt231.2.2.2.2.2 bt210.1 bt210.2.1 bt210.2.2.1 bt210.2.2.2.1 bt210.2.2.2.2.1 bt210.2.2.2.2.2).bind fun t258 => (laws_FnExactFsCrash.j0 k l1 (!t258) l0_0 a0_1 a0_2 a0_3 a0_4 a0_5 bt210.1 bt210.2.1 bt210.2.2.1 bt210.2.2.2.1 bt210.2.2.2.2.1 bt210.2.2.2.2.2 bt231.1 bt231.2.1 bt231.2.2.1 bt231.2.2.2.1 bt231.2.2.2.2.1 bt231.2.2.2.2.2))))) else (some false)))) else (some false)))) else (some false))))))))))))
theorem laws_FnExactFsCrash.mono_l : ∀ k, (∀ y0 y1 y2 y3 y4 y5 y6 y7 y8 y9 y10 y11 y12 y13 y14 y15 y16 y17 y18 y19, LeO (laws_FnExactFsCrash.j0 k y0 y1 y2 y3 y4 y5 y6 y7 y8 y9 y10 y11 y12 y13 y14 y15 y16 y17 y18 y19) (laws_FnExactFsCrash.j0 (k + 1) y0 y1 y2 y3 y4 y5 y6 y7 y8 y9 y10 y11 y12 y13 y14 y15 y16 y17 y18 y19))
  | 0 => fun _ _ _ _ _ _ _ _ _ _ _ _ _ _ _ _ _ _ _ _ r h => by simp [laws_FnExactFsCrash.j0] at h
  | k + 1 => by
    have ih0 := laws_FnExactFsCrash.mono_l k
    · intro y0 y1 y2 y3 y4 y5 y6 y7 y8 y9 y10 y11 y12 y13 y14 y15 y16 y17 y18 y19
      unfold laws_FnExactFsCrash.j0
      repeat' first
      | (with_reducible exact ih0 _ _ _ _ _ _ _ _ _ _ _ _ _ _ _ _ _ _ _ _)
      | (with_reducible exact impl_FsCrash.mono _ _ _ _ _ _ _ _)
      | (with_reducible exact laws_eqFs.mono _ _ _ _ _ _ _ _ _ _ _ _ _)
      | (with_reducible exact laws_eqStringS.mono _ _ _)
      | (with_reducible exact laws_heldFs.mono _ _ _ _ _ _ _ _)
      | (with_reducible exact laws_markFs.mono _ _ _ _ _ _ _ _)
      | (with_reducible exact laws_markStringS.mono _ _ _)
      | (with_reducible exact laws_szFs.mono _ _ _ _ _ _ _ _)
      | (with_reducible exact laws_szStringS.mono _ _ _)
      | (with_reducible exact laws_toFs.mono _ _ _ _ _ _ _)
      | (with_reducible exact laws_toStringS.mono _ _)
      | (with_reducible exact spec_FsCrash.mono _ _ _ _ _ _ _ _)
      | (with_reducible exact LeO.refl _)
      | (with_reducible exact LeO.none _)
      | (with_reducible refine LeO.ite ?_ ?_)
      | (with_reducible refine LeO.bind ?_ (fun _ => ?_))
      | exact ih0 _ _ _ _ _ _ _ _ _ _ _ _ _ _ _ _ _ _ _ _
      | exact impl_FsCrash.mono _ _ _ _ _ _ _ _
      | exact laws_eqFs.mono _ _ _ _ _ _ _ _ _ _ _ _ _
      | exact laws_eqStringS.mono _ _ _
      | exact laws_heldFs.mono _ _ _ _ _ _ _ _
      | exact laws_markFs.mono _ _ _ _ _ _ _ _
      | exact laws_markStringS.mono _ _ _
      | exact laws_szFs.mono _ _ _ _ _ _ _ _
      | exact laws_szStringS.mono _ _ _
      | exact laws_toFs.mono _ _ _ _ _ _ _
      | exact laws_toStringS.mono _ _
      | exact spec_FsCrash.mono _ _ _ _ _ _ _ _
      | exact LeO.none _
      | refine LeO.ite ?_ ?_
      | refine LeO.bind ?_ (fun _ => ?_)
theorem laws_FnExactFsCrash.mono : ∀ a0 a1 a2 a3 a4 a5 a6 k, LeO (laws_FnExactFsCrash.f k a0 a1 a2 a3 a4 a5 a6) (laws_FnExactFsCrash.f (k + 1) a0 a1 a2 a3 a4 a5 a6) := by
  intro a0 a1 a2 a3 a4 a5 a6 k
  have ih0 := laws_FnExactFsCrash.mono_l k
  unfold laws_FnExactFsCrash.f
  repeat' first
      | (with_reducible exact ih0 _ _ _ _ _ _ _ _ _ _ _ _ _ _ _ _ _ _ _ _)
      | (with_reducible exact impl_FsCrash.mono _ _ _ _ _ _ _ _)
      | (with_reducible exact laws_eqFs.mono _ _ _ _ _ _ _ _ _ _ _ _ _)
      | (with_reducible exact laws_eqStringS.mono _ _ _)
      | (with_reducible exact laws_heldFs.mono _ _ _ _ _ _ _ _)
      | (with_reducible exact laws_markFs.mono _ _ _ _ _ _ _ _)
      | (with_reducible exact laws_markStringS.mono _ _ _)
      | (with_reducible exact laws_szFs.mono _ _ _ _ _ _ _ _)
      | (with_reducible exact laws_szStringS.mono _ _ _)
      | (with_reducible exact laws_toFs.mono _ _ _ _ _ _ _)
      | (with_reducible exact laws_toStringS.mono _ _)
      | (with_reducible exact spec_FsCrash.mono _ _ _ _ _ _ _ _)
      | (with_reducible exact LeO.refl _)
      | (with_reducible exact LeO.none _)
      | (with_reducible refine LeO.ite ?_ ?_)
      | (with_reducible refine LeO.bind ?_ (fun _ => ?_))
      | exact ih0 _ _ _ _ _ _ _ _ _ _ _ _ _ _ _ _ _ _ _ _
      | exact impl_FsCrash.mono _ _ _ _ _ _ _ _
      | exact laws_eqFs.mono _ _ _ _ _ _ _ _ _ _ _ _ _
      | exact laws_eqStringS.mono _ _ _
      | exact laws_heldFs.mono _ _ _ _ _ _ _ _
      | exact laws_markFs.mono _ _ _ _ _ _ _ _
      | exact laws_markStringS.mono _ _ _
      | exact laws_szFs.mono _ _ _ _ _ _ _ _
      | exact laws_szStringS.mono _ _ _
      | exact laws_toFs.mono _ _ _ _ _ _ _
      | exact laws_toStringS.mono _ _
      | exact spec_FsCrash.mono _ _ _ _ _ _ _ _
      | exact LeO.none _
      | refine LeO.ite ?_ ?_
      | refine LeO.bind ?_ (fun _ => ?_)
set_option maxHeartbeats 8000000 in
set_option maxRecDepth 100000 in
theorem laws_FnExactFsCrash.calls (k : Nat) (A0_0 : Option Addr) (c0_0 : Nat) (l0_0 : List (S83)) (a0_1 : Int) (a0_2 : Int) (a0_3 : Int) (a0_4 : Int) (a0_5 : Bool) (A1 : Option Addr) (c1 : Nat) (l1 : List ByteArray) (r : Bool) (hT : r = true) (w : World) (hr0_0 : Kd.C k83 w A0_0 l0_0.length l0_0) (hc0_0 : l0_0.length ≤ c0_0) (hr1 : Kd.C Kd.string w A1 l1.length l1) (hc1 : l1.length ≤ c1) (h : laws_FnExactFsCrash.f k l0_0 a0_1 a0_2 a0_3 a0_4 a0_5 l1 = some r) :
    Calls Try.prog 3 #[.agg #[.slice A0_0 l0_0.length c0_0, .int .i64 a0_1, .int .i64 a0_2, .int .i64 a0_3, .int .i64 a0_4, .bool a0_5], .slice A1 l1.length c1] w fun e w' => e = .returned (.bool r) ∧ Below w.heap.size w w' := by
  have hu24 := Try.underlying24
  have hu30 := Try.underlying30
  have HR0_0 := Aside0.mk hr0_0
  have HC0_0 := Aside0.mk hc0_0
  clear hr0_0 hc0_0
  have HR1 := Aside0.mk hr1
  have HC1 := Aside0.mk hc1
  clear hr1 hc1
  have HB := Aside0.mk (Below.refl w.heap.size w)
  have H : ((laws_szFs.f k l0_0 a0_1 a0_2 a0_3 a0_4 a0_5 1048576).bind fun t197 => (if t197 < 0 then (some true) else ((laws_szStringS.f k l1 t197).bind fun t198 => (if t198 < 0 then (some true) else ((laws_toFs.f k l0_0 a0_1 a0_2 a0_3 a0_4 a0_5).bind fun bt199 => ((laws_toStringS.f k l1).bind fun t207 => ((spec_FsCrash.f k bt199.1 bt199.2.1 bt199.2.2.1 bt199.2.2.2.1 bt199.2.2.2.2.1 bt199.2.2.2.2.2 t207).bind fun bt210 => ((laws_toFs.f k l0_0 a0_1 a0_2 a0_3 a0_4 a0_5).bind fun bt219 => ((laws_toStringS.f k l1).bind fun t228 => ((impl_FsCrash.f k bt219.1 bt219.2.1 bt219.2.2.1 bt219.2.2.2.1 bt219.2.2.2.2.1 bt219.2.2.2.2.2 t228).bind fun bt231 => ((laws_eqFs.f k bt231.1 bt231.2.1 bt231.2.2.1 bt231.2.2.2.1 bt231.2.2.2.2.1 bt231.2.2.2.2.2 bt210.1 bt210.2.1 bt210.2.2.1 bt210.2.2.2.1 bt210.2.2.2.2.1 bt210.2.2.2.2.2).bind fun t240 => (if t240 = true then ((laws_toFs.f k l0_0 a0_1 a0_2 a0_3 a0_4 a0_5).bind fun bt241 => ((laws_eqFs.f k bt219.1 bt219.2.1 bt219.2.2.1 bt219.2.2.2.1 bt219.2.2.2.2.1 bt219.2.2.2.2.2 bt241.1 bt241.2.1 bt241.2.2.1 bt241.2.2.2.1 bt241.2.2.2.2.1 bt241.2.2.2.2.2).bind fun t249 => (if t249 = true then ((laws_toStringS.f k l1).bind fun t250 => ((laws_eqStringS.f k t228 t250).bind fun t253 => (if t253 = true then ((laws_markFs.f k bt219.1 bt219.2.1 bt219.2.2.1 bt219.2.2.2.1 bt219.2.2.2.2.1 bt219.2.2.2.2.2 1).bind fun bt254 => ((laws_markStringS.f k t228 bt254.1).bind fun bt256 => (if bt256.1 < 0 then (laws_FnExactFsCrash.j0 k l1 true l0_0 a0_1 a0_2 a0_3 a0_4 a0_5 bt210.1 bt210.2.1 bt210.2.2.1 bt210.2.2.2.1 bt210.2.2.2.2.1 bt210.2.2.2.2.2 bt231.1 bt231.2.1 bt231.2.2.1 bt231.2.2.2.1 bt231.2.2.2.2.1 bt231.2.2.2.2.2) else ((laws_eqFs.f k bt231.1 bt231.2.1 bt231.2.2.1 bt231.2.2.2.1 bt231.2.2.2.2.1 bt231.2.2.2.2.2 bt210.1 bt210.2.1 bt210.2.2.1 bt210.2.2.2.1 bt210.2.2.2.2.1 bt210.2.2.2.2.2).bind fun t258 => (laws_FnExactFsCrash.j0 k l1 (!t258) l0_0 a0_1 a0_2 a0_3 a0_4 a0_5 bt210.1 bt210.2.1 bt210.2.2.1 bt210.2.2.2.1 bt210.2.2.2.2.1 bt210.2.2.2.2.2 bt231.1 bt231.2.1 bt231.2.2.1 bt231.2.2.2.1 bt231.2.2.2.2.1 bt231.2.2.2.2.2))))) else (some false)))) else (some false)))) else (some false))))))))))))) = some r := h
  clear h
  replace H := Option.bind_eq_some_iff.mp H
  obtain ⟨t197, A30, H⟩ := H
  replace H : (if t197 < 0 then (some true) else ((laws_szStringS.f k l1 t197).bind fun t198 => (if t198 < 0 then (some true) else ((laws_toFs.f k l0_0 a0_1 a0_2 a0_3 a0_4 a0_5).bind fun bt199 => ((laws_toStringS.f k l1).bind fun t207 => ((spec_FsCrash.f k bt199.1 bt199.2.1 bt199.2.2.1 bt199.2.2.2.1 bt199.2.2.2.2.1 bt199.2.2.2.2.2 t207).bind fun bt210 => ((laws_toFs.f k l0_0 a0_1 a0_2 a0_3 a0_4 a0_5).bind fun bt219 => ((laws_toStringS.f k l1).bind fun t228 => ((impl_FsCrash.f k bt219.1 bt219.2.1 bt219.2.2.1 bt219.2.2.2.1 bt219.2.2.2.2.1 bt219.2.2.2.2.2 t228).bind fun bt231 => ((laws_eqFs.f k bt231.1 bt231.2.1 bt231.2.2.1 bt231.2.2.2.1 bt231.2.2.2.2.1 bt231.2.2.2.2.2 bt210.1 bt210.2.1 bt210.2.2.1 bt210.2.2.2.1 bt210.2.2.2.2.1 bt210.2.2.2.2.2).bind fun t240 => (if t240 = true then ((laws_toFs.f k l0_0 a0_1 a0_2 a0_3 a0_4 a0_5).bind fun bt241 => ((laws_eqFs.f k bt219.1 bt219.2.1 bt219.2.2.1 bt219.2.2.2.1 bt219.2.2.2.2.1 bt219.2.2.2.2.2 bt241.1 bt241.2.1 bt241.2.2.1 bt241.2.2.2.1 bt241.2.2.2.2.1 bt241.2.2.2.2.2).bind fun t249 => (if t249 = true then ((laws_toStringS.f k l1).bind fun t250 => ((laws_eqStringS.f k t228 t250).bind fun t253 => (if t253 = true then ((laws_markFs.f k bt219.1 bt219.2.1 bt219.2.2.1 bt219.2.2.2.1 bt219.2.2.2.2.1 bt219.2.2.2.2.2 1).bind fun bt254 => ((laws_markStringS.f k t228 bt254.1).bind fun bt256 => (if bt256.1 < 0 then (laws_FnExactFsCrash.j0 k l1 true l0_0 a0_1 a0_2 a0_3 a0_4 a0_5 bt210.1 bt210.2.1 bt210.2.2.1 bt210.2.2.2.1 bt210.2.2.2.2.1 bt210.2.2.2.2.2 bt231.1 bt231.2.1 bt231.2.2.1 bt231.2.2.2.1 bt231.2.2.2.2.1 bt231.2.2.2.2.2) else ((laws_eqFs.f k bt231.1 bt231.2.1 bt231.2.2.1 bt231.2.2.2.1 bt231.2.2.2.2.1 bt231.2.2.2.2.2 bt210.1 bt210.2.1 bt210.2.2.1 bt210.2.2.2.1 bt210.2.2.2.2.1 bt210.2.2.2.2.2).bind fun t258 => (laws_FnExactFsCrash.j0 k l1 (!t258) l0_0 a0_1 a0_2 a0_3 a0_4 a0_5 bt210.1 bt210.2.1 bt210.2.2.1 bt210.2.2.2.1 bt210.2.2.2.2.1 bt210.2.2.2.2.2 bt231.1 bt231.2.1 bt231.2.2.1 bt231.2.2.2.1 bt231.2.2.2.2.1 bt231.2.2.2.2.2))))) else (some false)))) else (some false)))) else (some false)))))))))))) = some r := H
  have A3 := Aside0.mk A30
  clear A30
  by_cases c4 : t197 < 0
  · rw [if_pos c4] at H
    have c4b0 : decide (t197 < 0) = true := decide_eq_true c4
    clear c4
    obtain rfl := Option.some.inj H
    go_enter Try.func3, Try.ntmps3
    go_wp2_with (first | ((with_reducible refine gate_dst (N := 2) rfl ?_); refine box_event ?hg (N := 2) ?hd (cs := #[.slice A0_0 l0_0.length c0_0, .int .i64 a0_1, .int .i64 a0_2, .int .i64 a0_3, .int .i64 a0_4, .bool a0_5]) (t := 24) ?hr ?_; (case hd => rfl); (case hg => rfl); (case hr => first | (go_simp; done) | (go_simp; rfl)); intro gb196 hg w5 hbox hb; have n0_ := Aside0.mk (below_step (by repeat (first | (with_reducible first | exact HB.out | apply below_alloc | apply pw_below_drewN | apply below_drew1) | exact HB.out)) hb); have n1_ := Aside0.mk (hbox); have n2_ := Aside0.mk ((by rw [hg]; exact (below_size (by repeat (first | (with_reducible first | exact HB.out | apply below_alloc | apply pw_below_drewN | apply below_drew1) | exact HB.out))) : w.heap.size ≤ gb196)); have n3_ := Aside0.mk ((by rw [hg]; exact (below_size (by repeat (first | (with_reducible first | exact HB.out | apply below_alloc | apply pw_below_drewN | apply below_drew1) | exact HB.out))) : w.heap.size ≤ gb196)); clear HB; have HB := n0_; have BK196 := n1_; have GW196 := n2_; have GE196 := n3_; clear n0_ n1_ n2_ n3_; clear hb hbox hg; have hcz6_0 : w5.cell? ⟨gb196, 0, none⟩ = some (.slice A0_0 l0_0.length c0_0) := (blk_cell BK196.out 0).trans rfl; have hcz6_1 : w5.cell? ⟨gb196, 1, none⟩ = some (.int .i64 a0_1) := (blk_cell BK196.out 1).trans rfl; have hcz6_2 : w5.cell? ⟨gb196, 2, none⟩ = some (.int .i64 a0_2) := (blk_cell BK196.out 2).trans rfl; have hcz6_3 : w5.cell? ⟨gb196, 3, none⟩ = some (.int .i64 a0_3) := (blk_cell BK196.out 3).trans rfl; have hcz6_4 : w5.cell? ⟨gb196, 4, none⟩ = some (.int .i64 a0_4) := (blk_cell BK196.out 4).trans rfl; have hcz6_5 : w5.cell? ⟨gb196, 5, none⟩ = some (.bool a0_5) := (blk_cell BK196.out 5).trans rfl; have hfz6_0 := blk_frozen BK196.out 0; have hfz6_1 := blk_frozen BK196.out 1; have hfz6_2 := blk_frozen BK196.out 2; have hfz6_3 := blk_frozen BK196.out 3; have hfz6_4 := blk_frozen BK196.out 4; have hfz6_5 := blk_frozen BK196.out 5) | ((with_reducible refine gate_callee (f := 7) rfl ?_); refine goesL_ (some 16) rfl rfl Try.func7 (by kernel_rfl) rfl #[.agg #[.slice A0_0 l0_0.length c0_0, .int .i64 a0_1, .int .i64 a0_2, .int .i64 a0_3, .int .i64 a0_4, .bool a0_5], .int .i64 1048576] rfl (by (try simp only [List.map_toArray, List.map_cons, List.map_nil]); first | done | rfl | (simp only [List.length_drop, List.length_take]; rfl)) ?_; (with_reducible refine (laws_szFs.calls k _ _ l0_0 a0_1 a0_2 a0_3 a0_4 a0_5 1048576 t197 _ ?side1 ?side2 A3.out).mono ?_); (case side1 => repeat (first | exact (Kd.C_below HR0_0.out HB.out) | (with_reducible refine Kd.C_alloc ?_ _) | (with_reducible refine Kd.C_drewN ?_ _) | (with_reducible refine Kd.C_drew ?_))); (case side2 => exact HC0_0.out); rintro e w7 ⟨rfl, hb⟩; refine ⟨_, rfl, ?_⟩; have n0_ := Aside0.mk (blk_below (g := gb196) (o := .cells #[.slice A0_0 l0_0.length c0_0, .int .i64 a0_1, .int .i64 a0_2, .int .i64 a0_3, .int .i64 a0_4, .bool a0_5] 24 (0, 0)) (by (with_reducible repeat (first | refine blk_drewN ?_ _ | refine blk_drew ?_ | refine blk_alloc ?_ _)); exact BK196.out) hb); have n1_ := Aside0.mk (below_step (by repeat (first | (with_reducible first | exact HB.out | apply below_alloc | apply pw_below_drewN | apply below_drew1 | refine below_set ?_ GE196.out) | exact HB.out)) hb); clear BK196; clear HB; have BK196 := n0_; have HB := n1_; clear n0_ n1_; (try clear hb); (try clear hb2); (try clear hk); (try clear hi)))
    go_ret
    exact ⟨by first | rfl | (simp [errW_none, errW_some] <;> rfl) | (simp [*, errW_none, errW_some] <;> rfl), by repeat (first | (with_reducible first | exact HB.out | apply below_alloc | apply pw_below_drewN | apply below_drew1 | refine below_set ?_ GE196.out) | exact HB.out)⟩
  · rw [if_neg c4] at H
    have c4b0 : decide (t197 < 0) = false := decide_eq_false c4
    clear c4
    replace H := Option.bind_eq_some_iff.mp H
    obtain ⟨t198, A80, H⟩ := H
    replace H : (if t198 < 0 then (some true) else ((laws_toFs.f k l0_0 a0_1 a0_2 a0_3 a0_4 a0_5).bind fun bt199 => ((laws_toStringS.f k l1).bind fun t207 => ((spec_FsCrash.f k bt199.1 bt199.2.1 bt199.2.2.1 bt199.2.2.2.1 bt199.2.2.2.2.1 bt199.2.2.2.2.2 t207).bind fun bt210 => ((laws_toFs.f k l0_0 a0_1 a0_2 a0_3 a0_4 a0_5).bind fun bt219 => ((laws_toStringS.f k l1).bind fun t228 => ((impl_FsCrash.f k bt219.1 bt219.2.1 bt219.2.2.1 bt219.2.2.2.1 bt219.2.2.2.2.1 bt219.2.2.2.2.2 t228).bind fun bt231 => ((laws_eqFs.f k bt231.1 bt231.2.1 bt231.2.2.1 bt231.2.2.2.1 bt231.2.2.2.2.1 bt231.2.2.2.2.2 bt210.1 bt210.2.1 bt210.2.2.1 bt210.2.2.2.1 bt210.2.2.2.2.1 bt210.2.2.2.2.2).bind fun t240 => (if t240 = true then ((laws_toFs.f k l0_0 a0_1 a0_2 a0_3 a0_4 a0_5).bind fun bt241 => ((laws_eqFs.f k bt219.1 bt219.2.1 bt219.2.2.1 bt219.2.2.2.1 bt219.2.2.2.2.1 bt219.2.2.2.2.2 bt241.1 bt241.2.1 bt241.2.2.1 bt241.2.2.2.1 bt241.2.2.2.2.1 bt241.2.2.2.2.2).bind fun t249 => (if t249 = true then ((laws_toStringS.f k l1).bind fun t250 => ((laws_eqStringS.f k t228 t250).bind fun t253 => (if t253 = true then ((laws_markFs.f k bt219.1 bt219.2.1 bt219.2.2.1 bt219.2.2.2.1 bt219.2.2.2.2.1 bt219.2.2.2.2.2 1).bind fun bt254 => ((laws_markStringS.f k t228 bt254.1).bind fun bt256 => (if bt256.1 < 0 then (laws_FnExactFsCrash.j0 k l1 true l0_0 a0_1 a0_2 a0_3 a0_4 a0_5 bt210.1 bt210.2.1 bt210.2.2.1 bt210.2.2.2.1 bt210.2.2.2.2.1 bt210.2.2.2.2.2 bt231.1 bt231.2.1 bt231.2.2.1 bt231.2.2.2.1 bt231.2.2.2.2.1 bt231.2.2.2.2.2) else ((laws_eqFs.f k bt231.1 bt231.2.1 bt231.2.2.1 bt231.2.2.2.1 bt231.2.2.2.2.1 bt231.2.2.2.2.2 bt210.1 bt210.2.1 bt210.2.2.1 bt210.2.2.2.1 bt210.2.2.2.2.1 bt210.2.2.2.2.2).bind fun t258 => (laws_FnExactFsCrash.j0 k l1 (!t258) l0_0 a0_1 a0_2 a0_3 a0_4 a0_5 bt210.1 bt210.2.1 bt210.2.2.1 bt210.2.2.2.1 bt210.2.2.2.2.1 bt210.2.2.2.2.2 bt231.1 bt231.2.1 bt231.2.2.1 bt231.2.2.2.1 bt231.2.2.2.2.1 bt231.2.2.2.2.2))))) else (some false)))) else (some false)))) else (some false)))))))))) = some r := H
    have A8 := Aside0.mk A80
    clear A80
    by_cases c9 : t198 < 0
    · rw [if_pos c9] at H
      have c9b0 : decide (t198 < 0) = true := decide_eq_true c9
      clear c9
      obtain rfl := Option.some.inj H
      go_enter Try.func3, Try.ntmps3
      go_wp2_with (first | ((with_reducible refine gate_dst (N := 2) rfl ?_); refine box_event ?hg (N := 2) ?hd (cs := #[.slice A0_0 l0_0.length c0_0, .int .i64 a0_1, .int .i64 a0_2, .int .i64 a0_3, .int .i64 a0_4, .bool a0_5]) (t := 24) ?hr ?_; (case hd => rfl); (case hg => rfl); (case hr => first | (go_simp; done) | (go_simp; rfl)); intro gb196 hg w10 hbox hb; have n0_ := Aside0.mk (below_step (by repeat (first | (with_reducible first | exact HB.out | apply below_alloc | apply pw_below_drewN | apply below_drew1) | exact HB.out)) hb); have n1_ := Aside0.mk (hbox); have n2_ := Aside0.mk ((by rw [hg]; exact (below_size (by repeat (first | (with_reducible first | exact HB.out | apply below_alloc | apply pw_below_drewN | apply below_drew1) | exact HB.out))) : w.heap.size ≤ gb196)); have n3_ := Aside0.mk ((by rw [hg]; exact (below_size (by repeat (first | (with_reducible first | exact HB.out | apply below_alloc | apply pw_below_drewN | apply below_drew1) | exact HB.out))) : w.heap.size ≤ gb196)); clear HB; have HB := n0_; have BK196 := n1_; have GW196 := n2_; have GE196 := n3_; clear n0_ n1_ n2_ n3_; clear hb hbox hg; have hcz11_0 : w10.cell? ⟨gb196, 0, none⟩ = some (.slice A0_0 l0_0.length c0_0) := (blk_cell BK196.out 0).trans rfl; have hcz11_1 : w10.cell? ⟨gb196, 1, none⟩ = some (.int .i64 a0_1) := (blk_cell BK196.out 1).trans rfl; have hcz11_2 : w10.cell? ⟨gb196, 2, none⟩ = some (.int .i64 a0_2) := (blk_cell BK196.out 2).trans rfl; have hcz11_3 : w10.cell? ⟨gb196, 3, none⟩ = some (.int .i64 a0_3) := (blk_cell BK196.out 3).trans rfl; have hcz11_4 : w10.cell? ⟨gb196, 4, none⟩ = some (.int .i64 a0_4) := (blk_cell BK196.out 4).trans rfl; have hcz11_5 : w10.cell? ⟨gb196, 5, none⟩ = some (.bool a0_5) := (blk_cell BK196.out 5).trans rfl; have hfz11_0 := blk_frozen BK196.out 0; have hfz11_1 := blk_frozen BK196.out 1; have hfz11_2 := blk_frozen BK196.out 2; have hfz11_3 := blk_frozen BK196.out 3; have hfz11_4 := blk_frozen BK196.out 4; have hfz11_5 := blk_frozen BK196.out 5) | ((with_reducible refine gate_callee (f := 7) rfl ?_); refine goesL_ (some 16) rfl rfl Try.func7 (by kernel_rfl) rfl #[.agg #[.slice A0_0 l0_0.length c0_0, .int .i64 a0_1, .int .i64 a0_2, .int .i64 a0_3, .int .i64 a0_4, .bool a0_5], .int .i64 1048576] rfl (by (try simp only [List.map_toArray, List.map_cons, List.map_nil]); first | done | rfl | (simp only [List.length_drop, List.length_take]; rfl)) ?_; (with_reducible refine (laws_szFs.calls k _ _ l0_0 a0_1 a0_2 a0_3 a0_4 a0_5 1048576 t197 _ ?side1 ?side2 A3.out).mono ?_); (case side1 => repeat (first | exact (Kd.C_below HR0_0.out HB.out) | (with_reducible refine Kd.C_alloc ?_ _) | (with_reducible refine Kd.C_drewN ?_ _) | (with_reducible refine Kd.C_drew ?_))); (case side2 => exact HC0_0.out); rintro e w12 ⟨rfl, hb⟩; refine ⟨_, rfl, ?_⟩; have n0_ := Aside0.mk (blk_below (g := gb196) (o := .cells #[.slice A0_0 l0_0.length c0_0, .int .i64 a0_1, .int .i64 a0_2, .int .i64 a0_3, .int .i64 a0_4, .bool a0_5] 24 (0, 0)) (by (with_reducible repeat (first | refine blk_drewN ?_ _ | refine blk_drew ?_ | refine blk_alloc ?_ _)); exact BK196.out) hb); have n1_ := Aside0.mk (below_step (by repeat (first | (with_reducible first | exact HB.out | apply below_alloc | apply pw_below_drewN | apply below_drew1 | refine below_set ?_ GE196.out) | exact HB.out)) hb); clear BK196; clear HB; have BK196 := n0_; have HB := n1_; clear n0_ n1_; (try clear hb); (try clear hb2); (try clear hk); (try clear hi)) | ((with_reducible refine gate_callee (f := 8) rfl ?_); refine goesL_ (some 21) rfl rfl Try.func8 (by kernel_rfl) rfl #[.slice A1 l1.length c1, .int .i64 t197] rfl (by (try simp only [List.map_toArray, List.map_cons, List.map_nil]); first | done | rfl | (simp only [List.length_drop, List.length_take]; rfl)) ?_; (with_reducible refine (laws_szStringS.calls k _ _ l1 t197 t198 _ ?side1 ?side2 A8.out).mono ?_); (case side1 => repeat (first | exact (Kd.C_below HR1.out HB.out) | (with_reducible refine Kd.C_alloc ?_ _) | (with_reducible refine Kd.C_drewN ?_ _) | (with_reducible refine Kd.C_drew ?_))); (case side2 => exact HC1.out); rintro e w' ⟨rfl, ⟨nd, rfl⟩⟩; refine ⟨_, rfl, ?_⟩))
      go_ret
      exact ⟨by first | rfl | (simp [errW_none, errW_some] <;> rfl) | (simp [*, errW_none, errW_some] <;> rfl), by repeat (first | (with_reducible first | exact HB.out | apply below_alloc | apply pw_below_drewN | apply below_drew1 | refine below_set ?_ GE196.out) | exact HB.out)⟩
    · rw [if_neg c9] at H
      have c9b0 : decide (t198 < 0) = false := decide_eq_false c9
      clear c9
      replace H := Option.bind_eq_some_iff.mp H
      obtain ⟨⟨t199, t202, t203, t204, t205, t206⟩, A130, H⟩ := H
      replace H : ((laws_toStringS.f k l1).bind fun t207 => ((spec_FsCrash.f k t199 t202 t203 t204 t205 t206 t207).bind fun bt210 => ((laws_toFs.f k l0_0 a0_1 a0_2 a0_3 a0_4 a0_5).bind fun bt219 => ((laws_toStringS.f k l1).bind fun t228 => ((impl_FsCrash.f k bt219.1 bt219.2.1 bt219.2.2.1 bt219.2.2.2.1 bt219.2.2.2.2.1 bt219.2.2.2.2.2 t228).bind fun bt231 => ((laws_eqFs.f k bt231.1 bt231.2.1 bt231.2.2.1 bt231.2.2.2.1 bt231.2.2.2.2.1 bt231.2.2.2.2.2 bt210.1 bt210.2.1 bt210.2.2.1 bt210.2.2.2.1 bt210.2.2.2.2.1 bt210.2.2.2.2.2).bind fun t240 => (if t240 = true then ((laws_toFs.f k l0_0 a0_1 a0_2 a0_3 a0_4 a0_5).bind fun bt241 => ((laws_eqFs.f k bt219.1 bt219.2.1 bt219.2.2.1 bt219.2.2.2.1 bt219.2.2.2.2.1 bt219.2.2.2.2.2 bt241.1 bt241.2.1 bt241.2.2.1 bt241.2.2.2.1 bt241.2.2.2.2.1 bt241.2.2.2.2.2).bind fun t249 => (if t249 = true then ((laws_toStringS.f k l1).bind fun t250 => ((laws_eqStringS.f k t228 t250).bind fun t253 => (if t253 = true then ((laws_markFs.f k bt219.1 bt219.2.1 bt219.2.2.1 bt219.2.2.2.1 bt219.2.2.2.2.1 bt219.2.2.2.2.2 1).bind fun bt254 => ((laws_markStringS.f k t228 bt254.1).bind fun bt256 => (if bt256.1 < 0 then (laws_FnExactFsCrash.j0 k l1 true l0_0 a0_1 a0_2 a0_3 a0_4 a0_5 bt210.1 bt210.2.1 bt210.2.2.1 bt210.2.2.2.1 bt210.2.2.2.2.1 bt210.2.2.2.2.2 bt231.1 bt231.2.1 bt231.2.2.1 bt231.2.2.2.1 bt231.2.2.2.2.1 bt231.2.2.2.2.2) else ((laws_eqFs.f k bt231.1 bt231.2.1 bt231.2.2.1 bt231.2.2.2.1 bt231.2.2.2.2.1 bt231.2.2.2.2.2 bt210.1 bt210.2.1 bt210.2.2.1 bt210.2.2.2.1 bt210.2.2.2.2.1 bt210.2.2.2.2.2).bind fun t258 => (laws_FnExactFsCrash.j0 k l1 (!t258) l0_0 a0_1 a0_2 a0_3 a0_4 a0_5 bt210.1 bt210.2.1 bt210.2.2.1 bt210.2.2.2.1 bt210.2.2.2.2.1 bt210.2.2.2.2.2 bt231.1 bt231.2.1 bt231.2.2.1 bt231.2.2.2.1 bt231.2.2.2.2.1 bt231.2.2.2.2.2))))) else (some false)))) else (some false)))) else (some false)))))))) = some r := H
      have A13 := Aside0.mk A130
      clear A130
      replace H := Option.bind_eq_some_iff.mp H
      obtain ⟨t207, A140, H⟩ := H
      replace H : ((spec_FsCrash.f k t199 t202 t203 t204 t205 t206 t207).bind fun bt210 => ((laws_toFs.f k l0_0 a0_1 a0_2 a0_3 a0_4 a0_5).bind fun bt219 => ((laws_toStringS.f k l1).bind fun t228 => ((impl_FsCrash.f k bt219.1 bt219.2.1 bt219.2.2.1 bt219.2.2.2.1 bt219.2.2.2.2.1 bt219.2.2.2.2.2 t228).bind fun bt231 => ((laws_eqFs.f k bt231.1 bt231.2.1 bt231.2.2.1 bt231.2.2.2.1 bt231.2.2.2.2.1 bt231.2.2.2.2.2 bt210.1 bt210.2.1 bt210.2.2.1 bt210.2.2.2.1 bt210.2.2.2.2.1 bt210.2.2.2.2.2).bind fun t240 => (if t240 = true then ((laws_toFs.f k l0_0 a0_1 a0_2 a0_3 a0_4 a0_5).bind fun bt241 => ((laws_eqFs.f k bt219.1 bt219.2.1 bt219.2.2.1 bt219.2.2.2.1 bt219.2.2.2.2.1 bt219.2.2.2.2.2 bt241.1 bt241.2.1 bt241.2.2.1 bt241.2.2.2.1 bt241.2.2.2.2.1 bt241.2.2.2.2.2).bind fun t249 => (if t249 = true then ((laws_toStringS.f k l1).bind fun t250 => ((laws_eqStringS.f k t228 t250).bind fun t253 => (if t253 = true then ((laws_markFs.f k bt219.1 bt219.2.1 bt219.2.2.1 bt219.2.2.2.1 bt219.2.2.2.2.1 bt219.2.2.2.2.2 1).bind fun bt254 => ((laws_markStringS.f k t228 bt254.1).bind fun bt256 => (if bt256.1 < 0 then (laws_FnExactFsCrash.j0 k l1 true l0_0 a0_1 a0_2 a0_3 a0_4 a0_5 bt210.1 bt210.2.1 bt210.2.2.1 bt210.2.2.2.1 bt210.2.2.2.2.1 bt210.2.2.2.2.2 bt231.1 bt231.2.1 bt231.2.2.1 bt231.2.2.2.1 bt231.2.2.2.2.1 bt231.2.2.2.2.2) else ((laws_eqFs.f k bt231.1 bt231.2.1 bt231.2.2.1 bt231.2.2.2.1 bt231.2.2.2.2.1 bt231.2.2.2.2.2 bt210.1 bt210.2.1 bt210.2.2.1 bt210.2.2.2.1 bt210.2.2.2.2.1 bt210.2.2.2.2.2).bind fun t258 => (laws_FnExactFsCrash.j0 k l1 (!t258) l0_0 a0_1 a0_2 a0_3 a0_4 a0_5 bt210.1 bt210.2.1 bt210.2.2.1 bt210.2.2.2.1 bt210.2.2.2.2.1 bt210.2.2.2.2.2 bt231.1 bt231.2.1 bt231.2.2.1 bt231.2.2.2.1 bt231.2.2.2.2.1 bt231.2.2.2.2.2))))) else (some false)))) else (some false)))) else (some false))))))) = some r := H
      have A14 := Aside0.mk A140
      clear A140
      replace H := Option.bind_eq_some_iff.mp H
      obtain ⟨⟨t210, t213, t214, t215, t216, t217⟩, A150, H⟩ := H
      replace H : ((laws_toFs.f k l0_0 a0_1 a0_2 a0_3 a0_4 a0_5).bind fun bt219 => ((laws_toStringS.f k l1).bind fun t228 => ((impl_FsCrash.f k bt219.1 bt219.2.1 bt219.2.2.1 bt219.2.2.2.1 bt219.2.2.2.2.1 bt219.2.2.2.2.2 t228).bind fun bt231 => ((laws_eqFs.f k bt231.1 bt231.2.1 bt231.2.2.1 bt231.2.2.2.1 bt231.2.2.2.2.1 bt231.2.2.2.2.2 t210 t213 t214 t215 t216 t217).bind fun t240 => (if t240 = true then ((laws_toFs.f k l0_0 a0_1 a0_2 a0_3 a0_4 a0_5).bind fun bt241 => ((laws_eqFs.f k bt219.1 bt219.2.1 bt219.2.2.1 bt219.2.2.2.1 bt219.2.2.2.2.1 bt219.2.2.2.2.2 bt241.1 bt241.2.1 bt241.2.2.1 bt241.2.2.2.1 bt241.2.2.2.2.1 bt241.2.2.2.2.2).bind fun t249 => (if t249 = true then ((laws_toStringS.f k l1).bind fun t250 => ((laws_eqStringS.f k t228 t250).bind fun t253 => (if t253 = true then ((laws_markFs.f k bt219.1 bt219.2.1 bt219.2.2.1 bt219.2.2.2.1 bt219.2.2.2.2.1 bt219.2.2.2.2.2 1).bind fun bt254 => ((laws_markStringS.f k t228 bt254.1).bind fun bt256 => (if bt256.1 < 0 then (laws_FnExactFsCrash.j0 k l1 true l0_0 a0_1 a0_2 a0_3 a0_4 a0_5 t210 t213 t214 t215 t216 t217 bt231.1 bt231.2.1 bt231.2.2.1 bt231.2.2.2.1 bt231.2.2.2.2.1 bt231.2.2.2.2.2) else ((laws_eqFs.f k bt231.1 bt231.2.1 bt231.2.2.1 bt231.2.2.2.1 bt231.2.2.2.2.1 bt231.2.2.2.2.2 t210 t213 t214 t215 t216 t217).bind fun t258 => (laws_FnExactFsCrash.j0 k l1 (!t258) l0_0 a0_1 a0_2 a0_3 a0_4 a0_5 t210 t213 t214 t215 t216 t217 bt231.1 bt231.2.1 bt231.2.2.1 bt231.2.2.2.1 bt231.2.2.2.2.1 bt231.2.2.2.2.2))))) else (some false)))) else (some false)))) else (some false)))))) = some r := H
      have A15 := Aside0.mk A150
      clear A150
      replace H := Option.bind_eq_some_iff.mp H
      obtain ⟨⟨t219, t222, t223, t224, t225, t226⟩, A160, H⟩ := H
      replace H : ((laws_toStringS.f k l1).bind fun t228 => ((impl_FsCrash.f k t219 t222 t223 t224 t225 t226 t228).bind fun bt231 => ((laws_eqFs.f k bt231.1 bt231.2.1 bt231.2.2.1 bt231.2.2.2.1 bt231.2.2.2.2.1 bt231.2.2.2.2.2 t210 t213 t214 t215 t216 t217).bind fun t240 => (if t240 = true then ((laws_toFs.f k l0_0 a0_1 a0_2 a0_3 a0_4 a0_5).bind fun bt241 => ((laws_eqFs.f k t219 t222 t223 t224 t225 t226 bt241.1 bt241.2.1 bt241.2.2.1 bt241.2.2.2.1 bt241.2.2.2.2.1 bt241.2.2.2.2.2).bind fun t249 => (if t249 = true then ((laws_toStringS.f k l1).bind fun t250 => ((laws_eqStringS.f k t228 t250).bind fun t253 => (if t253 = true then ((laws_markFs.f k t219 t222 t223 t224 t225 t226 1).bind fun bt254 => ((laws_markStringS.f k t228 bt254.1).bind fun bt256 => (if bt256.1 < 0 then (laws_FnExactFsCrash.j0 k l1 true l0_0 a0_1 a0_2 a0_3 a0_4 a0_5 t210 t213 t214 t215 t216 t217 bt231.1 bt231.2.1 bt231.2.2.1 bt231.2.2.2.1 bt231.2.2.2.2.1 bt231.2.2.2.2.2) else ((laws_eqFs.f k bt231.1 bt231.2.1 bt231.2.2.1 bt231.2.2.2.1 bt231.2.2.2.2.1 bt231.2.2.2.2.2 t210 t213 t214 t215 t216 t217).bind fun t258 => (laws_FnExactFsCrash.j0 k l1 (!t258) l0_0 a0_1 a0_2 a0_3 a0_4 a0_5 t210 t213 t214 t215 t216 t217 bt231.1 bt231.2.1 bt231.2.2.1 bt231.2.2.2.1 bt231.2.2.2.2.1 bt231.2.2.2.2.2))))) else (some false)))) else (some false)))) else (some false))))) = some r := H
      have A16 := Aside0.mk A160
      clear A160
      replace H := Option.bind_eq_some_iff.mp H
      obtain ⟨t228, A170, H⟩ := H
      replace H : ((impl_FsCrash.f k t219 t222 t223 t224 t225 t226 t228).bind fun bt231 => ((laws_eqFs.f k bt231.1 bt231.2.1 bt231.2.2.1 bt231.2.2.2.1 bt231.2.2.2.2.1 bt231.2.2.2.2.2 t210 t213 t214 t215 t216 t217).bind fun t240 => (if t240 = true then ((laws_toFs.f k l0_0 a0_1 a0_2 a0_3 a0_4 a0_5).bind fun bt241 => ((laws_eqFs.f k t219 t222 t223 t224 t225 t226 bt241.1 bt241.2.1 bt241.2.2.1 bt241.2.2.2.1 bt241.2.2.2.2.1 bt241.2.2.2.2.2).bind fun t249 => (if t249 = true then ((laws_toStringS.f k l1).bind fun t250 => ((laws_eqStringS.f k t228 t250).bind fun t253 => (if t253 = true then ((laws_markFs.f k t219 t222 t223 t224 t225 t226 1).bind fun bt254 => ((laws_markStringS.f k t228 bt254.1).bind fun bt256 => (if bt256.1 < 0 then (laws_FnExactFsCrash.j0 k l1 true l0_0 a0_1 a0_2 a0_3 a0_4 a0_5 t210 t213 t214 t215 t216 t217 bt231.1 bt231.2.1 bt231.2.2.1 bt231.2.2.2.1 bt231.2.2.2.2.1 bt231.2.2.2.2.2) else ((laws_eqFs.f k bt231.1 bt231.2.1 bt231.2.2.1 bt231.2.2.2.1 bt231.2.2.2.2.1 bt231.2.2.2.2.2 t210 t213 t214 t215 t216 t217).bind fun t258 => (laws_FnExactFsCrash.j0 k l1 (!t258) l0_0 a0_1 a0_2 a0_3 a0_4 a0_5 t210 t213 t214 t215 t216 t217 bt231.1 bt231.2.1 bt231.2.2.1 bt231.2.2.2.1 bt231.2.2.2.2.1 bt231.2.2.2.2.2))))) else (some false)))) else (some false)))) else (some false)))) = some r := H
      have A17 := Aside0.mk A170
      clear A170
      replace H := Option.bind_eq_some_iff.mp H
      obtain ⟨⟨t231, t234, t235, t236, t237, t238⟩, A180, H⟩ := H
      replace H : ((laws_eqFs.f k t231 t234 t235 t236 t237 t238 t210 t213 t214 t215 t216 t217).bind fun t240 => (if t240 = true then ((laws_toFs.f k l0_0 a0_1 a0_2 a0_3 a0_4 a0_5).bind fun bt241 => ((laws_eqFs.f k t219 t222 t223 t224 t225 t226 bt241.1 bt241.2.1 bt241.2.2.1 bt241.2.2.2.1 bt241.2.2.2.2.1 bt241.2.2.2.2.2).bind fun t249 => (if t249 = true then ((laws_toStringS.f k l1).bind fun t250 => ((laws_eqStringS.f k t228 t250).bind fun t253 => (if t253 = true then ((laws_markFs.f k t219 t222 t223 t224 t225 t226 1).bind fun bt254 => ((laws_markStringS.f k t228 bt254.1).bind fun bt256 => (if bt256.1 < 0 then (laws_FnExactFsCrash.j0 k l1 true l0_0 a0_1 a0_2 a0_3 a0_4 a0_5 t210 t213 t214 t215 t216 t217 t231 t234 t235 t236 t237 t238) else ((laws_eqFs.f k t231 t234 t235 t236 t237 t238 t210 t213 t214 t215 t216 t217).bind fun t258 => (laws_FnExactFsCrash.j0 k l1 (!t258) l0_0 a0_1 a0_2 a0_3 a0_4 a0_5 t210 t213 t214 t215 t216 t217 t231 t234 t235 t236 t237 t238))))) else (some false)))) else (some false)))) else (some false))) = some r := H
      have A18 := Aside0.mk A180
      clear A180
      replace H := Option.bind_eq_some_iff.mp H
      obtain ⟨t240, A190, H⟩ := H
      replace H : (if t240 = true then ((laws_toFs.f k l0_0 a0_1 a0_2 a0_3 a0_4 a0_5).bind fun bt241 => ((laws_eqFs.f k t219 t222 t223 t224 t225 t226 bt241.1 bt241.2.1 bt241.2.2.1 bt241.2.2.2.1 bt241.2.2.2.2.1 bt241.2.2.2.2.2).bind fun t249 => (if t249 = true then ((laws_toStringS.f k l1).bind fun t250 => ((laws_eqStringS.f k t228 t250).bind fun t253 => (if t253 = true then ((laws_markFs.f k t219 t222 t223 t224 t225 t226 1).bind fun bt254 => ((laws_markStringS.f k t228 bt254.1).bind fun bt256 => (if bt256.1 < 0 then (laws_FnExactFsCrash.j0 k l1 true l0_0 a0_1 a0_2 a0_3 a0_4 a0_5 t210 t213 t214 t215 t216 t217 t231 t234 t235 t236 t237 t238) else ((laws_eqFs.f k t231 t234 t235 t236 t237 t238 t210 t213 t214 t215 t216 t217).bind fun t258 => (laws_FnExactFsCrash.j0 k l1 (!t258) l0_0 a0_1 a0_2 a0_3 a0_4 a0_5 t210 t213 t214 t215 t216 t217 t231 t234 t235 t236 t237 t238))))) else (some false)))) else (some false)))) else (some false)) = some r := H
      have A19 := Aside0.mk A190
      clear A190
      by_cases c20 : t240 = true
      · subst c20
        have H1 : ((laws_toFs.f k l0_0 a0_1 a0_2 a0_3 a0_4 a0_5).bind fun bt241 => ((laws_eqFs.f k t219 t222 t223 t224 t225 t226 bt241.1 bt241.2.1 bt241.2.2.1 bt241.2.2.2.1 bt241.2.2.2.2.1 bt241.2.2.2.2.2).bind fun t249 => (if t249 = true then ((laws_toStringS.f k l1).bind fun t250 => ((laws_eqStringS.f k t228 t250).bind fun t253 => (if t253 = true then ((laws_markFs.f k t219 t222 t223 t224 t225 t226 1).bind fun bt254 => ((laws_markStringS.f k t228 bt254.1).bind fun bt256 => (if bt256.1 < 0 then (laws_FnExactFsCrash.j0 k l1 true l0_0 a0_1 a0_2 a0_3 a0_4 a0_5 t210 t213 t214 t215 t216 t217 t231 t234 t235 t236 t237 t238) else ((laws_eqFs.f k t231 t234 t235 t236 t237 t238 t210 t213 t214 t215 t216 t217).bind fun t258 => (laws_FnExactFsCrash.j0 k l1 (!t258) l0_0 a0_1 a0_2 a0_3 a0_4 a0_5 t210 t213 t214 t215 t216 t217 t231 t234 t235 t236 t237 t238))))) else (some false)))) else (some false)))) = some r := by rw [if_pos rfl] at H; exact H
        clear H
        have H := H1
        clear H1
        replace H := Option.bind_eq_some_iff.mp H
        obtain ⟨⟨t241, t244, t245, t246, t247, t248⟩, A210, H⟩ := H
        replace H : ((laws_eqFs.f k t219 t222 t223 t224 t225 t226 t241 t244 t245 t246 t247 t248).bind fun t249 => (if t249 = true then ((laws_toStringS.f k l1).bind fun t250 => ((laws_eqStringS.f k t228 t250).bind fun t253 => (if t253 = true then ((laws_markFs.f k t219 t222 t223 t224 t225 t226 1).bind fun bt254 => ((laws_markStringS.f k t228 bt254.1).bind fun bt256 => (if bt256.1 < 0 then (laws_FnExactFsCrash.j0 k l1 true l0_0 a0_1 a0_2 a0_3 a0_4 a0_5 t210 t213 t214 t215 t216 t217 t231 t234 t235 t236 t237 t238) else ((laws_eqFs.f k t231 t234 t235 t236 t237 t238 t210 t213 t214 t215 t216 t217).bind fun t258 => (laws_FnExactFsCrash.j0 k l1 (!t258) l0_0 a0_1 a0_2 a0_3 a0_4 a0_5 t210 t213 t214 t215 t216 t217 t231 t234 t235 t236 t237 t238))))) else (some false)))) else (some false))) = some r := H
        have A21 := Aside0.mk A210
        clear A210
        replace H := Option.bind_eq_some_iff.mp H
        obtain ⟨t249, A220, H⟩ := H
        replace H : (if t249 = true then ((laws_toStringS.f k l1).bind fun t250 => ((laws_eqStringS.f k t228 t250).bind fun t253 => (if t253 = true then ((laws_markFs.f k t219 t222 t223 t224 t225 t226 1).bind fun bt254 => ((laws_markStringS.f k t228 bt254.1).bind fun bt256 => (if bt256.1 < 0 then (laws_FnExactFsCrash.j0 k l1 true l0_0 a0_1 a0_2 a0_3 a0_4 a0_5 t210 t213 t214 t215 t216 t217 t231 t234 t235 t236 t237 t238) else ((laws_eqFs.f k t231 t234 t235 t236 t237 t238 t210 t213 t214 t215 t216 t217).bind fun t258 => (laws_FnExactFsCrash.j0 k l1 (!t258) l0_0 a0_1 a0_2 a0_3 a0_4 a0_5 t210 t213 t214 t215 t216 t217 t231 t234 t235 t236 t237 t238))))) else (some false)))) else (some false)) = some r := H
        have A22 := Aside0.mk A220
        clear A220
        by_cases c23 : t249 = true
        · subst c23
          have H1 : ((laws_toStringS.f k l1).bind fun t250 => ((laws_eqStringS.f k t228 t250).bind fun t253 => (if t253 = true then ((laws_markFs.f k t219 t222 t223 t224 t225 t226 1).bind fun bt254 => ((laws_markStringS.f k t228 bt254.1).bind fun bt256 => (if bt256.1 < 0 then (laws_FnExactFsCrash.j0 k l1 true l0_0 a0_1 a0_2 a0_3 a0_4 a0_5 t210 t213 t214 t215 t216 t217 t231 t234 t235 t236 t237 t238) else ((laws_eqFs.f k t231 t234 t235 t236 t237 t238 t210 t213 t214 t215 t216 t217).bind fun t258 => (laws_FnExactFsCrash.j0 k l1 (!t258) l0_0 a0_1 a0_2 a0_3 a0_4 a0_5 t210 t213 t214 t215 t216 t217 t231 t234 t235 t236 t237 t238))))) else (some false)))) = some r := by rw [if_pos rfl] at H; exact H
          clear H
          have H := H1
          clear H1
          replace H := Option.bind_eq_some_iff.mp H
          obtain ⟨t250, A240, H⟩ := H
          replace H : ((laws_eqStringS.f k t228 t250).bind fun t253 => (if t253 = true then ((laws_markFs.f k t219 t222 t223 t224 t225 t226 1).bind fun bt254 => ((laws_markStringS.f k t228 bt254.1).bind fun bt256 => (if bt256.1 < 0 then (laws_FnExactFsCrash.j0 k l1 true l0_0 a0_1 a0_2 a0_3 a0_4 a0_5 t210 t213 t214 t215 t216 t217 t231 t234 t235 t236 t237 t238) else ((laws_eqFs.f k t231 t234 t235 t236 t237 t238 t210 t213 t214 t215 t216 t217).bind fun t258 => (laws_FnExactFsCrash.j0 k l1 (!t258) l0_0 a0_1 a0_2 a0_3 a0_4 a0_5 t210 t213 t214 t215 t216 t217 t231 t234 t235 t236 t237 t238))))) else (some false))) = some r := H
          have A24 := Aside0.mk A240
          clear A240
          replace H := Option.bind_eq_some_iff.mp H
          obtain ⟨t253, A250, H⟩ := H
          replace H : (if t253 = true then ((laws_markFs.f k t219 t222 t223 t224 t225 t226 1).bind fun bt254 => ((laws_markStringS.f k t228 bt254.1).bind fun bt256 => (if bt256.1 < 0 then (laws_FnExactFsCrash.j0 k l1 true l0_0 a0_1 a0_2 a0_3 a0_4 a0_5 t210 t213 t214 t215 t216 t217 t231 t234 t235 t236 t237 t238) else ((laws_eqFs.f k t231 t234 t235 t236 t237 t238 t210 t213 t214 t215 t216 t217).bind fun t258 => (laws_FnExactFsCrash.j0 k l1 (!t258) l0_0 a0_1 a0_2 a0_3 a0_4 a0_5 t210 t213 t214 t215 t216 t217 t231 t234 t235 t236 t237 t238))))) else (some false)) = some r := H
          have A25 := Aside0.mk A250
          clear A250
          by_cases c26 : t253 = true
          · subst c26
            have H1 : ((laws_markFs.f k t219 t222 t223 t224 t225 t226 1).bind fun bt254 => ((laws_markStringS.f k t228 bt254.1).bind fun bt256 => (if bt256.1 < 0 then (laws_FnExactFsCrash.j0 k l1 true l0_0 a0_1 a0_2 a0_3 a0_4 a0_5 t210 t213 t214 t215 t216 t217 t231 t234 t235 t236 t237 t238) else ((laws_eqFs.f k t231 t234 t235 t236 t237 t238 t210 t213 t214 t215 t216 t217).bind fun t258 => (laws_FnExactFsCrash.j0 k l1 (!t258) l0_0 a0_1 a0_2 a0_3 a0_4 a0_5 t210 t213 t214 t215 t216 t217 t231 t234 t235 t236 t237 t238))))) = some r := by rw [if_pos rfl] at H; exact H
            clear H
            have H := H1
            clear H1
            replace H := Option.bind_eq_some_iff.mp H
            obtain ⟨⟨t254, t255⟩, A270, H⟩ := H
            replace H : ((laws_markStringS.f k t228 t254).bind fun bt256 => (if bt256.1 < 0 then (laws_FnExactFsCrash.j0 k l1 true l0_0 a0_1 a0_2 a0_3 a0_4 a0_5 t210 t213 t214 t215 t216 t217 t231 t234 t235 t236 t237 t238) else ((laws_eqFs.f k t231 t234 t235 t236 t237 t238 t210 t213 t214 t215 t216 t217).bind fun t258 => (laws_FnExactFsCrash.j0 k l1 (!t258) l0_0 a0_1 a0_2 a0_3 a0_4 a0_5 t210 t213 t214 t215 t216 t217 t231 t234 t235 t236 t237 t238)))) = some r := H
            have A27 := Aside0.mk A270
            clear A270
            replace H := Option.bind_eq_some_iff.mp H
            obtain ⟨⟨t256, t257⟩, A280, H⟩ := H
            replace H : (if t256 < 0 then (laws_FnExactFsCrash.j0 k l1 true l0_0 a0_1 a0_2 a0_3 a0_4 a0_5 t210 t213 t214 t215 t216 t217 t231 t234 t235 t236 t237 t238) else ((laws_eqFs.f k t231 t234 t235 t236 t237 t238 t210 t213 t214 t215 t216 t217).bind fun t258 => (laws_FnExactFsCrash.j0 k l1 (!t258) l0_0 a0_1 a0_2 a0_3 a0_4 a0_5 t210 t213 t214 t215 t216 t217 t231 t234 t235 t236 t237 t238))) = some r := H
            have A28 := Aside0.mk A280
            clear A280
            have HC29 := Aside0.mk H
            clear H
            go_enter Try.func3, Try.ntmps3
            try go_wp2_with (first | ((with_reducible refine gate_dst (N := 2) rfl ?_); refine box_event ?hg (N := 2) ?hd (cs := #[.slice A0_0 l0_0.length c0_0, .int .i64 a0_1, .int .i64 a0_2, .int .i64 a0_3, .int .i64 a0_4, .bool a0_5]) (t := 24) ?hr ?_; (case hd => rfl); (case hg => rfl); (case hr => first | (go_simp; done) | (go_simp; rfl)); intro gb196 hg w30 hbox hb; have n0_ := Aside0.mk (below_step (by repeat (first | (with_reducible first | exact HB.out | apply below_alloc | apply pw_below_drewN | apply below_drew1) | exact HB.out)) hb); have n1_ := Aside0.mk (hbox); have n2_ := Aside0.mk ((by rw [hg]; exact (below_size (by repeat (first | (with_reducible first | exact HB.out | apply below_alloc | apply pw_below_drewN | apply below_drew1) | exact HB.out))) : w.heap.size ≤ gb196)); have n3_ := Aside0.mk ((by rw [hg]; exact (below_size (by repeat (first | (with_reducible first | exact HB.out | apply below_alloc | apply pw_below_drewN | apply below_drew1) | exact HB.out))) : w.heap.size ≤ gb196)); clear HB; have HB := n0_; have BK196 := n1_; have GW196 := n2_; have GE196 := n3_; clear n0_ n1_ n2_ n3_; clear hb hbox hg; have hcz31_0 : w30.cell? ⟨gb196, 0, none⟩ = some (.slice A0_0 l0_0.length c0_0) := (blk_cell BK196.out 0).trans rfl; have hcz31_1 : w30.cell? ⟨gb196, 1, none⟩ = some (.int .i64 a0_1) := (blk_cell BK196.out 1).trans rfl; have hcz31_2 : w30.cell? ⟨gb196, 2, none⟩ = some (.int .i64 a0_2) := (blk_cell BK196.out 2).trans rfl; have hcz31_3 : w30.cell? ⟨gb196, 3, none⟩ = some (.int .i64 a0_3) := (blk_cell BK196.out 3).trans rfl; have hcz31_4 : w30.cell? ⟨gb196, 4, none⟩ = some (.int .i64 a0_4) := (blk_cell BK196.out 4).trans rfl; have hcz31_5 : w30.cell? ⟨gb196, 5, none⟩ = some (.bool a0_5) := (blk_cell BK196.out 5).trans rfl; have hfz31_0 := blk_frozen BK196.out 0; have hfz31_1 := blk_frozen BK196.out 1; have hfz31_2 := blk_frozen BK196.out 2; have hfz31_3 := blk_frozen BK196.out 3; have hfz31_4 := blk_frozen BK196.out 4; have hfz31_5 := blk_frozen BK196.out 5) | ((with_reducible refine gate_callee (f := 7) rfl ?_); refine goesL_ (some 16) rfl rfl Try.func7 (by kernel_rfl) rfl #[.agg #[.slice A0_0 l0_0.length c0_0, .int .i64 a0_1, .int .i64 a0_2, .int .i64 a0_3, .int .i64 a0_4, .bool a0_5], .int .i64 1048576] rfl (by (try simp only [List.map_toArray, List.map_cons, List.map_nil]); first | done | rfl | (simp only [List.length_drop, List.length_take]; rfl)) ?_; (with_reducible refine (laws_szFs.calls k _ _ l0_0 a0_1 a0_2 a0_3 a0_4 a0_5 1048576 t197 _ ?side1 ?side2 A3.out).mono ?_); (case side1 => repeat (first | exact (Kd.C_below HR0_0.out HB.out) | (with_reducible refine Kd.C_alloc ?_ _) | (with_reducible refine Kd.C_drewN ?_ _) | (with_reducible refine Kd.C_drew ?_))); (case side2 => exact HC0_0.out); rintro e w32 ⟨rfl, hb⟩; refine ⟨_, rfl, ?_⟩; have n0_ := Aside0.mk (blk_below (g := gb196) (o := .cells #[.slice A0_0 l0_0.length c0_0, .int .i64 a0_1, .int .i64 a0_2, .int .i64 a0_3, .int .i64 a0_4, .bool a0_5] 24 (0, 0)) (by (with_reducible repeat (first | refine blk_drewN ?_ _ | refine blk_drew ?_ | refine blk_alloc ?_ _)); exact BK196.out) hb); have n1_ := Aside0.mk (below_step (by repeat (first | (with_reducible first | exact HB.out | apply below_alloc | apply pw_below_drewN | apply below_drew1 | refine below_set ?_ GE196.out) | exact HB.out)) hb); clear BK196; clear HB; have BK196 := n0_; have HB := n1_; clear n0_ n1_; (try clear hb); (try clear hb2); (try clear hk); (try clear hi)) | ((with_reducible refine gate_callee (f := 8) rfl ?_); refine goesL_ (some 21) rfl rfl Try.func8 (by kernel_rfl) rfl #[.slice A1 l1.length c1, .int .i64 t197] rfl (by (try simp only [List.map_toArray, List.map_cons, List.map_nil]); first | done | rfl | (simp only [List.length_drop, List.length_take]; rfl)) ?_; (with_reducible refine (laws_szStringS.calls k _ _ l1 t197 t198 _ ?side1 ?side2 A8.out).mono ?_); (case side1 => repeat (first | exact (Kd.C_below HR1.out HB.out) | (with_reducible refine Kd.C_alloc ?_ _) | (with_reducible refine Kd.C_drewN ?_ _) | (with_reducible refine Kd.C_drew ?_))); (case side2 => exact HC1.out); rintro e w' ⟨rfl, ⟨nd, rfl⟩⟩; refine ⟨_, rfl, ?_⟩; (try (rw [drewN_self w32]; generalize hq_ : World.drewN w32 _ = w32; have n0_ : Aside0 (w32.heap[gb196]? = some (.cells #[.slice A0_0 l0_0.length c0_0, .int .i64 a0_1, .int .i64 a0_2, .int .i64 a0_3, .int .i64 a0_4, .bool a0_5] 24 (0, 0))) := ⟨by rw [← hq_]; exact (by (with_reducible repeat (first | refine blk_drewN ?_ _ | refine blk_drew ?_ | refine blk_alloc ?_ _)); exact BK196.out)⟩; have n1_ : Aside0 (Below w.heap.size w w32) := ⟨by rw [← hq_]; exact (by repeat (first | (with_reducible first | exact HB.out | apply below_alloc | apply pw_below_drewN | apply below_drew1 | refine below_set ?_ GE196.out) | exact HB.out))⟩; clear BK196 HB hq_; have BK196 := n0_; have HB := n1_; clear n0_ n1_)); have hcz33_0 : w32.cell? ⟨gb196, 0, none⟩ = some (.slice A0_0 l0_0.length c0_0) := (blk_cell BK196.out 0).trans rfl; have hcz33_1 : w32.cell? ⟨gb196, 1, none⟩ = some (.int .i64 a0_1) := (blk_cell BK196.out 1).trans rfl; have hcz33_2 : w32.cell? ⟨gb196, 2, none⟩ = some (.int .i64 a0_2) := (blk_cell BK196.out 2).trans rfl; have hcz33_3 : w32.cell? ⟨gb196, 3, none⟩ = some (.int .i64 a0_3) := (blk_cell BK196.out 3).trans rfl; have hcz33_4 : w32.cell? ⟨gb196, 4, none⟩ = some (.int .i64 a0_4) := (blk_cell BK196.out 4).trans rfl; have hcz33_5 : w32.cell? ⟨gb196, 5, none⟩ = some (.bool a0_5) := (blk_cell BK196.out 5).trans rfl; have hfz33_0 := blk_frozen BK196.out 0; have hfz33_1 := blk_frozen BK196.out 1; have hfz33_2 := blk_frozen BK196.out 2; have hfz33_3 := blk_frozen BK196.out 3; have hfz33_4 := blk_frozen BK196.out 4; have hfz33_5 := blk_frozen BK196.out 5) | ((with_reducible refine gate_callee (f := 10) rfl ?_); refine goesL_ (some 25) rfl rfl Try.func10 (by kernel_rfl) rfl #[.agg #[.slice A0_0 l0_0.length c0_0, .int .i64 a0_1, .int .i64 a0_2, .int .i64 a0_3, .int .i64 a0_4, .bool a0_5]] rfl (by (try simp only [List.map_toArray, List.map_cons, List.map_nil]); first | done | rfl | (simp only [List.length_drop, List.length_take]; rfl)) ?_; (with_reducible refine (laws_toFs.calls k _ _ l0_0 a0_1 a0_2 a0_3 a0_4 a0_5 t199 t202 t203 t204 t205 t206 _ ?side1 ?side2 A13.out).mono ?_); (case side1 => repeat (first | exact (Kd.C_below HR0_0.out HB.out) | (with_reducible refine Kd.C_alloc ?_ _) | (with_reducible refine Kd.C_drewN ?_ _) | (with_reducible refine Kd.C_drew ?_))); (case side2 => exact HC0_0.out); rintro e w34 ⟨v200, rfl, ho0, hb⟩; refine ⟨_, rfl, ?_⟩; have n0_ := Aside0.mk (Kd.R_lower ho0 (below_size (by repeat (first | (with_reducible first | exact HB.out | apply below_alloc | apply pw_below_drewN | apply below_drew1 | refine below_set ?_ GE196.out) | exact HB.out)))); have n1_ := Aside0.mk (blk_below (g := gb196) (o := .cells #[.slice A0_0 l0_0.length c0_0, .int .i64 a0_1, .int .i64 a0_2, .int .i64 a0_3, .int .i64 a0_4, .bool a0_5] 24 (0, 0)) (by (with_reducible repeat (first | refine blk_drewN ?_ _ | refine blk_drew ?_ | refine blk_alloc ?_ _)); exact BK196.out) hb); have n2_ := Aside0.mk (below_step (by repeat (first | (with_reducible first | exact HB.out | apply below_alloc | apply pw_below_drewN | apply below_drew1 | refine below_set ?_ GE196.out) | exact HB.out)) hb); clear BK196; clear HB; have HO201 := n0_; have BK196 := n1_; have HB := n2_; clear n0_ n1_ n2_; (try clear hb); (try clear hb2); (try clear hk); (try clear hi); (try clear ho0)) | ((with_reducible refine gate_callee (f := 11) rfl ?_); refine goesL_ (some 27) rfl rfl Try.func11 (by kernel_rfl) rfl #[.slice A1 l1.length c1] rfl (by (try simp only [List.map_toArray, List.map_cons, List.map_nil]); first | done | rfl | (simp only [List.length_drop, List.length_take]; rfl)) ?_; (with_reducible refine (laws_toStringS.calls k _ _ l1 t207 _ ?side1 ?side2 A14.out).mono ?_); (case side1 => repeat (first | exact (Kd.C_below HR1.out HB.out) | (with_reducible refine Kd.C_alloc ?_ _) | (with_reducible refine Kd.C_drewN ?_ _) | (with_reducible refine Kd.C_drew ?_))); (case side2 => exact HC1.out); rintro e w35 ⟨v208, rfl, ho0, hb⟩; refine ⟨_, rfl, ?_⟩; have n0_ := Aside0.mk (Kd.R_below (by (with_reducible repeat (first | apply Kd.R_alloc | apply Kd.R_drewN | apply Kd.R_drew)); exact HO201.out) hb); have n1_ := Aside0.mk (Kd.R_lower ho0 (below_size (by repeat (first | (with_reducible first | exact HB.out | apply below_alloc | apply pw_below_drewN | apply below_drew1 | refine below_set ?_ GE196.out) | exact HB.out)))); have n2_ := Aside0.mk (blk_below (g := gb196) (o := .cells #[.slice A0_0 l0_0.length c0_0, .int .i64 a0_1, .int .i64 a0_2, .int .i64 a0_3, .int .i64 a0_4, .bool a0_5] 24 (0, 0)) (by (with_reducible repeat (first | refine blk_drewN ?_ _ | refine blk_drew ?_ | refine blk_alloc ?_ _)); exact BK196.out) hb); have n3_ := Aside0.mk (below_step (by repeat (first | (with_reducible first | exact HB.out | apply below_alloc | apply pw_below_drewN | apply below_drew1 | refine below_set ?_ GE196.out) | exact HB.out)) hb); clear HO201; clear BK196; clear HB; have HO201 := n0_; have HO209 := n1_; have BK196 := n2_; have HB := n3_; clear n0_ n1_ n2_ n3_; (try clear hb); (try clear hb2); (try clear hk); (try clear hi); (try clear ho0); obtain ⟨Ao36, co36, eo36⟩ := Kd.R_slice HO201.out; subst eo36; obtain ⟨Ao37, co37, eo37⟩ := Kd.R_slice HO209.out; subst eo37) | ((with_reducible refine gate_callee (f := 9) rfl ?_); refine goesL_ (some 28) rfl rfl Try.func9 (by kernel_rfl) rfl #[.agg #[.slice Ao36 t199.length co36, .int .i64 t202, .int .i64 t203, .int .i64 t204, .int .i64 t205, .bool t206], .slice Ao37 t207.length co37] rfl (by (try simp only [List.map_toArray, List.map_cons, List.map_nil]); first | done | rfl | (simp only [List.length_drop, List.length_take]; rfl)) ?_; (with_reducible refine (spec_FsCrash.calls k _ _ t199 t202 t203 t204 t205 t206 _ _ t207 t210 t213 t214 t215 t216 t217 _ ?side1 ?side2 ?side3 ?side4 A15.out).mono ?_); (case side1 => repeat (first | exact (Kd.R_reads' HO201.out).2.2 | (with_reducible refine Kd.C_alloc ?_ _) | (with_reducible refine Kd.C_drewN ?_ _) | (with_reducible refine Kd.C_drew ?_))); (case side2 => exact (Kd.R_reads' HO201.out).2.1); (case side3 => repeat (first | exact (Kd.R_reads' HO209.out).2.2 | (with_reducible refine Kd.C_alloc ?_ _) | (with_reducible refine Kd.C_drewN ?_ _) | (with_reducible refine Kd.C_drew ?_))); (case side4 => exact (Kd.R_reads' HO209.out).2.1); rintro e w38 ⟨v211, rfl, ho0, hb⟩; refine ⟨_, rfl, ?_⟩; have n0_ := Aside0.mk (Kd.R_elder' (by (with_reducible repeat (first | apply Kd.R_alloc | apply Kd.R_drewN | apply Kd.R_drew)); exact HO201.out) (Kd.R_base ho0) hb); have n1_ := Aside0.mk (Kd.R_below (by (with_reducible repeat (first | apply Kd.R_alloc | apply Kd.R_drewN | apply Kd.R_drew)); exact HO209.out) hb); have n2_ := Aside0.mk (Kd.R_lower (Kd.R_new' ho0 (Kd.R_lt (by (with_reducible repeat (first | apply Kd.R_alloc | apply Kd.R_drewN | apply Kd.R_drew)); exact HO201.out))) (below_size (by repeat (first | (with_reducible first | exact HB.out | apply below_alloc | apply pw_below_drewN | apply below_drew1 | refine below_set ?_ GE196.out) | exact HB.out)))); have n3_ := Aside0.mk (blk_below (g := gb196) (o := .cells #[.slice A0_0 l0_0.length c0_0, .int .i64 a0_1, .int .i64 a0_2, .int .i64 a0_3, .int .i64 a0_4, .bool a0_5] 24 (0, 0)) (by (with_reducible repeat (first | refine blk_drewN ?_ _ | refine blk_drew ?_ | refine blk_alloc ?_ _)); exact BK196.out) hb); have n4_ := Aside0.mk (below_step (by repeat (first | (with_reducible first | exact HB.out | apply below_alloc | apply pw_below_drewN | apply below_drew1 | refine below_set ?_ GE196.out) | exact HB.out)) hb); clear HO201; clear HO209; clear BK196; clear HB; have HO201 := n0_; have HO209 := n1_; have HO212 := n2_; have BK196 := n3_; have HB := n4_; clear n0_ n1_ n2_ n3_ n4_; (try clear hb); (try clear hb2); (try clear hk); (try clear hi); (try clear ho0)) | ((with_reducible refine gate_dst (N := 6) rfl ?_); refine box_event ?hg (N := 6) ?hd (cs := #[.slice none 0 0, .int .i64 0, .int .i64 0, .int .i64 0, .int .i64 0, .bool false]) (t := 30) ?hr ?_; (case hd => rfl); (case hg => rfl); (case hr => first | (go_simp; done) | (go_simp; rfl)); intro gb218 hg w39 hbox hb; have n0_ := Aside0.mk (Kd.R_below (by (with_reducible repeat (first | apply Kd.R_alloc | apply Kd.R_drewN | apply Kd.R_drew)); exact HO201.out) hb); have n1_ := Aside0.mk (Kd.R_below (by (with_reducible repeat (first | apply Kd.R_alloc | apply Kd.R_drewN | apply Kd.R_drew)); exact HO209.out) hb); have n2_ := Aside0.mk (Kd.R_below (by (with_reducible repeat (first | apply Kd.R_alloc | apply Kd.R_drewN | apply Kd.R_drew)); exact HO212.out) hb); have n3_ := Aside0.mk (blk_below (g := gb196) (o := .cells #[.slice A0_0 l0_0.length c0_0, .int .i64 a0_1, .int .i64 a0_2, .int .i64 a0_3, .int .i64 a0_4, .bool a0_5] 24 (0, 0)) (by (with_reducible repeat (first | refine blk_drewN ?_ _ | refine blk_drew ?_ | refine blk_alloc ?_ _)); exact BK196.out) hb); have n4_ := Aside0.mk (below_step (by repeat (first | (with_reducible first | exact HB.out | apply below_alloc | apply pw_below_drewN | apply below_drew1 | refine below_set ?_ GE196.out) | exact HB.out)) hb); have n5_ := Aside0.mk (hbox); have n6_ := Aside0.mk ((by rw [hg]; exact (below_size (by repeat (first | (with_reducible first | exact HB.out | apply below_alloc | apply pw_below_drewN | apply below_drew1 | refine below_set ?_ GE196.out) | exact HB.out))) : w.heap.size ≤ gb218)); have n7_ := Aside0.mk ((by rw [hg]; exact (below_size (by repeat (first | (with_reducible first | exact HB.out | apply below_alloc | apply pw_below_drewN | apply below_drew1 | refine below_set ?_ GE196.out) | exact HB.out))) : w.heap.size ≤ gb218)); have n8_ := Aside0.mk ((by rw [hg]; exact Nat.ne_of_lt (blk_lt (g := gb196) (o := .cells #[.slice A0_0 l0_0.length c0_0, .int .i64 a0_1, .int .i64 a0_2, .int .i64 a0_3, .int .i64 a0_4, .bool a0_5] 24 (0, 0)) (by (with_reducible repeat (first | refine blk_drewN ?_ _ | refine blk_drew ?_ | refine blk_alloc ?_ _)); exact BK196.out)) : gb196 ≠ gb218)); have n9_ := Aside0.mk ((by rw [hg]; exact Nat.ne_of_gt (blk_lt (g := gb196) (o := .cells #[.slice A0_0 l0_0.length c0_0, .int .i64 a0_1, .int .i64 a0_2, .int .i64 a0_3, .int .i64 a0_4, .bool a0_5] 24 (0, 0)) (by (with_reducible repeat (first | refine blk_drewN ?_ _ | refine blk_drew ?_ | refine blk_alloc ?_ _)); exact BK196.out)) : gb218 ≠ gb196)); clear HO201; clear HO209; clear HO212; clear BK196; clear HB; have HO201 := n0_; have HO209 := n1_; have HO212 := n2_; have BK196 := n3_; have HB := n4_; have BK218 := n5_; have GW218 := n6_; have GE218 := n7_; have NB196_218 := n8_; have NB218_196 := n9_; clear n0_ n1_ n2_ n3_ n4_ n5_ n6_ n7_ n8_ n9_; clear hb hbox hg; obtain ⟨Ao40, co40, eo40⟩ := Kd.R_slice HO212.out; subst eo40; have hnb41 := NB218_196.out; have hnc41 := NB196_218.out; have hcz42_0 : w39.cell? ⟨gb218, 0, none⟩ = some (.slice none 0 0) := (blk_cell BK218.out 0).trans rfl; have hcz42_1 : w39.cell? ⟨gb218, 1, none⟩ = some (.int .i64 0) := (blk_cell BK218.out 1).trans rfl; have hcz42_2 : w39.cell? ⟨gb218, 2, none⟩ = some (.int .i64 0) := (blk_cell BK218.out 2).trans rfl; have hcz42_3 : w39.cell? ⟨gb218, 3, none⟩ = some (.int .i64 0) := (blk_cell BK218.out 3).trans rfl; have hcz42_4 : w39.cell? ⟨gb218, 4, none⟩ = some (.int .i64 0) := (blk_cell BK218.out 4).trans rfl; have hcz42_5 : w39.cell? ⟨gb218, 5, none⟩ = some (.bool false) := (blk_cell BK218.out 5).trans rfl; have hfz42_0 := blk_frozen BK218.out 0; have hfz42_1 := blk_frozen BK218.out 1; have hfz42_2 := blk_frozen BK218.out 2; have hfz42_3 := blk_frozen BK218.out 3; have hfz42_4 := blk_frozen BK218.out 4; have hfz42_5 := blk_frozen BK218.out 5; have hcz43_0 : w39.cell? ⟨gb196, 0, none⟩ = some (.slice A0_0 l0_0.length c0_0) := (blk_cell BK196.out 0).trans rfl; have hcz43_1 : w39.cell? ⟨gb196, 1, none⟩ = some (.int .i64 a0_1) := (blk_cell BK196.out 1).trans rfl; have hcz43_2 : w39.cell? ⟨gb196, 2, none⟩ = some (.int .i64 a0_2) := (blk_cell BK196.out 2).trans rfl; have hcz43_3 : w39.cell? ⟨gb196, 3, none⟩ = some (.int .i64 a0_3) := (blk_cell BK196.out 3).trans rfl; have hcz43_4 : w39.cell? ⟨gb196, 4, none⟩ = some (.int .i64 a0_4) := (blk_cell BK196.out 4).trans rfl; have hcz43_5 : w39.cell? ⟨gb196, 5, none⟩ = some (.bool a0_5) := (blk_cell BK196.out 5).trans rfl; have hfz43_0 := blk_frozen BK196.out 0; have hfz43_1 := blk_frozen BK196.out 1; have hfz43_2 := blk_frozen BK196.out 2; have hfz43_3 := blk_frozen BK196.out 3; have hfz43_4 := blk_frozen BK196.out 4; have hfz43_5 := blk_frozen BK196.out 5) | ((with_reducible refine gate_callee (f := 10) rfl ?_); refine goesL_ (some 30) rfl rfl Try.func10 (by kernel_rfl) rfl #[.agg #[.slice A0_0 l0_0.length c0_0, .int .i64 a0_1, .int .i64 a0_2, .int .i64 a0_3, .int .i64 a0_4, .bool a0_5]] rfl (by (try simp only [List.map_toArray, List.map_cons, List.map_nil]); first | done | rfl | (simp only [List.length_drop, List.length_take]; rfl)) ?_; (with_reducible refine (laws_toFs.calls k _ _ l0_0 a0_1 a0_2 a0_3 a0_4 a0_5 t219 t222 t223 t224 t225 t226 _ ?side1 ?side2 A16.out).mono ?_); (case side1 => exact Kd.C_below HR0_0.out (by repeat (first | (with_reducible first | exact HB.out | apply below_alloc | apply pw_below_drewN | apply below_drew1 | refine below_set ?_ GE196.out | refine below_set ?_ GE218.out) | exact HB.out))); (case side2 => exact HC0_0.out); rintro e w44 ⟨v220, rfl, ho0, hb⟩; refine ⟨_, rfl, ?_⟩; have n0_ := Aside0.mk (Kd.R_elder' (by (with_reducible repeat (first | apply Kd.R_alloc | apply Kd.R_drewN | apply Kd.R_drew)); exact (Kd.R_mono (Kd.R_far (p := ⟨gb218, 5, none⟩) (Kd.R_far (p := ⟨gb218, 4, none⟩) (Kd.R_far (p := ⟨gb218, 3, none⟩) (Kd.R_far (p := ⟨gb218, 2, none⟩) (Kd.R_far (p := ⟨gb218, 1, none⟩) (Kd.R_far (p := ⟨gb218, 0, none⟩) (Kd.R_types HO201.out BK218.out (by decide)) (fun _ hk => hk.2) (.slice Ao40 t210.length co40)) (fun _ hk => hk.2) (.int .i64 t213)) (fun _ hk => hk.2) (.int .i64 t214)) (fun _ hk => hk.2) (.int .i64 t215)) (fun _ hk => hk.2) (.int .i64 t216)) (fun _ hk => hk.2) (.bool t217)) (fun _ h_ => h_.1))) (Kd.R_base ho0) hb); have n1_ := Aside0.mk (Kd.R_below (by (with_reducible repeat (first | apply Kd.R_alloc | apply Kd.R_drewN | apply Kd.R_drew)); exact (Kd.R_mono (Kd.R_far (p := ⟨gb218, 5, none⟩) (Kd.R_far (p := ⟨gb218, 4, none⟩) (Kd.R_far (p := ⟨gb218, 3, none⟩) (Kd.R_far (p := ⟨gb218, 2, none⟩) (Kd.R_far (p := ⟨gb218, 1, none⟩) (Kd.R_far (p := ⟨gb218, 0, none⟩) (Kd.R_types HO209.out BK218.out (by decide)) (fun _ hk => hk.2) (.slice Ao40 t210.length co40)) (fun _ hk => hk.2) (.int .i64 t213)) (fun _ hk => hk.2) (.int .i64 t214)) (fun _ hk => hk.2) (.int .i64 t215)) (fun _ hk => hk.2) (.int .i64 t216)) (fun _ hk => hk.2) (.bool t217)) (fun _ h_ => h_.1))) hb); have n2_ := Aside0.mk (Kd.R_elder' (by (with_reducible repeat (first | apply Kd.R_alloc | apply Kd.R_drewN | apply Kd.R_drew)); exact (Kd.R_mono (Kd.R_far (p := ⟨gb218, 5, none⟩) (Kd.R_far (p := ⟨gb218, 4, none⟩) (Kd.R_far (p := ⟨gb218, 3, none⟩) (Kd.R_far (p := ⟨gb218, 2, none⟩) (Kd.R_far (p := ⟨gb218, 1, none⟩) (Kd.R_far (p := ⟨gb218, 0, none⟩) (Kd.R_types HO212.out BK218.out (by decide)) (fun _ hk => hk.2) (.slice Ao40 t210.length co40)) (fun _ hk => hk.2) (.int .i64 t213)) (fun _ hk => hk.2) (.int .i64 t214)) (fun _ hk => hk.2) (.int .i64 t215)) (fun _ hk => hk.2) (.int .i64 t216)) (fun _ hk => hk.2) (.bool t217)) (fun _ h_ => h_.1))) (Kd.R_base ho0) hb); have n3_ := Aside0.mk (Kd.R_lower (Kd.R_new' (Kd.R_new' ho0 (Kd.R_lt (by (with_reducible repeat (first | apply Kd.R_alloc | apply Kd.R_drewN | apply Kd.R_drew)); exact (Kd.R_mono (Kd.R_far (p := ⟨gb218, 5, none⟩) (Kd.R_far (p := ⟨gb218, 4, none⟩) (Kd.R_far (p := ⟨gb218, 3, none⟩) (Kd.R_far (p := ⟨gb218, 2, none⟩) (Kd.R_far (p := ⟨gb218, 1, none⟩) (Kd.R_far (p := ⟨gb218, 0, none⟩) (Kd.R_types HO201.out BK218.out (by decide)) (fun _ hk => hk.2) (.slice Ao40 t210.length co40)) (fun _ hk => hk.2) (.int .i64 t213)) (fun _ hk => hk.2) (.int .i64 t214)) (fun _ hk => hk.2) (.int .i64 t215)) (fun _ hk => hk.2) (.int .i64 t216)) (fun _ hk => hk.2) (.bool t217)) (fun _ h_ => h_.1))))) (Kd.R_lt (by (with_reducible repeat (first | apply Kd.R_alloc | apply Kd.R_drewN | apply Kd.R_drew)); exact (Kd.R_mono (Kd.R_far (p := ⟨gb218, 5, none⟩) (Kd.R_far (p := ⟨gb218, 4, none⟩) (Kd.R_far (p := ⟨gb218, 3, none⟩) (Kd.R_far (p := ⟨gb218, 2, none⟩) (Kd.R_far (p := ⟨gb218, 1, none⟩) (Kd.R_far (p := ⟨gb218, 0, none⟩) (Kd.R_types HO212.out BK218.out (by decide)) (fun _ hk => hk.2) (.slice Ao40 t210.length co40)) (fun _ hk => hk.2) (.int .i64 t213)) (fun _ hk => hk.2) (.int .i64 t214)) (fun _ hk => hk.2) (.int .i64 t215)) (fun _ hk => hk.2) (.int .i64 t216)) (fun _ hk => hk.2) (.bool t217)) (fun _ h_ => h_.1))))) (below_size (by repeat (first | (with_reducible first | exact HB.out | apply below_alloc | apply pw_below_drewN | apply below_drew1 | refine below_set ?_ GE196.out | refine below_set ?_ GE218.out) | exact HB.out)))); have n4_ := Aside0.mk (blk_below (g := gb196) (o := .cells #[.slice A0_0 l0_0.length c0_0, .int .i64 a0_1, .int .i64 a0_2, .int .i64 a0_3, .int .i64 a0_4, .bool a0_5] 24 (0, 0)) (by (with_reducible repeat (first | refine blk_drewN ?_ _ | refine blk_drew ?_ | refine blk_alloc ?_ _)); refine blk_far ?_ NB196_218.out _; (with_reducible repeat (first | refine blk_drewN ?_ _ | refine blk_drew ?_ | refine blk_alloc ?_ _)); refine blk_far ?_ NB196_218.out _; (with_reducible repeat (first | refine blk_drewN ?_ _ | refine blk_drew ?_ | refine blk_alloc ?_ _)); refine blk_far ?_ NB196_218.out _; (with_reducible repeat (first | refine blk_drewN ?_ _ | refine blk_drew ?_ | refine blk_alloc ?_ _)); refine blk_far ?_ NB196_218.out _; (with_reducible repeat (first | refine blk_drewN ?_ _ | refine blk_drew ?_ | refine blk_alloc ?_ _)); refine blk_far ?_ NB196_218.out _; (with_reducible repeat (first | refine blk_drewN ?_ _ | refine blk_drew ?_ | refine blk_alloc ?_ _)); refine blk_far ?_ NB196_218.out _; (with_reducible repeat (first | refine blk_drewN ?_ _ | refine blk_drew ?_ | refine blk_alloc ?_ _)); exact BK196.out) hb); have n5_ := Aside0.mk (blk_below (g := gb218) (o := .cells #[.slice Ao40 t210.length co40, .int .i64 t213, .int .i64 t214, .int .i64 t215, .int .i64 t216, .bool t217] 30 (0, 0)) (by (with_reducible repeat (first | refine blk_drewN ?_ _ | refine blk_drew ?_ | refine blk_alloc ?_ _)); refine blk_put (cs := #[.slice Ao40 t210.length co40, .int .i64 t213, .int .i64 t214, .int .i64 t215, .int .i64 t216, .bool false]) ?_ 5 _ rfl; (with_reducible repeat (first | refine blk_drewN ?_ _ | refine blk_drew ?_ | refine blk_alloc ?_ _)); refine blk_put (cs := #[.slice Ao40 t210.length co40, .int .i64 t213, .int .i64 t214, .int .i64 t215, .int .i64 0, .bool false]) ?_ 4 _ rfl; (with_reducible repeat (first | refine blk_drewN ?_ _ | refine blk_drew ?_ | refine blk_alloc ?_ _)); refine blk_put (cs := #[.slice Ao40 t210.length co40, .int .i64 t213, .int .i64 t214, .int .i64 0, .int .i64 0, .bool false]) ?_ 3 _ rfl; (with_reducible repeat (first | refine blk_drewN ?_ _ | refine blk_drew ?_ | refine blk_alloc ?_ _)); refine blk_put (cs := #[.slice Ao40 t210.length co40, .int .i64 t213, .int .i64 0, .int .i64 0, .int .i64 0, .bool false]) ?_ 2 _ rfl; (with_reducible repeat (first | refine blk_drewN ?_ _ | refine blk_drew ?_ | refine blk_alloc ?_ _)); refine blk_put (cs := #[.slice Ao40 t210.length co40, .int .i64 0, .int .i64 0, .int .i64 0, .int .i64 0, .bool false]) ?_ 1 _ rfl; (with_reducible repeat (first | refine blk_drewN ?_ _ | refine blk_drew ?_ | refine blk_alloc ?_ _)); refine blk_put (cs := #[.slice none 0 0, .int .i64 0, .int .i64 0, .int .i64 0, .int .i64 0, .bool false]) ?_ 0 _ rfl; (with_reducible repeat (first | refine blk_drewN ?_ _ | refine blk_drew ?_ | refine blk_alloc ?_ _)); exact BK218.out) hb); have n6_ := Aside0.mk (below_step (by repeat (first | (with_reducible first | exact HB.out | apply below_alloc | apply pw_below_drewN | apply below_drew1 | refine below_set ?_ GE196.out | refine below_set ?_ GE218.out) | exact HB.out)) hb); clear HO201; clear HO209; clear HO212; clear BK196; clear BK218; clear HB; have HO201 := n0_; have HO209 := n1_; have HO212 := n2_; have HO221 := n3_; have BK196 := n4_; have BK218 := n5_; have HB := n6_; clear n0_ n1_ n2_ n3_ n4_ n5_ n6_; (try clear hb); (try clear hb2); (try clear hk); (try clear hi); (try clear ho0)) | ((with_reducible refine gate_dst (N := 7) rfl ?_); refine box_event ?hg (N := 7) ?hd (cs := #[.slice none 0 0, .int .i64 0, .int .i64 0, .int .i64 0, .int .i64 0, .bool false]) (t := 30) ?hr ?_; (case hd => rfl); (case hg => rfl); (case hr => first | (go_simp; done) | (go_simp; rfl)); intro gb227 hg w45 hbox hb; have n0_ := Aside0.mk (Kd.R_below (by (with_reducible repeat (first | apply Kd.R_alloc | apply Kd.R_drewN | apply Kd.R_drew)); exact HO201.out) hb); have n1_ := Aside0.mk (Kd.R_below (by (with_reducible repeat (first | apply Kd.R_alloc | apply Kd.R_drewN | apply Kd.R_drew)); exact HO209.out) hb); have n2_ := Aside0.mk (Kd.R_below (by (with_reducible repeat (first | apply Kd.R_alloc | apply Kd.R_drewN | apply Kd.R_drew)); exact HO212.out) hb); have n3_ := Aside0.mk (Kd.R_below (by (with_reducible repeat (first | apply Kd.R_alloc | apply Kd.R_drewN | apply Kd.R_drew)); exact HO221.out) hb); have n4_ := Aside0.mk (blk_below (g := gb196) (o := .cells #[.slice A0_0 l0_0.length c0_0, .int .i64 a0_1, .int .i64 a0_2, .int .i64 a0_3, .int .i64 a0_4, .bool a0_5] 24 (0, 0)) (by (with_reducible repeat (first | refine blk_drewN ?_ _ | refine blk_drew ?_ | refine blk_alloc ?_ _)); exact BK196.out) hb); have n5_ := Aside0.mk (blk_below (g := gb218) (o := .cells #[.slice Ao40 t210.length co40, .int .i64 t213, .int .i64 t214, .int .i64 t215, .int .i64 t216, .bool t217] 30 (0, 0)) (by (with_reducible repeat (first | refine blk_drewN ?_ _ | refine blk_drew ?_ | refine blk_alloc ?_ _)); exact BK218.out) hb); have n6_ := Aside0.mk (below_step (by repeat (first | (with_reducible first | exact HB.out | apply below_alloc | apply pw_below_drewN | apply below_drew1 | refine below_set ?_ GE196.out | refine below_set ?_ GE218.out) | exact HB.out)) hb); have n7_ := Aside0.mk (hbox); have n8_ := Aside0.mk ((by rw [hg]; exact (below_size (by repeat (first | (with_reducible first | exact HB.out | apply below_alloc | apply pw_below_drewN | apply below_drew1 | refine below_set ?_ GE196.out | refine below_set ?_ GE218.out) | exact HB.out))) : w.heap.size ≤ gb227)); have n9_ := Aside0.mk ((by rw [hg]; exact (below_size (by repeat (first | (with_reducible first | exact HB.out | apply below_alloc | apply pw_below_drewN | apply below_drew1 | refine below_set ?_ GE196.out | refine below_set ?_ GE218.out) | exact HB.out))) : w.heap.size ≤ gb227)); have n10_ := Aside0.mk ((by rw [hg]; exact Nat.ne_of_lt (blk_lt (g := gb196) (o := .cells #[.slice A0_0 l0_0.length c0_0, .int .i64 a0_1, .int .i64 a0_2, .int .i64 a0_3, .int .i64 a0_4, .bool a0_5] 24 (0, 0)) (by (with_reducible repeat (first | refine blk_drewN ?_ _ | refine blk_drew ?_ | refine blk_alloc ?_ _)); exact BK196.out)) : gb196 ≠ gb227)); have n11_ := Aside0.mk ((by rw [hg]; exact Nat.ne_of_gt (blk_lt (g := gb196) (o := .cells #[.slice A0_0 l0_0.length c0_0, .int .i64 a0_1, .int .i64 a0_2, .int .i64 a0_3, .int .i64 a0_4, .bool a0_5] 24 (0, 0)) (by (with_reducible repeat (first | refine blk_drewN ?_ _ | refine blk_drew ?_ | refine blk_alloc ?_ _)); exact BK196.out)) : gb227 ≠ gb196)); have n12_ := Aside0.mk ((by rw [hg]; exact Nat.ne_of_lt (blk_lt (g := gb218) (o := .cells #[.slice Ao40 t210.length co40, .int .i64 t213, .int .i64 t214, .int .i64 t215, .int .i64 t216, .bool t217] 30 (0, 0)) (by (with_reducible repeat (first | refine blk_drewN ?_ _ | refine blk_drew ?_ | refine blk_alloc ?_ _)); exact BK218.out)) : gb218 ≠ gb227)); have n13_ := Aside0.mk ((by rw [hg]; exact Nat.ne_of_gt (blk_lt (g := gb218) (o := .cells #[.slice Ao40 t210.length co40, .int .i64 t213, .int .i64 t214, .int .i64 t215, .int .i64 t216, .bool t217] 30 (0, 0)) (by (with_reducible repeat (first | refine blk_drewN ?_ _ | refine blk_drew ?_ | refine blk_alloc ?_ _)); exact BK218.out)) : gb227 ≠ gb218)); clear HO201; clear HO209; clear HO212; clear HO221; clear BK196; clear BK218; clear HB; have HO201 := n0_; have HO209 := n1_; have HO212 := n2_; have HO221 := n3_; have BK196 := n4_; have BK218 := n5_; have HB := n6_; have BK227 := n7_; have GW227 := n8_; have GE227 := n9_; have NB196_227 := n10_; have NB227_196 := n11_; have NB218_227 := n12_; have NB227_218 := n13_; clear n0_ n1_ n2_ n3_ n4_ n5_ n6_ n7_ n8_ n9_ n10_ n11_ n12_ n13_; clear hb hbox hg; obtain ⟨Ao46, co46, eo46⟩ := Kd.R_slice HO221.out; subst eo46; have hnb47 := NB227_196.out; have hnc47 := NB196_227.out; have hnb48 := NB227_218.out; have hnc48 := NB218_227.out; have hcz49_0 : w45.cell? ⟨gb227, 0, none⟩ = some (.slice none 0 0) := (blk_cell BK227.out 0).trans rfl; have hcz49_1 : w45.cell? ⟨gb227, 1, none⟩ = some (.int .i64 0) := (blk_cell BK227.out 1).trans rfl; have hcz49_2 : w45.cell? ⟨gb227, 2, none⟩ = some (.int .i64 0) := (blk_cell BK227.out 2).trans rfl; have hcz49_3 : w45.cell? ⟨gb227, 3, none⟩ = some (.int .i64 0) := (blk_cell BK227.out 3).trans rfl; have hcz49_4 : w45.cell? ⟨gb227, 4, none⟩ = some (.int .i64 0) := (blk_cell BK227.out 4).trans rfl; have hcz49_5 : w45.cell? ⟨gb227, 5, none⟩ = some (.bool false) := (blk_cell BK227.out 5).trans rfl; have hfz49_0 := blk_frozen BK227.out 0; have hfz49_1 := blk_frozen BK227.out 1; have hfz49_2 := blk_frozen BK227.out 2; have hfz49_3 := blk_frozen BK227.out 3; have hfz49_4 := blk_frozen BK227.out 4; have hfz49_5 := blk_frozen BK227.out 5) | ((with_reducible refine gate_callee (f := 11) rfl ?_); refine goesL_ (some 32) rfl rfl Try.func11 (by kernel_rfl) rfl #[.slice A1 l1.length c1] rfl (by (try simp only [List.map_toArray, List.map_cons, List.map_nil]); first | done | rfl | (simp only [List.length_drop, List.length_take]; rfl)) ?_; (with_reducible refine (laws_toStringS.calls k _ _ l1 t228 _ ?side1 ?side2 A17.out).mono ?_); (case side1 => exact Kd.C_below HR1.out (by repeat (first | (with_reducible first | exact HB.out | apply below_alloc | apply pw_below_drewN | apply below_drew1 | refine below_set ?_ GE196.out | refine below_set ?_ GE218.out | refine below_set ?_ GE227.out) | exact HB.out))); (case side2 => exact HC1.out); rintro e w50 ⟨v229, rfl, ho0, hb⟩; refine ⟨_, rfl, ?_⟩; have n0_ := Aside0.mk (Kd.R_below (by (with_reducible repeat (first | apply Kd.R_alloc | apply Kd.R_drewN | apply Kd.R_drew)); exact (Kd.R_mono (Kd.R_far (p := ⟨gb227, 5, none⟩) (Kd.R_far (p := ⟨gb227, 4, none⟩) (Kd.R_far (p := ⟨gb227, 3, none⟩) (Kd.R_far (p := ⟨gb227, 2, none⟩) (Kd.R_far (p := ⟨gb227, 1, none⟩) (Kd.R_far (p := ⟨gb227, 0, none⟩) (Kd.R_types HO201.out BK227.out (by decide)) (fun _ hk => hk.2) (.slice Ao46 t219.length co46)) (fun _ hk => hk.2) (.int .i64 t222)) (fun _ hk => hk.2) (.int .i64 t223)) (fun _ hk => hk.2) (.int .i64 t224)) (fun _ hk => hk.2) (.int .i64 t225)) (fun _ hk => hk.2) (.bool t226)) (fun _ h_ => h_.1))) hb); have n1_ := Aside0.mk (Kd.R_elder' (by (with_reducible repeat (first | apply Kd.R_alloc | apply Kd.R_drewN | apply Kd.R_drew)); exact (Kd.R_mono (Kd.R_far (p := ⟨gb227, 5, none⟩) (Kd.R_far (p := ⟨gb227, 4, none⟩) (Kd.R_far (p := ⟨gb227, 3, none⟩) (Kd.R_far (p := ⟨gb227, 2, none⟩) (Kd.R_far (p := ⟨gb227, 1, none⟩) (Kd.R_far (p := ⟨gb227, 0, none⟩) (Kd.R_types HO209.out BK227.out (by decide)) (fun _ hk => hk.2) (.slice Ao46 t219.length co46)) (fun _ hk => hk.2) (.int .i64 t222)) (fun _ hk => hk.2) (.int .i64 t223)) (fun _ hk => hk.2) (.int .i64 t224)) (fun _ hk => hk.2) (.int .i64 t225)) (fun _ hk => hk.2) (.bool t226)) (fun _ h_ => h_.1))) (Kd.R_base ho0) hb); have n2_ := Aside0.mk (Kd.R_below (by (with_reducible repeat (first | apply Kd.R_alloc | apply Kd.R_drewN | apply Kd.R_drew)); exact (Kd.R_mono (Kd.R_far (p := ⟨gb227, 5, none⟩) (Kd.R_far (p := ⟨gb227, 4, none⟩) (Kd.R_far (p := ⟨gb227, 3, none⟩) (Kd.R_far (p := ⟨gb227, 2, none⟩) (Kd.R_far (p := ⟨gb227, 1, none⟩) (Kd.R_far (p := ⟨gb227, 0, none⟩) (Kd.R_types HO212.out BK227.out (by decide)) (fun _ hk => hk.2) (.slice Ao46 t219.length co46)) (fun _ hk => hk.2) (.int .i64 t222)) (fun _ hk => hk.2) (.int .i64 t223)) (fun _ hk => hk.2) (.int .i64 t224)) (fun _ hk => hk.2) (.int .i64 t225)) (fun _ hk => hk.2) (.bool t226)) (fun _ h_ => h_.1))) hb); have n3_ := Aside0.mk (Kd.R_below (by (with_reducible repeat (first | apply Kd.R_alloc | apply Kd.R_drewN | apply Kd.R_drew)); exact (Kd.R_mono (Kd.R_far (p := ⟨gb227, 5, none⟩) (Kd.R_far (p := ⟨gb227, 4, none⟩) (Kd.R_far (p := ⟨gb227, 3, none⟩) (Kd.R_far (p := ⟨gb227, 2, none⟩) (Kd.R_far (p := ⟨gb227, 1, none⟩) (Kd.R_far (p := ⟨gb227, 0, none⟩) (Kd.R_types HO221.out BK227.out (by decide)) (fun _ hk => hk.2) (.slice Ao46 t219.length co46)) (fun _ hk => hk.2) (.int .i64 t222)) (fun _ hk => hk.2) (.int .i64 t223)) (fun _ hk => hk.2) (.int .i64 t224)) (fun _ hk => hk.2) (.int .i64 t225)) (fun _ hk => hk.2) (.bool t226)) (fun _ h_ => h_.1))) hb); have n4_ := Aside0.mk (Kd.R_lower (Kd.R_new' ho0 (Kd.R_lt (by (with_reducible repeat (first | apply Kd.R_alloc | apply Kd.R_drewN | apply Kd.R_drew)); exact (Kd.R_mono (Kd.R_far (p := ⟨gb227, 5, none⟩) (Kd.R_far (p := ⟨gb227, 4, none⟩) (Kd.R_far (p := ⟨gb227, 3, none⟩) (Kd.R_far (p := ⟨gb227, 2, none⟩) (Kd.R_far (p := ⟨gb227, 1, none⟩) (Kd.R_far (p := ⟨gb227, 0, none⟩) (Kd.R_types HO209.out BK227.out (by decide)) (fun _ hk => hk.2) (.slice Ao46 t219.length co46)) (fun _ hk => hk.2) (.int .i64 t222)) (fun _ hk => hk.2) (.int .i64 t223)) (fun _ hk => hk.2) (.int .i64 t224)) (fun _ hk => hk.2) (.int .i64 t225)) (fun _ hk => hk.2) (.bool t226)) (fun _ h_ => h_.1))))) (below_size (by repeat (first | (with_reducible first | exact HB.out | apply below_alloc | apply pw_below_drewN | apply below_drew1 | refine below_set ?_ GE196.out | refine below_set ?_ GE218.out | refine below_set ?_ GE227.out) | exact HB.out)))); have n5_ := Aside0.mk (blk_below (g := gb196) (o := .cells #[.slice A0_0 l0_0.length c0_0, .int .i64 a0_1, .int .i64 a0_2, .int .i64 a0_3, .int .i64 a0_4, .bool a0_5] 24 (0, 0)) (by (with_reducible repeat (first | refine blk_drewN ?_ _ | refine blk_drew ?_ | refine blk_alloc ?_ _)); refine blk_far ?_ NB196_227.out _; (with_reducible repeat (first | refine blk_drewN ?_ _ | refine blk_drew ?_ | refine blk_alloc ?_ _)); refine blk_far ?_ NB196_227.out _; (with_reducible repeat (first | refine blk_drewN ?_ _ | refine blk_drew ?_ | refine blk_alloc ?_ _)); refine blk_far ?_ NB196_227.out _; (with_reducible repeat (first | refine blk_drewN ?_ _ | refine blk_drew ?_ | refine blk_alloc ?_ _)); refine blk_far ?_ NB196_227.out _; (with_reducible repeat (first | refine blk_drewN ?_ _ | refine blk_drew ?_ | refine blk_alloc ?_ _)); refine blk_far ?_ NB196_227.out _; (with_reducible repeat (first | refine blk_drewN ?_ _ | refine blk_drew ?_ | refine blk_alloc ?_ _)); refine blk_far ?_ NB196_227.out _; (with_reducible repeat (first | refine blk_drewN ?_ _ | refine blk_drew ?_ | refine blk_alloc ?_ _)); exact BK196.out) hb); have n6_ := Aside0.mk (blk_below (g := gb218) (o := .cells #[.slice Ao40 t210.length co40, .int .i64 t213, .int .i64 t214, .int .i64 t215, .int .i64 t216, .bool t217] 30 (0, 0)) (by (with_reducible repeat (first | refine blk_drewN ?_ _ | refine blk_drew ?_ | refine blk_alloc ?_ _)); refine blk_far ?_ NB218_227.out _; (with_reducible repeat (first | refine blk_drewN ?_ _ | refine blk_drew ?_ | refine blk_alloc ?_ _)); refine blk_far ?_ NB218_227.out _; (with_reducible repeat (first | refine blk_drewN ?_ _ | refine blk_drew ?_ | refine blk_alloc ?_ _)); refine blk_far ?_ NB218_227.out _; (with_reducible repeat (first | refine blk_drewN ?_ _ | refine blk_drew ?_ | refine blk_alloc ?_ _)); refine blk_far ?_ NB218_227.out _; (with_reducible repeat (first | refine blk_drewN ?_ _ | refine blk_drew ?_ | refine blk_alloc ?_ _)); refine blk_far ?_ NB218_227.out _; (with_reducible repeat (first | refine blk_drewN ?_ _ | refine blk_drew ?_ | refine blk_alloc ?_ _)); refine blk_far ?_ NB218_227.out _; (with_reducible repeat (first | refine blk_drewN ?_ _ | refine blk_drew ?_ | refine blk_alloc ?_ _)); exact BK218.out) hb); have n7_ := Aside0.mk (blk_below (g := gb227) (o := .cells #[.slice Ao46 t219.length co46, .int .i64 t222, .int .i64 t223, .int .i64 t224, .int .i64 t225, .bool t226] 30 (0, 0)) (by (with_reducible repeat (first | refine blk_drewN ?_ _ | refine blk_drew ?_ | refine blk_alloc ?_ _)); refine blk_put (cs := #[.slice Ao46 t219.length co46, .int .i64 t222, .int .i64 t223, .int .i64 t224, .int .i64 t225, .bool false]) ?_ 5 _ rfl; (with_reducible repeat (first | refine blk_drewN ?_ _ | refine blk_drew ?_ | refine blk_alloc ?_ _)); refine blk_put (cs := #[.slice Ao46 t219.length co46, .int .i64 t222, .int .i64 t223, .int .i64 t224, .int .i64 0, .bool false]) ?_ 4 _ rfl; (with_reducible repeat (first | refine blk_drewN ?_ _ | refine blk_drew ?_ | refine blk_alloc ?_ _)); refine blk_put (cs := #[.slice Ao46 t219.length co46, .int .i64 t222, .int .i64 t223, .int .i64 0, .int .i64 0, .bool false]) ?_ 3 _ rfl; (with_reducible repeat (first | refine blk_drewN ?_ _ | refine blk_drew ?_ | refine blk_alloc ?_ _)); refine blk_put (cs := #[.slice Ao46 t219.length co46, .int .i64 t222, .int .i64 0, .int .i64 0, .int .i64 0, .bool false]) ?_ 2 _ rfl; (with_reducible repeat (first | refine blk_drewN ?_ _ | refine blk_drew ?_ | refine blk_alloc ?_ _)); refine blk_put (cs := #[.slice Ao46 t219.length co46, .int .i64 0, .int .i64 0, .int .i64 0, .int .i64 0, .bool false]) ?_ 1 _ rfl; (with_reducible repeat (first | refine blk_drewN ?_ _ | refine blk_drew ?_ | refine blk_alloc ?_ _)); refine blk_put (cs := #[.slice none 0 0, .int .i64 0, .int .i64 0, .int .i64 0, .int .i64 0, .bool false]) ?_ 0 _ rfl; (with_reducible repeat (first | refine blk_drewN ?_ _ | refine blk_drew ?_ | refine blk_alloc ?_ _)); exact BK227.out) hb); have n8_ := Aside0.mk (below_step (by repeat (first | (with_reducible first | exact HB.out | apply below_alloc | apply pw_below_drewN | apply below_drew1 | refine below_set ?_ GE196.out | refine below_set ?_ GE218.out | refine below_set ?_ GE227.out) | exact HB.out)) hb); clear HO201; clear HO209; clear HO212; clear HO221; clear BK196; clear BK218; clear BK227; clear HB; have HO201 := n0_; have HO209 := n1_; have HO212 := n2_; have HO221 := n3_; have HO230 := n4_; have BK196 := n5_; have BK218 := n6_; have BK227 := n7_; have HB := n8_; clear n0_ n1_ n2_ n3_ n4_ n5_ n6_ n7_ n8_; (try clear hb); (try clear hb2); (try clear hk); (try clear hi); (try clear ho0); have hcz51_0 : w50.cell? ⟨gb227, 0, none⟩ = some (.slice Ao46 t219.length co46) := (blk_cell BK227.out 0).trans rfl; have hcz51_1 : w50.cell? ⟨gb227, 1, none⟩ = some (.int .i64 t222) := (blk_cell BK227.out 1).trans rfl; have hcz51_2 : w50.cell? ⟨gb227, 2, none⟩ = some (.int .i64 t223) := (blk_cell BK227.out 2).trans rfl; have hcz51_3 : w50.cell? ⟨gb227, 3, none⟩ = some (.int .i64 t224) := (blk_cell BK227.out 3).trans rfl; have hcz51_4 : w50.cell? ⟨gb227, 4, none⟩ = some (.int .i64 t225) := (blk_cell BK227.out 4).trans rfl; have hcz51_5 : w50.cell? ⟨gb227, 5, none⟩ = some (.bool t226) := (blk_cell BK227.out 5).trans rfl; have hfz51_0 := blk_frozen BK227.out 0; have hfz51_1 := blk_frozen BK227.out 1; have hfz51_2 := blk_frozen BK227.out 2; have hfz51_3 := blk_frozen BK227.out 3; have hfz51_4 := blk_frozen BK227.out 4; have hfz51_5 := blk_frozen BK227.out 5; obtain ⟨Ao52, co52, eo52⟩ := Kd.R_slice HO230.out; subst eo52) | ((with_reducible refine gate_callee (f := 12) rfl ?_); refine goesL_ (some 35) rfl rfl Try.func12 (by kernel_rfl) rfl #[.agg #[.slice Ao46 t219.length co46, .int .i64 t222, .int .i64 t223, .int .i64 t224, .int .i64 t225, .bool t226], .slice Ao52 t228.length co52] rfl (by (try simp only [List.map_toArray, List.map_cons, List.map_nil]); first | done | rfl | (simp only [List.length_drop, List.length_take]; rfl)) ?_; (with_reducible refine (impl_FsCrash.calls k _ _ t219 t222 t223 t224 t225 t226 _ _ t228 t231 t234 t235 t236 t237 t238 _ ?side1 ?side2 ?side3 ?side4 A18.out).mono ?_); (case side1 => repeat (first | exact (Kd.R_reads' HO221.out).2.2 | (with_reducible refine Kd.C_alloc ?_ _) | (with_reducible refine Kd.C_drewN ?_ _) | (with_reducible refine Kd.C_drew ?_))); (case side2 => exact (Kd.R_reads' HO221.out).2.1); (case side3 => repeat (first | exact (Kd.R_reads' HO230.out).2.2 | (with_reducible refine Kd.C_alloc ?_ _) | (with_reducible refine Kd.C_drewN ?_ _) | (with_reducible refine Kd.C_drew ?_))); (case side4 => exact (Kd.R_reads' HO230.out).2.1); rintro e w53 ⟨v232, rfl, ho0, hb⟩; refine ⟨_, rfl, ?_⟩; have n0_ := Aside0.mk (Kd.R_elder' (by (with_reducible repeat (first | apply Kd.R_alloc | apply Kd.R_drewN | apply Kd.R_drew)); exact HO201.out) (Kd.R_base ho0) hb); have n1_ := Aside0.mk (Kd.R_below (by (with_reducible repeat (first | apply Kd.R_alloc | apply Kd.R_drewN | apply Kd.R_drew)); exact HO209.out) hb); have n2_ := Aside0.mk (Kd.R_elder' (by (with_reducible repeat (first | apply Kd.R_alloc | apply Kd.R_drewN | apply Kd.R_drew)); exact HO212.out) (Kd.R_base ho0) hb); have n3_ := Aside0.mk (Kd.R_elder' (by (with_reducible repeat (first | apply Kd.R_alloc | apply Kd.R_drewN | apply Kd.R_drew)); exact HO221.out) (Kd.R_base ho0) hb); have n4_ := Aside0.mk (Kd.R_below (by (with_reducible repeat (first | apply Kd.R_alloc | apply Kd.R_drewN | apply Kd.R_drew)); exact HO230.out) hb); have n5_ := Aside0.mk (Kd.R_lower (Kd.R_new' (Kd.R_new' (Kd.R_new' ho0 (Kd.R_lt (by (with_reducible repeat (first | apply Kd.R_alloc | apply Kd.R_drewN | apply Kd.R_drew)); exact HO201.out))) (Kd.R_lt (by (with_reducible repeat (first | apply Kd.R_alloc | apply Kd.R_drewN | apply Kd.R_drew)); exact HO212.out))) (Kd.R_lt (by (with_reducible repeat (first | apply Kd.R_alloc | apply Kd.R_drewN | apply Kd.R_drew)); exact HO221.out))) (below_size (by repeat (first | (with_reducible first | exact HB.out | apply below_alloc | apply pw_below_drewN | apply below_drew1 | refine below_set ?_ GE196.out | refine below_set ?_ GE218.out | refine below_set ?_ GE227.out) | exact HB.out)))); have n6_ := Aside0.mk (blk_below (g := gb196) (o := .cells #[.slice A0_0 l0_0.length c0_0, .int .i64 a0_1, .int .i64 a0_2, .int .i64 a0_3, .int .i64 a0_4, .bool a0_5] 24 (0, 0)) (by (with_reducible repeat (first | refine blk_drewN ?_ _ | refine blk_drew ?_ | refine blk_alloc ?_ _)); exact BK196.out) hb); have n7_ := Aside0.mk (blk_below (g := gb218) (o := .cells #[.slice Ao40 t210.length co40, .int .i64 t213, .int .i64 t214, .int .i64 t215, .int .i64 t216, .bool t217] 30 (0, 0)) (by (with_reducible repeat (first | refine blk_drewN ?_ _ | refine blk_drew ?_ | refine blk_alloc ?_ _)); exact BK218.out) hb); have n8_ := Aside0.mk (blk_below (g := gb227) (o := .cells #[.slice Ao46 t219.length co46, .int .i64 t222, .int .i64 t223, .int .i64 t224, .int .i64 t225, .bool t226] 30 (0, 0)) (by (with_reducible repeat (first | refine blk_drewN ?_ _ | refine blk_drew ?_ | refine blk_alloc ?_ _)); exact BK227.out) hb); have n9_ := Aside0.mk (below_step (by repeat (first | (with_reducible first | exact HB.out | apply below_alloc | apply pw_below_drewN | apply below_drew1 | refine below_set ?_ GE196.out | refine below_set ?_ GE218.out | refine below_set ?_ GE227.out) | exact HB.out)) hb); clear HO201; clear HO209; clear HO212; clear HO221; clear HO230; clear BK196; clear BK218; clear BK227; clear HB; have HO201 := n0_; have HO209 := n1_; have HO212 := n2_; have HO221 := n3_; have HO230 := n4_; have HO233 := n5_; have BK196 := n6_; have BK218 := n7_; have BK227 := n8_; have HB := n9_; clear n0_ n1_ n2_ n3_ n4_ n5_ n6_ n7_ n8_ n9_; (try clear hb); (try clear hb2); (try clear hk); (try clear hi); (try clear ho0)) | ((with_reducible refine gate_dst (N := 9) rfl ?_); refine box_event ?hg (N := 9) ?hd (cs := #[.slice none 0 0, .int .i64 0, .int .i64 0, .int .i64 0, .int .i64 0, .bool false]) (t := 30) ?hr ?_; (case hd => rfl); (case hg => rfl); (case hr => first | (go_simp; done) | (go_simp; rfl)); intro gb239 hg w54 hbox hb; have n0_ := Aside0.mk (Kd.R_below (by (with_reducible repeat (first | apply Kd.R_alloc | apply Kd.R_drewN | apply Kd.R_drew)); exact HO201.out) hb); have n1_ := Aside0.mk (Kd.R_below (by (with_reducible repeat (first | apply Kd.R_alloc | apply Kd.R_drewN | apply Kd.R_drew)); exact HO209.out) hb); have n2_ := Aside0.mk (Kd.R_below (by (with_reducible repeat (first | apply Kd.R_alloc | apply Kd.R_drewN | apply Kd.R_drew)); exact HO212.out) hb); have n3_ := Aside0.mk (Kd.R_below (by (with_reducible repeat (first | apply Kd.R_alloc | apply Kd.R_drewN | apply Kd.R_drew)); exact HO221.out) hb); have n4_ := Aside0.mk (Kd.R_below (by (with_reducible repeat (first | apply Kd.R_alloc | apply Kd.R_drewN | apply Kd.R_drew)); exact HO230.out) hb); have n5_ := Aside0.mk (Kd.R_below (by (with_reducible repeat (first | apply Kd.R_alloc | apply Kd.R_drewN | apply Kd.R_drew)); exact HO233.out) hb); have n6_ := Aside0.mk (blk_below (g := gb196) (o := .cells #[.slice A0_0 l0_0.length c0_0, .int .i64 a0_1, .int .i64 a0_2, .int .i64 a0_3, .int .i64 a0_4, .bool a0_5] 24 (0, 0)) (by (with_reducible repeat (first | refine blk_drewN ?_ _ | refine blk_drew ?_ | refine blk_alloc ?_ _)); exact BK196.out) hb); have n7_ := Aside0.mk (blk_below (g := gb218) (o := .cells #[.slice Ao40 t210.length co40, .int .i64 t213, .int .i64 t214, .int .i64 t215, .int .i64 t216, .bool t217] 30 (0, 0)) (by (with_reducible repeat (first | refine blk_drewN ?_ _ | refine blk_drew ?_ | refine blk_alloc ?_ _)); exact BK218.out) hb); have n8_ := Aside0.mk (blk_below (g := gb227) (o := .cells #[.slice Ao46 t219.length co46, .int .i64 t222, .int .i64 t223, .int .i64 t224, .int .i64 t225, .bool t226] 30 (0, 0)) (by (with_reducible repeat (first | refine blk_drewN ?_ _ | refine blk_drew ?_ | refine blk_alloc ?_ _)); exact BK227.out) hb); have n9_ := Aside0.mk (below_step (by repeat (first | (with_reducible first | exact HB.out | apply below_alloc | apply pw_below_drewN | apply below_drew1 | refine below_set ?_ GE196.out | refine below_set ?_ GE218.out | refine below_set ?_ GE227.out) | exact HB.out)) hb); have n10_ := Aside0.mk (hbox); have n11_ := Aside0.mk ((by rw [hg]; exact (below_size (by repeat (first | (with_reducible first | exact HB.out | apply below_alloc | apply pw_below_drewN | apply below_drew1 | refine below_set ?_ GE196.out | refine below_set ?_ GE218.out | refine below_set ?_ GE227.out) | exact HB.out))) : w.heap.size ≤ gb239)); have n12_ := Aside0.mk ((by rw [hg]; exact (below_size (by repeat (first | (with_reducible first | exact HB.out | apply below_alloc | apply pw_below_drewN | apply below_drew1 | refine below_set ?_ GE196.out | refine below_set ?_ GE218.out | refine below_set ?_ GE227.out) | exact HB.out))) : w.heap.size ≤ gb239)); have n13_ := Aside0.mk ((by rw [hg]; exact Nat.ne_of_lt (blk_lt (g := gb196) (o := .cells #[.slice A0_0 l0_0.length c0_0, .int .i64 a0_1, .int .i64 a0_2, .int .i64 a0_3, .int .i64 a0_4, .bool a0_5] 24 (0, 0)) (by (with_reducible repeat (first | refine blk_drewN ?_ _ | refine blk_drew ?_ | refine blk_alloc ?_ _)); exact BK196.out)) : gb196 ≠ gb239)); have n14_ := Aside0.mk ((by rw [hg]; exact Nat.ne_of_gt (blk_lt (g := gb196) (o := .cells #[.slice A0_0 l0_0.length c0_0, .int .i64 a0_1, .int .i64 a0_2, .int .i64 a0_3, .int .i64 a0_4, .bool a0_5] 24 (0, 0)) (by (with_reducible repeat (first | refine blk_drewN ?_ _ | refine blk_drew ?_ | refine blk_alloc ?_ _)); exact BK196.out)) : gb239 ≠ gb196)); have n15_ := Aside0.mk ((by rw [hg]; exact Nat.ne_of_lt (blk_lt (g := gb218) (o := .cells #[.slice Ao40 t210.length co40, .int .i64 t213, .int .i64 t214, .int .i64 t215, .int .i64 t216, .bool t217] 30 (0, 0)) (by (with_reducible repeat (first | refine blk_drewN ?_ _ | refine blk_drew ?_ | refine blk_alloc ?_ _)); exact BK218.out)) : gb218 ≠ gb239)); have n16_ := Aside0.mk ((by rw [hg]; exact Nat.ne_of_gt (blk_lt (g := gb218) (o := .cells #[.slice Ao40 t210.length co40, .int .i64 t213, .int .i64 t214, .int .i64 t215, .int .i64 t216, .bool t217] 30 (0, 0)) (by (with_reducible repeat (first | refine blk_drewN ?_ _ | refine blk_drew ?_ | refine blk_alloc ?_ _)); exact BK218.out)) : gb239 ≠ gb218)); have n17_ := Aside0.mk ((by rw [hg]; exact Nat.ne_of_lt (blk_lt (g := gb227) (o := .cells #[.slice Ao46 t219.length co46, .int .i64 t222, .int .i64 t223, .int .i64 t224, .int .i64 t225, .bool t226] 30 (0, 0)) (by (with_reducible repeat (first | refine blk_drewN ?_ _ | refine blk_drew ?_ | refine blk_alloc ?_ _)); exact BK227.out)) : gb227 ≠ gb239)); have n18_ := Aside0.mk ((by rw [hg]; exact Nat.ne_of_gt (blk_lt (g := gb227) (o := .cells #[.slice Ao46 t219.length co46, .int .i64 t222, .int .i64 t223, .int .i64 t224, .int .i64 t225, .bool t226] 30 (0, 0)) (by (with_reducible repeat (first | refine blk_drewN ?_ _ | refine blk_drew ?_ | refine blk_alloc ?_ _)); exact BK227.out)) : gb239 ≠ gb227)); clear HO201; clear HO209; clear HO212; clear HO221; clear HO230; clear HO233; clear BK196; clear BK218; clear BK227; clear HB; have HO201 := n0_; have HO209 := n1_; have HO212 := n2_; have HO221 := n3_; have HO230 := n4_; have HO233 := n5_; have BK196 := n6_; have BK218 := n7_; have BK227 := n8_; have HB := n9_; have BK239 := n10_; have GW239 := n11_; have GE239 := n12_; have NB196_239 := n13_; have NB239_196 := n14_; have NB218_239 := n15_; have NB239_218 := n16_; have NB227_239 := n17_; have NB239_227 := n18_; clear n0_ n1_ n2_ n3_ n4_ n5_ n6_ n7_ n8_ n9_ n10_ n11_ n12_ n13_ n14_ n15_ n16_ n17_ n18_; clear hb hbox hg; obtain ⟨Ao55, co55, eo55⟩ := Kd.R_slice HO233.out; subst eo55; have hnb56 := NB239_196.out; have hnc56 := NB196_239.out; have hnb57 := NB239_218.out; have hnc57 := NB218_239.out; have hnb58 := NB239_227.out; have hnc58 := NB227_239.out; have hcz59_0 : w54.cell? ⟨gb239, 0, none⟩ = some (.slice none 0 0) := (blk_cell BK239.out 0).trans rfl; have hcz59_1 : w54.cell? ⟨gb239, 1, none⟩ = some (.int .i64 0) := (blk_cell BK239.out 1).trans rfl; have hcz59_2 : w54.cell? ⟨gb239, 2, none⟩ = some (.int .i64 0) := (blk_cell BK239.out 2).trans rfl; have hcz59_3 : w54.cell? ⟨gb239, 3, none⟩ = some (.int .i64 0) := (blk_cell BK239.out 3).trans rfl; have hcz59_4 : w54.cell? ⟨gb239, 4, none⟩ = some (.int .i64 0) := (blk_cell BK239.out 4).trans rfl; have hcz59_5 : w54.cell? ⟨gb239, 5, none⟩ = some (.bool false) := (blk_cell BK239.out 5).trans rfl; have hfz59_0 := blk_frozen BK239.out 0; have hfz59_1 := blk_frozen BK239.out 1; have hfz59_2 := blk_frozen BK239.out 2; have hfz59_3 := blk_frozen BK239.out 3; have hfz59_4 := blk_frozen BK239.out 4; have hfz59_5 := blk_frozen BK239.out 5; have hcz60_0 : w54.cell? ⟨gb218, 0, none⟩ = some (.slice Ao40 t210.length co40) := (blk_cell BK218.out 0).trans rfl; have hcz60_1 : w54.cell? ⟨gb218, 1, none⟩ = some (.int .i64 t213) := (blk_cell BK218.out 1).trans rfl; have hcz60_2 : w54.cell? ⟨gb218, 2, none⟩ = some (.int .i64 t214) := (blk_cell BK218.out 2).trans rfl; have hcz60_3 : w54.cell? ⟨gb218, 3, none⟩ = some (.int .i64 t215) := (blk_cell BK218.out 3).trans rfl; have hcz60_4 : w54.cell? ⟨gb218, 4, none⟩ = some (.int .i64 t216) := (blk_cell BK218.out 4).trans rfl; have hcz60_5 : w54.cell? ⟨gb218, 5, none⟩ = some (.bool t217) := (blk_cell BK218.out 5).trans rfl; have hfz60_0 := blk_frozen BK218.out 0; have hfz60_1 := blk_frozen BK218.out 1; have hfz60_2 := blk_frozen BK218.out 2; have hfz60_3 := blk_frozen BK218.out 3; have hfz60_4 := blk_frozen BK218.out 4; have hfz60_5 := blk_frozen BK218.out 5) | ((with_reducible refine gate_callee (f := 13) rfl ?_); refine goesL_ (some 38) rfl rfl Try.func13 (by kernel_rfl) rfl #[.agg #[.slice Ao55 t231.length co55, .int .i64 t234, .int .i64 t235, .int .i64 t236, .int .i64 t237, .bool t238], .agg #[.slice Ao40 t210.length co40, .int .i64 t213, .int .i64 t214, .int .i64 t215, .int .i64 t216, .bool t217]] rfl (by (try simp only [List.map_toArray, List.map_cons, List.map_nil]); first | done | rfl | (simp only [List.length_drop, List.length_take]; rfl)) ?_; (with_reducible refine (laws_eqFs.calls k _ _ t231 t234 t235 t236 t237 t238 _ _ t210 t213 t214 t215 t216 t217 true _ ?side1 ?side2 ?side3 ?side4 A19.out).mono ?_); (case side1 => refine (Kd.R_reads' (e := 58) (base := w.heap.size) (ok := fun k_ => (((True ∧ some k_ ≠ (.slice Ao36 t199.length co36 : Value).ownBlock) ∧ some k_ ≠ (.slice Ao40 t210.length co40 : Value).ownBlock) ∧ some k_ ≠ (.slice Ao46 t219.length co46 : Value).ownBlock)) (n := t231.length) (c := co55) ?_).2.2; exact (by (with_reducible repeat (first | apply Kd.R_alloc | apply Kd.R_drewN | apply Kd.R_drew)); exact (Kd.R_mono (Kd.R_far (p := ⟨gb239, 5, none⟩) (Kd.R_far (p := ⟨gb239, 4, none⟩) (Kd.R_far (p := ⟨gb239, 3, none⟩) (Kd.R_far (p := ⟨gb239, 2, none⟩) (Kd.R_far (p := ⟨gb239, 1, none⟩) (Kd.R_far (p := ⟨gb239, 0, none⟩) (Kd.R_types HO233.out BK239.out (by decide)) (fun _ hk => hk.2) (.slice Ao55 t231.length co55)) (fun _ hk => hk.2) (.int .i64 t234)) (fun _ hk => hk.2) (.int .i64 t235)) (fun _ hk => hk.2) (.int .i64 t236)) (fun _ hk => hk.2) (.int .i64 t237)) (fun _ hk => hk.2) (.bool t238)) (fun _ h_ => h_.1)))); (case side2 => exact (Kd.R_reads' HO233.out).2.1); (case side3 => refine (Kd.R_reads' (e := 58) (base := w.heap.size) (ok := fun k_ => (((True ∧ some k_ ≠ (.slice Ao36 t199.length co36 : Value).ownBlock) ∧ some k_ ≠ (.slice Ao46 t219.length co46 : Value).ownBlock) ∧ some k_ ≠ (.slice Ao55 t231.length co55 : Value).ownBlock)) (n := t210.length) (c := co40) ?_).2.2; exact (by (with_reducible repeat (first | apply Kd.R_alloc | apply Kd.R_drewN | apply Kd.R_drew)); exact (Kd.R_mono (Kd.R_far (p := ⟨gb239, 5, none⟩) (Kd.R_far (p := ⟨gb239, 4, none⟩) (Kd.R_far (p := ⟨gb239, 3, none⟩) (Kd.R_far (p := ⟨gb239, 2, none⟩) (Kd.R_far (p := ⟨gb239, 1, none⟩) (Kd.R_far (p := ⟨gb239, 0, none⟩) (Kd.R_types HO212.out BK239.out (by decide)) (fun _ hk => hk.2) (.slice Ao55 t231.length co55)) (fun _ hk => hk.2) (.int .i64 t234)) (fun _ hk => hk.2) (.int .i64 t235)) (fun _ hk => hk.2) (.int .i64 t236)) (fun _ hk => hk.2) (.int .i64 t237)) (fun _ hk => hk.2) (.bool t238)) (fun _ h_ => h_.1)))); (case side4 => exact (Kd.R_reads' HO212.out).2.1); rintro e w61 ⟨rfl, hb⟩; refine ⟨_, rfl, ?_⟩; have n0_ := Aside0.mk (Kd.R_below (by (with_reducible repeat (first | apply Kd.R_alloc | apply Kd.R_drewN | apply Kd.R_drew)); exact (Kd.R_mono (Kd.R_far (p := ⟨gb239, 5, none⟩) (Kd.R_far (p := ⟨gb239, 4, none⟩) (Kd.R_far (p := ⟨gb239, 3, none⟩) (Kd.R_far (p := ⟨gb239, 2, none⟩) (Kd.R_far (p := ⟨gb239, 1, none⟩) (Kd.R_far (p := ⟨gb239, 0, none⟩) (Kd.R_types HO201.out BK239.out (by decide)) (fun _ hk => hk.2) (.slice Ao55 t231.length co55)) (fun _ hk => hk.2) (.int .i64 t234)) (fun _ hk => hk.2) (.int .i64 t235)) (fun _ hk => hk.2) (.int .i64 t236)) (fun _ hk => hk.2) (.int .i64 t237)) (fun _ hk => hk.2) (.bool t238)) (fun _ h_ => h_.1))) hb); have n1_ := Aside0.mk (Kd.R_below (by (with_reducible repeat (first | apply Kd.R_alloc | apply Kd.R_drewN | apply Kd.R_drew)); exact (Kd.R_mono (Kd.R_far (p := ⟨gb239, 5, none⟩) (Kd.R_far (p := ⟨gb239, 4, none⟩) (Kd.R_far (p := ⟨gb239, 3, none⟩) (Kd.R_far (p := ⟨gb239, 2, none⟩) (Kd.R_far (p := ⟨gb239, 1, none⟩) (Kd.R_far (p := ⟨gb239, 0, none⟩) (Kd.R_types HO209.out BK239.out (by decide)) (fun _ hk => hk.2) (.slice Ao55 t231.length co55)) (fun _ hk => hk.2) (.int .i64 t234)) (fun _ hk => hk.2) (.int .i64 t235)) (fun _ hk => hk.2) (.int .i64 t236)) (fun _ hk => hk.2) (.int .i64 t237)) (fun _ hk => hk.2) (.bool t238)) (fun _ h_ => h_.1))) hb); have n2_ := Aside0.mk (Kd.R_below (by (with_reducible repeat (first | apply Kd.R_alloc | apply Kd.R_drewN | apply Kd.R_drew)); exact (Kd.R_mono (Kd.R_far (p := ⟨gb239, 5, none⟩) (Kd.R_far (p := ⟨gb239, 4, none⟩) (Kd.R_far (p := ⟨gb239, 3, none⟩) (Kd.R_far (p := ⟨gb239, 2, none⟩) (Kd.R_far (p := ⟨gb239, 1, none⟩) (Kd.R_far (p := ⟨gb239, 0, none⟩) (Kd.R_types HO212.out BK239.out (by decide)) (fun _ hk => hk.2) (.slice Ao55 t231.length co55)) (fun _ hk => hk.2) (.int .i64 t234)) (fun _ hk => hk.2) (.int .i64 t235)) (fun _ hk => hk.2) (.int .i64 t236)) (fun _ hk => hk.2) (.int .i64 t237)) (fun _ hk => hk.2) (.bool t238)) (fun _ h_ => h_.1))) hb); have n3_ := Aside0.mk (Kd.R_below (by (with_reducible repeat (first | apply Kd.R_alloc | apply Kd.R_drewN | apply Kd.R_drew)); exact (Kd.R_mono (Kd.R_far (p := ⟨gb239, 5, none⟩) (Kd.R_far (p := ⟨gb239, 4, none⟩) (Kd.R_far (p := ⟨gb239, 3, none⟩) (Kd.R_far (p := ⟨gb239, 2, none⟩) (Kd.R_far (p := ⟨gb239, 1, none⟩) (Kd.R_far (p := ⟨gb239, 0, none⟩) (Kd.R_types HO221.out BK239.out (by decide)) (fun _ hk => hk.2) (.slice Ao55 t231.length co55)) (fun _ hk => hk.2) (.int .i64 t234)) (fun _ hk => hk.2) (.int .i64 t235)) (fun _ hk => hk.2) (.int .i64 t236)) (fun _ hk => hk.2) (.int .i64 t237)) (fun _ hk => hk.2) (.bool t238)) (fun _ h_ => h_.1))) hb); have n4_ := Aside0.mk (Kd.R_below (by (with_reducible repeat (first | apply Kd.R_alloc | apply Kd.R_drewN | apply Kd.R_drew)); exact (Kd.R_mono (Kd.R_far (p := ⟨gb239, 5, none⟩) (Kd.R_far (p := ⟨gb239, 4, none⟩) (Kd.R_far (p := ⟨gb239, 3, none⟩) (Kd.R_far (p := ⟨gb239, 2, none⟩) (Kd.R_far (p := ⟨gb239, 1, none⟩) (Kd.R_far (p := ⟨gb239, 0, none⟩) (Kd.R_types HO230.out BK239.out (by decide)) (fun _ hk => hk.2) (.slice Ao55 t231.length co55)) (fun _ hk => hk.2) (.int .i64 t234)) (fun _ hk => hk.2) (.int .i64 t235)) (fun _ hk => hk.2) (.int .i64 t236)) (fun _ hk => hk.2) (.int .i64 t237)) (fun _ hk => hk.2) (.bool t238)) (fun _ h_ => h_.1))) hb); have n5_ := Aside0.mk (Kd.R_below (by (with_reducible repeat (first | apply Kd.R_alloc | apply Kd.R_drewN | apply Kd.R_drew)); exact (Kd.R_mono (Kd.R_far (p := ⟨gb239, 5, none⟩) (Kd.R_far (p := ⟨gb239, 4, none⟩) (Kd.R_far (p := ⟨gb239, 3, none⟩) (Kd.R_far (p := ⟨gb239, 2, none⟩) (Kd.R_far (p := ⟨gb239, 1, none⟩) (Kd.R_far (p := ⟨gb239, 0, none⟩) (Kd.R_types HO233.out BK239.out (by decide)) (fun _ hk => hk.2) (.slice Ao55 t231.length co55)) (fun _ hk => hk.2) (.int .i64 t234)) (fun _ hk => hk.2) (.int .i64 t235)) (fun _ hk => hk.2) (.int .i64 t236)) (fun _ hk => hk.2) (.int .i64 t237)) (fun _ hk => hk.2) (.bool t238)) (fun _ h_ => h_.1))) hb); have n6_ := Aside0.mk (blk_below (g := gb196) (o := .cells #[.slice A0_0 l0_0.length c0_0, .int .i64 a0_1, .int .i64 a0_2, .int .i64 a0_3, .int .i64 a0_4, .bool a0_5] 24 (0, 0)) (by (with_reducible repeat (first | refine blk_drewN ?_ _ | refine blk_drew ?_ | refine blk_alloc ?_ _)); refine blk_far ?_ NB196_239.out _; (with_reducible repeat (first | refine blk_drewN ?_ _ | refine blk_drew ?_ | refine blk_alloc ?_ _)); refine blk_far ?_ NB196_239.out _; (with_reducible repeat (first | refine blk_drewN ?_ _ | refine blk_drew ?_ | refine blk_alloc ?_ _)); refine blk_far ?_ NB196_239.out _; (with_reducible repeat (first | refine blk_drewN ?_ _ | refine blk_drew ?_ | refine blk_alloc ?_ _)); refine blk_far ?_ NB196_239.out _; (with_reducible repeat (first | refine blk_drewN ?_ _ | refine blk_drew ?_ | refine blk_alloc ?_ _)); refine blk_far ?_ NB196_239.out _; (with_reducible repeat (first | refine blk_drewN ?_ _ | refine blk_drew ?_ | refine blk_alloc ?_ _)); refine blk_far ?_ NB196_239.out _; (with_reducible repeat (first | refine blk_drewN ?_ _ | refine blk_drew ?_ | refine blk_alloc ?_ _)); exact BK196.out) hb); have n7_ := Aside0.mk (blk_below (g := gb218) (o := .cells #[.slice Ao40 t210.length co40, .int .i64 t213, .int .i64 t214, .int .i64 t215, .int .i64 t216, .bool t217] 30 (0, 0)) (by (with_reducible repeat (first | refine blk_drewN ?_ _ | refine blk_drew ?_ | refine blk_alloc ?_ _)); refine blk_far ?_ NB218_239.out _; (with_reducible repeat (first | refine blk_drewN ?_ _ | refine blk_drew ?_ | refine blk_alloc ?_ _)); refine blk_far ?_ NB218_239.out _; (with_reducible repeat (first | refine blk_drewN ?_ _ | refine blk_drew ?_ | refine blk_alloc ?_ _)); refine blk_far ?_ NB218_239.out _; (with_reducible repeat (first | refine blk_drewN ?_ _ | refine blk_drew ?_ | refine blk_alloc ?_ _)); refine blk_far ?_ NB218_239.out _; (with_reducible repeat (first | refine blk_drewN ?_ _ | refine blk_drew ?_ | refine blk_alloc ?_ _)); refine blk_far ?_ NB218_239.out _; (with_reducible repeat (first | refine blk_drewN ?_ _ | refine blk_drew ?_ | refine blk_alloc ?_ _)); refine blk_far ?_ NB218_239.out _; (with_reducible repeat (first | refine blk_drewN ?_ _ | refine blk_drew ?_ | refine blk_alloc ?_ _)); exact BK218.out) hb); have n8_ := Aside0.mk (blk_below (g := gb227) (o := .cells #[.slice Ao46 t219.length co46, .int .i64 t222, .int .i64 t223, .int .i64 t224, .int .i64 t225, .bool t226] 30 (0, 0)) (by (with_reducible repeat (first | refine blk_drewN ?_ _ | refine blk_drew ?_ | refine blk_alloc ?_ _)); refine blk_far ?_ NB227_239.out _; (with_reducible repeat (first | refine blk_drewN ?_ _ | refine blk_drew ?_ | refine blk_alloc ?_ _)); refine blk_far ?_ NB227_239.out _; (with_reducible repeat (first | refine blk_drewN ?_ _ | refine blk_drew ?_ | refine blk_alloc ?_ _)); refine blk_far ?_ NB227_239.out _; (with_reducible repeat (first | refine blk_drewN ?_ _ | refine blk_drew ?_ | refine blk_alloc ?_ _)); refine blk_far ?_ NB227_239.out _; (with_reducible repeat (first | refine blk_drewN ?_ _ | refine blk_drew ?_ | refine blk_alloc ?_ _)); refine blk_far ?_ NB227_239.out _; (with_reducible repeat (first | refine blk_drewN ?_ _ | refine blk_drew ?_ | refine blk_alloc ?_ _)); refine blk_far ?_ NB227_239.out _; (with_reducible repeat (first | refine blk_drewN ?_ _ | refine blk_drew ?_ | refine blk_alloc ?_ _)); exact BK227.out) hb); have n9_ := Aside0.mk (blk_below (g := gb239) (o := .cells #[.slice Ao55 t231.length co55, .int .i64 t234, .int .i64 t235, .int .i64 t236, .int .i64 t237, .bool t238] 30 (0, 0)) (by (with_reducible repeat (first | refine blk_drewN ?_ _ | refine blk_drew ?_ | refine blk_alloc ?_ _)); refine blk_put (cs := #[.slice Ao55 t231.length co55, .int .i64 t234, .int .i64 t235, .int .i64 t236, .int .i64 t237, .bool false]) ?_ 5 _ rfl; (with_reducible repeat (first | refine blk_drewN ?_ _ | refine blk_drew ?_ | refine blk_alloc ?_ _)); refine blk_put (cs := #[.slice Ao55 t231.length co55, .int .i64 t234, .int .i64 t235, .int .i64 t236, .int .i64 0, .bool false]) ?_ 4 _ rfl; (with_reducible repeat (first | refine blk_drewN ?_ _ | refine blk_drew ?_ | refine blk_alloc ?_ _)); refine blk_put (cs := #[.slice Ao55 t231.length co55, .int .i64 t234, .int .i64 t235, .int .i64 0, .int .i64 0, .bool false]) ?_ 3 _ rfl; (with_reducible repeat (first | refine blk_drewN ?_ _ | refine blk_drew ?_ | refine blk_alloc ?_ _)); refine blk_put (cs := #[.slice Ao55 t231.length co55, .int .i64 t234, .int .i64 0, .int .i64 0, .int .i64 0, .bool false]) ?_ 2 _ rfl; (with_reducible repeat (first | refine blk_drewN ?_ _ | refine blk_drew ?_ | refine blk_alloc ?_ _)); refine blk_put (cs := #[.slice Ao55 t231.length co55, .int .i64 0, .int .i64 0, .int .i64 0, .int .i64 0, .bool false]) ?_ 1 _ rfl; (with_reducible repeat (first | refine blk_drewN ?_ _ | refine blk_drew ?_ | refine blk_alloc ?_ _)); refine blk_put (cs := #[.slice none 0 0, .int .i64 0, .int .i64 0, .int .i64 0, .int .i64 0, .bool false]) ?_ 0 _ rfl; (with_reducible repeat (first | refine blk_drewN ?_ _ | refine blk_drew ?_ | refine blk_alloc ?_ _)); exact BK239.out) hb); have n10_ := Aside0.mk (below_step (by repeat (first | (with_reducible first | exact HB.out | apply below_alloc | apply pw_below_drewN | apply below_drew1 | refine below_set ?_ GE196.out | refine below_set ?_ GE218.out | refine below_set ?_ GE227.out | refine below_set ?_ GE239.out) | exact HB.out)) hb); clear HO201; clear HO209; clear HO212; clear HO221; clear HO230; clear HO233; clear BK196; clear BK218; clear BK227; clear BK239; clear HB; have HO201 := n0_; have HO209 := n1_; have HO212 := n2_; have HO221 := n3_; have HO230 := n4_; have HO233 := n5_; have BK196 := n6_; have BK218 := n7_; have BK227 := n8_; have BK239 := n9_; have HB := n10_; clear n0_ n1_ n2_ n3_ n4_ n5_ n6_ n7_ n8_ n9_ n10_; (try clear hb); (try clear hb2); (try clear hk); (try clear hi)))
            have n0_ := Aside0.mk (Kd.R_drew HO201.out)
            have n1_ := Aside0.mk (Kd.R_drew HO209.out)
            have n2_ := Aside0.mk (Kd.R_drew HO212.out)
            have n3_ := Aside0.mk (Kd.R_drew HO221.out)
            have n4_ := Aside0.mk (Kd.R_drew HO230.out)
            have n5_ := Aside0.mk (Kd.R_drew HO233.out)
            have n6_ := Aside0.mk (blk_drew BK196.out)
            have n7_ := Aside0.mk (blk_drew BK218.out)
            have n8_ := Aside0.mk (blk_drew BK227.out)
            have n9_ := Aside0.mk (blk_drew BK239.out)
            have n10_ := Aside0.mk (below_drew1 HB.out)
            clear HO201
            clear HO209
            clear HO212
            clear HO221
            clear HO230
            clear HO233
            clear BK196
            clear BK218
            clear BK227
            clear BK239
            clear HB
            have HO201 := n0_
            have HO209 := n1_
            have HO212 := n2_
            have HO221 := n3_
            have HO230 := n4_
            have HO233 := n5_
            have BK196 := n6_
            have BK218 := n7_
            have BK227 := n8_
            have BK239 := n9_
            have HB := n10_
            clear n0_ n1_ n2_ n3_ n4_ n5_ n6_ n7_ n8_ n9_ n10_
            refine start_ (n := 5) (S := fun w' => w'.cell? ⟨gb227, 0, none⟩ = some (.slice Ao46 t219.length co46) ∧ w'.cell? ⟨gb227, 1, none⟩ = some (.int .i64 t222) ∧ w'.cell? ⟨gb227, 2, none⟩ = some (.int .i64 t223) ∧ w'.cell? ⟨gb227, 3, none⟩ = some (.int .i64 t224) ∧ w'.cell? ⟨gb227, 4, none⟩ = some (.int .i64 t225) ∧ w'.cell? ⟨gb227, 5, none⟩ = some (.bool t226) ∧ w'.cell? ⟨gb196, 0, none⟩ = some (.slice A0_0 l0_0.length c0_0) ∧ w'.cell? ⟨gb196, 1, none⟩ = some (.int .i64 a0_1) ∧ w'.cell? ⟨gb196, 2, none⟩ = some (.int .i64 a0_2) ∧ w'.cell? ⟨gb196, 3, none⟩ = some (.int .i64 a0_3) ∧ w'.cell? ⟨gb196, 4, none⟩ = some (.int .i64 a0_4) ∧ w'.cell? ⟨gb196, 5, none⟩ = some (.bool a0_5)) (ds := []) #[false, false, false, false, false] (by kernel_rfl) rfl rfl ⟨(blk_cell BK227.out 0).trans rfl, (blk_cell BK227.out 1).trans rfl, (blk_cell BK227.out 2).trans rfl, (blk_cell BK227.out 3).trans rfl, (blk_cell BK227.out 4).trans rfl, (blk_cell BK227.out 5).trans rfl, (blk_cell BK196.out 0).trans rfl, (blk_cell BK196.out 1).trans rfl, (blk_cell BK196.out 2).trans rfl, (blk_cell BK196.out 3).trans rfl, (blk_cell BK196.out 4).trans rfl, (blk_cell BK196.out 5).trans rfl⟩ (fun hHeld => ?_)
            generalize w61.drew = w62 at HO201 HO209 HO212 HO221 HO230 HO233 BK196 BK218 BK227 BK239 HB hHeld ⊢
            refine take_ (i := 0) (N := some 40) (v := ?_) (a' := ?_) #[true, false, false, false, false] rfl rfl (by kernel_rfl) (fun _ _ _ h => h) (Or.inl ⟨by rfl, ?_⟩) hHeld ?_ ?_
            rotate_left
            · rintro w' ⟨s0, s1, s2, s3, s4, s5, s6, s7, s8, s9, s10, s11⟩
              go_simp
              with_reducible rfl
            rotate_left
            · simp only [Act.put, List.setIfInBounds_toArray, List.set_cons_zero, List.set_cons_succ, i64_w, i32_w]
              rfl
            refine take_ (i := 1) (N := some 41) (v := ?_) (a' := ?_) #[true, true, false, false, false] rfl rfl (by kernel_rfl) (fun _ _ _ h => h) (Or.inl ⟨by rfl, ?_⟩) hHeld ?_ ?_
            rotate_left
            · rintro w' ⟨s0, s1, s2, s3, s4, s5, s6, s7, s8, s9, s10, s11⟩
              go_simp
              with_reducible rfl
            rotate_left
            · simp only [Act.put, List.setIfInBounds_toArray, List.set_cons_zero, List.set_cons_succ, i64_w, i32_w]
              rfl
            refine one_ (i := 2) (N := some 42) #[true, true, true, false, false] rfl rfl (by kernel_rfl) (by decide) (fun K hK => ?_)
            refine goes_ Try.func10 (by kernel_rfl) rfl #[.agg #[.slice A0_0 l0_0.length c0_0, .int .i64 a0_1, .int .i64 a0_2, .int .i64 a0_3, .int .i64 a0_4, .bool a0_5]] (by rfl) rfl rfl (by (try simp only [List.map_toArray, List.map_cons, List.map_nil]); first | done | rfl | (simp only [List.length_drop, List.length_take]; rfl)) ?_
            with_reducible refine (laws_toFs.calls k _ _ l0_0 a0_1 a0_2 a0_3 a0_4 a0_5 t241 t244 t245 t246 t247 t248 _ ?side1 ?side2 A21.out).mono ?_
            (case side1 => repeat (first | exact (Kd.C_below HR0_0.out HB.out) | (with_reducible refine Kd.C_alloc ?_ _) | (with_reducible refine Kd.C_drewN ?_ _) | (with_reducible refine Kd.C_drew ?_)))
            (case side2 => exact HC0_0.out)
            rintro e w63 ⟨v242, rfl, ho0, hb⟩
            refine ⟨_, rfl, ?_⟩
            have n0_ := Aside0.mk (Kd.R_elder' (by (with_reducible repeat (first | apply Kd.R_alloc | apply Kd.R_drewN | apply Kd.R_drew)); exact HO201.out) (Kd.R_base ho0) hb)
            have n1_ := Aside0.mk (Kd.R_below (by (with_reducible repeat (first | apply Kd.R_alloc | apply Kd.R_drewN | apply Kd.R_drew)); exact HO209.out) hb)
            have n2_ := Aside0.mk (Kd.R_elder' (by (with_reducible repeat (first | apply Kd.R_alloc | apply Kd.R_drewN | apply Kd.R_drew)); exact HO212.out) (Kd.R_base ho0) hb)
            have n3_ := Aside0.mk (Kd.R_elder' (by (with_reducible repeat (first | apply Kd.R_alloc | apply Kd.R_drewN | apply Kd.R_drew)); exact HO221.out) (Kd.R_base ho0) hb)
            have n4_ := Aside0.mk (Kd.R_below (by (with_reducible repeat (first | apply Kd.R_alloc | apply Kd.R_drewN | apply Kd.R_drew)); exact HO230.out) hb)
            have n5_ := Aside0.mk (Kd.R_elder' (by (with_reducible repeat (first | apply Kd.R_alloc | apply Kd.R_drewN | apply Kd.R_drew)); exact HO233.out) (Kd.R_base ho0) hb)
            have n6_ := Aside0.mk (Kd.R_lower (Kd.R_new' (Kd.R_new' (Kd.R_new' (Kd.R_new' ho0 (Kd.R_lt (by (with_reducible repeat (first | apply Kd.R_alloc | apply Kd.R_drewN | apply Kd.R_drew)); exact HO201.out))) (Kd.R_lt (by (with_reducible repeat (first | apply Kd.R_alloc | apply Kd.R_drewN | apply Kd.R_drew)); exact HO212.out))) (Kd.R_lt (by (with_reducible repeat (first | apply Kd.R_alloc | apply Kd.R_drewN | apply Kd.R_drew)); exact HO221.out))) (Kd.R_lt (by (with_reducible repeat (first | apply Kd.R_alloc | apply Kd.R_drewN | apply Kd.R_drew)); exact HO233.out))) (below_size (by repeat (first | (with_reducible first | exact HB.out | apply below_alloc | apply pw_below_drewN | apply below_drew1 | refine below_set ?_ GE196.out | refine below_set ?_ GE218.out | refine below_set ?_ GE227.out | refine below_set ?_ GE239.out) | exact HB.out))))
            have n7_ := Aside0.mk (blk_below (g := gb196) (o := .cells #[.slice A0_0 l0_0.length c0_0, .int .i64 a0_1, .int .i64 a0_2, .int .i64 a0_3, .int .i64 a0_4, .bool a0_5] 24 (0, 0)) (by (with_reducible repeat (first | refine blk_drewN ?_ _ | refine blk_drew ?_ | refine blk_alloc ?_ _)); exact BK196.out) hb)
            have n8_ := Aside0.mk (blk_below (g := gb218) (o := .cells #[.slice Ao40 t210.length co40, .int .i64 t213, .int .i64 t214, .int .i64 t215, .int .i64 t216, .bool t217] 30 (0, 0)) (by (with_reducible repeat (first | refine blk_drewN ?_ _ | refine blk_drew ?_ | refine blk_alloc ?_ _)); exact BK218.out) hb)
            have n9_ := Aside0.mk (blk_below (g := gb227) (o := .cells #[.slice Ao46 t219.length co46, .int .i64 t222, .int .i64 t223, .int .i64 t224, .int .i64 t225, .bool t226] 30 (0, 0)) (by (with_reducible repeat (first | refine blk_drewN ?_ _ | refine blk_drew ?_ | refine blk_alloc ?_ _)); exact BK227.out) hb)
            have n10_ := Aside0.mk (blk_below (g := gb239) (o := .cells #[.slice Ao55 t231.length co55, .int .i64 t234, .int .i64 t235, .int .i64 t236, .int .i64 t237, .bool t238] 30 (0, 0)) (by (with_reducible repeat (first | refine blk_drewN ?_ _ | refine blk_drew ?_ | refine blk_alloc ?_ _)); exact BK239.out) hb)
            have n11_ := Aside0.mk (below_step (by repeat (first | (with_reducible first | exact HB.out | apply below_alloc | apply pw_below_drewN | apply below_drew1 | refine below_set ?_ GE196.out | refine below_set ?_ GE218.out | refine below_set ?_ GE227.out | refine below_set ?_ GE239.out) | exact HB.out)) hb)
            clear HO201
            clear HO209
            clear HO212
            clear HO221
            clear HO230
            clear HO233
            clear BK196
            clear BK218
            clear BK227
            clear BK239
            clear HB
            have HO201 := n0_
            have HO209 := n1_
            have HO212 := n2_
            have HO221 := n3_
            have HO230 := n4_
            have HO233 := n5_
            have HO243 := n6_
            have BK196 := n7_
            have BK218 := n8_
            have BK227 := n9_
            have BK239 := n10_
            have HB := n11_
            clear n0_ n1_ n2_ n3_ n4_ n5_ n6_ n7_ n8_ n9_ n10_ n11_
            (try clear hb)
            (try clear hb2)
            (try clear hk)
            (try clear hi)
            (try clear ho0)
            obtain ⟨Ao64, co64, eo64⟩ := Kd.R_slice HO243.out
            (first | subst eo64 | (injection eo64 with f1_ f2_ f3_; have f4_ := f1_.symm; have f5_ := f3_.symm; clear f1_ f2_ f3_; subst f4_; subst f5_))
            refine hK.out _ _ ⟨(blk_cell BK227.out 0).trans rfl, (blk_cell BK227.out 1).trans rfl, (blk_cell BK227.out 2).trans rfl, (blk_cell BK227.out 3).trans rfl, (blk_cell BK227.out 4).trans rfl, (blk_cell BK227.out 5).trans rfl, (blk_cell BK196.out 0).trans rfl, (blk_cell BK196.out 1).trans rfl, (blk_cell BK196.out 2).trans rfl, (blk_cell BK196.out 3).trans rfl, (blk_cell BK196.out 4).trans rfl, (blk_cell BK196.out 5).trans rfl⟩ (fun hHeld => ?_)
            clear hK K
            refine norm_ (a' := ?_) ?_ ?_
            rotate_left
            · show Act.put _ (some 42) _ = _
              simp only [Act.put, List.setIfInBounds_toArray, List.set_cons_zero, List.set_cons_succ, i64_w, i32_w]
              rfl
            refine one_ (i := 3) (N := some 43) #[true, true, true, true, false] rfl rfl (by kernel_rfl) (by decide) (fun K hK => ?_)
            refine goes_ Try.func13 (by kernel_rfl) rfl #[.agg #[.slice Ao46 t219.length co46, .int .i64 t222, .int .i64 t223, .int .i64 t224, .int .i64 t225, .bool t226], .agg #[.slice Ao64 t241.length co64, .int .i64 t244, .int .i64 t245, .int .i64 t246, .int .i64 t247, .bool t248]] (by rfl) rfl rfl (by (try simp only [List.map_toArray, List.map_cons, List.map_nil]); first | done | rfl | (simp only [List.length_drop, List.length_take]; rfl)) ?_
            with_reducible refine (laws_eqFs.calls k _ _ t219 t222 t223 t224 t225 t226 _ _ t241 t244 t245 t246 t247 t248 true _ ?side1 ?side2 ?side3 ?side4 A22.out).mono ?_
            (case side1 => repeat (first | exact (Kd.R_reads' HO221.out).2.2 | (with_reducible refine Kd.C_alloc ?_ _) | (with_reducible refine Kd.C_drewN ?_ _) | (with_reducible refine Kd.C_drew ?_)))
            (case side2 => exact (Kd.R_reads' HO221.out).2.1)
            (case side3 => repeat (first | exact (Kd.R_reads' HO243.out).2.2 | (with_reducible refine Kd.C_alloc ?_ _) | (with_reducible refine Kd.C_drewN ?_ _) | (with_reducible refine Kd.C_drew ?_)))
            (case side4 => exact (Kd.R_reads' HO243.out).2.1)
            rintro e w65 ⟨rfl, hb⟩
            refine ⟨_, rfl, ?_⟩
            have n0_ := Aside0.mk (Kd.R_below (by (with_reducible repeat (first | apply Kd.R_alloc | apply Kd.R_drewN | apply Kd.R_drew)); exact HO201.out) hb)
            have n1_ := Aside0.mk (Kd.R_below (by (with_reducible repeat (first | apply Kd.R_alloc | apply Kd.R_drewN | apply Kd.R_drew)); exact HO209.out) hb)
            have n2_ := Aside0.mk (Kd.R_below (by (with_reducible repeat (first | apply Kd.R_alloc | apply Kd.R_drewN | apply Kd.R_drew)); exact HO212.out) hb)
            have n3_ := Aside0.mk (Kd.R_below (by (with_reducible repeat (first | apply Kd.R_alloc | apply Kd.R_drewN | apply Kd.R_drew)); exact HO221.out) hb)
            have n4_ := Aside0.mk (Kd.R_below (by (with_reducible repeat (first | apply Kd.R_alloc | apply Kd.R_drewN | apply Kd.R_drew)); exact HO230.out) hb)
            have n5_ := Aside0.mk (Kd.R_below (by (with_reducible repeat (first | apply Kd.R_alloc | apply Kd.R_drewN | apply Kd.R_drew)); exact HO233.out) hb)
            have n6_ := Aside0.mk (Kd.R_below (by (with_reducible repeat (first | apply Kd.R_alloc | apply Kd.R_drewN | apply Kd.R_drew)); exact HO243.out) hb)
            have n7_ := Aside0.mk (blk_below (g := gb196) (o := .cells #[.slice A0_0 l0_0.length c0_0, .int .i64 a0_1, .int .i64 a0_2, .int .i64 a0_3, .int .i64 a0_4, .bool a0_5] 24 (0, 0)) (by (with_reducible repeat (first | refine blk_drewN ?_ _ | refine blk_drew ?_ | refine blk_alloc ?_ _)); exact BK196.out) hb)
            have n8_ := Aside0.mk (blk_below (g := gb218) (o := .cells #[.slice Ao40 t210.length co40, .int .i64 t213, .int .i64 t214, .int .i64 t215, .int .i64 t216, .bool t217] 30 (0, 0)) (by (with_reducible repeat (first | refine blk_drewN ?_ _ | refine blk_drew ?_ | refine blk_alloc ?_ _)); exact BK218.out) hb)
            have n9_ := Aside0.mk (blk_below (g := gb227) (o := .cells #[.slice Ao46 t219.length co46, .int .i64 t222, .int .i64 t223, .int .i64 t224, .int .i64 t225, .bool t226] 30 (0, 0)) (by (with_reducible repeat (first | refine blk_drewN ?_ _ | refine blk_drew ?_ | refine blk_alloc ?_ _)); exact BK227.out) hb)
            have n10_ := Aside0.mk (blk_below (g := gb239) (o := .cells #[.slice Ao55 t231.length co55, .int .i64 t234, .int .i64 t235, .int .i64 t236, .int .i64 t237, .bool t238] 30 (0, 0)) (by (with_reducible repeat (first | refine blk_drewN ?_ _ | refine blk_drew ?_ | refine blk_alloc ?_ _)); exact BK239.out) hb)
            have n11_ := Aside0.mk (below_step (by repeat (first | (with_reducible first | exact HB.out | apply below_alloc | apply pw_below_drewN | apply below_drew1 | refine below_set ?_ GE196.out | refine below_set ?_ GE218.out | refine below_set ?_ GE227.out | refine below_set ?_ GE239.out) | exact HB.out)) hb)
            clear HO201
            clear HO209
            clear HO212
            clear HO221
            clear HO230
            clear HO233
            clear HO243
            clear BK196
            clear BK218
            clear BK227
            clear BK239
            clear HB
            have HO201 := n0_
            have HO209 := n1_
            have HO212 := n2_
            have HO221 := n3_
            have HO230 := n4_
            have HO233 := n5_
            have HO243 := n6_
            have BK196 := n7_
            have BK218 := n8_
            have BK227 := n9_
            have BK239 := n10_
            have HB := n11_
            clear n0_ n1_ n2_ n3_ n4_ n5_ n6_ n7_ n8_ n9_ n10_ n11_
            (try clear hb)
            (try clear hb2)
            (try clear hk)
            (try clear hi)
            refine hK.out _ _ ⟨(blk_cell BK227.out 0).trans rfl, (blk_cell BK227.out 1).trans rfl, (blk_cell BK227.out 2).trans rfl, (blk_cell BK227.out 3).trans rfl, (blk_cell BK227.out 4).trans rfl, (blk_cell BK227.out 5).trans rfl, (blk_cell BK196.out 0).trans rfl, (blk_cell BK196.out 1).trans rfl, (blk_cell BK196.out 2).trans rfl, (blk_cell BK196.out 3).trans rfl, (blk_cell BK196.out 4).trans rfl, (blk_cell BK196.out 5).trans rfl⟩ (fun hHeld => ?_)
            clear hK K
            refine norm_ (a' := ?_) ?_ ?_
            rotate_left
            · show Act.put _ (some 43) _ = _
              simp only [Act.put, List.setIfInBounds_toArray, List.set_cons_zero, List.set_cons_succ, i64_w, i32_w]
              rfl
            refine pure_ (i := 4) (N := some 44) (v := ?_) (a' := ?_) #[true, true, true, true, true] rfl rfl (by kernel_rfl) (fun _ _ _ h => h) (Or.inl ⟨by rfl, ?_⟩) ?_ ?_
            rotate_left
            · intro w'
              go_simp
              with_reducible rfl
            rotate_left
            · simp only [Act.put, List.setIfInBounds_toArray, List.set_cons_zero, List.set_cons_succ, i64_w, i32_w]
              rfl
            refine done_ (by kernel_rfl) ?_
            go_upto_region 21 with (first | ((with_reducible refine gate_callee (f := 11) rfl ?_); refine goesL_ (some 47) rfl rfl Try.func11 (by kernel_rfl) rfl #[.slice A1 l1.length c1] rfl (by (try simp only [List.map_toArray, List.map_cons, List.map_nil]); first | done | rfl | (simp only [List.length_drop, List.length_take]; rfl)) ?_; (with_reducible refine (laws_toStringS.calls k _ _ l1 t250 _ ?side1 ?side2 A24.out).mono ?_); (case side1 => repeat (first | exact (Kd.C_below HR1.out HB.out) | (with_reducible refine Kd.C_alloc ?_ _) | (with_reducible refine Kd.C_drewN ?_ _) | (with_reducible refine Kd.C_drew ?_))); (case side2 => exact HC1.out); rintro e w66 ⟨v251, rfl, ho0, hb⟩; refine ⟨_, rfl, ?_⟩; have n0_ := Aside0.mk (Kd.R_below (by (with_reducible repeat (first | apply Kd.R_alloc | apply Kd.R_drewN | apply Kd.R_drew)); exact HO201.out) hb); have n1_ := Aside0.mk (Kd.R_elder' (by (with_reducible repeat (first | apply Kd.R_alloc | apply Kd.R_drewN | apply Kd.R_drew)); exact HO209.out) (Kd.R_base ho0) hb); have n2_ := Aside0.mk (Kd.R_below (by (with_reducible repeat (first | apply Kd.R_alloc | apply Kd.R_drewN | apply Kd.R_drew)); exact HO212.out) hb); have n3_ := Aside0.mk (Kd.R_below (by (with_reducible repeat (first | apply Kd.R_alloc | apply Kd.R_drewN | apply Kd.R_drew)); exact HO221.out) hb); have n4_ := Aside0.mk (Kd.R_elder' (by (with_reducible repeat (first | apply Kd.R_alloc | apply Kd.R_drewN | apply Kd.R_drew)); exact HO230.out) (Kd.R_base ho0) hb); have n5_ := Aside0.mk (Kd.R_below (by (with_reducible repeat (first | apply Kd.R_alloc | apply Kd.R_drewN | apply Kd.R_drew)); exact HO233.out) hb); have n6_ := Aside0.mk (Kd.R_below (by (with_reducible repeat (first | apply Kd.R_alloc | apply Kd.R_drewN | apply Kd.R_drew)); exact HO243.out) hb); have n7_ := Aside0.mk (Kd.R_lower (Kd.R_new' (Kd.R_new' ho0 (Kd.R_lt (by (with_reducible repeat (first | apply Kd.R_alloc | apply Kd.R_drewN | apply Kd.R_drew)); exact HO209.out))) (Kd.R_lt (by (with_reducible repeat (first | apply Kd.R_alloc | apply Kd.R_drewN | apply Kd.R_drew)); exact HO230.out))) (below_size (by repeat (first | (with_reducible first | exact HB.out | apply below_alloc | apply pw_below_drewN | apply below_drew1 | refine below_set ?_ GE196.out | refine below_set ?_ GE218.out | refine below_set ?_ GE227.out | refine below_set ?_ GE239.out) | exact HB.out)))); have n8_ := Aside0.mk (blk_below (g := gb196) (o := .cells #[.slice A0_0 l0_0.length c0_0, .int .i64 a0_1, .int .i64 a0_2, .int .i64 a0_3, .int .i64 a0_4, .bool a0_5] 24 (0, 0)) (by (with_reducible repeat (first | refine blk_drewN ?_ _ | refine blk_drew ?_ | refine blk_alloc ?_ _)); exact BK196.out) hb); have n9_ := Aside0.mk (blk_below (g := gb218) (o := .cells #[.slice Ao40 t210.length co40, .int .i64 t213, .int .i64 t214, .int .i64 t215, .int .i64 t216, .bool t217] 30 (0, 0)) (by (with_reducible repeat (first | refine blk_drewN ?_ _ | refine blk_drew ?_ | refine blk_alloc ?_ _)); exact BK218.out) hb); have n10_ := Aside0.mk (blk_below (g := gb227) (o := .cells #[.slice Ao46 t219.length co46, .int .i64 t222, .int .i64 t223, .int .i64 t224, .int .i64 t225, .bool t226] 30 (0, 0)) (by (with_reducible repeat (first | refine blk_drewN ?_ _ | refine blk_drew ?_ | refine blk_alloc ?_ _)); exact BK227.out) hb); have n11_ := Aside0.mk (blk_below (g := gb239) (o := .cells #[.slice Ao55 t231.length co55, .int .i64 t234, .int .i64 t235, .int .i64 t236, .int .i64 t237, .bool t238] 30 (0, 0)) (by (with_reducible repeat (first | refine blk_drewN ?_ _ | refine blk_drew ?_ | refine blk_alloc ?_ _)); exact BK239.out) hb); have n12_ := Aside0.mk (below_step (by repeat (first | (with_reducible first | exact HB.out | apply below_alloc | apply pw_below_drewN | apply below_drew1 | refine below_set ?_ GE196.out | refine below_set ?_ GE218.out | refine below_set ?_ GE227.out | refine below_set ?_ GE239.out) | exact HB.out)) hb); clear HO201; clear HO209; clear HO212; clear HO221; clear HO230; clear HO233; clear HO243; clear BK196; clear BK218; clear BK227; clear BK239; clear HB; have HO201 := n0_; have HO209 := n1_; have HO212 := n2_; have HO221 := n3_; have HO230 := n4_; have HO233 := n5_; have HO243 := n6_; have HO252 := n7_; have BK196 := n8_; have BK218 := n9_; have BK227 := n10_; have BK239 := n11_; have HB := n12_; clear n0_ n1_ n2_ n3_ n4_ n5_ n6_ n7_ n8_ n9_ n10_ n11_ n12_; (try clear hb); (try clear hb2); (try clear hk); (try clear hi); (try clear ho0); obtain ⟨Ao67, co67, eo67⟩ := Kd.R_slice HO252.out; subst eo67) | ((with_reducible refine gate_callee (f := 14) rfl ?_); refine goesL_ (some 48) rfl rfl Try.func14 (by kernel_rfl) rfl #[.slice Ao52 t228.length co52, .slice Ao67 t250.length co67] rfl (by (try simp only [List.map_toArray, List.map_cons, List.map_nil]); first | done | rfl | (simp only [List.length_drop, List.length_take]; rfl)) ?_; (with_reducible refine (laws_eqStringS.calls k _ _ t228 _ _ t250 true _ ?side1 ?side2 ?side3 ?side4 A25.out).mono ?_); (case side1 => repeat (first | exact (Kd.R_reads' HO230.out).2.2 | (with_reducible refine Kd.C_alloc ?_ _) | (with_reducible refine Kd.C_drewN ?_ _) | (with_reducible refine Kd.C_drew ?_))); (case side2 => exact (Kd.R_reads' HO230.out).2.1); (case side3 => repeat (first | exact (Kd.R_reads' HO252.out).2.2 | (with_reducible refine Kd.C_alloc ?_ _) | (with_reducible refine Kd.C_drewN ?_ _) | (with_reducible refine Kd.C_drew ?_))); (case side4 => exact (Kd.R_reads' HO252.out).2.1); rintro e w' ⟨rfl, ⟨nd, rfl⟩⟩; refine ⟨_, rfl, ?_⟩; have hcz68_0 : w66.cell? ⟨gb227, 0, none⟩ = some (.slice Ao46 t219.length co46) := (blk_cell BK227.out 0).trans rfl; have hcz68_1 : w66.cell? ⟨gb227, 1, none⟩ = some (.int .i64 t222) := (blk_cell BK227.out 1).trans rfl; have hcz68_2 : w66.cell? ⟨gb227, 2, none⟩ = some (.int .i64 t223) := (blk_cell BK227.out 2).trans rfl; have hcz68_3 : w66.cell? ⟨gb227, 3, none⟩ = some (.int .i64 t224) := (blk_cell BK227.out 3).trans rfl; have hcz68_4 : w66.cell? ⟨gb227, 4, none⟩ = some (.int .i64 t225) := (blk_cell BK227.out 4).trans rfl; have hcz68_5 : w66.cell? ⟨gb227, 5, none⟩ = some (.bool t226) := (blk_cell BK227.out 5).trans rfl; have hfz68_0 := blk_frozen BK227.out 0; have hfz68_1 := blk_frozen BK227.out 1; have hfz68_2 := blk_frozen BK227.out 2; have hfz68_3 := blk_frozen BK227.out 3; have hfz68_4 := blk_frozen BK227.out 4; have hfz68_5 := blk_frozen BK227.out 5) | ((with_reducible refine gate_callee (f := 15) rfl ?_); refine goesL_ (some 52) rfl rfl Try.func15 (by kernel_rfl) rfl #[.agg #[.slice Ao46 t219.length co46, .int .i64 t222, .int .i64 t223, .int .i64 t224, .int .i64 t225, .bool t226], .int .i64 1] rfl (by (try simp only [List.map_toArray, List.map_cons, List.map_nil]); first | done | rfl | (simp only [List.length_drop, List.length_take]; rfl)) ?_; (with_reducible refine (laws_markFs.calls k (fun k_ => some k_ = (.slice Ao46 t219.length co46 : Value).ownBlock) (.slice Ao46 t219.length co46) t219 t222 t223 t224 t225 t226 1 t254 t255 w _ ?side1 ?side2 A27.out).mono ?_); (case side1 => repeat (first | (with_reducible first | exact HB.out | apply below_alloc | apply pw_below_drewN | apply below_drew1 | refine below_set ?_ GE196.out | refine below_set ?_ GE218.out | refine below_set ?_ GE227.out | refine below_set ?_ GE239.out) | exact HB.out)); (case side2 => exact Kd.R_tight rfl HO221.out); rintro e w69 ⟨rfl, hy0, hb, hkp⟩; refine ⟨_, rfl, ?_⟩; have n0_ := Aside0.mk (blk_kept (g := gb196) BK196.out hkp (fun hs_ => Kd.R_ne HO221.out BK196.out (by decide) hs_)); have n1_ := Aside0.mk (Kd.R_mono (ok' := fun k_ => some k_ ≠ (.slice Ao40 t210.length co40 : Value).ownBlock ∧ some k_ ≠ (.slice Ao46 t219.length co46 : Value).ownBlock ∧ some k_ ≠ (.slice Ao55 t231.length co55 : Value).ownBlock ∧ some k_ ≠ (.slice Ao64 t241.length co64 : Value).ownBlock) (Kd.R_keptB (HO201.out) hkp (fun k_ hk_ hs_ => (hk_.1.1.2) hs_)) (fun k_ hk_ => ⟨hk_.1.1.1.1.2, hk_.1.1.1.2, hk_.1.1.2, hk_.1.2⟩)); have n2_ := Aside0.mk (Kd.R_mono (ok' := fun k_ => some k_ ≠ (.slice Ao52 t228.length co52 : Value).ownBlock ∧ some k_ ≠ (.slice Ao67 t250.length co67 : Value).ownBlock) (Kd.R_keptB ((Kd.R_apart' HO209.out (Kd.R_typed HO221.out) (by decide))) hkp (fun k_ hk_ hs_ => (hk_.2) hs_)) (fun k_ hk_ => ⟨hk_.1.1.1.2, hk_.1.1.2⟩)); have n3_ := Aside0.mk (Kd.R_mono (ok' := fun k_ => some k_ ≠ (.slice Ao36 t199.length co36 : Value).ownBlock ∧ some k_ ≠ (.slice Ao46 t219.length co46 : Value).ownBlock ∧ some k_ ≠ (.slice Ao55 t231.length co55 : Value).ownBlock ∧ some k_ ≠ (.slice Ao64 t241.length co64 : Value).ownBlock) (Kd.R_keptB (HO212.out) hkp (fun k_ hk_ hs_ => (hk_.1.1.2) hs_)) (fun k_ hk_ => ⟨hk_.1.1.1.1.2, hk_.1.1.1.2, hk_.1.1.2, hk_.1.2⟩)); have n4_ := Aside0.mk (blk_kept (g := gb218) BK218.out hkp (fun hs_ => Kd.R_ne HO221.out BK218.out (by decide) hs_)); have n5_ := Aside0.mk (Kd.R_reok rfl hy0 (fun k_ e_ => HO221.out.1 k_ e_)); have n6_ := Aside0.mk (blk_kept (g := gb227) BK227.out hkp (fun hs_ => Kd.R_ne HO221.out BK227.out (by decide) hs_)); have n7_ := Aside0.mk (Kd.R_mono (ok' := fun k_ => some k_ ≠ (.slice Ao37 t207.length co37 : Value).ownBlock ∧ some k_ ≠ (.slice Ao67 t250.length co67 : Value).ownBlock) (Kd.R_keptB ((Kd.R_apart' HO230.out (Kd.R_typed HO221.out) (by decide))) hkp (fun k_ hk_ hs_ => (hk_.2) hs_)) (fun k_ hk_ => ⟨hk_.1.1.1.2, hk_.1.1.2⟩)); have n8_ := Aside0.mk (Kd.R_mono (ok' := fun k_ => some k_ ≠ (.slice Ao36 t199.length co36 : Value).ownBlock ∧ some k_ ≠ (.slice Ao40 t210.length co40 : Value).ownBlock ∧ some k_ ≠ (.slice Ao46 t219.length co46 : Value).ownBlock ∧ some k_ ≠ (.slice Ao64 t241.length co64 : Value).ownBlock) (Kd.R_keptB (HO233.out) hkp (fun k_ hk_ hs_ => (hk_.1.2) hs_)) (fun k_ hk_ => ⟨hk_.1.1.1.1.2, hk_.1.1.1.2, hk_.1.1.2, hk_.1.2⟩)); have n9_ := Aside0.mk (blk_kept (g := gb239) BK239.out hkp (fun hs_ => Kd.R_ne HO221.out BK239.out (by decide) hs_)); have n10_ := Aside0.mk (Kd.R_mono (ok' := fun k_ => some k_ ≠ (.slice Ao36 t199.length co36 : Value).ownBlock ∧ some k_ ≠ (.slice Ao40 t210.length co40 : Value).ownBlock ∧ some k_ ≠ (.slice Ao46 t219.length co46 : Value).ownBlock ∧ some k_ ≠ (.slice Ao55 t231.length co55 : Value).ownBlock) (Kd.R_keptB (HO243.out) hkp (fun k_ hk_ hs_ => (hk_.1.2) hs_)) (fun k_ hk_ => ⟨hk_.1.1.1.1.2, hk_.1.1.1.2, hk_.1.1.2, hk_.1.2⟩)); have n11_ := Aside0.mk (Kd.R_mono (ok' := fun k_ => some k_ ≠ (.slice Ao37 t207.length co37 : Value).ownBlock ∧ some k_ ≠ (.slice Ao52 t228.length co52 : Value).ownBlock) (Kd.R_keptB ((Kd.R_apart' HO252.out (Kd.R_typed HO221.out) (by decide))) hkp (fun k_ hk_ hs_ => (hk_.2) hs_)) (fun k_ hk_ => ⟨hk_.1.1.1.2, hk_.1.1.2⟩)); have n12_ := Aside0.mk (hb); clear BK196; clear HO201; clear HO209; clear HO212; clear BK218; clear HO221; clear BK227; clear HO230; clear HO233; clear BK239; clear HO243; clear HO252; clear HB; have BK196 := n0_; have HO201 := n1_; have HO209 := n2_; have HO212 := n3_; have BK218 := n4_; have HO221 := n5_; have BK227 := n6_; have HO230 := n7_; have HO233 := n8_; have BK239 := n9_; have HO243 := n10_; have HO252 := n11_; have HB := n12_; clear n0_ n1_ n2_ n3_ n4_ n5_ n6_ n7_ n8_ n9_ n10_ n11_ n12_; (try clear hb); (try clear hkp); (try clear hy0)) | ((with_reducible refine gate_callee (f := 16) rfl ?_); refine goesL_ (some 55) rfl rfl Try.func16 (by kernel_rfl) rfl #[.slice Ao52 t228.length co52, .int .i64 t254] rfl (by (try simp only [List.map_toArray, List.map_cons, List.map_nil]); first | done | rfl | (simp only [List.length_drop, List.length_take]; rfl)) ?_; (with_reducible refine (laws_markStringS.calls k (fun k_ => some k_ = (.slice Ao52 t228.length co52 : Value).ownBlock) (.slice Ao52 t228.length co52) t228 t254 t256 t257 w _ ?side1 ?side2 A28.out).mono ?_); (case side1 => repeat (first | (with_reducible first | exact HB.out | apply below_alloc | apply pw_below_drewN | apply below_drew1 | refine below_set ?_ GE196.out | refine below_set ?_ GE218.out | refine below_set ?_ GE227.out | refine below_set ?_ GE239.out) | exact HB.out)); (case side2 => exact Kd.R_tight rfl HO230.out); rintro e w70 ⟨rfl, hy0, hb, hkp⟩; refine ⟨_, rfl, ?_⟩; have n0_ := Aside0.mk (blk_kept (g := gb196) BK196.out hkp (fun hs_ => Kd.R_ne HO230.out BK196.out (by decide) hs_)); have n1_ := Aside0.mk (Kd.R_mono (ok' := fun k_ => some k_ ≠ (.slice Ao40 t210.length co40 : Value).ownBlock ∧ some k_ ≠ (.slice Ao46 t219.length co46 : Value).ownBlock ∧ some k_ ≠ (.slice Ao55 t231.length co55 : Value).ownBlock ∧ some k_ ≠ (.slice Ao64 t241.length co64 : Value).ownBlock) (Kd.R_keptB ((Kd.R_apart' HO201.out (Kd.R_typed HO230.out) (by decide))) hkp (fun k_ hk_ hs_ => (hk_.2) hs_)) (fun k_ hk_ => ⟨hk_.1.1.1, hk_.1.1.2.1, hk_.1.1.2.2.1, hk_.1.1.2.2.2⟩)); have n2_ := Aside0.mk (Kd.R_mono (ok' := fun k_ => some k_ ≠ (.slice Ao52 t228.length co52 : Value).ownBlock ∧ some k_ ≠ (.slice Ao67 t250.length co67 : Value).ownBlock) (Kd.R_keptB (HO209.out) hkp (fun k_ hk_ hs_ => (hk_.1) hs_)) (fun k_ hk_ => ⟨hk_.1.1, hk_.1.2⟩)); have n3_ := Aside0.mk (Kd.R_mono (ok' := fun k_ => some k_ ≠ (.slice Ao36 t199.length co36 : Value).ownBlock ∧ some k_ ≠ (.slice Ao46 t219.length co46 : Value).ownBlock ∧ some k_ ≠ (.slice Ao55 t231.length co55 : Value).ownBlock ∧ some k_ ≠ (.slice Ao64 t241.length co64 : Value).ownBlock) (Kd.R_keptB ((Kd.R_apart' HO212.out (Kd.R_typed HO230.out) (by decide))) hkp (fun k_ hk_ hs_ => (hk_.2) hs_)) (fun k_ hk_ => ⟨hk_.1.1.1, hk_.1.1.2.1, hk_.1.1.2.2.1, hk_.1.1.2.2.2⟩)); have n4_ := Aside0.mk (blk_kept (g := gb218) BK218.out hkp (fun hs_ => Kd.R_ne HO230.out BK218.out (by decide) hs_)); have n5_ := Aside0.mk (Kd.R_mono (ok' := fun k_ => some k_ ≠ (.slice Ao36 t199.length co36 : Value).ownBlock ∧ some k_ ≠ (.slice Ao40 t210.length co40 : Value).ownBlock ∧ some k_ ≠ (.slice Ao55 t231.length co55 : Value).ownBlock ∧ some k_ ≠ (.slice Ao64 t241.length co64 : Value).ownBlock) (Kd.R_keptB ((Kd.R_apart' HO221.out (Kd.R_typed HO230.out) (by decide))) hkp (fun k_ hk_ hs_ => (hk_.2) hs_)) (fun k_ hk_ => ⟨hk_.1.1.1.1.1.2, hk_.1.1.1.1.2, hk_.1.1.1.2, hk_.1.1.2⟩)); have n6_ := Aside0.mk (blk_kept (g := gb227) BK227.out hkp (fun hs_ => Kd.R_ne HO230.out BK227.out (by decide) hs_)); have n7_ := Aside0.mk (Kd.R_reok rfl hy0 (fun k_ e_ => HO230.out.1 k_ e_)); have n8_ := Aside0.mk (Kd.R_mono (ok' := fun k_ => some k_ ≠ (.slice Ao36 t199.length co36 : Value).ownBlock ∧ some k_ ≠ (.slice Ao40 t210.length co40 : Value).ownBlock ∧ some k_ ≠ (.slice Ao46 t219.length co46 : Value).ownBlock ∧ some k_ ≠ (.slice Ao64 t241.length co64 : Value).ownBlock) (Kd.R_keptB ((Kd.R_apart' HO233.out (Kd.R_typed HO230.out) (by decide))) hkp (fun k_ hk_ hs_ => (hk_.2) hs_)) (fun k_ hk_ => ⟨hk_.1.1.1, hk_.1.1.2.1, hk_.1.1.2.2.1, hk_.1.1.2.2.2⟩)); have n9_ := Aside0.mk (blk_kept (g := gb239) BK239.out hkp (fun hs_ => Kd.R_ne HO230.out BK239.out (by decide) hs_)); have n10_ := Aside0.mk (Kd.R_mono (ok' := fun k_ => some k_ ≠ (.slice Ao36 t199.length co36 : Value).ownBlock ∧ some k_ ≠ (.slice Ao40 t210.length co40 : Value).ownBlock ∧ some k_ ≠ (.slice Ao46 t219.length co46 : Value).ownBlock ∧ some k_ ≠ (.slice Ao55 t231.length co55 : Value).ownBlock) (Kd.R_keptB ((Kd.R_apart' HO243.out (Kd.R_typed HO230.out) (by decide))) hkp (fun k_ hk_ hs_ => (hk_.2) hs_)) (fun k_ hk_ => ⟨hk_.1.1.1, hk_.1.1.2.1, hk_.1.1.2.2.1, hk_.1.1.2.2.2⟩)); have n11_ := Aside0.mk (Kd.R_mono (ok' := fun k_ => some k_ ≠ (.slice Ao37 t207.length co37 : Value).ownBlock ∧ some k_ ≠ (.slice Ao52 t228.length co52 : Value).ownBlock) (Kd.R_keptB (HO252.out) hkp (fun k_ hk_ hs_ => (hk_.2) hs_)) (fun k_ hk_ => ⟨hk_.1.1, hk_.1.2⟩)); have n12_ := Aside0.mk (hb); clear BK196; clear HO201; clear HO209; clear HO212; clear BK218; clear HO221; clear BK227; clear HO230; clear HO233; clear BK239; clear HO243; clear HO252; clear HB; have BK196 := n0_; have HO201 := n1_; have HO209 := n2_; have HO212 := n3_; have BK218 := n4_; have HO221 := n5_; have BK227 := n6_; have HO230 := n7_; have HO233 := n8_; have BK239 := n9_; have HO243 := n10_; have HO252 := n11_; have HB := n12_; clear n0_ n1_ n2_ n3_ n4_ n5_ n6_ n7_ n8_ n9_ n10_ n11_ n12_; (try clear hb); (try clear hkp); (try clear hy0)))
            (try simp only [Act.put, List.setIfInBounds_toArray, List.set_cons_zero, List.set_cons_succ])
            go_cut [63] (fun v63 wc => ∃ (kq : Nat) (x63_28 : Bool), v63 = .bool x63_28 ∧ Aside0 (laws_FnExactFsCrash.j0 kq l1 x63_28 l0_0 a0_1 a0_2 a0_3 a0_4 a0_5 t210 t213 t214 t215 t216 t217 t231 t234 t235 t236 t237 t238 = some r) ∧ Aside0 (kq ≤ k) ∧ Aside0 (Kd.R k58 58 wc w.heap.size (fun k_ => some k_ ≠ ((.slice Ao46 t219.length co46) : Value).ownBlock ∧ some k_ ≠ ((.slice Ao55 t231.length co55) : Value).ownBlock) (.slice Ao40 t210.length co40) t210) ∧ Aside0 (Kd.R k58 58 wc w.heap.size (fun k_ => some k_ ≠ ((.slice Ao40 t210.length co40) : Value).ownBlock ∧ some k_ ≠ ((.slice Ao55 t231.length co55) : Value).ownBlock) (.slice Ao46 t219.length co46) t255) ∧ Aside0 (Kd.R k58 58 wc w.heap.size (fun k_ => some k_ ≠ ((.slice Ao40 t210.length co40) : Value).ownBlock ∧ some k_ ≠ ((.slice Ao46 t219.length co46) : Value).ownBlock) (.slice Ao55 t231.length co55) t231) ∧ Aside0 (wc.heap[gb196]? = some (.cells #[(.slice A0_0 l0_0.length c0_0), .int .i64 a0_1, .int .i64 a0_2, .int .i64 a0_3, .int .i64 a0_4, .bool a0_5] 24 (0, 0))) ∧ Aside0 (wc.heap[gb218]? = some (.cells #[(.slice Ao40 t210.length co40), .int .i64 t213, .int .i64 t214, .int .i64 t215, .int .i64 t216, .bool t217] 30 (0, 0))) ∧ Aside0 (wc.heap[gb227]? = some (.cells #[(.slice Ao46 t219.length co46), .int .i64 t222, .int .i64 t223, .int .i64 t224, .int .i64 t225, .bool t226] 30 (0, 0))) ∧ Aside0 (wc.heap[gb239]? = some (.cells #[(.slice Ao55 t231.length co55), .int .i64 t234, .int .i64 t235, .int .i64 t236, .int .i64 t237, .bool t238] 30 (0, 0))) ∧ Aside0 (Below w.heap.size w wc))
            case first =>
              have H := HC29.out
              clear HC29
              by_cases c71 : t256 < 0
              · rw [if_pos c71] at H
                have c71b0 : decide (t256 < 0) = true := decide_eq_true c71
                clear c71
                (first | rw [c71b0] | (simp only [i64_w, i32_w]; rw [c71b0]) | skip)
                have H' := Aside0.mk H
                clear H
                go_wp2
                go_meet
                case rel => exact ⟨_, (true), (by first | rfl | (simp; done) | (simp [*]; done)), H', ⟨by first | omega | exact Nat.le_refl _⟩, ⟨by (with_reducible repeat (first | apply Kd.R_alloc | apply Kd.R_drewN | apply Kd.R_drew)); exact Kd.R_mono HO212.out (fun _ hk => by first | exact ⟨hk.2.1, hk.2.2.1⟩ | exact ⟨hk.1.2, hk.2⟩ | exact ⟨hk.1.1, hk.2⟩ | exact ⟨hk.1.1, hk.1.2⟩ | exact ⟨hk.2, hk.1.1⟩ | exact ⟨hk.1.2, hk.1.1⟩ | exact ⟨hk.2, hk.1.2⟩)⟩, ⟨by (with_reducible repeat (first | apply Kd.R_alloc | apply Kd.R_drewN | apply Kd.R_drew)); exact Kd.R_mono HO221.out (fun _ hk => by first | exact ⟨hk.2.1, hk.2.2.1⟩ | exact ⟨hk.1.2, hk.2⟩ | exact ⟨hk.1.1, hk.2⟩ | exact ⟨hk.1.1, hk.1.2⟩ | exact ⟨hk.2, hk.1.1⟩ | exact ⟨hk.1.2, hk.1.1⟩ | exact ⟨hk.2, hk.1.2⟩)⟩, ⟨by (with_reducible repeat (first | apply Kd.R_alloc | apply Kd.R_drewN | apply Kd.R_drew)); exact Kd.R_mono HO233.out (fun _ hk => by first | exact ⟨hk.2.1, hk.2.2.1⟩ | exact ⟨hk.1.2, hk.2⟩ | exact ⟨hk.1.1, hk.2⟩ | exact ⟨hk.1.1, hk.1.2⟩ | exact ⟨hk.2, hk.1.1⟩ | exact ⟨hk.1.2, hk.1.1⟩ | exact ⟨hk.2, hk.1.2⟩)⟩, ⟨by (with_reducible repeat (first | refine blk_drewN ?_ _ | refine blk_drew ?_ | refine blk_alloc ?_ _)); exact BK196.out⟩, ⟨by (with_reducible repeat (first | refine blk_drewN ?_ _ | refine blk_drew ?_ | refine blk_alloc ?_ _)); exact BK218.out⟩, ⟨by (with_reducible repeat (first | refine blk_drewN ?_ _ | refine blk_drew ?_ | refine blk_alloc ?_ _)); exact BK227.out⟩, ⟨by (with_reducible repeat (first | refine blk_drewN ?_ _ | refine blk_drew ?_ | refine blk_alloc ?_ _)); exact BK239.out⟩, ⟨by repeat (first | (with_reducible first | exact HB.out | apply below_alloc | apply pw_below_drewN | apply below_drew1 | refine below_set ?_ GE196.out | refine below_set ?_ GE218.out | refine below_set ?_ GE227.out | refine below_set ?_ GE239.out) | exact HB.out)⟩⟩
              · rw [if_neg c71] at H
                have c71b0 : decide (t256 < 0) = false := decide_eq_false c71
                clear c71
                (first | rw [c71b0] | (simp only [i64_w, i32_w]; rw [c71b0]) | skip)
                replace H := Option.bind_eq_some_iff.mp H
                obtain ⟨t258, A720, H⟩ := H
                replace H : (laws_FnExactFsCrash.j0 k l1 (!t258) l0_0 a0_1 a0_2 a0_3 a0_4 a0_5 t210 t213 t214 t215 t216 t217 t231 t234 t235 t236 t237 t238) = some r := H
                have A72 := Aside0.mk A720
                clear A720
                have H' := Aside0.mk H
                clear H
                have hnb73 := NB239_196.out
                have hnc73 := NB196_239.out
                have hnb74 := NB239_218.out
                have hnc74 := NB218_239.out
                have hnb75 := NB239_227.out
                have hnc75 := NB227_239.out
                have hcz76_0 : w70.cell? ⟨gb239, 0, none⟩ = some (.slice Ao55 t231.length co55) := (blk_cell BK239.out 0).trans rfl
                have hcz76_1 : w70.cell? ⟨gb239, 1, none⟩ = some (.int .i64 t234) := (blk_cell BK239.out 1).trans rfl
                have hcz76_2 : w70.cell? ⟨gb239, 2, none⟩ = some (.int .i64 t235) := (blk_cell BK239.out 2).trans rfl
                have hcz76_3 : w70.cell? ⟨gb239, 3, none⟩ = some (.int .i64 t236) := (blk_cell BK239.out 3).trans rfl
                have hcz76_4 : w70.cell? ⟨gb239, 4, none⟩ = some (.int .i64 t237) := (blk_cell BK239.out 4).trans rfl
                have hcz76_5 : w70.cell? ⟨gb239, 5, none⟩ = some (.bool t238) := (blk_cell BK239.out 5).trans rfl
                have hfz76_0 := blk_frozen BK239.out 0
                have hfz76_1 := blk_frozen BK239.out 1
                have hfz76_2 := blk_frozen BK239.out 2
                have hfz76_3 := blk_frozen BK239.out 3
                have hfz76_4 := blk_frozen BK239.out 4
                have hfz76_5 := blk_frozen BK239.out 5
                have hnb77 := NB218_196.out
                have hnc77 := NB196_218.out
                have hnb78 := NB218_227.out
                have hnc78 := NB227_218.out
                have hcz79_0 : w70.cell? ⟨gb218, 0, none⟩ = some (.slice Ao40 t210.length co40) := (blk_cell BK218.out 0).trans rfl
                have hcz79_1 : w70.cell? ⟨gb218, 1, none⟩ = some (.int .i64 t213) := (blk_cell BK218.out 1).trans rfl
                have hcz79_2 : w70.cell? ⟨gb218, 2, none⟩ = some (.int .i64 t214) := (blk_cell BK218.out 2).trans rfl
                have hcz79_3 : w70.cell? ⟨gb218, 3, none⟩ = some (.int .i64 t215) := (blk_cell BK218.out 3).trans rfl
                have hcz79_4 : w70.cell? ⟨gb218, 4, none⟩ = some (.int .i64 t216) := (blk_cell BK218.out 4).trans rfl
                have hcz79_5 : w70.cell? ⟨gb218, 5, none⟩ = some (.bool t217) := (blk_cell BK218.out 5).trans rfl
                have hfz79_0 := blk_frozen BK218.out 0
                have hfz79_1 := blk_frozen BK218.out 1
                have hfz79_2 := blk_frozen BK218.out 2
                have hfz79_3 := blk_frozen BK218.out 3
                have hfz79_4 := blk_frozen BK218.out 4
                have hfz79_5 := blk_frozen BK218.out 5
                go_wp2_with (first | (go_at_call 13; (with_reducible refine (laws_eqFs.calls k _ _ t231 t234 t235 t236 t237 t238 _ _ t210 t213 t214 t215 t216 t217 t258 _ ?side1 ?side2 ?side3 ?side4 A72.out).mono ?_); (case side1 => repeat (first | exact (Kd.R_reads' HO233.out).2.2 | (with_reducible refine Kd.C_alloc ?_ _) | (with_reducible refine Kd.C_drewN ?_ _) | (with_reducible refine Kd.C_drew ?_))); (case side2 => exact (Kd.R_reads' HO233.out).2.1); (case side3 => repeat (first | exact (Kd.R_reads' HO212.out).2.2 | (with_reducible refine Kd.C_alloc ?_ _) | (with_reducible refine Kd.C_drewN ?_ _) | (with_reducible refine Kd.C_drew ?_))); (case side4 => exact (Kd.R_reads' HO212.out).2.1); rintro e w80 ⟨rfl, hb⟩; have n0_ := Aside0.mk (Kd.R_below (by (with_reducible repeat (first | apply Kd.R_alloc | apply Kd.R_drewN | apply Kd.R_drew)); exact HO201.out) hb); have n1_ := Aside0.mk (Kd.R_below (by (with_reducible repeat (first | apply Kd.R_alloc | apply Kd.R_drewN | apply Kd.R_drew)); exact HO209.out) hb); have n2_ := Aside0.mk (Kd.R_below (by (with_reducible repeat (first | apply Kd.R_alloc | apply Kd.R_drewN | apply Kd.R_drew)); exact HO212.out) hb); have n3_ := Aside0.mk (Kd.R_below (by (with_reducible repeat (first | apply Kd.R_alloc | apply Kd.R_drewN | apply Kd.R_drew)); exact HO221.out) hb); have n4_ := Aside0.mk (Kd.R_below (by (with_reducible repeat (first | apply Kd.R_alloc | apply Kd.R_drewN | apply Kd.R_drew)); exact HO230.out) hb); have n5_ := Aside0.mk (Kd.R_below (by (with_reducible repeat (first | apply Kd.R_alloc | apply Kd.R_drewN | apply Kd.R_drew)); exact HO233.out) hb); have n6_ := Aside0.mk (Kd.R_below (by (with_reducible repeat (first | apply Kd.R_alloc | apply Kd.R_drewN | apply Kd.R_drew)); exact HO243.out) hb); have n7_ := Aside0.mk (Kd.R_below (by (with_reducible repeat (first | apply Kd.R_alloc | apply Kd.R_drewN | apply Kd.R_drew)); exact HO252.out) hb); have n8_ := Aside0.mk (blk_below (g := gb196) (o := .cells #[.slice A0_0 l0_0.length c0_0, .int .i64 a0_1, .int .i64 a0_2, .int .i64 a0_3, .int .i64 a0_4, .bool a0_5] 24 (0, 0)) (by (with_reducible repeat (first | refine blk_drewN ?_ _ | refine blk_drew ?_ | refine blk_alloc ?_ _)); exact BK196.out) hb); have n9_ := Aside0.mk (blk_below (g := gb218) (o := .cells #[.slice Ao40 t210.length co40, .int .i64 t213, .int .i64 t214, .int .i64 t215, .int .i64 t216, .bool t217] 30 (0, 0)) (by (with_reducible repeat (first | refine blk_drewN ?_ _ | refine blk_drew ?_ | refine blk_alloc ?_ _)); exact BK218.out) hb); have n10_ := Aside0.mk (blk_below (g := gb227) (o := .cells #[.slice Ao46 t219.length co46, .int .i64 t222, .int .i64 t223, .int .i64 t224, .int .i64 t225, .bool t226] 30 (0, 0)) (by (with_reducible repeat (first | refine blk_drewN ?_ _ | refine blk_drew ?_ | refine blk_alloc ?_ _)); exact BK227.out) hb); have n11_ := Aside0.mk (blk_below (g := gb239) (o := .cells #[.slice Ao55 t231.length co55, .int .i64 t234, .int .i64 t235, .int .i64 t236, .int .i64 t237, .bool t238] 30 (0, 0)) (by (with_reducible repeat (first | refine blk_drewN ?_ _ | refine blk_drew ?_ | refine blk_alloc ?_ _)); exact BK239.out) hb); have n12_ := Aside0.mk (below_step (by repeat (first | (with_reducible first | exact HB.out | apply below_alloc | apply pw_below_drewN | apply below_drew1 | refine below_set ?_ GE196.out | refine below_set ?_ GE218.out | refine below_set ?_ GE227.out | refine below_set ?_ GE239.out) | exact HB.out)) hb); clear HO201; clear HO209; clear HO212; clear HO221; clear HO230; clear HO233; clear HO243; clear HO252; clear BK196; clear BK218; clear BK227; clear BK239; clear HB; have HO201 := n0_; have HO209 := n1_; have HO212 := n2_; have HO221 := n3_; have HO230 := n4_; have HO233 := n5_; have HO243 := n6_; have HO252 := n7_; have BK196 := n8_; have BK218 := n9_; have BK227 := n10_; have BK239 := n11_; have HB := n12_; clear n0_ n1_ n2_ n3_ n4_ n5_ n6_ n7_ n8_ n9_ n10_ n11_ n12_; (try clear hb); (try clear hb2); (try clear hk); (try clear hi)))
                go_meet
                case rel => exact ⟨_, (!t258), (by first | rfl | (simp; done) | (simp [*]; done)), H', ⟨by first | omega | exact Nat.le_refl _⟩, ⟨by (with_reducible repeat (first | apply Kd.R_alloc | apply Kd.R_drewN | apply Kd.R_drew)); exact Kd.R_mono HO212.out (fun _ hk => by first | exact ⟨hk.2.1, hk.2.2.1⟩ | exact ⟨hk.1.2, hk.2⟩ | exact ⟨hk.1.1, hk.2⟩ | exact ⟨hk.1.1, hk.1.2⟩ | exact ⟨hk.2, hk.1.1⟩ | exact ⟨hk.1.2, hk.1.1⟩ | exact ⟨hk.2, hk.1.2⟩)⟩, ⟨by (with_reducible repeat (first | apply Kd.R_alloc | apply Kd.R_drewN | apply Kd.R_drew)); exact Kd.R_mono HO221.out (fun _ hk => by first | exact ⟨hk.2.1, hk.2.2.1⟩ | exact ⟨hk.1.2, hk.2⟩ | exact ⟨hk.1.1, hk.2⟩ | exact ⟨hk.1.1, hk.1.2⟩ | exact ⟨hk.2, hk.1.1⟩ | exact ⟨hk.1.2, hk.1.1⟩ | exact ⟨hk.2, hk.1.2⟩)⟩, ⟨by (with_reducible repeat (first | apply Kd.R_alloc | apply Kd.R_drewN | apply Kd.R_drew)); exact Kd.R_mono HO233.out (fun _ hk => by first | exact ⟨hk.2.1, hk.2.2.1⟩ | exact ⟨hk.1.2, hk.2⟩ | exact ⟨hk.1.1, hk.2⟩ | exact ⟨hk.1.1, hk.1.2⟩ | exact ⟨hk.2, hk.1.1⟩ | exact ⟨hk.1.2, hk.1.1⟩ | exact ⟨hk.2, hk.1.2⟩)⟩, ⟨by (with_reducible repeat (first | refine blk_drewN ?_ _ | refine blk_drew ?_ | refine blk_alloc ?_ _)); exact BK196.out⟩, ⟨by (with_reducible repeat (first | refine blk_drewN ?_ _ | refine blk_drew ?_ | refine blk_alloc ?_ _)); exact BK218.out⟩, ⟨by (with_reducible repeat (first | refine blk_drewN ?_ _ | refine blk_drew ?_ | refine blk_alloc ?_ _)); exact BK227.out⟩, ⟨by (with_reducible repeat (first | refine blk_drewN ?_ _ | refine blk_drew ?_ | refine blk_alloc ?_ _)); exact BK239.out⟩, ⟨by repeat (first | (with_reducible first | exact HB.out | apply below_alloc | apply pw_below_drewN | apply below_drew1 | refine below_set ?_ GE196.out | refine below_set ?_ GE218.out | refine below_set ?_ GE227.out | refine below_set ?_ GE239.out) | exact HB.out)⟩⟩
            case rest =>
              clear HC29
              try clear c1
              try clear c2
              try clear p2
              try clear c3
              try clear c4
              try clear c4b0
              try clear c5
              try clear c7
              try clear c8
              try clear c9
              try clear c9b0
              try clear c10
              try clear c11
              try clear c12
              try clear c13
              try clear c14
              try clear c15
              try clear c16
              try clear c20
              try clear c23
              try clear c26
              try clear c41
              try clear c47
              try clear c48
              try clear c56
              try clear c57
              try clear c58
              try clear c71
              try clear c71b0
              try clear c73
              try clear c74
              try clear c75
              try clear c77
              try clear c78
              try clear hcz11_0
              try clear hcz11_1
              try clear hcz11_2
              try clear hcz11_3
              try clear hcz11_4
              try clear hcz11_5
              try clear hcz31_0
              try clear hcz31_1
              try clear hcz31_2
              try clear hcz31_3
              try clear hcz31_4
              try clear hcz31_5
              try clear hcz33_0
              try clear hcz33_1
              try clear hcz33_2
              try clear hcz33_3
              try clear hcz33_4
              try clear hcz33_5
              try clear hcz42_0
              try clear hcz42_1
              try clear hcz42_2
              try clear hcz42_3
              try clear hcz42_4
              try clear hcz42_5
              try clear hcz43_0
              try clear hcz43_1
              try clear hcz43_2
              try clear hcz43_3
              try clear hcz43_4
              try clear hcz43_5
              try clear hcz49_0
              try clear hcz49_1
              try clear hcz49_2
              try clear hcz49_3
              try clear hcz49_4
              try clear hcz49_5
              try clear hcz51_0
              try clear hcz51_1
              try clear hcz51_2
              try clear hcz51_3
              try clear hcz51_4
              try clear hcz51_5
              try clear hcz59_0
              try clear hcz59_1
              try clear hcz59_2
              try clear hcz59_3
              try clear hcz59_4
              try clear hcz59_5
              try clear hcz60_0
              try clear hcz60_1
              try clear hcz60_2
              try clear hcz60_3
              try clear hcz60_4
              try clear hcz60_5
              try clear hcz68_0
              try clear hcz68_1
              try clear hcz68_2
              try clear hcz68_3
              try clear hcz68_4
              try clear hcz68_5
              try clear hcz6_0
              try clear hcz6_1
              try clear hcz6_2
              try clear hcz6_3
              try clear hcz6_4
              try clear hcz6_5
              try clear hcz76_0
              try clear hcz76_1
              try clear hcz76_2
              try clear hcz76_3
              try clear hcz76_4
              try clear hcz76_5
              try clear hcz79_0
              try clear hcz79_1
              try clear hcz79_2
              try clear hcz79_3
              try clear hcz79_4
              try clear hcz79_5
              try clear hfz11_0
              try clear hfz11_1
              try clear hfz11_2
              try clear hfz11_3
              try clear hfz11_4
              try clear hfz11_5
              try clear hfz31_0
              try clear hfz31_1
              try clear hfz31_2
              try clear hfz31_3
              try clear hfz31_4
              try clear hfz31_5
              try clear hfz33_0
              try clear hfz33_1
              try clear hfz33_2
              try clear hfz33_3
              try clear hfz33_4
              try clear hfz33_5
              try clear hfz42_0
              try clear hfz42_1
              try clear hfz42_2
              try clear hfz42_3
              try clear hfz42_4
              try clear hfz42_5
              try clear hfz43_0
              try clear hfz43_1
              try clear hfz43_2
              try clear hfz43_3
              try clear hfz43_4
              try clear hfz43_5
              try clear hfz49_0
              try clear hfz49_1
              try clear hfz49_2
              try clear hfz49_3
              try clear hfz49_4
              try clear hfz49_5
              try clear hfz51_0
              try clear hfz51_1
              try clear hfz51_2
              try clear hfz51_3
              try clear hfz51_4
              try clear hfz51_5
              try clear hfz59_0
              try clear hfz59_1
              try clear hfz59_2
              try clear hfz59_3
              try clear hfz59_4
              try clear hfz59_5
              try clear hfz60_0
              try clear hfz60_1
              try clear hfz60_2
              try clear hfz60_3
              try clear hfz60_4
              try clear hfz60_5
              try clear hfz68_0
              try clear hfz68_1
              try clear hfz68_2
              try clear hfz68_3
              try clear hfz68_4
              try clear hfz68_5
              try clear hfz6_0
              try clear hfz6_1
              try clear hfz6_2
              try clear hfz6_3
              try clear hfz6_4
              try clear hfz6_5
              try clear hfz76_0
              try clear hfz76_1
              try clear hfz76_2
              try clear hfz76_3
              try clear hfz76_4
              try clear hfz76_5
              try clear hfz79_0
              try clear hfz79_1
              try clear hfz79_2
              try clear hfz79_3
              try clear hfz79_4
              try clear hfz79_5
              obtain ⟨kq, x63_28, rfl, HA, HJ28, HO_219000, HO_228000, HO_240000, BK196, BK218, BK227, BK239, HB⟩ := hcut
              have hl228000_28 := (Kd.R_reads' HO_228000.out).1
              rw [hl228000_28] at HO_228000
              (try simp only [hl228000_28])
              (try simp only [hl228000_28] at BK196)
              (try simp only [hl228000_28] at BK218)
              (try simp only [hl228000_28] at BK227)
              (try simp only [hl228000_28] at BK239)
              (try simp only [hl228000_28] at HO_219000)
              (try simp only [hl228000_28] at HO_240000)
              cases kq with
              | zero => exact absurd HA.out (by simp [laws_FnExactFsCrash.j0])
              | succ kj28 =>
                have H := HA.out
                clear HA
                simp only [laws_FnExactFsCrash.j0] at H
                by_cases c81 : x63_28 = true
                · subst c81
                  have H1 : (some false) = some r := by rw [if_pos rfl] at H; exact H
                  clear H
                  have H := H1
                  clear H1
                  subst hT
                  cases H
                · replace c81 := Bool.eq_false_iff.mpr c81
                  subst c81
                  have H1 : ((laws_markFs.f kj28 t231 t234 t235 t236 t237 t238 1).bind fun bt259 => ((laws_heldFs.f kj28 bt259.2 t234 t235 t236 t237 t238 1).bind fun t261 => (if t261 < 0 then (some false) else (if t261 = bt259.1 then ((laws_toFs.f kj28 l0_0 a0_1 a0_2 a0_3 a0_4 a0_5).bind fun bt262 => ((laws_toStringS.f kj28 l1).bind fun t270 => ((impl_FsCrash.f kj28 bt262.1 bt262.2.1 bt262.2.2.1 bt262.2.2.2.1 bt262.2.2.2.2.1 bt262.2.2.2.2.2 t270).bind fun bt273 => ((laws_eqFs.f kj28 bt273.1 bt273.2.1 bt273.2.2.1 bt273.2.2.2.1 bt273.2.2.2.2.1 bt273.2.2.2.2.2 t210 t213 t214 t215 t216 t217).bind fun t282 => (if t282 = true then ((laws_heldFs.f kj28 bt259.2 t234 t235 t236 t237 t238 1).bind fun t283 => (if t283 < 0 then (some false) else (if t283 = bt259.1 then (some true) else (some false)))) else (some false)))))) else (some false))))) = some r := by rw [if_neg (show ¬ (false = true) by decide)] at H; exact H
                  clear H
                  have H := H1
                  clear H1
                  replace H := Option.bind_eq_some_iff.mp H
                  obtain ⟨⟨t259, t260⟩, A820, H⟩ := H
                  replace H : ((laws_heldFs.f kj28 t260 t234 t235 t236 t237 t238 1).bind fun t261 => (if t261 < 0 then (some false) else (if t261 = t259 then ((laws_toFs.f kj28 l0_0 a0_1 a0_2 a0_3 a0_4 a0_5).bind fun bt262 => ((laws_toStringS.f kj28 l1).bind fun t270 => ((impl_FsCrash.f kj28 bt262.1 bt262.2.1 bt262.2.2.1 bt262.2.2.2.1 bt262.2.2.2.2.1 bt262.2.2.2.2.2 t270).bind fun bt273 => ((laws_eqFs.f kj28 bt273.1 bt273.2.1 bt273.2.2.1 bt273.2.2.2.1 bt273.2.2.2.2.1 bt273.2.2.2.2.2 t210 t213 t214 t215 t216 t217).bind fun t282 => (if t282 = true then ((laws_heldFs.f kj28 t260 t234 t235 t236 t237 t238 1).bind fun t283 => (if t283 < 0 then (some false) else (if t283 = t259 then (some true) else (some false)))) else (some false)))))) else (some false)))) = some r := H
                  have A82 := Aside0.mk A820
                  clear A820
                  replace H := Option.bind_eq_some_iff.mp H
                  obtain ⟨t261, A830, H⟩ := H
                  replace H : (if t261 < 0 then (some false) else (if t261 = t259 then ((laws_toFs.f kj28 l0_0 a0_1 a0_2 a0_3 a0_4 a0_5).bind fun bt262 => ((laws_toStringS.f kj28 l1).bind fun t270 => ((impl_FsCrash.f kj28 bt262.1 bt262.2.1 bt262.2.2.1 bt262.2.2.2.1 bt262.2.2.2.2.1 bt262.2.2.2.2.2 t270).bind fun bt273 => ((laws_eqFs.f kj28 bt273.1 bt273.2.1 bt273.2.2.1 bt273.2.2.2.1 bt273.2.2.2.2.1 bt273.2.2.2.2.2 t210 t213 t214 t215 t216 t217).bind fun t282 => (if t282 = true then ((laws_heldFs.f kj28 t260 t234 t235 t236 t237 t238 1).bind fun t283 => (if t283 < 0 then (some false) else (if t283 = t259 then (some true) else (some false)))) else (some false)))))) else (some false))) = some r := H
                  have A83 := Aside0.mk A830
                  clear A830
                  by_cases c84 : t261 < 0
                  · rw [if_pos c84] at H
                    have c84b0 : decide (t261 < 0) = true := decide_eq_true c84
                    clear c84
                    subst hT
                    cases H
                  · rw [if_neg c84] at H
                    have c84b0 : decide (t261 < 0) = false := decide_eq_false c84
                    clear c84
                    by_cases c92 : t261 = t259
                    · rw [if_pos c92] at H
                      have c92b0 : (t261 == t259) = true := beq_iff_eq.mpr c92
                      have c92b1 : (t261 != t259) = false := bne_eq_false_iff_eq.mpr c92
                      clear c92
                      replace H := Option.bind_eq_some_iff.mp H
                      obtain ⟨⟨t262, t265, t266, t267, t268, t269⟩, A930, H⟩ := H
                      replace H : ((laws_toStringS.f kj28 l1).bind fun t270 => ((impl_FsCrash.f kj28 t262 t265 t266 t267 t268 t269 t270).bind fun bt273 => ((laws_eqFs.f kj28 bt273.1 bt273.2.1 bt273.2.2.1 bt273.2.2.2.1 bt273.2.2.2.2.1 bt273.2.2.2.2.2 t210 t213 t214 t215 t216 t217).bind fun t282 => (if t282 = true then ((laws_heldFs.f kj28 t260 t234 t235 t236 t237 t238 1).bind fun t283 => (if t283 < 0 then (some false) else (if t283 = t259 then (some true) else (some false)))) else (some false))))) = some r := H
                      have A93 := Aside0.mk A930
                      clear A930
                      replace H := Option.bind_eq_some_iff.mp H
                      obtain ⟨t270, A940, H⟩ := H
                      replace H : ((impl_FsCrash.f kj28 t262 t265 t266 t267 t268 t269 t270).bind fun bt273 => ((laws_eqFs.f kj28 bt273.1 bt273.2.1 bt273.2.2.1 bt273.2.2.2.1 bt273.2.2.2.2.1 bt273.2.2.2.2.2 t210 t213 t214 t215 t216 t217).bind fun t282 => (if t282 = true then ((laws_heldFs.f kj28 t260 t234 t235 t236 t237 t238 1).bind fun t283 => (if t283 < 0 then (some false) else (if t283 = t259 then (some true) else (some false)))) else (some false)))) = some r := H
                      have A94 := Aside0.mk A940
                      clear A940
                      replace H := Option.bind_eq_some_iff.mp H
                      obtain ⟨⟨t273, t276, t277, t278, t279, t280⟩, A950, H⟩ := H
                      replace H : ((laws_eqFs.f kj28 t273 t276 t277 t278 t279 t280 t210 t213 t214 t215 t216 t217).bind fun t282 => (if t282 = true then ((laws_heldFs.f kj28 t260 t234 t235 t236 t237 t238 1).bind fun t283 => (if t283 < 0 then (some false) else (if t283 = t259 then (some true) else (some false)))) else (some false))) = some r := H
                      have A95 := Aside0.mk A950
                      clear A950
                      replace H := Option.bind_eq_some_iff.mp H
                      obtain ⟨t282, A960, H⟩ := H
                      replace H : (if t282 = true then ((laws_heldFs.f kj28 t260 t234 t235 t236 t237 t238 1).bind fun t283 => (if t283 < 0 then (some false) else (if t283 = t259 then (some true) else (some false)))) else (some false)) = some r := H
                      have A96 := Aside0.mk A960
                      clear A960
                      by_cases c97 : t282 = true
                      · subst c97
                        have H1 : ((laws_heldFs.f kj28 t260 t234 t235 t236 t237 t238 1).bind fun t283 => (if t283 < 0 then (some false) else (if t283 = t259 then (some true) else (some false)))) = some r := by rw [if_pos rfl] at H; exact H
                        clear H
                        have H := H1
                        clear H1
                        replace H := Option.bind_eq_some_iff.mp H
                        obtain ⟨t283, A980, H⟩ := H
                        replace H : (if t283 < 0 then (some false) else (if t283 = t259 then (some true) else (some false))) = some r := H
                        have A98 := Aside0.mk A980
                        clear A980
                        by_cases c99 : t283 < 0
                        · rw [if_pos c99] at H
                          have c99b0 : decide (t283 < 0) = true := decide_eq_true c99
                          clear c99
                          subst hT
                          cases H
                        · rw [if_neg c99] at H
                          have c99b0 : decide (t283 < 0) = false := decide_eq_false c99
                          clear c99
                          by_cases c127 : t283 = t259
                          · rw [if_pos c127] at H
                            have c127b0 : (t283 == t259) = true := beq_iff_eq.mpr c127
                            have c127b1 : (t283 != t259) = false := bne_eq_false_iff_eq.mpr c127
                            clear c127
                            obtain rfl := Option.some.inj H
                            have hnb128 := NB239_196.out
                            have hnc128 := NB196_239.out
                            have hnb129 := NB239_218.out
                            have hnc129 := NB218_239.out
                            have hnb130 := NB239_227.out
                            have hnc130 := NB227_239.out
                            have hcz131_0 : wc.cell? ⟨gb239, 0, none⟩ = some (.slice Ao55 t231.length co55) := (blk_cell BK239.out 0).trans rfl
                            have hcz131_1 : wc.cell? ⟨gb239, 1, none⟩ = some (.int .i64 t234) := (blk_cell BK239.out 1).trans rfl
                            have hcz131_2 : wc.cell? ⟨gb239, 2, none⟩ = some (.int .i64 t235) := (blk_cell BK239.out 2).trans rfl
                            have hcz131_3 : wc.cell? ⟨gb239, 3, none⟩ = some (.int .i64 t236) := (blk_cell BK239.out 3).trans rfl
                            have hcz131_4 : wc.cell? ⟨gb239, 4, none⟩ = some (.int .i64 t237) := (blk_cell BK239.out 4).trans rfl
                            have hcz131_5 : wc.cell? ⟨gb239, 5, none⟩ = some (.bool t238) := (blk_cell BK239.out 5).trans rfl
                            have hfz131_0 := blk_frozen BK239.out 0
                            have hfz131_1 := blk_frozen BK239.out 1
                            have hfz131_2 := blk_frozen BK239.out 2
                            have hfz131_3 := blk_frozen BK239.out 3
                            have hfz131_4 := blk_frozen BK239.out 4
                            have hfz131_5 := blk_frozen BK239.out 5
                            go_wp2_with (first | ((with_reducible refine gate_callee (f := 15) rfl ?_); refine goesL_ (some 66) rfl rfl Try.func15 (by kernel_rfl) rfl #[.agg #[.slice Ao55 t231.length co55, .int .i64 t234, .int .i64 t235, .int .i64 t236, .int .i64 t237, .bool t238], .int .i64 1] rfl (by (try simp only [List.map_toArray, List.map_cons, List.map_nil]); first | done | rfl | (simp only [List.length_drop, List.length_take]; rfl)) ?_; (with_reducible refine (laws_markFs.calls kj28 (fun k_ => some k_ = (.slice Ao55 t231.length co55 : Value).ownBlock) (.slice Ao55 t231.length co55) t231 t234 t235 t236 t237 t238 1 t259 t260 w _ ?side1 ?side2 A82.out).mono ?_); (case side1 => repeat (first | (with_reducible first | exact HB.out | apply below_alloc | apply pw_below_drewN | apply below_drew1 | refine below_set ?_ GE196.out | refine below_set ?_ GE218.out | refine below_set ?_ GE227.out | refine below_set ?_ GE239.out) | exact HB.out)); (case side2 => exact Kd.R_tight rfl HO_240000.out); rintro e w132 ⟨rfl, hy0, hb, hkp⟩; refine ⟨_, rfl, ?_⟩; have n0_ := Aside0.mk (Kd.R_mono (ok' := fun k_ => some k_ ≠ (.slice Ao46 t255.length co46 : Value).ownBlock ∧ some k_ ≠ (.slice Ao55 t231.length co55 : Value).ownBlock) (Kd.R_keptB (HO_219000.out) hkp (fun k_ hk_ hs_ => (hk_.2) hs_)) (fun k_ hk_ => ⟨hk_.1.1, hk_.1.2⟩)); have n1_ := Aside0.mk (Kd.R_mono (ok' := fun k_ => some k_ ≠ (.slice Ao40 t210.length co40 : Value).ownBlock ∧ some k_ ≠ (.slice Ao55 t231.length co55 : Value).ownBlock) (Kd.R_keptB (HO_228000.out) hkp (fun k_ hk_ hs_ => (hk_.2) hs_)) (fun k_ hk_ => ⟨hk_.1.1, hk_.1.2⟩)); have n2_ := Aside0.mk (Kd.R_reok rfl hy0 (fun k_ e_ => HO_240000.out.1 k_ e_)); have n3_ := Aside0.mk (blk_kept (g := gb196) BK196.out hkp (fun hs_ => Kd.R_ne HO_240000.out BK196.out (by decide) hs_)); have n4_ := Aside0.mk (blk_kept (g := gb218) BK218.out hkp (fun hs_ => Kd.R_ne HO_240000.out BK218.out (by decide) hs_)); have n5_ := Aside0.mk (blk_kept (g := gb227) BK227.out hkp (fun hs_ => Kd.R_ne HO_240000.out BK227.out (by decide) hs_)); have n6_ := Aside0.mk (blk_kept (g := gb239) BK239.out hkp (fun hs_ => Kd.R_ne HO_240000.out BK239.out (by decide) hs_)); have n7_ := Aside0.mk (hb); clear HO_219000; clear HO_228000; clear HO_240000; clear BK196; clear BK218; clear BK227; clear BK239; clear HB; have HO_219000 := n0_; have HO_228000 := n1_; have HO_240000 := n2_; have BK196 := n3_; have BK218 := n4_; have BK227 := n5_; have BK239 := n6_; have HB := n7_; clear n0_ n1_ n2_ n3_ n4_ n5_ n6_ n7_; (try clear hb); (try clear hkp); (try clear hy0); have hcz133_0 : w132.cell? ⟨gb239, 0, none⟩ = some (.slice Ao55 t231.length co55) := (blk_cell BK239.out 0).trans rfl; have hcz133_1 : w132.cell? ⟨gb239, 1, none⟩ = some (.int .i64 t234) := (blk_cell BK239.out 1).trans rfl; have hcz133_2 : w132.cell? ⟨gb239, 2, none⟩ = some (.int .i64 t235) := (blk_cell BK239.out 2).trans rfl; have hcz133_3 : w132.cell? ⟨gb239, 3, none⟩ = some (.int .i64 t236) := (blk_cell BK239.out 3).trans rfl; have hcz133_4 : w132.cell? ⟨gb239, 4, none⟩ = some (.int .i64 t237) := (blk_cell BK239.out 4).trans rfl; have hcz133_5 : w132.cell? ⟨gb239, 5, none⟩ = some (.bool t238) := (blk_cell BK239.out 5).trans rfl; have hfz133_0 := blk_frozen BK239.out 0; have hfz133_1 := blk_frozen BK239.out 1; have hfz133_2 := blk_frozen BK239.out 2; have hfz133_3 := blk_frozen BK239.out 3; have hfz133_4 := blk_frozen BK239.out 4; have hfz133_5 := blk_frozen BK239.out 5) | ((with_reducible refine gate_callee (f := 17) rfl ?_); refine goesL_ (some 69) rfl rfl Try.func17 (by kernel_rfl) rfl #[.agg #[.slice Ao55 t260.length co55, .int .i64 t234, .int .i64 t235, .int .i64 t236, .int .i64 t237, .bool t238], .int .i64 1] rfl (by (try simp only [List.map_toArray, List.map_cons, List.map_nil]); first | done | (rw [show t260.length = t231.length from (Kd.R_reads' HO_240000.out).1.symm] <;> rfl) | rfl | (simp only [List.length_drop, List.length_take]; rfl)) ?_; (with_reducible refine (laws_heldFs.calls kj28 _ _ t260 t234 t235 t236 t237 t238 1 t261 _ ?side1 ?side2 A83.out).mono ?_); (case side1 => repeat (first | exact (Kd.R_reads' HO_240000.out).2.2 | (with_reducible refine Kd.C_alloc ?_ _) | (with_reducible refine Kd.C_drewN ?_ _) | (with_reducible refine Kd.C_drew ?_))); (case side2 => rw [show t260.length = t231.length from (Kd.R_reads' HO_240000.out).1.symm]; exact (Kd.R_reads' HO_240000.out).2.1); rintro e w134 ⟨rfl, hb⟩; refine ⟨_, rfl, ?_⟩; have n0_ := Aside0.mk (Kd.R_below (by (with_reducible repeat (first | apply Kd.R_alloc | apply Kd.R_drewN | apply Kd.R_drew)); exact HO_219000.out) hb); have n1_ := Aside0.mk (Kd.R_below (by (with_reducible repeat (first | apply Kd.R_alloc | apply Kd.R_drewN | apply Kd.R_drew)); exact HO_228000.out) hb); have n2_ := Aside0.mk (Kd.R_below (by (with_reducible repeat (first | apply Kd.R_alloc | apply Kd.R_drewN | apply Kd.R_drew)); exact HO_240000.out) hb); have n3_ := Aside0.mk (blk_below (g := gb196) (o := .cells #[.slice A0_0 l0_0.length c0_0, .int .i64 a0_1, .int .i64 a0_2, .int .i64 a0_3, .int .i64 a0_4, .bool a0_5] 24 (0, 0)) (by (with_reducible repeat (first | refine blk_drewN ?_ _ | refine blk_drew ?_ | refine blk_alloc ?_ _)); exact BK196.out) hb); have n4_ := Aside0.mk (blk_below (g := gb218) (o := .cells #[.slice Ao40 t210.length co40, .int .i64 t213, .int .i64 t214, .int .i64 t215, .int .i64 t216, .bool t217] 30 (0, 0)) (by (with_reducible repeat (first | refine blk_drewN ?_ _ | refine blk_drew ?_ | refine blk_alloc ?_ _)); exact BK218.out) hb); have n5_ := Aside0.mk (blk_below (g := gb227) (o := .cells #[.slice Ao46 t255.length co46, .int .i64 t222, .int .i64 t223, .int .i64 t224, .int .i64 t225, .bool t226] 30 (0, 0)) (by (with_reducible repeat (first | refine blk_drewN ?_ _ | refine blk_drew ?_ | refine blk_alloc ?_ _)); exact BK227.out) hb); have n6_ := Aside0.mk (blk_below (g := gb239) (o := .cells #[.slice Ao55 t231.length co55, .int .i64 t234, .int .i64 t235, .int .i64 t236, .int .i64 t237, .bool t238] 30 (0, 0)) (by (with_reducible repeat (first | refine blk_drewN ?_ _ | refine blk_drew ?_ | refine blk_alloc ?_ _)); exact BK239.out) hb); have n7_ := Aside0.mk (below_step (by repeat (first | (with_reducible first | exact HB.out | apply below_alloc | apply pw_below_drewN | apply below_drew1 | refine below_set ?_ GE196.out | refine below_set ?_ GE218.out | refine below_set ?_ GE227.out | refine below_set ?_ GE239.out) | exact HB.out)) hb); clear HO_219000; clear HO_228000; clear HO_240000; clear BK196; clear BK218; clear BK227; clear BK239; clear HB; have HO_219000 := n0_; have HO_228000 := n1_; have HO_240000 := n2_; have BK196 := n3_; have BK218 := n4_; have BK227 := n5_; have BK239 := n6_; have HB := n7_; clear n0_ n1_ n2_ n3_ n4_ n5_ n6_ n7_; (try clear hb); (try clear hb2); (try clear hk); (try clear hi); have hnb135 := NB196_218.out; have hnc135 := NB218_196.out; have hnb136 := NB196_227.out; have hnc136 := NB227_196.out; have hcz137_0 : w134.cell? ⟨gb196, 0, none⟩ = some (.slice A0_0 l0_0.length c0_0) := (blk_cell BK196.out 0).trans rfl; have hcz137_1 : w134.cell? ⟨gb196, 1, none⟩ = some (.int .i64 a0_1) := (blk_cell BK196.out 1).trans rfl; have hcz137_2 : w134.cell? ⟨gb196, 2, none⟩ = some (.int .i64 a0_2) := (blk_cell BK196.out 2).trans rfl; have hcz137_3 : w134.cell? ⟨gb196, 3, none⟩ = some (.int .i64 a0_3) := (blk_cell BK196.out 3).trans rfl; have hcz137_4 : w134.cell? ⟨gb196, 4, none⟩ = some (.int .i64 a0_4) := (blk_cell BK196.out 4).trans rfl; have hcz137_5 : w134.cell? ⟨gb196, 5, none⟩ = some (.bool a0_5) := (blk_cell BK196.out 5).trans rfl; have hfz137_0 := blk_frozen BK196.out 0; have hfz137_1 := blk_frozen BK196.out 1; have hfz137_2 := blk_frozen BK196.out 2; have hfz137_3 := blk_frozen BK196.out 3; have hfz137_4 := blk_frozen BK196.out 4; have hfz137_5 := blk_frozen BK196.out 5) | ((with_reducible refine gate_callee (f := 10) rfl ?_); refine goesL_ (some 76) rfl rfl Try.func10 (by kernel_rfl) rfl #[.agg #[.slice A0_0 l0_0.length c0_0, .int .i64 a0_1, .int .i64 a0_2, .int .i64 a0_3, .int .i64 a0_4, .bool a0_5]] rfl (by (try simp only [List.map_toArray, List.map_cons, List.map_nil]); first | done | rfl | (simp only [List.length_drop, List.length_take]; rfl)) ?_; (with_reducible refine (laws_toFs.calls kj28 _ _ l0_0 a0_1 a0_2 a0_3 a0_4 a0_5 t262 t265 t266 t267 t268 t269 _ ?side1 ?side2 A93.out).mono ?_); (case side1 => repeat (first | exact (Kd.C_below HR0_0.out HB.out) | (with_reducible refine Kd.C_alloc ?_ _) | (with_reducible refine Kd.C_drewN ?_ _) | (with_reducible refine Kd.C_drew ?_))); (case side2 => exact HC0_0.out); rintro e w138 ⟨v263, rfl, ho0, hb⟩; refine ⟨_, rfl, ?_⟩; have n0_ := Aside0.mk (Kd.R_elder' (by (with_reducible repeat (first | apply Kd.R_alloc | apply Kd.R_drewN | apply Kd.R_drew)); exact HO_219000.out) (Kd.R_base ho0) hb); have n1_ := Aside0.mk (Kd.R_elder' (by (with_reducible repeat (first | apply Kd.R_alloc | apply Kd.R_drewN | apply Kd.R_drew)); exact HO_228000.out) (Kd.R_base ho0) hb); have n2_ := Aside0.mk (Kd.R_elder' (by (with_reducible repeat (first | apply Kd.R_alloc | apply Kd.R_drewN | apply Kd.R_drew)); exact HO_240000.out) (Kd.R_base ho0) hb); have n3_ := Aside0.mk (Kd.R_lower (Kd.R_new' (Kd.R_new' (Kd.R_new' ho0 (Kd.R_lt (by (with_reducible repeat (first | apply Kd.R_alloc | apply Kd.R_drewN | apply Kd.R_drew)); exact HO_219000.out))) (Kd.R_lt (by (with_reducible repeat (first | apply Kd.R_alloc | apply Kd.R_drewN | apply Kd.R_drew)); exact HO_228000.out))) (Kd.R_lt (by (with_reducible repeat (first | apply Kd.R_alloc | apply Kd.R_drewN | apply Kd.R_drew)); exact HO_240000.out))) (below_size (by repeat (first | (with_reducible first | exact HB.out | apply below_alloc | apply pw_below_drewN | apply below_drew1 | refine below_set ?_ GE196.out | refine below_set ?_ GE218.out | refine below_set ?_ GE227.out | refine below_set ?_ GE239.out) | exact HB.out)))); have n4_ := Aside0.mk (blk_below (g := gb196) (o := .cells #[.slice A0_0 l0_0.length c0_0, .int .i64 a0_1, .int .i64 a0_2, .int .i64 a0_3, .int .i64 a0_4, .bool a0_5] 24 (0, 0)) (by (with_reducible repeat (first | refine blk_drewN ?_ _ | refine blk_drew ?_ | refine blk_alloc ?_ _)); exact BK196.out) hb); have n5_ := Aside0.mk (blk_below (g := gb218) (o := .cells #[.slice Ao40 t210.length co40, .int .i64 t213, .int .i64 t214, .int .i64 t215, .int .i64 t216, .bool t217] 30 (0, 0)) (by (with_reducible repeat (first | refine blk_drewN ?_ _ | refine blk_drew ?_ | refine blk_alloc ?_ _)); exact BK218.out) hb); have n6_ := Aside0.mk (blk_below (g := gb227) (o := .cells #[.slice Ao46 t255.length co46, .int .i64 t222, .int .i64 t223, .int .i64 t224, .int .i64 t225, .bool t226] 30 (0, 0)) (by (with_reducible repeat (first | refine blk_drewN ?_ _ | refine blk_drew ?_ | refine blk_alloc ?_ _)); exact BK227.out) hb); have n7_ := Aside0.mk (blk_below (g := gb239) (o := .cells #[.slice Ao55 t231.length co55, .int .i64 t234, .int .i64 t235, .int .i64 t236, .int .i64 t237, .bool t238] 30 (0, 0)) (by (with_reducible repeat (first | refine blk_drewN ?_ _ | refine blk_drew ?_ | refine blk_alloc ?_ _)); exact BK239.out) hb); have n8_ := Aside0.mk (below_step (by repeat (first | (with_reducible first | exact HB.out | apply below_alloc | apply pw_below_drewN | apply below_drew1 | refine below_set ?_ GE196.out | refine below_set ?_ GE218.out | refine below_set ?_ GE227.out | refine below_set ?_ GE239.out) | exact HB.out)) hb); clear HO_219000; clear HO_228000; clear HO_240000; clear BK196; clear BK218; clear BK227; clear BK239; clear HB; have HO_219000 := n0_; have HO_228000 := n1_; have HO_240000 := n2_; have HO264 := n3_; have BK196 := n4_; have BK218 := n5_; have BK227 := n6_; have BK239 := n7_; have HB := n8_; clear n0_ n1_ n2_ n3_ n4_ n5_ n6_ n7_ n8_; (try clear hb); (try clear hb2); (try clear hk); (try clear hi); (try clear ho0)) | ((with_reducible refine gate_callee (f := 11) rfl ?_); refine goesL_ (some 78) rfl rfl Try.func11 (by kernel_rfl) rfl #[.slice A1 l1.length c1] rfl (by (try simp only [List.map_toArray, List.map_cons, List.map_nil]); first | done | rfl | (simp only [List.length_drop, List.length_take]; rfl)) ?_; (with_reducible refine (laws_toStringS.calls kj28 _ _ l1 t270 _ ?side1 ?side2 A94.out).mono ?_); (case side1 => repeat (first | exact (Kd.C_below HR1.out HB.out) | (with_reducible refine Kd.C_alloc ?_ _) | (with_reducible refine Kd.C_drewN ?_ _) | (with_reducible refine Kd.C_drew ?_))); (case side2 => exact HC1.out); rintro e w139 ⟨v271, rfl, ho0, hb⟩; refine ⟨_, rfl, ?_⟩; have n0_ := Aside0.mk (Kd.R_below (by (with_reducible repeat (first | apply Kd.R_alloc | apply Kd.R_drewN | apply Kd.R_drew)); exact HO_219000.out) hb); have n1_ := Aside0.mk (Kd.R_below (by (with_reducible repeat (first | apply Kd.R_alloc | apply Kd.R_drewN | apply Kd.R_drew)); exact HO_228000.out) hb); have n2_ := Aside0.mk (Kd.R_below (by (with_reducible repeat (first | apply Kd.R_alloc | apply Kd.R_drewN | apply Kd.R_drew)); exact HO_240000.out) hb); have n3_ := Aside0.mk (Kd.R_below (by (with_reducible repeat (first | apply Kd.R_alloc | apply Kd.R_drewN | apply Kd.R_drew)); exact HO264.out) hb); have n4_ := Aside0.mk (Kd.R_lower ho0 (below_size (by repeat (first | (with_reducible first | exact HB.out | apply below_alloc | apply pw_below_drewN | apply below_drew1 | refine below_set ?_ GE196.out | refine below_set ?_ GE218.out | refine below_set ?_ GE227.out | refine below_set ?_ GE239.out) | exact HB.out)))); have n5_ := Aside0.mk (blk_below (g := gb196) (o := .cells #[.slice A0_0 l0_0.length c0_0, .int .i64 a0_1, .int .i64 a0_2, .int .i64 a0_3, .int .i64 a0_4, .bool a0_5] 24 (0, 0)) (by (with_reducible repeat (first | refine blk_drewN ?_ _ | refine blk_drew ?_ | refine blk_alloc ?_ _)); exact BK196.out) hb); have n6_ := Aside0.mk (blk_below (g := gb218) (o := .cells #[.slice Ao40 t210.length co40, .int .i64 t213, .int .i64 t214, .int .i64 t215, .int .i64 t216, .bool t217] 30 (0, 0)) (by (with_reducible repeat (first | refine blk_drewN ?_ _ | refine blk_drew ?_ | refine blk_alloc ?_ _)); exact BK218.out) hb); have n7_ := Aside0.mk (blk_below (g := gb227) (o := .cells #[.slice Ao46 t255.length co46, .int .i64 t222, .int .i64 t223, .int .i64 t224, .int .i64 t225, .bool t226] 30 (0, 0)) (by (with_reducible repeat (first | refine blk_drewN ?_ _ | refine blk_drew ?_ | refine blk_alloc ?_ _)); exact BK227.out) hb); have n8_ := Aside0.mk (blk_below (g := gb239) (o := .cells #[.slice Ao55 t231.length co55, .int .i64 t234, .int .i64 t235, .int .i64 t236, .int .i64 t237, .bool t238] 30 (0, 0)) (by (with_reducible repeat (first | refine blk_drewN ?_ _ | refine blk_drew ?_ | refine blk_alloc ?_ _)); exact BK239.out) hb); have n9_ := Aside0.mk (below_step (by repeat (first | (with_reducible first | exact HB.out | apply below_alloc | apply pw_below_drewN | apply below_drew1 | refine below_set ?_ GE196.out | refine below_set ?_ GE218.out | refine below_set ?_ GE227.out | refine below_set ?_ GE239.out) | exact HB.out)) hb); clear HO_219000; clear HO_228000; clear HO_240000; clear HO264; clear BK196; clear BK218; clear BK227; clear BK239; clear HB; have HO_219000 := n0_; have HO_228000 := n1_; have HO_240000 := n2_; have HO264 := n3_; have HO272 := n4_; have BK196 := n5_; have BK218 := n6_; have BK227 := n7_; have BK239 := n8_; have HB := n9_; clear n0_ n1_ n2_ n3_ n4_ n5_ n6_ n7_ n8_ n9_; (try clear hb); (try clear hb2); (try clear hk); (try clear hi); (try clear ho0); obtain ⟨Ao140, co140, eo140⟩ := Kd.R_slice HO264.out; subst eo140; obtain ⟨Ao141, co141, eo141⟩ := Kd.R_slice HO272.out; subst eo141) | ((with_reducible refine gate_callee (f := 12) rfl ?_); refine goesL_ (some 79) rfl rfl Try.func12 (by kernel_rfl) rfl #[.agg #[.slice Ao140 t262.length co140, .int .i64 t265, .int .i64 t266, .int .i64 t267, .int .i64 t268, .bool t269], .slice Ao141 t270.length co141] rfl (by (try simp only [List.map_toArray, List.map_cons, List.map_nil]); first | done | rfl | (simp only [List.length_drop, List.length_take]; rfl)) ?_; (with_reducible refine (impl_FsCrash.calls kj28 _ _ t262 t265 t266 t267 t268 t269 _ _ t270 t273 t276 t277 t278 t279 t280 _ ?side1 ?side2 ?side3 ?side4 A95.out).mono ?_); (case side1 => repeat (first | exact (Kd.R_reads' HO264.out).2.2 | (with_reducible refine Kd.C_alloc ?_ _) | (with_reducible refine Kd.C_drewN ?_ _) | (with_reducible refine Kd.C_drew ?_))); (case side2 => exact (Kd.R_reads' HO264.out).2.1); (case side3 => repeat (first | exact (Kd.R_reads' HO272.out).2.2 | (with_reducible refine Kd.C_alloc ?_ _) | (with_reducible refine Kd.C_drewN ?_ _) | (with_reducible refine Kd.C_drew ?_))); (case side4 => exact (Kd.R_reads' HO272.out).2.1); rintro e w142 ⟨v274, rfl, ho0, hb⟩; refine ⟨_, rfl, ?_⟩; have n0_ := Aside0.mk (Kd.R_elder' (by (with_reducible repeat (first | apply Kd.R_alloc | apply Kd.R_drewN | apply Kd.R_drew)); exact HO_219000.out) (Kd.R_base ho0) hb); have n1_ := Aside0.mk (Kd.R_elder' (by (with_reducible repeat (first | apply Kd.R_alloc | apply Kd.R_drewN | apply Kd.R_drew)); exact HO_228000.out) (Kd.R_base ho0) hb); have n2_ := Aside0.mk (Kd.R_elder' (by (with_reducible repeat (first | apply Kd.R_alloc | apply Kd.R_drewN | apply Kd.R_drew)); exact HO_240000.out) (Kd.R_base ho0) hb); have n3_ := Aside0.mk (Kd.R_elder' (by (with_reducible repeat (first | apply Kd.R_alloc | apply Kd.R_drewN | apply Kd.R_drew)); exact HO264.out) (Kd.R_base ho0) hb); have n4_ := Aside0.mk (Kd.R_below (by (with_reducible repeat (first | apply Kd.R_alloc | apply Kd.R_drewN | apply Kd.R_drew)); exact HO272.out) hb); have n5_ := Aside0.mk (Kd.R_lower (Kd.R_new' (Kd.R_new' (Kd.R_new' (Kd.R_new' ho0 (Kd.R_lt (by (with_reducible repeat (first | apply Kd.R_alloc | apply Kd.R_drewN | apply Kd.R_drew)); exact HO_219000.out))) (Kd.R_lt (by (with_reducible repeat (first | apply Kd.R_alloc | apply Kd.R_drewN | apply Kd.R_drew)); exact HO_228000.out))) (Kd.R_lt (by (with_reducible repeat (first | apply Kd.R_alloc | apply Kd.R_drewN | apply Kd.R_drew)); exact HO_240000.out))) (Kd.R_lt (by (with_reducible repeat (first | apply Kd.R_alloc | apply Kd.R_drewN | apply Kd.R_drew)); exact HO264.out))) (below_size (by repeat (first | (with_reducible first | exact HB.out | apply below_alloc | apply pw_below_drewN | apply below_drew1 | refine below_set ?_ GE196.out | refine below_set ?_ GE218.out | refine below_set ?_ GE227.out | refine below_set ?_ GE239.out) | exact HB.out)))); have n6_ := Aside0.mk (blk_below (g := gb196) (o := .cells #[.slice A0_0 l0_0.length c0_0, .int .i64 a0_1, .int .i64 a0_2, .int .i64 a0_3, .int .i64 a0_4, .bool a0_5] 24 (0, 0)) (by (with_reducible repeat (first | refine blk_drewN ?_ _ | refine blk_drew ?_ | refine blk_alloc ?_ _)); exact BK196.out) hb); have n7_ := Aside0.mk (blk_below (g := gb218) (o := .cells #[.slice Ao40 t210.length co40, .int .i64 t213, .int .i64 t214, .int .i64 t215, .int .i64 t216, .bool t217] 30 (0, 0)) (by (with_reducible repeat (first | refine blk_drewN ?_ _ | refine blk_drew ?_ | refine blk_alloc ?_ _)); exact BK218.out) hb); have n8_ := Aside0.mk (blk_below (g := gb227) (o := .cells #[.slice Ao46 t255.length co46, .int .i64 t222, .int .i64 t223, .int .i64 t224, .int .i64 t225, .bool t226] 30 (0, 0)) (by (with_reducible repeat (first | refine blk_drewN ?_ _ | refine blk_drew ?_ | refine blk_alloc ?_ _)); exact BK227.out) hb); have n9_ := Aside0.mk (blk_below (g := gb239) (o := .cells #[.slice Ao55 t231.length co55, .int .i64 t234, .int .i64 t235, .int .i64 t236, .int .i64 t237, .bool t238] 30 (0, 0)) (by (with_reducible repeat (first | refine blk_drewN ?_ _ | refine blk_drew ?_ | refine blk_alloc ?_ _)); exact BK239.out) hb); have n10_ := Aside0.mk (below_step (by repeat (first | (with_reducible first | exact HB.out | apply below_alloc | apply pw_below_drewN | apply below_drew1 | refine below_set ?_ GE196.out | refine below_set ?_ GE218.out | refine below_set ?_ GE227.out | refine below_set ?_ GE239.out) | exact HB.out)) hb); clear HO_219000; clear HO_228000; clear HO_240000; clear HO264; clear HO272; clear BK196; clear BK218; clear BK227; clear BK239; clear HB; have HO_219000 := n0_; have HO_228000 := n1_; have HO_240000 := n2_; have HO264 := n3_; have HO272 := n4_; have HO275 := n5_; have BK196 := n6_; have BK218 := n7_; have BK227 := n8_; have BK239 := n9_; have HB := n10_; clear n0_ n1_ n2_ n3_ n4_ n5_ n6_ n7_ n8_ n9_ n10_; (try clear hb); (try clear hb2); (try clear hk); (try clear hi); (try clear ho0)) | ((with_reducible refine gate_dst (N := 13) rfl ?_); refine box_event ?hg (N := 13) ?hd (cs := #[.slice none 0 0, .int .i64 0, .int .i64 0, .int .i64 0, .int .i64 0, .bool false]) (t := 30) ?hr ?_; (case hd => rfl); (case hg => rfl); (case hr => first | (go_simp; done) | (go_simp; rfl)); intro gb281 hg w143 hbox hb; have n0_ := Aside0.mk (Kd.R_below (by (with_reducible repeat (first | apply Kd.R_alloc | apply Kd.R_drewN | apply Kd.R_drew)); exact HO_219000.out) hb); have n1_ := Aside0.mk (Kd.R_below (by (with_reducible repeat (first | apply Kd.R_alloc | apply Kd.R_drewN | apply Kd.R_drew)); exact HO_228000.out) hb); have n2_ := Aside0.mk (Kd.R_below (by (with_reducible repeat (first | apply Kd.R_alloc | apply Kd.R_drewN | apply Kd.R_drew)); exact HO_240000.out) hb); have n3_ := Aside0.mk (Kd.R_below (by (with_reducible repeat (first | apply Kd.R_alloc | apply Kd.R_drewN | apply Kd.R_drew)); exact HO264.out) hb); have n4_ := Aside0.mk (Kd.R_below (by (with_reducible repeat (first | apply Kd.R_alloc | apply Kd.R_drewN | apply Kd.R_drew)); exact HO272.out) hb); have n5_ := Aside0.mk (Kd.R_below (by (with_reducible repeat (first | apply Kd.R_alloc | apply Kd.R_drewN | apply Kd.R_drew)); exact HO275.out) hb); have n6_ := Aside0.mk (blk_below (g := gb196) (o := .cells #[.slice A0_0 l0_0.length c0_0, .int .i64 a0_1, .int .i64 a0_2, .int .i64 a0_3, .int .i64 a0_4, .bool a0_5] 24 (0, 0)) (by (with_reducible repeat (first | refine blk_drewN ?_ _ | refine blk_drew ?_ | refine blk_alloc ?_ _)); exact BK196.out) hb); have n7_ := Aside0.mk (blk_below (g := gb218) (o := .cells #[.slice Ao40 t210.length co40, .int .i64 t213, .int .i64 t214, .int .i64 t215, .int .i64 t216, .bool t217] 30 (0, 0)) (by (with_reducible repeat (first | refine blk_drewN ?_ _ | refine blk_drew ?_ | refine blk_alloc ?_ _)); exact BK218.out) hb); have n8_ := Aside0.mk (blk_below (g := gb227) (o := .cells #[.slice Ao46 t255.length co46, .int .i64 t222, .int .i64 t223, .int .i64 t224, .int .i64 t225, .bool t226] 30 (0, 0)) (by (with_reducible repeat (first | refine blk_drewN ?_ _ | refine blk_drew ?_ | refine blk_alloc ?_ _)); exact BK227.out) hb); have n9_ := Aside0.mk (blk_below (g := gb239) (o := .cells #[.slice Ao55 t231.length co55, .int .i64 t234, .int .i64 t235, .int .i64 t236, .int .i64 t237, .bool t238] 30 (0, 0)) (by (with_reducible repeat (first | refine blk_drewN ?_ _ | refine blk_drew ?_ | refine blk_alloc ?_ _)); exact BK239.out) hb); have n10_ := Aside0.mk (below_step (by repeat (first | (with_reducible first | exact HB.out | apply below_alloc | apply pw_below_drewN | apply below_drew1 | refine below_set ?_ GE196.out | refine below_set ?_ GE218.out | refine below_set ?_ GE227.out | refine below_set ?_ GE239.out) | exact HB.out)) hb); have n11_ := Aside0.mk (hbox); have n12_ := Aside0.mk ((by rw [hg]; exact (below_size (by repeat (first | (with_reducible first | exact HB.out | apply below_alloc | apply pw_below_drewN | apply below_drew1 | refine below_set ?_ GE196.out | refine below_set ?_ GE218.out | refine below_set ?_ GE227.out | refine below_set ?_ GE239.out) | exact HB.out))) : w.heap.size ≤ gb281)); have n13_ := Aside0.mk ((by rw [hg]; exact (below_size (by repeat (first | (with_reducible first | exact HB.out | apply below_alloc | apply pw_below_drewN | apply below_drew1 | refine below_set ?_ GE196.out | refine below_set ?_ GE218.out | refine below_set ?_ GE227.out | refine below_set ?_ GE239.out) | exact HB.out))) : w.heap.size ≤ gb281)); have n14_ := Aside0.mk ((by rw [hg]; exact Nat.ne_of_lt (blk_lt (g := gb196) (o := .cells #[.slice A0_0 l0_0.length c0_0, .int .i64 a0_1, .int .i64 a0_2, .int .i64 a0_3, .int .i64 a0_4, .bool a0_5] 24 (0, 0)) (by (with_reducible repeat (first | refine blk_drewN ?_ _ | refine blk_drew ?_ | refine blk_alloc ?_ _)); exact BK196.out)) : gb196 ≠ gb281)); have n15_ := Aside0.mk ((by rw [hg]; exact Nat.ne_of_gt (blk_lt (g := gb196) (o := .cells #[.slice A0_0 l0_0.length c0_0, .int .i64 a0_1, .int .i64 a0_2, .int .i64 a0_3, .int .i64 a0_4, .bool a0_5] 24 (0, 0)) (by (with_reducible repeat (first | refine blk_drewN ?_ _ | refine blk_drew ?_ | refine blk_alloc ?_ _)); exact BK196.out)) : gb281 ≠ gb196)); have n16_ := Aside0.mk ((by rw [hg]; exact Nat.ne_of_lt (blk_lt (g := gb218) (o := .cells #[.slice Ao40 t210.length co40, .int .i64 t213, .int .i64 t214, .int .i64 t215, .int .i64 t216, .bool t217] 30 (0, 0)) (by (with_reducible repeat (first | refine blk_drewN ?_ _ | refine blk_drew ?_ | refine blk_alloc ?_ _)); exact BK218.out)) : gb218 ≠ gb281)); have n17_ := Aside0.mk ((by rw [hg]; exact Nat.ne_of_gt (blk_lt (g := gb218) (o := .cells #[.slice Ao40 t210.length co40, .int .i64 t213, .int .i64 t214, .int .i64 t215, .int .i64 t216, .bool t217] 30 (0, 0)) (by (with_reducible repeat (first | refine blk_drewN ?_ _ | refine blk_drew ?_ | refine blk_alloc ?_ _)); exact BK218.out)) : gb281 ≠ gb218)); have n18_ := Aside0.mk ((by rw [hg]; exact Nat.ne_of_lt (blk_lt (g := gb227) (o := .cells #[.slice Ao46 t255.length co46, .int .i64 t222, .int .i64 t223, .int .i64 t224, .int .i64 t225, .bool t226] 30 (0, 0)) (by (with_reducible repeat (first | refine blk_drewN ?_ _ | refine blk_drew ?_ | refine blk_alloc ?_ _)); exact BK227.out)) : gb227 ≠ gb281)); have n19_ := Aside0.mk ((by rw [hg]; exact Nat.ne_of_gt (blk_lt (g := gb227) (o := .cells #[.slice Ao46 t255.length co46, .int .i64 t222, .int .i64 t223, .int .i64 t224, .int .i64 t225, .bool t226] 30 (0, 0)) (by (with_reducible repeat (first | refine blk_drewN ?_ _ | refine blk_drew ?_ | refine blk_alloc ?_ _)); exact BK227.out)) : gb281 ≠ gb227)); have n20_ := Aside0.mk ((by rw [hg]; exact Nat.ne_of_lt (blk_lt (g := gb239) (o := .cells #[.slice Ao55 t231.length co55, .int .i64 t234, .int .i64 t235, .int .i64 t236, .int .i64 t237, .bool t238] 30 (0, 0)) (by (with_reducible repeat (first | refine blk_drewN ?_ _ | refine blk_drew ?_ | refine blk_alloc ?_ _)); exact BK239.out)) : gb239 ≠ gb281)); have n21_ := Aside0.mk ((by rw [hg]; exact Nat.ne_of_gt (blk_lt (g := gb239) (o := .cells #[.slice Ao55 t231.length co55, .int .i64 t234, .int .i64 t235, .int .i64 t236, .int .i64 t237, .bool t238] 30 (0, 0)) (by (with_reducible repeat (first | refine blk_drewN ?_ _ | refine blk_drew ?_ | refine blk_alloc ?_ _)); exact BK239.out)) : gb281 ≠ gb239)); clear HO_219000; clear HO_228000; clear HO_240000; clear HO264; clear HO272; clear HO275; clear BK196; clear BK218; clear BK227; clear BK239; clear HB; have HO_219000 := n0_; have HO_228000 := n1_; have HO_240000 := n2_; have HO264 := n3_; have HO272 := n4_; have HO275 := n5_; have BK196 := n6_; have BK218 := n7_; have BK227 := n8_; have BK239 := n9_; have HB := n10_; have BK281 := n11_; have GW281 := n12_; have GE281 := n13_; have NB196_281 := n14_; have NB281_196 := n15_; have NB218_281 := n16_; have NB281_218 := n17_; have NB227_281 := n18_; have NB281_227 := n19_; have NB239_281 := n20_; have NB281_239 := n21_; clear n0_ n1_ n2_ n3_ n4_ n5_ n6_ n7_ n8_ n9_ n10_ n11_ n12_ n13_ n14_ n15_ n16_ n17_ n18_ n19_ n20_ n21_; clear hb hbox hg; obtain ⟨Ao144, co144, eo144⟩ := Kd.R_slice HO275.out; subst eo144; have hnb145 := NB281_196.out; have hnc145 := NB196_281.out; have hnb146 := NB281_218.out; have hnc146 := NB218_281.out; have hnb147 := NB281_227.out; have hnc147 := NB227_281.out; have hnb148 := NB281_239.out; have hnc148 := NB239_281.out; have hcz149_0 : w143.cell? ⟨gb281, 0, none⟩ = some (.slice none 0 0) := (blk_cell BK281.out 0).trans rfl; have hcz149_1 : w143.cell? ⟨gb281, 1, none⟩ = some (.int .i64 0) := (blk_cell BK281.out 1).trans rfl; have hcz149_2 : w143.cell? ⟨gb281, 2, none⟩ = some (.int .i64 0) := (blk_cell BK281.out 2).trans rfl; have hcz149_3 : w143.cell? ⟨gb281, 3, none⟩ = some (.int .i64 0) := (blk_cell BK281.out 3).trans rfl; have hcz149_4 : w143.cell? ⟨gb281, 4, none⟩ = some (.int .i64 0) := (blk_cell BK281.out 4).trans rfl; have hcz149_5 : w143.cell? ⟨gb281, 5, none⟩ = some (.bool false) := (blk_cell BK281.out 5).trans rfl; have hfz149_0 := blk_frozen BK281.out 0; have hfz149_1 := blk_frozen BK281.out 1; have hfz149_2 := blk_frozen BK281.out 2; have hfz149_3 := blk_frozen BK281.out 3; have hfz149_4 := blk_frozen BK281.out 4; have hfz149_5 := blk_frozen BK281.out 5; have hnb150 := NB218_227.out; have hnc150 := NB227_218.out; have hcz151_0 : w143.cell? ⟨gb218, 0, none⟩ = some (.slice Ao40 t210.length co40) := (blk_cell BK218.out 0).trans rfl; have hcz151_1 : w143.cell? ⟨gb218, 1, none⟩ = some (.int .i64 t213) := (blk_cell BK218.out 1).trans rfl; have hcz151_2 : w143.cell? ⟨gb218, 2, none⟩ = some (.int .i64 t214) := (blk_cell BK218.out 2).trans rfl; have hcz151_3 : w143.cell? ⟨gb218, 3, none⟩ = some (.int .i64 t215) := (blk_cell BK218.out 3).trans rfl; have hcz151_4 : w143.cell? ⟨gb218, 4, none⟩ = some (.int .i64 t216) := (blk_cell BK218.out 4).trans rfl; have hcz151_5 : w143.cell? ⟨gb218, 5, none⟩ = some (.bool t217) := (blk_cell BK218.out 5).trans rfl; have hfz151_0 := blk_frozen BK218.out 0; have hfz151_1 := blk_frozen BK218.out 1; have hfz151_2 := blk_frozen BK218.out 2; have hfz151_3 := blk_frozen BK218.out 3; have hfz151_4 := blk_frozen BK218.out 4; have hfz151_5 := blk_frozen BK218.out 5) | ((with_reducible refine gate_callee (f := 13) rfl ?_); refine goesL_ (some 82) rfl rfl Try.func13 (by kernel_rfl) rfl #[.agg #[.slice Ao144 t273.length co144, .int .i64 t276, .int .i64 t277, .int .i64 t278, .int .i64 t279, .bool t280], .agg #[.slice Ao40 t210.length co40, .int .i64 t213, .int .i64 t214, .int .i64 t215, .int .i64 t216, .bool t217]] rfl (by (try simp only [List.map_toArray, List.map_cons, List.map_nil]); first | done | rfl | (simp only [List.length_drop, List.length_take]; rfl)) ?_; (with_reducible refine (laws_eqFs.calls kj28 _ _ t273 t276 t277 t278 t279 t280 _ _ t210 t213 t214 t215 t216 t217 true _ ?side1 ?side2 ?side3 ?side4 A96.out).mono ?_); (case side1 => refine (Kd.R_reads' (e := 58) (base := w.heap.size) (ok := fun k_ => ((((True ∧ some k_ ≠ (.slice Ao40 t210.length co40 : Value).ownBlock) ∧ some k_ ≠ (.slice Ao46 t255.length co46 : Value).ownBlock) ∧ some k_ ≠ (.slice Ao55 t231.length co55 : Value).ownBlock) ∧ some k_ ≠ (.slice Ao140 t262.length co140 : Value).ownBlock)) (n := t273.length) (c := co144) ?_).2.2; exact (by (with_reducible repeat (first | apply Kd.R_alloc | apply Kd.R_drewN | apply Kd.R_drew)); exact (Kd.R_mono (Kd.R_far (p := ⟨gb281, 5, none⟩) (Kd.R_far (p := ⟨gb281, 4, none⟩) (Kd.R_far (p := ⟨gb281, 3, none⟩) (Kd.R_far (p := ⟨gb281, 2, none⟩) (Kd.R_far (p := ⟨gb281, 1, none⟩) (Kd.R_far (p := ⟨gb281, 0, none⟩) (Kd.R_types HO275.out BK281.out (by decide)) (fun _ hk => hk.2) (.slice Ao144 t273.length co144)) (fun _ hk => hk.2) (.int .i64 t276)) (fun _ hk => hk.2) (.int .i64 t277)) (fun _ hk => hk.2) (.int .i64 t278)) (fun _ hk => hk.2) (.int .i64 t279)) (fun _ hk => hk.2) (.bool t280)) (fun _ h_ => h_.1)))); (case side2 => exact (Kd.R_reads' HO275.out).2.1); (case side3 => refine (Kd.R_reads' (e := 58) (base := w.heap.size) (ok := fun k_ => (((some k_ ≠ (.slice Ao46 t255.length co46 : Value).ownBlock ∧ some k_ ≠ (.slice Ao55 t231.length co55 : Value).ownBlock) ∧ some k_ ≠ (.slice Ao140 t262.length co140 : Value).ownBlock) ∧ some k_ ≠ (.slice Ao144 t273.length co144 : Value).ownBlock)) (n := t210.length) (c := co40) ?_).2.2; exact (by (with_reducible repeat (first | apply Kd.R_alloc | apply Kd.R_drewN | apply Kd.R_drew)); exact (Kd.R_mono (Kd.R_far (p := ⟨gb281, 5, none⟩) (Kd.R_far (p := ⟨gb281, 4, none⟩) (Kd.R_far (p := ⟨gb281, 3, none⟩) (Kd.R_far (p := ⟨gb281, 2, none⟩) (Kd.R_far (p := ⟨gb281, 1, none⟩) (Kd.R_far (p := ⟨gb281, 0, none⟩) (Kd.R_types HO_219000.out BK281.out (by decide)) (fun _ hk => hk.2) (.slice Ao144 t273.length co144)) (fun _ hk => hk.2) (.int .i64 t276)) (fun _ hk => hk.2) (.int .i64 t277)) (fun _ hk => hk.2) (.int .i64 t278)) (fun _ hk => hk.2) (.int .i64 t279)) (fun _ hk => hk.2) (.bool t280)) (fun _ h_ => h_.1)))); (case side4 => exact (Kd.R_reads' HO_219000.out).2.1); rintro e w152 ⟨rfl, hb⟩; refine ⟨_, rfl, ?_⟩; have n0_ := Aside0.mk (Kd.R_below (by (with_reducible repeat (first | apply Kd.R_alloc | apply Kd.R_drewN | apply Kd.R_drew)); exact (Kd.R_mono (Kd.R_far (p := ⟨gb281, 5, none⟩) (Kd.R_far (p := ⟨gb281, 4, none⟩) (Kd.R_far (p := ⟨gb281, 3, none⟩) (Kd.R_far (p := ⟨gb281, 2, none⟩) (Kd.R_far (p := ⟨gb281, 1, none⟩) (Kd.R_far (p := ⟨gb281, 0, none⟩) (Kd.R_types HO_219000.out BK281.out (by decide)) (fun _ hk => hk.2) (.slice Ao144 t273.length co144)) (fun _ hk => hk.2) (.int .i64 t276)) (fun _ hk => hk.2) (.int .i64 t277)) (fun _ hk => hk.2) (.int .i64 t278)) (fun _ hk => hk.2) (.int .i64 t279)) (fun _ hk => hk.2) (.bool t280)) (fun _ h_ => h_.1))) hb); have n1_ := Aside0.mk (Kd.R_below (by (with_reducible repeat (first | apply Kd.R_alloc | apply Kd.R_drewN | apply Kd.R_drew)); exact (Kd.R_mono (Kd.R_far (p := ⟨gb281, 5, none⟩) (Kd.R_far (p := ⟨gb281, 4, none⟩) (Kd.R_far (p := ⟨gb281, 3, none⟩) (Kd.R_far (p := ⟨gb281, 2, none⟩) (Kd.R_far (p := ⟨gb281, 1, none⟩) (Kd.R_far (p := ⟨gb281, 0, none⟩) (Kd.R_types HO_228000.out BK281.out (by decide)) (fun _ hk => hk.2) (.slice Ao144 t273.length co144)) (fun _ hk => hk.2) (.int .i64 t276)) (fun _ hk => hk.2) (.int .i64 t277)) (fun _ hk => hk.2) (.int .i64 t278)) (fun _ hk => hk.2) (.int .i64 t279)) (fun _ hk => hk.2) (.bool t280)) (fun _ h_ => h_.1))) hb); have n2_ := Aside0.mk (Kd.R_below (by (with_reducible repeat (first | apply Kd.R_alloc | apply Kd.R_drewN | apply Kd.R_drew)); exact (Kd.R_mono (Kd.R_far (p := ⟨gb281, 5, none⟩) (Kd.R_far (p := ⟨gb281, 4, none⟩) (Kd.R_far (p := ⟨gb281, 3, none⟩) (Kd.R_far (p := ⟨gb281, 2, none⟩) (Kd.R_far (p := ⟨gb281, 1, none⟩) (Kd.R_far (p := ⟨gb281, 0, none⟩) (Kd.R_types HO_240000.out BK281.out (by decide)) (fun _ hk => hk.2) (.slice Ao144 t273.length co144)) (fun _ hk => hk.2) (.int .i64 t276)) (fun _ hk => hk.2) (.int .i64 t277)) (fun _ hk => hk.2) (.int .i64 t278)) (fun _ hk => hk.2) (.int .i64 t279)) (fun _ hk => hk.2) (.bool t280)) (fun _ h_ => h_.1))) hb); have n3_ := Aside0.mk (Kd.R_below (by (with_reducible repeat (first | apply Kd.R_alloc | apply Kd.R_drewN | apply Kd.R_drew)); exact (Kd.R_mono (Kd.R_far (p := ⟨gb281, 5, none⟩) (Kd.R_far (p := ⟨gb281, 4, none⟩) (Kd.R_far (p := ⟨gb281, 3, none⟩) (Kd.R_far (p := ⟨gb281, 2, none⟩) (Kd.R_far (p := ⟨gb281, 1, none⟩) (Kd.R_far (p := ⟨gb281, 0, none⟩) (Kd.R_types HO264.out BK281.out (by decide)) (fun _ hk => hk.2) (.slice Ao144 t273.length co144)) (fun _ hk => hk.2) (.int .i64 t276)) (fun _ hk => hk.2) (.int .i64 t277)) (fun _ hk => hk.2) (.int .i64 t278)) (fun _ hk => hk.2) (.int .i64 t279)) (fun _ hk => hk.2) (.bool t280)) (fun _ h_ => h_.1))) hb); have n4_ := Aside0.mk (Kd.R_below (by (with_reducible repeat (first | apply Kd.R_alloc | apply Kd.R_drewN | apply Kd.R_drew)); exact (Kd.R_mono (Kd.R_far (p := ⟨gb281, 5, none⟩) (Kd.R_far (p := ⟨gb281, 4, none⟩) (Kd.R_far (p := ⟨gb281, 3, none⟩) (Kd.R_far (p := ⟨gb281, 2, none⟩) (Kd.R_far (p := ⟨gb281, 1, none⟩) (Kd.R_far (p := ⟨gb281, 0, none⟩) (Kd.R_types HO272.out BK281.out (by decide)) (fun _ hk => hk.2) (.slice Ao144 t273.length co144)) (fun _ hk => hk.2) (.int .i64 t276)) (fun _ hk => hk.2) (.int .i64 t277)) (fun _ hk => hk.2) (.int .i64 t278)) (fun _ hk => hk.2) (.int .i64 t279)) (fun _ hk => hk.2) (.bool t280)) (fun _ h_ => h_.1))) hb); have n5_ := Aside0.mk (Kd.R_below (by (with_reducible repeat (first | apply Kd.R_alloc | apply Kd.R_drewN | apply Kd.R_drew)); exact (Kd.R_mono (Kd.R_far (p := ⟨gb281, 5, none⟩) (Kd.R_far (p := ⟨gb281, 4, none⟩) (Kd.R_far (p := ⟨gb281, 3, none⟩) (Kd.R_far (p := ⟨gb281, 2, none⟩) (Kd.R_far (p := ⟨gb281, 1, none⟩) (Kd.R_far (p := ⟨gb281, 0, none⟩) (Kd.R_types HO275.out BK281.out (by decide)) (fun _ hk => hk.2) (.slice Ao144 t273.length co144)) (fun _ hk => hk.2) (.int .i64 t276)) (fun _ hk => hk.2) (.int .i64 t277)) (fun _ hk => hk.2) (.int .i64 t278)) (fun _ hk => hk.2) (.int .i64 t279)) (fun _ hk => hk.2) (.bool t280)) (fun _ h_ => h_.1))) hb); have n6_ := Aside0.mk (blk_below (g := gb196) (o := .cells #[.slice A0_0 l0_0.length c0_0, .int .i64 a0_1, .int .i64 a0_2, .int .i64 a0_3, .int .i64 a0_4, .bool a0_5] 24 (0, 0)) (by (with_reducible repeat (first | refine blk_drewN ?_ _ | refine blk_drew ?_ | refine blk_alloc ?_ _)); refine blk_far ?_ NB196_281.out _; (with_reducible repeat (first | refine blk_drewN ?_ _ | refine blk_drew ?_ | refine blk_alloc ?_ _)); refine blk_far ?_ NB196_281.out _; (with_reducible repeat (first | refine blk_drewN ?_ _ | refine blk_drew ?_ | refine blk_alloc ?_ _)); refine blk_far ?_ NB196_281.out _; (with_reducible repeat (first | refine blk_drewN ?_ _ | refine blk_drew ?_ | refine blk_alloc ?_ _)); refine blk_far ?_ NB196_281.out _; (with_reducible repeat (first | refine blk_drewN ?_ _ | refine blk_drew ?_ | refine blk_alloc ?_ _)); refine blk_far ?_ NB196_281.out _; (with_reducible repeat (first | refine blk_drewN ?_ _ | refine blk_drew ?_ | refine blk_alloc ?_ _)); refine blk_far ?_ NB196_281.out _; (with_reducible repeat (first | refine blk_drewN ?_ _ | refine blk_drew ?_ | refine blk_alloc ?_ _)); exact BK196.out) hb); have n7_ := Aside0.mk (blk_below (g := gb218) (o := .cells #[.slice Ao40 t210.length co40, .int .i64 t213, .int .i64 t214, .int .i64 t215, .int .i64 t216, .bool t217] 30 (0, 0)) (by (with_reducible repeat (first | refine blk_drewN ?_ _ | refine blk_drew ?_ | refine blk_alloc ?_ _)); refine blk_far ?_ NB218_281.out _; (with_reducible repeat (first | refine blk_drewN ?_ _ | refine blk_drew ?_ | refine blk_alloc ?_ _)); refine blk_far ?_ NB218_281.out _; (with_reducible repeat (first | refine blk_drewN ?_ _ | refine blk_drew ?_ | refine blk_alloc ?_ _)); refine blk_far ?_ NB218_281.out _; (with_reducible repeat (first | refine blk_drewN ?_ _ | refine blk_drew ?_ | refine blk_alloc ?_ _)); refine blk_far ?_ NB218_281.out _; (with_reducible repeat (first | refine blk_drewN ?_ _ | refine blk_drew ?_ | refine blk_alloc ?_ _)); refine blk_far ?_ NB218_281.out _; (with_reducible repeat (first | refine blk_drewN ?_ _ | refine blk_drew ?_ | refine blk_alloc ?_ _)); refine blk_far ?_ NB218_281.out _; (with_reducible repeat (first | refine blk_drewN ?_ _ | refine blk_drew ?_ | refine blk_alloc ?_ _)); exact BK218.out) hb); have n8_ := Aside0.mk (blk_below (g := gb227) (o := .cells #[.slice Ao46 t255.length co46, .int .i64 t222, .int .i64 t223, .int .i64 t224, .int .i64 t225, .bool t226] 30 (0, 0)) (by (with_reducible repeat (first | refine blk_drewN ?_ _ | refine blk_drew ?_ | refine blk_alloc ?_ _)); refine blk_far ?_ NB227_281.out _; (with_reducible repeat (first | refine blk_drewN ?_ _ | refine blk_drew ?_ | refine blk_alloc ?_ _)); refine blk_far ?_ NB227_281.out _; (with_reducible repeat (first | refine blk_drewN ?_ _ | refine blk_drew ?_ | refine blk_alloc ?_ _)); refine blk_far ?_ NB227_281.out _; (with_reducible repeat (first | refine blk_drewN ?_ _ | refine blk_drew ?_ | refine blk_alloc ?_ _)); refine blk_far ?_ NB227_281.out _; (with_reducible repeat (first | refine blk_drewN ?_ _ | refine blk_drew ?_ | refine blk_alloc ?_ _)); refine blk_far ?_ NB227_281.out _; (with_reducible repeat (first | refine blk_drewN ?_ _ | refine blk_drew ?_ | refine blk_alloc ?_ _)); refine blk_far ?_ NB227_281.out _; (with_reducible repeat (first | refine blk_drewN ?_ _ | refine blk_drew ?_ | refine blk_alloc ?_ _)); exact BK227.out) hb); have n9_ := Aside0.mk (blk_below (g := gb239) (o := .cells #[.slice Ao55 t231.length co55, .int .i64 t234, .int .i64 t235, .int .i64 t236, .int .i64 t237, .bool t238] 30 (0, 0)) (by (with_reducible repeat (first | refine blk_drewN ?_ _ | refine blk_drew ?_ | refine blk_alloc ?_ _)); refine blk_far ?_ NB239_281.out _; (with_reducible repeat (first | refine blk_drewN ?_ _ | refine blk_drew ?_ | refine blk_alloc ?_ _)); refine blk_far ?_ NB239_281.out _; (with_reducible repeat (first | refine blk_drewN ?_ _ | refine blk_drew ?_ | refine blk_alloc ?_ _)); refine blk_far ?_ NB239_281.out _; (with_reducible repeat (first | refine blk_drewN ?_ _ | refine blk_drew ?_ | refine blk_alloc ?_ _)); refine blk_far ?_ NB239_281.out _; (with_reducible repeat (first | refine blk_drewN ?_ _ | refine blk_drew ?_ | refine blk_alloc ?_ _)); refine blk_far ?_ NB239_281.out _; (with_reducible repeat (first | refine blk_drewN ?_ _ | refine blk_drew ?_ | refine blk_alloc ?_ _)); refine blk_far ?_ NB239_281.out _; (with_reducible repeat (first | refine blk_drewN ?_ _ | refine blk_drew ?_ | refine blk_alloc ?_ _)); exact BK239.out) hb); have n10_ := Aside0.mk (blk_below (g := gb281) (o := .cells #[.slice Ao144 t273.length co144, .int .i64 t276, .int .i64 t277, .int .i64 t278, .int .i64 t279, .bool t280] 30 (0, 0)) (by (with_reducible repeat (first | refine blk_drewN ?_ _ | refine blk_drew ?_ | refine blk_alloc ?_ _)); refine blk_put (cs := #[.slice Ao144 t273.length co144, .int .i64 t276, .int .i64 t277, .int .i64 t278, .int .i64 t279, .bool false]) ?_ 5 _ rfl; (with_reducible repeat (first | refine blk_drewN ?_ _ | refine blk_drew ?_ | refine blk_alloc ?_ _)); refine blk_put (cs := #[.slice Ao144 t273.length co144, .int .i64 t276, .int .i64 t277, .int .i64 t278, .int .i64 0, .bool false]) ?_ 4 _ rfl; (with_reducible repeat (first | refine blk_drewN ?_ _ | refine blk_drew ?_ | refine blk_alloc ?_ _)); refine blk_put (cs := #[.slice Ao144 t273.length co144, .int .i64 t276, .int .i64 t277, .int .i64 0, .int .i64 0, .bool false]) ?_ 3 _ rfl; (with_reducible repeat (first | refine blk_drewN ?_ _ | refine blk_drew ?_ | refine blk_alloc ?_ _)); refine blk_put (cs := #[.slice Ao144 t273.length co144, .int .i64 t276, .int .i64 0, .int .i64 0, .int .i64 0, .bool false]) ?_ 2 _ rfl; (with_reducible repeat (first | refine blk_drewN ?_ _ | refine blk_drew ?_ | refine blk_alloc ?_ _)); refine blk_put (cs := #[.slice Ao144 t273.length co144, .int .i64 0, .int .i64 0, .int .i64 0, .int .i64 0, .bool false]) ?_ 1 _ rfl; (with_reducible repeat (first | refine blk_drewN ?_ _ | refine blk_drew ?_ | refine blk_alloc ?_ _)); refine blk_put (cs := #[.slice none 0 0, .int .i64 0, .int .i64 0, .int .i64 0, .int .i64 0, .bool false]) ?_ 0 _ rfl; (with_reducible repeat (first | refine blk_drewN ?_ _ | refine blk_drew ?_ | refine blk_alloc ?_ _)); exact BK281.out) hb); have n11_ := Aside0.mk (below_step (by repeat (first | (with_reducible first | exact HB.out | apply below_alloc | apply pw_below_drewN | apply below_drew1 | refine below_set ?_ GE196.out | refine below_set ?_ GE218.out | refine below_set ?_ GE227.out | refine below_set ?_ GE239.out | refine below_set ?_ GE281.out) | exact HB.out)) hb); clear HO_219000; clear HO_228000; clear HO_240000; clear HO264; clear HO272; clear HO275; clear BK196; clear BK218; clear BK227; clear BK239; clear BK281; clear HB; have HO_219000 := n0_; have HO_228000 := n1_; have HO_240000 := n2_; have HO264 := n3_; have HO272 := n4_; have HO275 := n5_; have BK196 := n6_; have BK218 := n7_; have BK227 := n8_; have BK239 := n9_; have BK281 := n10_; have HB := n11_; clear n0_ n1_ n2_ n3_ n4_ n5_ n6_ n7_ n8_ n9_ n10_ n11_; (try clear hb); (try clear hb2); (try clear hk); (try clear hi); have hcz153_0 : w152.cell? ⟨gb239, 0, none⟩ = some (.slice Ao55 t231.length co55) := (blk_cell BK239.out 0).trans rfl; have hcz153_1 : w152.cell? ⟨gb239, 1, none⟩ = some (.int .i64 t234) := (blk_cell BK239.out 1).trans rfl; have hcz153_2 : w152.cell? ⟨gb239, 2, none⟩ = some (.int .i64 t235) := (blk_cell BK239.out 2).trans rfl; have hcz153_3 : w152.cell? ⟨gb239, 3, none⟩ = some (.int .i64 t236) := (blk_cell BK239.out 3).trans rfl; have hcz153_4 : w152.cell? ⟨gb239, 4, none⟩ = some (.int .i64 t237) := (blk_cell BK239.out 4).trans rfl; have hcz153_5 : w152.cell? ⟨gb239, 5, none⟩ = some (.bool t238) := (blk_cell BK239.out 5).trans rfl; have hfz153_0 := blk_frozen BK239.out 0; have hfz153_1 := blk_frozen BK239.out 1; have hfz153_2 := blk_frozen BK239.out 2; have hfz153_3 := blk_frozen BK239.out 3; have hfz153_4 := blk_frozen BK239.out 4; have hfz153_5 := blk_frozen BK239.out 5) | ((with_reducible refine gate_callee (f := 17) rfl ?_); refine goesL_ (some 86) rfl rfl Try.func17 (by kernel_rfl) rfl #[.agg #[.slice Ao55 t260.length co55, .int .i64 t234, .int .i64 t235, .int .i64 t236, .int .i64 t237, .bool t238], .int .i64 1] rfl (by (try simp only [List.map_toArray, List.map_cons, List.map_nil]); first | done | (rw [show t260.length = t231.length from (Kd.R_reads' HO_240000.out).1.symm] <;> rfl) | rfl | (simp only [List.length_drop, List.length_take]; rfl)) ?_; (with_reducible refine (laws_heldFs.calls kj28 _ _ t260 t234 t235 t236 t237 t238 1 t283 _ ?side1 ?side2 A98.out).mono ?_); (case side1 => repeat (first | exact (Kd.R_reads' HO_240000.out).2.2 | (with_reducible refine Kd.C_alloc ?_ _) | (with_reducible refine Kd.C_drewN ?_ _) | (with_reducible refine Kd.C_drew ?_))); (case side2 => rw [show t260.length = t231.length from (Kd.R_reads' HO_240000.out).1.symm]; exact (Kd.R_reads' HO_240000.out).2.1); rintro e w154 ⟨rfl, hb⟩; refine ⟨_, rfl, ?_⟩; have n0_ := Aside0.mk (Kd.R_below (by (with_reducible repeat (first | apply Kd.R_alloc | apply Kd.R_drewN | apply Kd.R_drew)); exact HO_219000.out) hb); have n1_ := Aside0.mk (Kd.R_below (by (with_reducible repeat (first | apply Kd.R_alloc | apply Kd.R_drewN | apply Kd.R_drew)); exact HO_228000.out) hb); have n2_ := Aside0.mk (Kd.R_below (by (with_reducible repeat (first | apply Kd.R_alloc | apply Kd.R_drewN | apply Kd.R_drew)); exact HO_240000.out) hb); have n3_ := Aside0.mk (Kd.R_below (by (with_reducible repeat (first | apply Kd.R_alloc | apply Kd.R_drewN | apply Kd.R_drew)); exact HO264.out) hb); have n4_ := Aside0.mk (Kd.R_below (by (with_reducible repeat (first | apply Kd.R_alloc | apply Kd.R_drewN | apply Kd.R_drew)); exact HO272.out) hb); have n5_ := Aside0.mk (Kd.R_below (by (with_reducible repeat (first | apply Kd.R_alloc | apply Kd.R_drewN | apply Kd.R_drew)); exact HO275.out) hb); have n6_ := Aside0.mk (blk_below (g := gb196) (o := .cells #[.slice A0_0 l0_0.length c0_0, .int .i64 a0_1, .int .i64 a0_2, .int .i64 a0_3, .int .i64 a0_4, .bool a0_5] 24 (0, 0)) (by (with_reducible repeat (first | refine blk_drewN ?_ _ | refine blk_drew ?_ | refine blk_alloc ?_ _)); exact BK196.out) hb); have n7_ := Aside0.mk (blk_below (g := gb218) (o := .cells #[.slice Ao40 t210.length co40, .int .i64 t213, .int .i64 t214, .int .i64 t215, .int .i64 t216, .bool t217] 30 (0, 0)) (by (with_reducible repeat (first | refine blk_drewN ?_ _ | refine blk_drew ?_ | refine blk_alloc ?_ _)); exact BK218.out) hb); have n8_ := Aside0.mk (blk_below (g := gb227) (o := .cells #[.slice Ao46 t255.length co46, .int .i64 t222, .int .i64 t223, .int .i64 t224, .int .i64 t225, .bool t226] 30 (0, 0)) (by (with_reducible repeat (first | refine blk_drewN ?_ _ | refine blk_drew ?_ | refine blk_alloc ?_ _)); exact BK227.out) hb); have n9_ := Aside0.mk (blk_below (g := gb239) (o := .cells #[.slice Ao55 t231.length co55, .int .i64 t234, .int .i64 t235, .int .i64 t236, .int .i64 t237, .bool t238] 30 (0, 0)) (by (with_reducible repeat (first | refine blk_drewN ?_ _ | refine blk_drew ?_ | refine blk_alloc ?_ _)); exact BK239.out) hb); have n10_ := Aside0.mk (blk_below (g := gb281) (o := .cells #[.slice Ao144 t273.length co144, .int .i64 t276, .int .i64 t277, .int .i64 t278, .int .i64 t279, .bool t280] 30 (0, 0)) (by (with_reducible repeat (first | refine blk_drewN ?_ _ | refine blk_drew ?_ | refine blk_alloc ?_ _)); exact BK281.out) hb); have n11_ := Aside0.mk (below_step (by repeat (first | (with_reducible first | exact HB.out | apply below_alloc | apply pw_below_drewN | apply below_drew1 | refine below_set ?_ GE196.out | refine below_set ?_ GE218.out | refine below_set ?_ GE227.out | refine below_set ?_ GE239.out | refine below_set ?_ GE281.out) | exact HB.out)) hb); clear HO_219000; clear HO_228000; clear HO_240000; clear HO264; clear HO272; clear HO275; clear BK196; clear BK218; clear BK227; clear BK239; clear BK281; clear HB; have HO_219000 := n0_; have HO_228000 := n1_; have HO_240000 := n2_; have HO264 := n3_; have HO272 := n4_; have HO275 := n5_; have BK196 := n6_; have BK218 := n7_; have BK227 := n8_; have BK239 := n9_; have BK281 := n10_; have HB := n11_; clear n0_ n1_ n2_ n3_ n4_ n5_ n6_ n7_ n8_ n9_ n10_ n11_; (try clear hb); (try clear hb2); (try clear hk); (try clear hi)))
                            go_ret
                            exact ⟨by first | rfl | (simp [errW_none, errW_some] <;> rfl) | (simp [*, errW_none, errW_some] <;> rfl), by repeat (first | (with_reducible first | exact HB.out | apply below_alloc | apply pw_below_drewN | apply below_drew1 | refine below_set ?_ GE196.out | refine below_set ?_ GE218.out | refine below_set ?_ GE227.out | refine below_set ?_ GE239.out | refine below_set ?_ GE281.out) | exact HB.out)⟩
                          · rw [if_neg c127] at H
                            have c127b0 : (t283 == t259) = false := beq_eq_false_iff_ne.mpr c127
                            have c127b1 : (t283 != t259) = true := bne_iff_ne.mpr c127
                            subst hT
                            cases H
                      · replace c97 := Bool.eq_false_iff.mpr c97
                        subst c97
                        have H1 : (some false) = some r := by rw [if_neg (show ¬ (false = true) by decide)] at H; exact H
                        clear H
                        have H := H1
                        clear H1
                        subst hT
                        cases H
                    · rw [if_neg c92] at H
                      have c92b0 : (t261 == t259) = false := beq_eq_false_iff_ne.mpr c92
                      have c92b1 : (t261 != t259) = true := bne_iff_ne.mpr c92
                      subst hT
                      cases H
          · replace c26 := Bool.eq_false_iff.mpr c26
            subst c26
            have H1 : (some false) = some r := by rw [if_neg (show ¬ (false = true) by decide)] at H; exact H
            clear H
            have H := H1
            clear H1
            subst hT
            cases H
        · replace c23 := Bool.eq_false_iff.mpr c23
          subst c23
          have H1 : (some false) = some r := by rw [if_neg (show ¬ (false = true) by decide)] at H; exact H
          clear H
          have H := H1
          clear H1
          subst hT
          cases H
      · replace c20 := Bool.eq_false_iff.mpr c20
        subst c20
        have H1 : (some false) = some r := by rw [if_neg (show ¬ (false = true) by decide)] at H; exact H
        clear H
        have H := H1
        clear H1
        subst hT
        cases H
end Go.Proofs.Ytmchcoafkaggkaa.L
end
section
set_option linter.unusedVariables false
set_option linter.unusedSimpArgs false
namespace Go.Proofs.Ytmchcoafkaggkaa
open Go.RowKit Go.ChangeShapes Go.WideShapes Go.Proofs.YtmchcoafkaggkaaW.PrintWords
/-- Whatever reads as a datum of type t is a value of the kind d that is 'good'. -/
def Opens {α : Type} (P : Program) (t : TypeId) (d : Kd α) (good : α → Prop) : Prop :=
  ∀ (H : Type) (enc : TypeId × Value → H) (W : World) (fuel : Nat) (cs : List Value) (x : DataW H × List MemPlace),
    DataW.trod enc P W 0 (fun _ => true) true fuel t cs = some x → ∃ a, d.K W a cs ∧ good a
theorem opens_int {P : Program} {t : TypeId} {k : IntKind} (ht : P.underlying t = some (.int k)) : Opens P t (Kd.int k) (fun n => (Lit.int k n).wf = true) :=
  fun H enc W fuel cs x h => by
    obtain ⟨n, rfl, _, hw⟩ := DataW.trod_int ht h
    exact ⟨n, rfl, hw⟩
theorem opens_bool {P : Program} {t : TypeId} (ht : P.underlying t = some .bool) : Opens P t Kd.bool (fun _ => True) :=
  fun H enc W fuel cs x h => by
    obtain ⟨n, rfl, _⟩ := DataW.trod_bool ht h
    exact ⟨n, rfl, trivial⟩
theorem opens_string {P : Program} {t : TypeId} (ht : P.underlying t = some .string) : Opens P t Kd.string (fun s => s.size ≤ maxLen) :=
  fun H enc W fuel cs x h => by
    obtain ⟨n, rfl, _, hw⟩ := DataW.trod_string ht h
    exact ⟨n, rfl, hw⟩
theorem cells_of_some {W : World} {a : Addr} {n : Nat} {cs : List Value} (h : W.cells? 0 a n = some cs) : cs.length = n ∧ ∀ i u, cs[i]? = some u → W.cell? (a.add i) = some u := by
  unfold World.cells? at h
  rw [if_pos (Nat.zero_le _)] at h
  have hl := mapM_some_length h
  rw [List.length_range] at hl
  refine ⟨hl, fun i u hu => ?_⟩
  have hi : i < n := by
    rcases Nat.lt_or_ge i n with h' | h'
    · exact h'
    · rw [List.getElem?_eq_none (by omega)] at hu; cases hu
  have := mapM_some_get h i i (by simp [hi])
  rw [this]; exact hu
theorem opens_slice {α : Type} {P : Program} {t e : TypeId} {d : Kd α} {good : α → Prop} [Inhabited α] (ht : P.underlying t = some (.slice e)) (hc : P.cellsOf e = d.sz) (he : Opens P e d good) :
    Opens P t (Kd.slice e d) (fun l => ∀ a ∈ l, good a) :=
  fun H enc W fuel cs x h => by
    rcases Go.Deep.open_slice ht h with ⟨rfl, _⟩ | ⟨a, len, cap, m, n, D, Pl, rfl, _, hlc, hm, hmm, _, hel⟩
    · exact ⟨[], ⟨none, 0, rfl, Nat.le_refl _, rfl, by simp, fun h => absurd h (by simp)⟩, fun a ha => by cases ha⟩
    · have hmc : m = cap := by simpa using hmm
      subst hmc
      have hx : ∀ i, i < len → ∃ y : α, (∃ cs', W.cells? 0 (a.add (i * P.cellsOf e)) (P.cellsOf e) = some cs' ∧ d.K W y cs') ∧ good y := fun i hi => by
        obtain ⟨cs', h1, h2⟩ := hel i (by omega)
        obtain ⟨y, hy, hg⟩ := he H enc W n cs' _ h2
        exact ⟨y, ⟨cs', h1, hy⟩, hg⟩
      obtain ⟨f, hf⟩ := Go.Deep.choose_lt hx
      have hlen : ((List.range len).map f).length = len := by simp
      refine ⟨(List.range len).map f, ⟨some a, m, by rw [hlen], by rw [hlen]; exact hlc, ?_⟩, fun y hy => ?_⟩
      · refine ⟨rfl, by rw [hlen]; unfold maxLen at hm; omega, fun _ => ⟨a, rfl, fun j p hp => ?_⟩⟩
        have hj : j < len := by
          rcases Nat.lt_or_ge j len with h' | h'
          · exact h'
          · rw [List.getElem?_eq_none (by omega)] at hp; cases hp
        have hpe : f j = p := by simpa [hj] using hp
        obtain ⟨⟨cs', h1, h2⟩, _⟩ := hf j hj
        obtain ⟨hl', hcell⟩ := cells_of_some h1
        refine ⟨cs', by rw [hl', hc], hpe ▸ h2, fun i u hu => ?_⟩
        have := hcell i u hu
        rw [Go.Deep.add_add, hc] at this
        exact this
      · obtain ⟨j, hj, rfl⟩ := List.mem_map.1 hy
        exact (hf j (List.mem_range.1 hj)).2
/-- Two cuts of a list, one behind the other. -/
theorem take_drop_add {α : Type} (cs : List α) (m n : Nat) : (cs.drop m).take n ++ cs.drop (m + n) = cs.drop m := by
  rw [← List.drop_drop]; exact List.take_append_drop n (cs.drop m)
/-- The fields from number i on, of a struct, one kind a field. -/
def OpensF {α : Type} (P : Program) (fs : Array Field) (i off : Nat) (d : Kd α) (good : α → Prop) : Prop :=
  ∀ (H : Type) (enc : TypeId × Value → H) (W : World) (n : Nat) (cs : List Value) (xs : List (DataW H × List MemPlace)), off ≤ cs.length → cs.length - off = d.sz → xs.length = fs.size →
    (∀ (j : Nat) (f : Field), fs[j]? = some f → DataW.trod enc P W 0 (fun _ => true) true n f.type ((cs.drop f.offset).take (P.cellsOf f.type)) = xs[j]?) → ∃ a, d.K W a (cs.drop off) ∧ good a
theorem opensF_last {α : Type} {P : Program} {fs : Array Field} {i off : Nat} {d : Kd α} {good : α → Prop} (f : Field) (hf : fs[i]? = some f) (ho : f.offset = off) (hc : P.cellsOf f.type = d.sz) (h : Opens P f.type d good) :
    OpensF P fs i off d good := fun H enc W n cs xs hle hl hx hg => by
  have hi : i < fs.size := by
    rcases Nat.lt_or_ge i fs.size with h' | h'
    · exact h'
    · rw [Array.getElem?_eq_none h'] at hf; cases hf
  have h1 := hg i f hf
  have hxi : xs[i]? = some (xs[i]'(by omega)) := List.getElem?_eq_getElem (by omega)
  rw [hxi, ho, hc, List.take_of_length_le (by simp; omega)] at h1
  exact h H enc W n _ _ h1
theorem opensF_cons {α β : Type} {P : Program} {fs : Array Field} {i off : Nat} {d : Kd α} {good : α → Prop} {d' : Kd β} {good' : β → Prop} (f : Field) (hf : fs[i]? = some f) (ho : f.offset = off) (hc : P.cellsOf f.type = d.sz)
    (h : Opens P f.type d good) (h' : OpensF P fs (i + 1) (off + d.sz) d' good') : OpensF P fs i off (Kd.pair d d') (fun x => good x.1 ∧ good' x.2) := fun H enc W n cs xs hle hl hx hg => by
  have hi : i < fs.size := by
    rcases Nat.lt_or_ge i fs.size with h' | h'
    · exact h'
    · rw [Array.getElem?_eq_none h'] at hf; cases hf
  have h1 := hg i f hf
  have hxi : xs[i]? = some (xs[i]'(by omega)) := List.getElem?_eq_getElem (by omega)
  rw [hxi, ho, hc] at h1
  obtain ⟨a, ha, hga⟩ := h H enc W n _ _ h1
  have hs : cs.length - off = d.sz + d'.sz := hl
  obtain ⟨b, hb, hgb⟩ := h' H enc W n cs xs (by omega) (by omega) hx hg
  exact ⟨(a, b), ⟨(cs.drop off).take d.sz, cs.drop (off + d.sz), (take_drop_add cs off d.sz).symm, ha, hb⟩, hga, hgb⟩
theorem opens_struct {α : Type} {P : Program} {t : TypeId} {fs : Array Field} {d : Kd α} {good : α → Prop} (ht : P.underlying t = some (.struct fs)) (hc : P.cellsOf t = d.sz) (h : OpensF P fs 0 0 d good) : Opens P t d good :=
  fun H enc W fuel cs x hx => by
    obtain ⟨xs, n, _, _, hl, hxl, hg⟩ := DataW.trod_struct ht hx
    have := h H enc W n cs xs (Nat.zero_le _) (by omega) hxl hg
    simpa using this
theorem len_le {α : Type} {d : Kd α} {W : World} {A : Option Addr} {l : List α} (h : d.C W A l.length l) : l.length ≤ maxLen := by
  have := h.2.1
  unfold maxLen
  omega
end Go.Proofs.Ytmchcoafkaggkaa
end
section
set_option linter.unusedVariables false
set_option linter.unusedSimpArgs false
namespace Go.Proofs.Ytmchcoafkaggkaa.fnExactFsCrash
open Go.ChangeShapes Go.WideShapes Go.ChangeAt Go.RowKit Go.Proofs.Ytmchcoafkaggkaa Go.Proofs.Ytmchcoafkaggkaa.L Go.Proofs.YtmchcoafkaggkaaW.PrintWords
open Go.ChangeMaps (open_string shut_string)
def good83 (x : S83) : Prop := x.f0.size ≤ maxLen ∧ x.f1.size ≤ maxLen ∧ (Lit.int .i64 x.f2).wf = true
instance : Inhabited S83 := ⟨z83⟩
theorem open83 : Opens Try.prog 83 k83 good83 := fun H enc W fuel cs x h => by
  obtain ⟨a, ha, hg⟩ := (opens_struct Try.underlying83 (by kernel_rfl) (opensF_cons _ rfl rfl (by kernel_rfl) (opens_string Try.underlying9) (opensF_cons _ rfl rfl (by kernel_rfl) (opens_string Try.underlying9) (opensF_last _ rfl rfl (by kernel_rfl) (opens_int Try.underlying3))))) H enc W fuel cs x h
  exact ⟨⟨a.1, a.2.1, a.2.2⟩, ha, hg⟩
/-- THE ONE PURE STATEMENT of the law: no memory, no Go. -/
def Pure0 : Prop := ∀ (l0_0 : List (S83)) (a0_1 : Int) (a0_2 : Int) (a0_3 : Int) (a0_4 : Int) (a0_5 : Bool) (l1 : List ByteArray), l0_0.length ≤ maxLen → (∀ y ∈ l0_0, good83 y) → (Lit.int .i64 a0_1).wf = true → (Lit.int .i64 a0_2).wf = true → (Lit.int .i64 a0_3).wf = true → (Lit.int .i64 a0_4).wf = true → l1.length ≤ maxLen → (∀ y ∈ l1, y.size ≤ maxLen) → ∃ k, laws_FnExactFsCrash.f k l0_0 a0_1 a0_2 a0_3 a0_4 a0_5 l1 = some true
theorem own : ownKnob Try.prog.godebug = none := by kernel_rfl
theorem laidOut : laidOutB Try.prog = true := by kernel_rfl
set_option maxRecDepth 100000 in
theorem lifted (Q : Pure0) (os : Os) (started : os.Started) (H : Type) (enc : TypeId × Value → H) :
    ReturnsInHanded {} Try.checked os 3 .any (Rows.fnExactFsCrashSpec.pre6 enc Try.prog Try.f3 Rows.fnExactFsCrashRow.domain false) (Rows.fnExactFsCrashSpec.post enc Try.prog Try.f3 false true false false) := by
  refine returnsInHanded_of_change (C := Try.checked) own started (by kernel_rfl) Try.func3
    (ChangeSpec.witness6 (enc := enc) (C := Try.checked) false ⟨#[], #[.agg #[.slice none 0 0, .int .i64 0, .int .i64 0, .int .i64 0, .int .i64 0, .bool false], .slice none 0 0], []⟩ 8 (by kernel_rfl) (by kernel_rfl) (by kernel_rfl) (by kernel_rfl)) ?_
  intro W base args ds gs before hval0 hW hcnd _
  have hval : ∀ (j : Nat) t v, Try.f3.params[j]? = some t → args[j]? = some v → Value.okWide Try.prog W .any base t v := hval0
  have hW' := hW
  obtain ⟨p, q, hA0, hV, rfl, hfz, hnd⟩ := hW
  have hA : DataW.TrodAll enc Try.prog W 0 (fun _ => true) true Try.f3.params.toList args.toList ds p := hA0
  rw [Try.params3] at hA hval
  obtain ⟨v0, vs0, d0, ds0, p0, q0, hargs, rfl, rfl, h0, r0⟩ := trodAll_cons hA
  obtain ⟨v1, vs1, d1, ds1, p1, q1, rfl, rfl, rfl, h1, r1⟩ := trodAll_cons r0
  obtain ⟨rfl, rfl, rfl⟩ := trodAll_nil r1
  obtain rfl : args = #[v0, v1] := by cases args; simp_all
  obtain ⟨rfl, rfl⟩ := trodVars_none hV
  have k0 := h0
  have lt0 : ∀ x ∈ p0, x.block < W.heap.size := by obtain ⟨m, hm⟩ := k0; exact DataW.trod_lt m _ _ _ hm
  obtain ⟨cs0, rfl, hsz0⟩ := okWide_struct Try.underlying24 (hval 0 24 v0 rfl rfl)
  obtain ⟨fuel0, hf0⟩ := h0
  obtain ⟨x0, hK0, hg0⟩ := (opens_struct Try.underlying24 (by kernel_rfl) (opensF_cons _ rfl rfl (by kernel_rfl) (opens_slice Try.underlying22 (by kernel_rfl) open83) (opensF_cons _ rfl rfl (by kernel_rfl) (opens_int Try.underlying3) (opensF_cons _ rfl rfl (by kernel_rfl) (opens_int Try.underlying3) (opensF_cons _ rfl rfl (by kernel_rfl) (opens_int Try.underlying3) (opensF_cons _ rfl rfl (by kernel_rfl) (opens_int Try.underlying3) (opensF_last _ rfl rfl (by kernel_rfl) (opens_bool Try.underlying4)))))))) H enc W fuel0 cs0.toList _ (by simpa [Value.cells] using hf0)
  obtain ⟨e5_, f5_, hcs0, ⟨A0_0, c0_0, rfl, hc0_0, hr0_0⟩, ⟨e4_, f4_, rfl, rfl, ⟨e3_, f3_, rfl, rfl, ⟨e2_, f2_, rfl, rfl, ⟨e1_, f1_, rfl, rfl, rfl⟩⟩⟩⟩⟩ := hK0
  obtain rfl : cs0 = #[.slice A0_0 x0.1.length c0_0, .int .i64 x0.2.1, .int .i64 x0.2.2.1, .int .i64 x0.2.2.2.1, .int .i64 x0.2.2.2.2.1, .bool x0.2.2.2.2.2] := by
    have h_ := congrArg List.toArray hcs0
    simpa using h_
  clear hcs0 hsz0
  have k1 := h1
  have lt1 : ∀ x ∈ p1, x.block < W.heap.size := by obtain ⟨m, hm⟩ := k1; exact DataW.trod_lt m _ _ _ hm
  obtain ⟨A1, n1, c1, rfl⟩ := okWide_slice Try.underlying25 (hval 1 25 v1 rfl rfl)
  obtain ⟨fuel1, hf1⟩ := h1
  obtain ⟨l1, ⟨A1', c1', he1, hc1, hr1⟩, hg1⟩ := (opens_slice Try.underlying25 (by kernel_rfl) (opens_string Try.underlying9)) H enc W fuel1 [.slice A1 n1 c1] _ (by simpa [Value.cells] using hf1)
  simp only [List.cons.injEq, Value.slice.injEq, and_true] at he1
  obtain ⟨rfl, rfl, rfl⟩ := he1
  clear hA0 hval0
  obtain ⟨k, hk⟩ := Q (x0.1) (x0.2.1) (x0.2.2.1) (x0.2.2.2.1) (x0.2.2.2.2.1) (x0.2.2.2.2.2) l1 (len_le hr0_0) hg0.1 hg0.2.1 hg0.2.2.1 hg0.2.2.2.1 hg0.2.2.2.2.1 (len_le hr1) hg1
  refine (laws_FnExactFsCrash.calls k A0_0 c0_0 (x0.1) (x0.2.1) (x0.2.2.1) (x0.2.2.2.1) (x0.2.2.2.2.1) (x0.2.2.2.2.2) A1 c1 l1 true rfl W hr0_0 hc0_0 hr1 hc1 hk).mono fun e W' he => ?_
  obtain ⟨rfl, bel0⟩ := he
  have bel : Below W.heap.size W W' := bel0
  exact ⟨_, rfl, _, _, _, [], _, [], hW', trodAll_mk1 (shut_bool Try.underlying4 _), (trodAll_cons_mk (Below.trod laidOut (by kernel_rfl) (of_decide_eq_true (by kernel_rfl)) k0 bel lt0) (trodAll_cons_mk (Below.trod laidOut (by kernel_rfl) (of_decide_eq_true (by kernel_rfl)) k1 bel lt1) trodAll_mk0)), rfl, bel.frame _, fun h => by cases h⟩
theorem over (Q : Pure0) : Rows.fnExactFsCrashRow.holds Try.pinned (OpenSpec.ofChange Rows.fnExactFsCrashSpec) :=
  OpenClaim.holds_of_wide 3 Try.f3 rfl rfl rfl rfl rfl rfl rfl ⟨rfl, rfl, rfl, rfl, rfl⟩ rfl rfl rfl rfl rfl (by kernel_rfl) Try.func3 (by kernel_rfl)
    (of_decide_eq_true (by kernel_rfl)) (by unfold Func.isWrapper; first | (rw [if_pos (by decide +kernel)]; kernel_rfl) | (rw [if_neg (by decide +kernel)]; exact ⟨rfl, rfl⟩))
    (fun os started H enc _ => lifted Q os started H enc)
end Go.Proofs.Ytmchcoafkaggkaa.fnExactFsCrash
end
section
set_option linter.unusedVariables false
set_option linter.unusedSimpArgs false
namespace Go.Proofs.Ytmchcoafkaggkaa.Pure
open Go.RowKit Go.Proofs.Ytmchcoafkaggkaa Go.Proofs.Ytmchcoafkaggkaa.L Go.Proofs.YtmchcoafkaggkaaW.PrintWords Go.Proofs.YtmchcoafkaggkaaW.PrintLast
theorem w64 (x : Int) (h : -9223372036854775808 ≤ x ∧ x ≤ 9223372036854775807) : wrap64 x = x := by unfold wrap64; omega
theorem wsucc (i : Nat) (h : i < 9223372036854775807) : wrap64 ((i : Int) + 1) = ((i + 1 : Nat) : Int) := by unfold wrap64; omega
theorem rdS (l : List ByteArray) (i : Nat) (h : i < l.length) : rdOf ByteArray.empty l (i : Int) = l[i] := by
  simp [rdOf, List.getD, h]
theorem toS_l0 (e : Nat) : ∀ (l o : List ByteArray) (i : Nat), i + e = l.length → o.length = l.length → l.length ≤ 17592186044416 → (∀ j, j < i → o[j]? = l[j]?) →
    Ev (fun k => laws_toStringS.l0 k l o i) l := by
  induction e with
  | zero =>
    intro l o i hi ho hl hx
    have : o = l := by
      apply List.ext_getElem?
      intro j
      by_cases hj : j < i
      · exact hx j hj
      · rw [List.getElem?_eq_none (by omega), List.getElem?_eq_none (by omega)]
    subst this
    exact Ev.step (f := fun _ => some o) (fun k => by rw [laws_toStringS.l0, if_neg (by omega)]) (Ev.now _)
  | succ e ih =>
    intro l o i hi ho hl hx
    have hil : i < l.length := by omega
    refine Ev.step (f := fun k => laws_toStringS.l0 k l (o.set i l[i]) ((i + 1 : Nat) : Int)) (fun k => ?_) (ih l (o.set i l[i]) (i + 1) (by omega) (by rw [List.length_set]; exact ho) hl (fun j hj => ?_))
    · rw [laws_toStringS.l0, if_pos (by omega), if_pos (by omega), if_pos (by omega), rdS l i hil, wsucc i (by omega)]
      rfl
    · rw [List.getElem?_set]
      by_cases h : i = j
      · subst h; simp [hil, ho]
      · rw [if_neg h]; exact hx j (by omega)
theorem toS_ev (l : List ByteArray) (h : l.length ≤ 17592186044416) : Ev (fun k => laws_toStringS.f k l) l := by
  refine Ev.congr (fun k => ?_) (toS_l0 l.length l (List.replicate l.length ⟨#[]⟩) 0 (by omega) List.length_replicate h (fun j hj => by omega))
  unfold laws_toStringS.f
  rw [if_pos (by omega), if_pos (by omega)]
  simp
theorem eqS_l0 (e : Nat) : ∀ (l : List ByteArray) (i : Nat), i + e = l.length → l.length ≤ 9223372036854775807 → Ev (fun k => laws_eqStringS.l0 k l l i) true := by
  induction e with
  | zero =>
    intro l i hi hl
    exact Ev.step (f := fun _ => some true) (fun k => by rw [laws_eqStringS.l0, if_neg (by omega)]) (Ev.now _)
  | succ e ih =>
    intro l i hi hl
    exact Ev.step (fun k => by rw [laws_eqStringS.l0, if_pos (by omega), if_pos (by omega), if_pos (by omega), if_pos rfl, wsucc i (by omega)]) (ih l (i + 1) (by omega) hl)
theorem eqS_ev (l : List ByteArray) (hl : l.length ≤ 9223372036854775807) : Ev (fun k => laws_eqStringS.f k l l) true := by
  refine Ev.congr (fun k => ?_) (eqS_l0 l.length l 0 (by omega) hl)
  unfold laws_eqStringS.f
  rw [if_pos rfl]
  rfl
/-- The bytes of the strings of a list. -/
def sumS (l : List ByteArray) : Nat := (l.map ByteArray.size).sum
theorem szS_l0 (e : Nat) : ∀ (l : List ByteArray) (i : Nat) (a : Int), i + e = l.length → l.length ≤ 9223372036854775807 → (∀ y ∈ l, y.size ≤ 9223372036854775807) → 0 ≤ a → a ≤ 9223372036854775807 →
    Ev (fun k => laws_szStringS.l0 k l a i) (if (sumS (l.drop i) : Int) ≤ a then a - sumS (l.drop i) else -1) := by
  induction e with
  | zero =>
    intro l i a hi hl hs h0 h1
    have hd : l.drop i = [] := List.drop_eq_nil_of_le (by omega)
    rw [hd]
    refine Ev.step (f := fun _ => some a) (fun k => by rw [laws_szStringS.l0, if_neg (by omega)]) ?_
    simp [sumS, h0]
    exact Ev.now _
  | succ e ih =>
    intro l i a hi hl hs h0 h1
    have hil : i < l.length := by omega
    have hy := hs _ (List.getElem_mem hil)
    have hd : l.drop i = l[i] :: l.drop (i + 1) := List.drop_eq_getElem_cons hil
    have hsum : sumS (l.drop i) = l[i].size + sumS (l.drop (i + 1)) := by rw [hd]; rfl
    by_cases hc : a - (l[i].size : Int) < 0
    · refine Ev.step (f := fun _ => some (-1)) (fun k => ?_) ?_
      · rw [laws_szStringS.l0, if_pos (by omega), if_pos (by omega), rdS l i hil, w64 _ (by omega), if_pos hc]
      · rw [if_neg (by omega)]; exact Ev.now _
    · refine Ev.step (fun k => ?_) ?_ (f := fun k => laws_szStringS.l0 k l (a - (l[i].size : Int)) ((i + 1 : Nat) : Int))
      · rw [laws_szStringS.l0, if_pos (by omega), if_pos (by omega), rdS l i hil, w64 (a - _) (by omega), if_neg hc, wsucc i (by omega)]
      · have := ih l (i + 1) (a - (l[i].size : Int)) (by omega) hl hs (by omega) (by omega)
        have e1 : ((sumS (l.drop (i + 1)) : Int) ≤ a - (l[i].size : Int)) ↔ ((sumS (l.drop i) : Int) ≤ a) := by rw [hsum]; omega
        have e2 : a - (l[i].size : Int) - (sumS (l.drop (i + 1)) : Int) = a - (sumS (l.drop i) : Int) := by rw [hsum]; omega
        rw [e2] at this
        simpa only [e1] using this
/-- What a list of strings weighs: its places and its bytes. -/
def wtS (l : List ByteArray) : Nat := l.length + sumS l
theorem szS_ev (l : List ByteArray) (a : Int) (hl : l.length ≤ 9223372036854775807) (hs : ∀ y ∈ l, y.size ≤ 9223372036854775807) (h0 : 0 ≤ a) (h1 : a ≤ 1048576) :
    Ev (fun k => laws_szStringS.f k l a) (if (wtS l : Int) ≤ a then a - wtS l else -1) := by
  unfold laws_szStringS.f
  simp only [w64 (a - (l.length : Int)) (by omega)]
  by_cases hc : a - (l.length : Int) < 0
  · simp only [if_pos hc]
    rw [if_neg (by unfold wtS; omega)]
    exact Ev.now _
  · simp only [if_neg hc]
    have h := szS_l0 l.length l 0 (a - (l.length : Int)) (by omega) hl hs (by omega) (by omega)
    simp only [List.drop_zero] at h
    have e1 : ((sumS l : Int) ≤ a - (l.length : Int)) ↔ ((wtS l : Int) ≤ a) := by unfold wtS; omega
    have e2 : a - (l.length : Int) - (sumS l : Int) = a - (wtS l : Int) := by unfold wtS; omega
    rw [e2] at h
    simp only [e1] at h
    exact h
end Go.Proofs.Ytmchcoafkaggkaa.Pure
end
section
set_option linter.unusedVariables false
set_option linter.unusedSimpArgs false
namespace Go.Proofs.Ytmchcoafkaggkaa.Pure
open Go.RowKit Go.Proofs.Ytmchcoafkaggkaa Go.Proofs.Ytmchcoafkaggkaa.L Go.Proofs.YtmchcoafkaggkaaW.PrintWords Go.Proofs.YtmchcoafkaggkaaW.PrintLast
theorem between_eq (x lo hi : Int) : spec_l1Between.f x lo hi = some (decide (lo ≤ x ∧ x ≤ hi)) := by
  unfold spec_l1Between.f
  by_cases h : lo ≤ x
  · rw [if_pos h]; simp [h]
  · rw [if_neg h]; simp [h]
/-- A file's name. -/
def nameOk (s : ByteArray) : Bool := decide (1 ≤ s.size) && decide (s.size ≤ 30) && allFrom fileByte s s.size 0
theorem impl_name (s : ByteArray) (h : s.size ≤ 9223372036854775807) : impl_isFileName.f s = some (nameOk s) := by
  unfold impl_isFileName.f nameOk
  rw [if_pos h]
theorem spec_name_l0 (d : Nat) : ∀ (s : ByteArray) (i : Nat), i + d = s.size → s.size ≤ 1000 → Ev (fun k => spec_l6FileName.l0 k s i) (allFrom fileByte s d i) := by
  induction d with
  | zero =>
    intro s i hi hs
    exact Ev.step (f := fun _ => some true) (fun k => by rw [spec_l6FileName.l0, if_neg (by omega)]) (Ev.now _)
  | succ d ih =>
    intro s i hi hs
    have hr := bt_range s i
    obtain ⟨b, hb⟩ : ∃ b, bt s i = b := ⟨_, rfl⟩
    simp only [allFrom]
    rw [hb] at hr ⊢
    have hw : wrap64 b = b := w64 b (by omega)
    have hnext := ih s (i + 1) (by omega) hs
    have e : ∀ k, spec_l6FileName.l0 (k + 1) s i = if fileByte b then spec_l6FileName.l0 k s ((i + 1 : Nat) : Int) else some false := fun k => by
      rw [spec_l6FileName.l0, if_pos (by omega), if_pos (by omega), hb, hw, between_eq, wsucc i (by omega)]
      unfold spec_l4Letter.f fileByte
      by_cases h1 : 97 ≤ b <;> by_cases h2 : b ≤ 122 <;> by_cases h3 : 48 ≤ b <;> by_cases h4 : b ≤ 57 <;> by_cases h5 : b = 45 <;> simp [h1, h2, h3, h4, h5]
    refine Ev.step e ?_
    cases hf : fileByte b
    · exact Ev.now _
    · simpa using hnext
theorem spec_name (s : ByteArray) : Ev (fun k => spec_l6FileName.f k s) (nameOk s) := by
  unfold spec_l6FileName.f nameOk
  simp only [between_eq, Option.bind_some]
  by_cases h1 : 1 ≤ s.size
  · by_cases h2 : s.size ≤ 30
    · have hc : decide ((1 : Int) ≤ (s.size : Int) ∧ (s.size : Int) ≤ 30) = true := decide_eq_true (by omega)
      simp only [hc, if_true, decide_eq_true h1, decide_eq_true h2, Bool.true_and]
      exact spec_name_l0 s.size s 0 (by omega) (by omega)
    · have hc : decide ((1 : Int) ≤ (s.size : Int) ∧ (s.size : Int) ≤ 30) = false := decide_eq_false (by omega)
      simp only [hc, decide_eq_false h2, Bool.and_false, Bool.false_and, if_neg (show ¬ (false = true) by decide)]
      exact Ev.now _
  · have hc : decide ((1 : Int) ≤ (s.size : Int) ∧ (s.size : Int) ≤ 30) = false := decide_eq_false (by omega)
    simp only [hc, decide_eq_false h1, Bool.false_and, if_neg (show ¬ (false = true) by decide)]
    exact Ev.now _
abbrev File := S58
theorem rdF (l : List File) (i : Nat) (h : i < l.length) : rd_T58 l (i : Int) = l[i] := by simp [rd_T58, h]
/-- The files' bytes. -/
def sumF (l : List File) : Nat := (l.map fun f => f.f1.size).sum
/-- File number i: its name, how much of it is synced, its place in the order. -/
def fileOk (l : List File) (i : Nat) : Bool :=
  match l[i]? with
  | none => true
  | some f => nameOk f.f0 && decide (0 ≤ f.f2 ∧ f.f2 ≤ (f.f1.size : Int)) && (decide (i = 0) || Op.bytesLess ((l.getD (i - 1) f).f0.toList) (f.f0.toList))
def filesFrom (l : List File) : Nat → Nat → Bool
  | 0, _ => true
  | d + 1, i => fileOk l i && filesFrom l d (i + 1)
def cntOk (n : Int) : Bool := decide (0 ≤ n ∧ n ≤ 1000000000000000)
/-- The document's FsValid. -/
def fsOk (l : List File) (cap count crash fail : Int) : Bool :=
  decide (l.length ≤ 300) && decide (0 ≤ cap ∧ cap ≤ 1000000000) && decide ((sumF l : Int) ≤ cap) && filesFrom l l.length 0 && (cntOk count && cntOk crash && cntOk fail)
theorem sumF_drop (l : List File) (i : Nat) (h : i < l.length) : sumF (l.drop i) = l[i].f1.size + sumF (l.drop (i + 1)) := by
  rw [show l.drop i = l[i] :: l.drop (i + 1) from List.drop_eq_getElem_cons h]
  rfl
theorem fileOk_at (l : List File) (i : Nat) (h : i < l.length) : fileOk l i = (nameOk l[i].f0 && decide (0 ≤ l[i].f2 ∧ l[i].f2 ≤ (l[i].f1.size : Int)) && (decide (i = 0) || Op.bytesLess ((l.getD (i - 1) l[i]).f0.toList) (l[i].f0.toList))) := by
  unfold fileOk
  rw [List.getElem?_eq_getElem h]
theorem spec_bytes_l0 (d : Nat) : ∀ (l : List File) (i : Nat) (c : Int), i + d = l.length → l.length ≤ 9223372036854775807 → 0 ≤ c → c + sumF (l.drop i) ≤ 9223372036854775807 →
    Ev (fun k => spec_l6Bytes.l0 k c l l.length i) (c + sumF (l.drop i)) := by
  induction d with
  | zero =>
    intro l i c hi hl h0 hc
    have hd : l.drop i = [] := List.drop_eq_nil_of_le (by omega)
    rw [hd]
    refine Ev.step (f := fun _ => some c) (fun k => by rw [spec_l6Bytes.l0, if_neg (by omega)]) ?_
    simpa [sumF] using Ev.now c
  | succ d ih =>
    intro l i c hi hl h0 hc
    have hil : i < l.length := by omega
    rw [sumF_drop l i hil] at hc ⊢
    refine Ev.step (fun k => by rw [spec_l6Bytes.l0, if_pos (by omega), if_pos (by omega), if_pos (by omega), rdF l i hil, wsucc i (by omega), w64 _ (by omega)]) ?_
    have := ih l (i + 1) (c + l[i].f1.size) (by omega) hl (by omega) (by omega)
    rw [show c + ((l[i].f1.size + sumF (l.drop (i + 1)) : Nat) : Int) = c + (l[i].f1.size : Int) + (sumF (l.drop (i + 1)) : Int) from by omega]
    exact this
theorem spec_bytes (l : List File) (a b c d : Int) (u : Bool) (hl : l.length ≤ 9223372036854775807) (hs : (sumF l : Int) ≤ 9223372036854775807) : Ev (fun k => spec_l6Bytes.f k l a b c d u) (sumF l : Int) := by
  have := spec_bytes_l0 l.length l 0 0 (by omega) hl (by omega) (by rw [List.drop_zero]; omega)
  rw [List.drop_zero, Int.zero_add] at this
  exact this
theorem spec_l0_step (l : List File) (cap count crash fail : Int) (u : Bool) (i : Nat) (k : Nat) (h : i < l.length) (hl : l.length ≤ 300) :
    spec_FsValid.l0 (k + 1) l l.length i l cap count crash fail u =
      (spec_l6FileName.f k l[i].f0).bind fun t => if t = true then (if decide (0 ≤ l[i].f2 ∧ l[i].f2 ≤ (l[i].f1.size : Int)) then (if (decide (i = 0) || Op.bytesLess ((l.getD (i - 1) l[i]).f0.toList) (l[i].f0.toList)) = true then spec_FsValid.l0 k l l.length ((i + 1 : Nat) : Int) l cap count crash fail u else some false) else some false) else some false := by
  rw [spec_FsValid.l0, if_pos (by omega), if_pos (by omega), if_pos (by omega), rdF l i h, wsucc i (by omega)]
  congr 1
  funext t
  cases t
  · simp
  · simp only [if_true, between_eq, Option.bind_some]
    by_cases h2 : 0 ≤ l[i].f2 ∧ l[i].f2 ≤ (l[i].f1.size : Int)
    · simp only [decide_eq_true h2, if_true]
      by_cases h0 : i = 0
      · subst h0; simp
      · have hw : wrap64 ((i : Int) - 1) = ((i - 1 : Nat) : Int) := by unfold wrap64; omega
        have hg : l.getD (i - 1) l[i] = l[i - 1]'(by omega) := by simp [List.getD, show i - 1 < l.length from by omega]
        rw [if_pos (by omega), hw, if_pos (by omega), if_pos (by omega), rdF l (i - 1) (by omega), hg]
        simp [h0]
    · simp only [decide_eq_false h2, if_neg (show ¬ (false = true) by decide)]
theorem spec_l0 (d : Nat) : ∀ (l : List File) (cap count crash fail : Int) (u : Bool) (i : Nat), i + d = l.length → l.length ≤ 300 →
    Ev (fun k => spec_FsValid.l0 k l l.length i l cap count crash fail u) (filesFrom l d i && (cntOk count && cntOk crash && cntOk fail)) := by
  induction d with
  | zero =>
    intro l cap count crash fail u i hi hl
    refine Ev.step (f := fun _ => some (cntOk count && cntOk crash && cntOk fail)) (fun k => ?_) (Ev.now _)
    rw [spec_FsValid.l0, if_neg (by omega)]
    simp only [between_eq, Option.bind_some]
    unfold cntOk
    by_cases h1 : 0 ≤ count ∧ count ≤ 1000000000000000 <;> by_cases h2 : 0 ≤ crash ∧ crash ≤ 1000000000000000 <;> simp [h1, h2]
  | succ d ih =>
    intro l cap count crash fail u i hi hl
    have hil : i < l.length := by omega
    refine Ev.step (fun k => spec_l0_step l cap count crash fail u i k hil hl) ?_
    refine (spec_name _).bind ?_
    simp only [filesFrom, fileOk_at l i hil]
    cases hn : nameOk l[i].f0
    · exact Ev.now _
    · simp only [if_true, Bool.true_and]
      by_cases h2 : 0 ≤ l[i].f2 ∧ l[i].f2 ≤ (l[i].f1.size : Int)
      · simp only [decide_eq_true h2, if_true, Bool.true_and]
        cases hb : (decide (i = 0) || Op.bytesLess ((l.getD (i - 1) l[i]).f0.toList) (l[i].f0.toList))
        · exact Ev.now _
        · simp only [if_true, Bool.true_and]
          exact ih l cap count crash fail u (i + 1) (by omega) hl
      · simp only [decide_eq_false h2, Bool.false_and, if_neg (show ¬ (false = true) by decide)]
        exact Ev.now _
theorem spec_fsOk (l : List File) (cap count crash fail : Int) (u : Bool) (hl : l.length ≤ 9223372036854775807) (hs : (sumF l : Int) ≤ 9223372036854775807) :
    Ev (fun k => spec_FsValid.f k l cap count crash fail u) (fsOk l cap count crash fail) := by
  have hbad : Ev (fun k => spec_FsValid.j0 k true l cap count crash fail u) false := Ev.step (f := fun _ => some false) (fun k => by rw [spec_FsValid.j0, if_pos rfl]) (Ev.now _)
  unfold spec_FsValid.f fsOk
  by_cases h1 : l.length ≤ 300
  · simp only [if_neg (show ¬ (l.length : Int) > 300 by omega), between_eq, Option.bind_some, decide_eq_true h1, Bool.true_and]
    by_cases h2 : 0 ≤ cap ∧ cap ≤ 1000000000
    · simp only [decide_eq_true h2, if_true, Bool.true_and]
      refine (spec_bytes l cap count crash fail u hl hs).bind ?_
      by_cases h3 : (sumF l : Int) ≤ cap
      · simp only [decide_eq_true h3, decide_eq_false (show ¬ (sumF l : Int) > cap by omega), Bool.true_and]
        refine Ev.step (fun k => by rw [spec_FsValid.j0, if_neg (by decide)]) ?_
        exact spec_l0 l.length l cap count crash fail u 0 (by omega) h1
      · simp only [decide_eq_false h3, decide_eq_true (show (sumF l : Int) > cap by omega), Bool.false_and]
        exact hbad
    · simp only [decide_eq_false h2, Bool.false_and, if_neg (show ¬ (false = true) by decide)]
      exact hbad
  · simp only [if_pos (show (l.length : Int) > 300 by omega), decide_eq_false h1, Bool.false_and]
    exact hbad
theorem impl_l1 (l : List File) (c : Int) (cap count crash fail : Int) (u : Bool) :
    Ev (fun k => impl_FsValid.l1 k c [count, crash, fail] 3 0 l cap count crash fail u) ((cntOk count && cntOk crash && cntOk fail) && decide (c ≤ cap)) := by
  have e : ∀ (k : Nat) (i : Nat) (x : Int), i < 3 → [count, crash, fail].getD i 0 = x → impl_FsValid.l1 (k + 1) c [count, crash, fail] 3 i l cap count crash fail u = if cntOk x then impl_FsValid.l1 k c [count, crash, fail] 3 ((i + 1 : Nat) : Int) l cap count crash fail u else some false := fun k i x hi hx => by
    have hr : rd [count, crash, fail] (i : Int) = x := by unfold rd; rw [Int.toNat_natCast]; exact hx
    rw [impl_FsValid.l1, if_pos (by omega), if_pos (by omega), if_pos (by simp; omega), hr, wsucc i (by omega)]
    unfold cntOk
    by_cases h1 : x < 0
    · rw [if_pos h1, if_neg (by simp; omega)]
    · rw [if_neg h1]
      by_cases h2 : x > 1000000000000000
      · rw [if_pos h2, if_neg (by simp; omega)]
      · rw [if_neg h2, if_pos (by simp; omega)]
  refine Ev.step (fun k => e k 0 count (by omega) rfl) ?_
  cases h1 : cntOk count
  · exact Ev.now _
  · simp only [if_true, Bool.true_and]
    refine Ev.step (fun k => e k 1 crash (by omega) rfl) ?_
    cases h2 : cntOk crash
    · exact Ev.now _
    · simp only [if_true, Bool.true_and]
      refine Ev.step (fun k => e k 2 fail (by omega) rfl) ?_
      cases h3 : cntOk fail
      · exact Ev.now _
      · simp only [if_true, Bool.true_and]
        exact Ev.step (f := fun _ => some (decide (c ≤ cap))) (fun k => by rw [impl_FsValid.l1, if_neg (by omega)]) (Ev.now _)
theorem impl_l0_step (l : List File) (c : Int) (cap count crash fail : Int) (u : Bool) (i : Nat) (k : Nat) (h : i < l.length) (hl : l.length ≤ 300) (h0 : 0 ≤ c) (hc : c + sumF (l.drop i) ≤ 9223372036854775807) (hnm : ∀ f ∈ l, f.f0.size ≤ 9223372036854775807) :
    impl_FsValid.l0 (k + 1) c l l.length i l cap count crash fail u =
      if fileOk l i then impl_FsValid.l0 k (c + l[i].f1.size) l l.length ((i + 1 : Nat) : Int) l cap count crash fail u else some false := by
  have hsz := sumF_drop l i h
  rw [impl_FsValid.l0, if_pos (by omega), if_pos (by omega), if_pos (by omega), rdF l i h, wsucc i (by omega), fileOk_at l i h]
  · rw [impl_name _ (hnm _ (List.getElem_mem h)), Option.bind_some, w64 (c + (l[i].f1.size : Int)) (by omega)]
    cases hn : nameOk l[i].f0
    · simp
    · simp only [if_true, Bool.true_and]
      by_cases h1 : l[i].f2 < 0
      · rw [if_pos h1, decide_eq_false (by omega)]; simp
      · rw [if_neg h1]
        by_cases h2 : l[i].f2 > (l[i].f1.size : Int)
        · rw [if_pos h2, decide_eq_false (by omega)]; simp
        · rw [if_neg h2, decide_eq_true (by omega)]
          by_cases hz : i = 0
          · subst hz; simp
          · have hw : wrap64 ((i : Int) - 1) = ((i - 1 : Nat) : Int) := by unfold wrap64; omega
            have hg : l.getD (i - 1) l[i] = l[i - 1]'(by omega) := by simp [List.getD, show i - 1 < l.length from by omega]
            rw [if_pos (by omega), hw, if_pos (by omega), if_pos (by omega), rdF l (i - 1) (by omega), hg]
            simp [hz]
theorem impl_l0 (d : Nat) : ∀ (l : List File) (c : Int) (cap count crash fail : Int) (u : Bool) (i : Nat), i + d = l.length → l.length ≤ 300 → 0 ≤ c → c + sumF (l.drop i) ≤ 9223372036854775807 → (∀ f ∈ l, f.f0.size ≤ 9223372036854775807) →
    Ev (fun k => impl_FsValid.l0 k c l l.length i l cap count crash fail u) (filesFrom l d i && ((cntOk count && cntOk crash && cntOk fail) && decide (c + sumF (l.drop i) ≤ cap))) := by
  induction d with
  | zero =>
    intro l c cap count crash fail u i hi hl h0 hc hnm
    have hd : l.drop i = [] := List.drop_eq_nil_of_le (by omega)
    rw [hd]
    refine Ev.step (f := fun k => impl_FsValid.l1 k c [count, crash, fail] 3 0 l cap count crash fail u) (fun k => ?_) ?_
    · rw [impl_FsValid.l0, if_neg (by omega)]; rfl
    · simpa [sumF, filesFrom] using impl_l1 l c cap count crash fail u
  | succ d ih =>
    intro l c cap count crash fail u i hi hl h0 hc hnm
    have hil : i < l.length := by omega
    have hsz := sumF_drop l i hil
    refine Ev.step (fun k => impl_l0_step l c cap count crash fail u i k hil hl h0 hc hnm) ?_
    simp only [filesFrom]
    cases hf : fileOk l i
    · exact Ev.now _
    · simp only [if_true, Bool.true_and]
      have := ih l (c + l[i].f1.size) cap count crash fail u (i + 1) (by omega) hl (by omega) (by omega) hnm
      rw [show c + (sumF (l.drop i) : Int) = c + (l[i].f1.size : Int) + (sumF (l.drop (i + 1)) : Int) from by omega]
      exact this
theorem impl_fsOk (l : List File) (cap count crash fail : Int) (u : Bool) (hl : l.length ≤ 9223372036854775807) (hs : (sumF l : Int) ≤ 9223372036854775807) (hnm : ∀ f ∈ l, f.f0.size ≤ 9223372036854775807) :
    Ev (fun k => impl_FsValid.f k l cap count crash fail u) (fsOk l cap count crash fail) := by
  have hbad : Ev (fun k => impl_FsValid.j0 k true l cap count crash fail u) false := Ev.step (f := fun _ => some false) (fun k => by rw [impl_FsValid.j0, if_pos rfl]) (Ev.now _)
  unfold impl_FsValid.f fsOk
  by_cases h1 : l.length ≤ 300
  · simp only [if_neg (show ¬ (l.length : Int) > 300 by omega), decide_eq_true h1, Bool.true_and]
    by_cases h2 : cap < 0
    · simp only [if_pos h2, decide_eq_false (show ¬ (0 ≤ cap ∧ cap ≤ 1000000000) by omega), Bool.false_and]
      exact hbad
    · simp only [if_neg h2]
      by_cases h3 : cap > 1000000000
      · simp only [decide_eq_true h3, decide_eq_false (show ¬ (0 ≤ cap ∧ cap ≤ 1000000000) by omega), Bool.false_and]
        exact hbad
      · simp only [decide_eq_false h3, decide_eq_true (show 0 ≤ cap ∧ cap ≤ 1000000000 by omega), Bool.true_and]
        refine Ev.step (fun k => by rw [impl_FsValid.j0, if_neg (by decide)]) ?_
        have := impl_l0 l.length l 0 cap count crash fail u 0 (by omega) h1 (by omega) (by rw [List.drop_zero]; omega) hnm
        rw [List.drop_zero, Int.zero_add] at this
        have e : (decide ((sumF l : Int) ≤ cap) && filesFrom l l.length 0 && (cntOk count && cntOk crash && cntOk fail)) = (filesFrom l l.length 0 && ((cntOk count && cntOk crash && cntOk fail) && decide ((sumF l : Int) ≤ cap))) := by
          cases decide ((sumF l : Int) ≤ cap) <;> cases filesFrom l l.length 0 <;> simp
        rw [e]
        exact this
  · simp only [if_pos (show (l.length : Int) > 300 by omega), decide_eq_false h1, Bool.false_and]
    exact hbad
end Go.Proofs.Ytmchcoafkaggkaa.Pure
end
section
set_option linter.unusedVariables false
set_option linter.unusedSimpArgs false
namespace Go.Proofs.Ytmchcoafkaggkaa.Pure
open Go.RowKit Go.Proofs.Ytmchcoafkaggkaa Go.Proofs.Ytmchcoafkaggkaa.L Go.Proofs.YtmchcoafkaggkaaW.PrintWords Go.Proofs.YtmchcoafkaggkaaW.PrintLast
abbrev LFile := S83
def cvF (f : LFile) : File := ⟨f.f0, f.f1, f.f2⟩
theorem rdLF (l : List LFile) (i : Nat) (h : i < l.length) : rd_T83 l (i : Int) = l[i] := by simp [rd_T83, h]
theorem toF_l0 (e : Nat) : ∀ (l : List LFile) (o : List File) (i : Nat), i + e = l.length → o.length = l.length → l.length ≤ 7036874417766 → (∀ j, j < i → o[j]? = (l.map cvF)[j]?) →
    Ev (fun k => laws_toFileS.l0 k l o i) (l.map cvF) := by
  induction e with
  | zero =>
    intro l o i hi ho hl hx
    have : o = l.map cvF := by
      apply List.ext_getElem?
      intro j
      by_cases hj : j < i
      · exact hx j hj
      · rw [List.getElem?_eq_none (by omega), List.getElem?_eq_none (by rw [List.length_map]; omega)]
    subst this
    exact Ev.step (f := fun _ => some (l.map cvF)) (fun k => by rw [laws_toFileS.l0, if_neg (by omega)]) (Ev.now _)
  | succ e ih =>
    intro l o i hi ho hl hx
    have hil : i < l.length := by omega
    refine Ev.step (f := fun k => laws_toFileS.l0 k l (o.set i (cvF l[i])) ((i + 1 : Nat) : Int)) (fun k => ?_) (ih l (o.set i (cvF l[i])) (i + 1) (by omega) (by rw [List.length_set]; exact ho) hl (fun j hj => ?_))
    · rw [laws_toFileS.l0, if_pos (by omega), if_pos (by omega), rdLF l i hil]
      unfold laws_toFile.f
      rw [Option.bind_some, if_pos (by omega), wsucc i (by omega)]
      rfl
    · rw [List.getElem?_set]
      by_cases h : i = j
      · subst h; simp [hil, ho]
      · rw [if_neg h]; exact hx j (by omega)
theorem toF_ev (l : List LFile) (h : l.length ≤ 7036874417766) : Ev (fun k => laws_toFileS.f k l) (l.map cvF) := by
  refine Ev.congr (fun k => ?_) (toF_l0 l.length l (List.replicate l.length z58) 0 (by omega) List.length_replicate h (fun j hj => by omega))
  unfold laws_toFileS.f
  rw [if_pos (by omega), if_pos (by omega)]
  simp
theorem toFs_ev (l : List LFile) (a b c d : Int) (u : Bool) (h : l.length ≤ 7036874417766) : Ev (fun k => laws_toFs.f k l a b c d u) (l.map cvF, a, b, c, d, u) := by
  unfold laws_toFs.f
  exact (toF_ev l h).bind (Ev.now _)
theorem eqF_l0 (e : Nat) : ∀ (l : List File) (i : Nat), i + e = l.length → l.length ≤ 9223372036854775807 → Ev (fun k => laws_eqFileS.l0 k l l i) true := by
  induction e with
  | zero =>
    intro l i hi hl
    exact Ev.step (f := fun _ => some true) (fun k => by rw [laws_eqFileS.l0, if_neg (by omega)]) (Ev.now _)
  | succ e ih =>
    intro l i hi hl
    exact Ev.step (fun k => by
      rw [laws_eqFileS.l0, if_pos (by omega), if_pos (by omega), if_pos (by omega), wsucc i (by omega)]
      unfold laws_eqFile.f
      rw [if_pos rfl, if_pos rfl, if_pos rfl, Option.bind_some, if_pos rfl]) (ih l (i + 1) (by omega) hl)
theorem eqF_ev (l : List File) (hl : l.length ≤ 9223372036854775807) : Ev (fun k => laws_eqFileS.f k l l) true := by
  refine Ev.congr (fun k => ?_) (eqF_l0 l.length l 0 (by omega) hl)
  unfold laws_eqFileS.f
  rw [if_pos rfl]
  rfl
theorem eqFs_ev (l : List File) (a b c d : Int) (u : Bool) (hl : l.length ≤ 9223372036854775807) : Ev (fun k => laws_eqFs.f k l a b c d u l a b c d u) true := by
  unfold laws_eqFs.f
  refine (eqF_ev l hl).bind ?_
  simp only [if_true, bne_self_eq_false, if_neg (show ¬ (false = true) by decide)]
  exact Ev.now _
/-- What a list of files weighs: its places, the bytes of the names and the data. -/
def wF (l : List LFile) : Nat := (l.map fun f => f.f0.size + f.f1.size).sum
theorem wF_drop (l : List LFile) (i : Nat) (h : i < l.length) : wF (l.drop i) = l[i].f0.size + l[i].f1.size + wF (l.drop (i + 1)) := by
  rw [show l.drop i = l[i] :: l.drop (i + 1) from List.drop_eq_getElem_cons h]
  rfl
theorem szF_l0 (e : Nat) : ∀ (l : List LFile) (i : Nat) (a : Int), i + e = l.length → l.length ≤ 9223372036854775807 → (∀ y ∈ l, y.f0.size ≤ 9223372036854775807 ∧ y.f1.size ≤ 9223372036854775807) → 0 ≤ a → a ≤ 9223372036854775807 →
    Ev (fun k => laws_szFileS.l0 k l a i) (if (wF (l.drop i) : Int) ≤ a then a - wF (l.drop i) else -1) := by
  induction e with
  | zero =>
    intro l i a hi hl hs h0 h1
    have hd : l.drop i = [] := List.drop_eq_nil_of_le (by omega)
    rw [hd]
    refine Ev.step (f := fun _ => some a) (fun k => by rw [laws_szFileS.l0, if_neg (by omega)]) ?_
    simp [wF, h0]
    exact Ev.now _
  | succ e ih =>
    intro l i a hi hl hs h0 h1
    have hil : i < l.length := by omega
    have hy := hs _ (List.getElem_mem hil)
    have hsum := wF_drop l i hil
    by_cases hc : a - (l[i].f0.size : Int) < 0
    · refine Ev.step (f := fun _ => some (-1)) (fun k => ?_) ?_
      · rw [laws_szFileS.l0, if_pos (by omega), if_pos (by omega), rdLF l i hil]
        unfold laws_szFile.f
        rw [w64 (a - (l[i].f0.size : Int)) (by omega), if_pos hc]; rfl
      · rw [if_neg (by omega)]; exact Ev.now _
    · by_cases hc2 : a - (l[i].f0.size : Int) - (l[i].f1.size : Int) < 0
      · refine Ev.step (f := fun _ => some (-1)) (fun k => ?_) ?_
        · rw [laws_szFileS.l0, if_pos (by omega), if_pos (by omega), rdLF l i hil]
          unfold laws_szFile.f
          rw [w64 (a - (l[i].f0.size : Int)) (by omega), if_neg hc, w64 (a - (l[i].f0.size : Int) - (l[i].f1.size : Int)) (by omega), if_pos hc2]; rfl
        · rw [if_neg (by omega)]; exact Ev.now _
      · refine Ev.step (fun k => ?_) ?_ (f := fun k => laws_szFileS.l0 k l (a - (l[i].f0.size : Int) - (l[i].f1.size : Int)) ((i + 1 : Nat) : Int))
        · rw [laws_szFileS.l0, if_pos (by omega), if_pos (by omega), rdLF l i hil]
          unfold laws_szFile.f
          rw [w64 (a - (l[i].f0.size : Int)) (by omega), if_neg hc, w64 (a - (l[i].f0.size : Int) - (l[i].f1.size : Int)) (by omega), if_neg hc2, Option.bind_some, if_neg (by omega), wsucc i (by omega)]
        · have := ih l (i + 1) (a - (l[i].f0.size : Int) - (l[i].f1.size : Int)) (by omega) hl hs (by omega) (by omega)
          have e1 : ((wF (l.drop (i + 1)) : Int) ≤ a - (l[i].f0.size : Int) - (l[i].f1.size : Int)) ↔ ((wF (l.drop i) : Int) ≤ a) := by rw [hsum]; omega
          have e2 : a - (l[i].f0.size : Int) - (l[i].f1.size : Int) - (wF (l.drop (i + 1)) : Int) = a - (wF (l.drop i) : Int) := by rw [hsum]; omega
          rw [e2] at this
          simpa only [e1] using this
def wtF (l : List LFile) : Nat := l.length + wF l
theorem szF_ev (l : List LFile) (a : Int) (hl : l.length ≤ 9223372036854775807) (hs : ∀ y ∈ l, y.f0.size ≤ 9223372036854775807 ∧ y.f1.size ≤ 9223372036854775807) (h0 : 0 ≤ a) (h1 : a ≤ 1048576) :
    Ev (fun k => laws_szFileS.f k l a) (if (wtF l : Int) ≤ a then a - wtF l else -1) := by
  unfold laws_szFileS.f
  simp only [w64 (a - (l.length : Int)) (by omega)]
  by_cases hc : a - (l.length : Int) < 0
  · simp only [if_pos hc]
    rw [if_neg (by unfold wtF; omega)]
    exact Ev.now _
  · simp only [if_neg hc]
    have h := szF_l0 l.length l 0 (a - (l.length : Int)) (by omega) hl hs (by omega) (by omega)
    simp only [List.drop_zero] at h
    have e1 : ((wF l : Int) ≤ a - (l.length : Int)) ↔ ((wtF l : Int) ≤ a) := by unfold wtF; omega
    have e2 : a - (l.length : Int) - (wF l : Int) = a - (wtF l : Int) := by unfold wtF; omega
    rw [e2] at h
    simp only [e1] at h
    exact h
theorem szFs_ev (l : List LFile) (a b c d : Int) (u : Bool) (m : Int) (hl : l.length ≤ 9223372036854775807) (hs : ∀ y ∈ l, y.f0.size ≤ 9223372036854775807 ∧ y.f1.size ≤ 9223372036854775807) (h0 : 0 ≤ m) (h1 : m ≤ 1048576) :
    Ev (fun k => laws_szFs.f k l a b c d u m) (if (wtF l : Int) ≤ m then m - wtF l else -1) := by
  unfold laws_szFs.f
  refine (szF_ev l m hl hs h0 h1).bind ?_
  by_cases hc : (wtF l : Int) ≤ m
  · simp only [if_pos hc, if_neg (show ¬ (m - (wtF l : Int) < 0) by omega)]; exact Ev.now _
  · simp only [if_neg hc, if_pos (show (-1 : Int) < 0 by decide)]; exact Ev.now _
theorem sumF_le (l : List LFile) : sumF (l.map cvF) ≤ wF l := by
  induction l with
  | nil => exact Nat.le_refl _
  | cons f l ih =>
    have h1 : sumF ((f :: l).map cvF) = f.f1.size + sumF (l.map cvF) := rfl
    have h2 : wF (f :: l) = f.f0.size + f.f1.size + wF l := rfl
    omega
end Go.Proofs.Ytmchcoafkaggkaa.Pure
end
section
set_option linter.unusedVariables false
set_option linter.unusedSimpArgs false
namespace Go.Proofs.Ytmchcoafkaggkaa.Pure
open Go Go.RowKit Go.Proofs.Ytmchcoafkaggkaa Go.Proofs.Ytmchcoafkaggkaa.L Go.Proofs.YtmchcoafkaggkaaW.PrintWords Go.Proofs.YtmchcoafkaggkaaW.PrintMore Go.Proofs.YtmchcoafkaggkaaW.PrintLast
theorem nums_size (l : List Int) : (strOfNums l).size = l.length := by simp [strOfNums, ByteArray.size]
theorem markText_l0 (d : Nat) : ∀ (n : Nat) (acc : ByteArray), n < 10 ^ d → d ≤ 18 → acc.size + d ≤ 100 → ∃ r, Ev (fun k => laws_markText.l0 k (n : Int) acc) r := by
  induction d with
  | zero =>
    intro n acc hn _ ha
    have : n = 0 := by omega
    subst this
    refine ⟨(⟨#[109]⟩ : ByteArray) ++ acc, Ev.step (f := fun _ => some ((⟨#[109]⟩ : ByteArray) ++ acc)) (fun k => ?_) (Ev.now _)⟩
    rw [laws_markText.l0, if_neg (by omega), if_pos (by omega)]
  | succ d ih =>
    intro n acc hn hd ha
    by_cases hz : n = 0
    · subst hz
      refine ⟨(⟨#[109]⟩ : ByteArray) ++ acc, Ev.step (f := fun _ => some ((⟨#[109]⟩ : ByteArray) ++ acc)) (fun k => ?_) (Ev.now _)⟩
      rw [laws_markText.l0, if_neg (by omega), if_pos (by omega)]
    · have hlt : n < 9223372036854775808 := by
        have : (10 : Nat) ^ (d + 1) ≤ 10 ^ 18 := Nat.pow_le_pow_right (by decide) (by omega)
        omega
      have e2 : Int.tdiv (n : Int) 10 = ((n / 10 : Nat) : Int) := (Int.ofNat_tdiv n 10).symm
      have e4 : wrap64 ((n / 10 : Nat) : Int) = ((n / 10 : Nat) : Int) := by unfold wrap64; omega
      obtain ⟨s, hs⟩ : ∃ s, strOfNums [(wrap64 (48 + (Int.tmod (n : Int) 10))) % 256] = s := ⟨_, rfl⟩
      have hsz : s.size = 1 := by rw [← hs, nums_size]; rfl
      obtain ⟨r, hr⟩ := ih (n / 10) (s ++ acc) (by rw [Nat.pow_succ] at hn; omega) (by omega) (by rw [ByteArray.size_append]; omega)
      refine ⟨r, Ev.step (f := fun k => laws_markText.l0 k ((n / 10 : Nat) : Int) (s ++ acc)) (fun k => ?_) hr⟩
      rw [laws_markText.l0, if_pos (by omega), e2, e4]
      simp only [Option.bind_some, hs]
      rw [if_pos (by omega)]
theorem markText_ex (n : Nat) (hn : n < 1000000000000000000) : ∃ r, Ev (fun k => laws_markText.f k (n : Int)) r := by
  unfold laws_markText.f
  by_cases h : (n : Int) ≤ 0
  · simp only [if_pos h]; exact ⟨_, Ev.now _⟩
  · simp only [if_neg h]
    exact markText_l0 18 n _ hn (by omega) (by show (0 : Nat) + 18 ≤ 100; omega)
/-- What the marks are: one function of the number. -/
theorem marks : ∃ mk : Nat → ByteArray, ∀ n : Nat, n < 1000000000000000000 → Ev (fun k => laws_markText.f k (n : Int)) (mk n) :=
  ⟨fun n => if h : n < 1000000000000000000 then (markText_ex n h).choose else ByteArray.empty, fun n hn => by
    have := (markText_ex n hn).choose_spec
    simpa only [dif_pos hn] using this⟩
/-- So many marks from a on. -/
def markL (mk : Nat → ByteArray) (a n : Nat) : List ByteArray := (List.range n).map fun j => mk (a + j)
theorem markL_length (mk : Nat → ByteArray) (a n : Nat) : (markL mk a n).length = n := by simp [markL]
theorem markL_at (mk : Nat → ByteArray) (a n i : Nat) (h : i < n) : (markL mk a n)[i]? = some (mk (a + i)) := by simp [markL, h]
theorem markS_l0 (mk : Nat → ByteArray) (hmk : ∀ n : Nat, n < 1000000000000000000 → Ev (fun k => laws_markText.f k (n : Int)) (mk n)) (a : Nat) (d : Nat) : ∀ (x : List ByteArray) (i : Nat), i + d = x.length → a + x.length < 1000000000000000 →
    (∀ j, j < i → x[j]? = some (mk (a + j))) → Ev (fun k => laws_markStringS.l0 k x ((a + i : Nat) : Int) (i : Int)) (((a + x.length : Nat) : Int), markL mk a x.length) := by
  induction d with
  | zero =>
    intro x i hi hb hx
    have e : x = markL mk a x.length := by
      apply List.ext_getElem?
      intro j
      by_cases hj : j < x.length
      · rw [hx j (by omega), markL_at mk a _ j hj]
      · rw [List.getElem?_eq_none (by omega), List.getElem?_eq_none (by rw [markL_length]; omega)]
    rw [← e]
    refine Ev.step (f := fun _ => some (((a + x.length : Nat) : Int), x)) (fun k => ?_) (Ev.now _)
    rw [laws_markStringS.l0, if_neg (by omega)]
    obtain rfl : i = x.length := by omega
    rfl
  | succ d ih =>
    intro x i hi hb hx
    have hil : i < x.length := by omega
    have w1 : wrap64 (((a + i : Nat) : Int) + 1) = ((a + (i + 1) : Nat) : Int) := by unfold wrap64; omega
    have hl : (x.set i (mk (a + i))).length = x.length := List.length_set
    refine Ev.step (f := fun k => (laws_markText.f k ((a + i : Nat) : Int)).bind fun t => laws_markStringS.l0 k (x.set i t) ((a + (i + 1) : Nat) : Int) ((i + 1 : Nat) : Int)) (fun k => ?_) ?_
    · rw [laws_markStringS.l0, if_pos (by omega)]
      simp only [if_pos (show (0 : Int) ≤ (i : Int) by omega), w1, wsucc i (show i + 1 ≤ 9223372036854775807 by omega), Int.toNat_natCast]
    · refine (hmk (a + i) (by omega)).bind ?_
      have := ih (x.set i (mk (a + i))) (i + 1) (by omega) (by omega) (fun j hj => by
        by_cases h : j = i
        · subst h; rw [List.getElem?_set_self hil]
        · rw [List.getElem?_set_ne (by omega)]; exact hx j (by omega))
      rw [hl] at this
      exact this
theorem markS_ev (mk : Nat → ByteArray) (hmk : ∀ n : Nat, n < 1000000000000000000 → Ev (fun k => laws_markText.f k (n : Int)) (mk n)) (a : Nat) (x : List ByteArray) (h : a + x.length < 1000000000000000) :
    Ev (fun k => laws_markStringS.f k x (a : Int)) (((a + x.length : Nat) : Int), markL mk a x.length) :=
  Ev.congr (fun k => rfl) (markS_l0 mk hmk a x.length x 0 (by omega) h (fun j hj => by omega))
end Go.Proofs.Ytmchcoafkaggkaa.Pure
end
section
set_option linter.unusedVariables false
set_option linter.unusedSimpArgs false
namespace Go.Proofs.Ytmchcoafkaggkaa.Pure
open Go Go.RowKit Go.Proofs.Ytmchcoafkaggkaa Go.Proofs.Ytmchcoafkaggkaa.L Go.Proofs.YtmchcoafkaggkaaW.PrintWords Go.Proofs.YtmchcoafkaggkaaW.PrintMore Go.Proofs.YtmchcoafkaggkaaW.PrintLast
theorem rdF_set (x : List File) (i : Nat) (v : File) (h : i < x.length) : rd_T58 (x.set i v) (i : Int) = v := by
  rw [rdF _ i (by rw [List.length_set]; exact h), List.getElem_set_self]
/-- So many marked files from a on. -/
def markFL (mk : Nat → ByteArray) (a n : Nat) : List File := (List.range n).map fun j => ⟨mk (a + 3 * j), mk (a + 3 * j + 1), ((a + 3 * j + 2 : Nat) : Int)⟩
theorem markFL_length (mk : Nat → ByteArray) (a n : Nat) : (markFL mk a n).length = n := by simp [markFL]
theorem markFL_at (mk : Nat → ByteArray) (a n i : Nat) (h : i < n) : (markFL mk a n)[i]? = some ⟨mk (a + 3 * i), mk (a + 3 * i + 1), ((a + 3 * i + 2 : Nat) : Int)⟩ := by simp [markFL, h]
theorem markF_l0 (mk : Nat → ByteArray) (hmk : ∀ n : Nat, n < 1000000000000000000 → Ev (fun k => laws_markText.f k (n : Int)) (mk n)) (a : Nat) (d : Nat) : ∀ (x : List File) (i : Nat), i + d = x.length → a + 3 * x.length < 1000000000000000 →
    (∀ j, j < i → x[j]? = some ⟨mk (a + 3 * j), mk (a + 3 * j + 1), ((a + 3 * j + 2 : Nat) : Int)⟩) → Ev (fun k => laws_markFileS.l0 k x ((a + 3 * i : Nat) : Int) (i : Int)) (((a + 3 * x.length : Nat) : Int), markFL mk a x.length) := by
  induction d with
  | zero =>
    intro x i hi hb hx
    have e : x = markFL mk a x.length := by
      apply List.ext_getElem?
      intro j
      by_cases hj : j < x.length
      · rw [hx j (by omega), markFL_at mk a _ j hj]
      · rw [List.getElem?_eq_none (by omega), List.getElem?_eq_none (by rw [markFL_length]; omega)]
    rw [← e]
    refine Ev.step (f := fun _ => some (((a + 3 * x.length : Nat) : Int), x)) (fun k => ?_) (Ev.now _)
    rw [laws_markFileS.l0, if_neg (by omega)]
    obtain rfl : i = x.length := by omega
    rfl
  | succ d ih =>
    intro x i hi hb hx
    have hil : i < x.length := by omega
    have w1 : wrap64 (((a + 3 * i : Nat) : Int) + 1) = ((a + 3 * i + 1 : Nat) : Int) := by unfold wrap64; omega
    have w2 : wrap64 (((a + 3 * i + 1 : Nat) : Int) + 1) = ((a + 3 * i + 2 : Nat) : Int) := by unfold wrap64; omega
    have w3 : wrap64 (((a + 3 * i + 2 : Nat) : Int) + 1) = ((a + 3 * (i + 1) : Nat) : Int) := by unfold wrap64; omega
    refine Ev.step (f := fun k => (laws_markText.f k ((a + 3 * i : Nat) : Int)).bind fun t => (laws_markText.f k ((a + 3 * i + 1 : Nat) : Int)).bind fun u => laws_markFileS.l0 k (x.set i ⟨t, u, ((a + 3 * i + 2 : Nat) : Int)⟩) ((a + 3 * (i + 1) : Nat) : Int) ((i + 1 : Nat) : Int)) (fun k => ?_) ?_
    · rw [laws_markFileS.l0, if_pos (by omega)]
      simp only [if_pos (show (0 : Int) ≤ (i : Int) by omega), w1, w2, w3, wsucc i (by omega), Int.toNat_natCast, Option.bind_some, rdF_set x i _ hil, List.set_set]
      try (congr 1; funext t; congr 1; funext u; rw [rdF_set _ i _ hil])
    · refine (hmk (a + 3 * i) (by omega)).bind ?_
      refine (hmk (a + 3 * i + 1) (by omega)).bind ?_
      have hl : (x.set i (⟨mk (a + 3 * i), mk (a + 3 * i + 1), ((a + 3 * i + 2 : Nat) : Int)⟩ : File)).length = x.length := List.length_set
      have := ih (x.set i ⟨mk (a + 3 * i), mk (a + 3 * i + 1), ((a + 3 * i + 2 : Nat) : Int)⟩) (i + 1) (by omega) (by omega) (fun j hj => by
        by_cases h : j = i
        · subst h; rw [List.getElem?_set_self hil]
        · rw [List.getElem?_set_ne (by omega)]; exact hx j (by omega))
      rw [hl] at this
      exact this
theorem markFs_ev (mk : Nat → ByteArray) (hmk : ∀ n : Nat, n < 1000000000000000000 → Ev (fun k => laws_markText.f k (n : Int)) (mk n)) (x : List File) (b c d e : Int) (u : Bool) (h : x.length < 10000000) :
    Ev (fun k => laws_markFs.f k x b c d e u 1) (((1 + 3 * x.length : Nat) : Int), markFL mk 1 x.length) := by
  unfold laws_markFs.f laws_markFileS.f
  exact (markF_l0 mk hmk 1 x.length x 0 (by omega) (by omega) (fun j hj => by omega)).bind (f := fun _ t => some (t.1, t.2)) (Ev.now _)
theorem heldF_l0 (mk : Nat → ByteArray) (hmk : ∀ n : Nat, n < 1000000000000000000 → Ev (fun k => laws_markText.f k (n : Int)) (mk n)) (a n : Nat) (hb : a + 3 * n < 1000000000000000) (d : Nat) : ∀ (i : Nat), i + d = n →
    Ev (fun k => laws_heldFileS.l0 k (markFL mk a n) ((a + 3 * i : Nat) : Int) (i : Int)) ((a + 3 * n : Nat) : Int) := by
  induction d with
  | zero =>
    intro i hi
    refine Ev.step (f := fun _ => some ((a + 3 * n : Nat) : Int)) (fun k => ?_) (Ev.now _)
    rw [laws_heldFileS.l0, if_neg (by rw [markFL_length]; omega)]
    obtain rfl : i = n := by omega
    rfl
  | succ d ih =>
    intro i hi
    have hil : i < (markFL mk a n).length := by rw [markFL_length]; omega
    have hat : (markFL mk a n)[i] = ⟨mk (a + 3 * i), mk (a + 3 * i + 1), ((a + 3 * i + 2 : Nat) : Int)⟩ := by
      have := markFL_at mk a n i (by omega)
      rw [List.getElem?_eq_getElem hil] at this
      exact Option.some.inj this
    have w1 : wrap64 (((a + 3 * i : Nat) : Int) + 1) = ((a + 3 * i + 1 : Nat) : Int) := by unfold wrap64; omega
    have w2 : wrap64 (((a + 3 * i + 1 : Nat) : Int) + 1) = ((a + 3 * i + 2 : Nat) : Int) := by unfold wrap64; omega
    have w3 : wrap64 (((a + 3 * i + 2 : Nat) : Int) + 1) = ((a + 3 * (i + 1) : Nat) : Int) := by unfold wrap64; omega
    refine Ev.step (f := fun k => (laws_markText.f k ((a + 3 * i : Nat) : Int)).bind fun t => if (mk (a + 3 * i)).toList = t.toList then ((laws_markText.f k ((a + 3 * i + 1 : Nat) : Int)).bind fun u => if (mk (a + 3 * i + 1)).toList = u.toList then laws_heldFileS.l0 k (markFL mk a n) ((a + 3 * (i + 1) : Nat) : Int) ((i + 1 : Nat) : Int) else some (-1)) else some (-1)) (fun k => ?_) ?_
    · rw [laws_heldFileS.l0, if_pos (by omega), if_pos (by omega), rdF _ i hil, hat]
      simp only [w1, w2, w3, wsucc i (by omega), if_true]
    · refine (hmk (a + 3 * i) (by omega)).bind ?_
      simp only [if_true]
      refine (hmk (a + 3 * i + 1) (by omega)).bind ?_
      simp only [if_true]
      exact ih (i + 1) (by omega)
theorem heldFs_ev (mk : Nat → ByteArray) (hmk : ∀ n : Nat, n < 1000000000000000000 → Ev (fun k => laws_markText.f k (n : Int)) (mk n)) (n : Nat) (b c d e : Int) (u : Bool) (h : n < 10000000) :
    Ev (fun k => laws_heldFs.f k (markFL mk 1 n) b c d e u 1) ((1 + 3 * n : Nat) : Int) := by
  unfold laws_heldFs.f laws_heldFileS.f
  refine (heldF_l0 mk hmk 1 n (by omega) n 0 (by omega)).bind (f := fun _ t => if t < 0 then some (-1) else some t) ?_
  simp only [if_neg (show ¬ ((1 + 3 * n : Nat) : Int) < 0 by omega)]
  exact Ev.now _
end Go.Proofs.Ytmchcoafkaggkaa.Pure
end
