/- What the law FnSieveHeads needs, part 4: the kit's printed words, the printed functions with their proofs, and plain facts on them. -/
import Derived.Test.YtifgcajpkgamgaaBFnSieveHeadsc
section
namespace Go.Proofs.Ytifgcajpkgamgaa.Q
open Go.RowKit Go.Proofs.YtifgcajpkgamgaaW.PrintWords Go.Proofs.YtifgcajpkgamgaaW.PrintLast Go.Proofs.YtifgcajpkgamgaaW.PrintMore
attribute [local go_sem] max2_int min2_int max_two min_two max_three min_three max_four min_four   
set_option linter.unusedVariables false
set_option linter.unusedSimpArgs false
theorem spec_DrawSieveOf.mono : ∀ a0 k, LeO (spec_DrawSieveOf.f k a0) (spec_DrawSieveOf.f (k + 1) a0) := by
  intro a0 k
  unfold spec_DrawSieveOf.f
  repeat' first
      | (with_reducible exact spec_l6Rd_pick.mono _ _ _ _)
      | (with_reducible exact spec_l71Keys.mono _ _ _ _)
      | (with_reducible exact spec_l71Mess.mono _ _ _)
      | (with_reducible exact LeO.refl _)
      | (with_reducible exact LeO.none _)
      | (with_reducible refine LeO.ite ?_ ?_)
      | (with_reducible refine LeO.bind ?_ (fun _ => ?_))
      | exact spec_l6Rd_pick.mono _ _ _ _
      | exact spec_l71Keys.mono _ _ _ _
      | exact spec_l71Mess.mono _ _ _
      | exact LeO.none _
      | refine LeO.ite ?_ ?_
      | refine LeO.bind ?_ (fun _ => ?_)
def spec_DrawSieveOf.T5 : Bool × List (List Nat × List Nat) := (true, [([], []), ([], []), ([], []), ([2], [2]), ([1, 3], [1, 3]), ([4], [4]), ([0, 3, 0], [0]), ([5, 6, 0, 1, 2, 3, 4, 5, 6], [5])])
def spec_DrawSieveOf.B5 : List Nat := [0, 0, 0, 4, 14, 30, 13, 127]
theorem spec_DrawSieveOf.tab5 : rtab .any (opsOf Try.f34 5) = spec_DrawSieveOf.T5 := by kernel_rfl
theorem spec_DrawSieveOf.bits5 : waitsOk spec_DrawSieveOf.T5.2 spec_DrawSieveOf.B5 = true := by kernel_rfl
set_option maxHeartbeats 8000000 in
set_option maxRecDepth 100000 in
theorem spec_DrawSieveOf.calls (k : Nat) (A0 : Option Addr) (c0 : Nat) (l0 : List Int) (r1 : List ByteArray) (r2 : Int) (w : World) (hr0 : Kd.C (Kd.int .u8) w A0 l0.length l0) (hc0 : l0.length ≤ c0) (h : spec_DrawSieveOf.f k l0 = some (r1, r2)) :
    Calls Try.prog 34 #[.slice A0 l0.length c0] w fun e w' => ∃ v0_ : Value, e = .returned (.tuple #[v0_, .int .i64 r2]) ∧ Kd.R Kd.string 9 w' w.heap.size (fun _ => True) v0_ r1 ∧ Below w.heap.size w w' := by
 have HR0 := Aside0.mk hr0; have HC0 := Aside0.mk hc0; clear hr0 hc0; have HB := z0 (Below.refl w.heap.size w); have H : ((spec_l6Open.f l0).bind fun bt558 => ((spec_l71Keys.f k bt558.1 bt558.2 12).bind fun bt561 => ((spec_l6Rd_pick.f k bt558.1 bt561.2 12).bind fun bt565 => (if bt565.1 = 0 then ((spec_l71Mess.f k bt558.1 bt565.2).bind fun bt567 => ((some (([0, 0, 1, 1, 2, 5, 6, (-1)] : List Int) : List Int)).bind fun y571 => ((spec_l6Rd_pick.f k bt558.1 bt567.2 8).bind fun bt574 => (if 0 ≤ bt574.1 then (if bt574.1 < (y571.length : Int) then (some (bt567.1, rd y571 bt574.1)) else (none)) else (none))))) else ((some (([0, 0, 1, 1, 2, 5, 6, (-1)] : List Int) : List Int)).bind fun y577 => ((spec_l6Rd_pick.f k bt558.1 bt565.2 8).bind fun bt580 => (if 0 ≤ bt580.1 then (if bt580.1 < (y577.length : Int) then (some (bt561.1, rd y577 bt580.1)) else (none)) else (none)))))))) = some (r1, r2) := h; clear h; replace H := zi H; obtain ⟨⟨t558, t559⟩, A2, H⟩ := H; (try dsimp only at H); replace H := zi H; obtain ⟨⟨t561, t564⟩, A3, H⟩ := H; (try dsimp only at H); replace H := zi H; obtain ⟨⟨t565, t566⟩, A4, H⟩ := H; (try dsimp only at H); go_enter Try.func34, Try.ntmps34
 go_upto_if 12 with (first | ((with_reducible refine gate_callee (f := 64) rfl ?_); refine goesL_ (some 7) rfl rfl Try.func64 (by kernel_rfl) rfl #[.slice A0 l0.length c0] rfl zo ?_; (with_reducible refine (spec_l6Open.calls _ _ l0 t558 t559 w _ ?side1 HR0.out HC0.out A2.out).mono ?_); (case side1 => repeat (first | (with_reducible first | exact HB.out | apply below_alloc | apply pw_below_drewN | apply below_drew1) | exact HB.out)); rintro e w5 ⟨g560, rfl, hi, hb, hb2⟩; refine zv ?_; replace HB := z0 (hb); have HI560 := z0 (hi); (try clear hb hb2 hi)) | ((with_reducible refine gate_callee (f := 77) rfl ?_); refine goesL_ (some 9) rfl rfl Try.func77 (by kernel_rfl) rfl #[.pointer (some ⟨g560, 0, none⟩), .int .i64 12] rfl zo ?_; (with_reducible refine (spec_l71Keys.calls k g560 t558 t559 12 t561 t564 w _ ?side1 ?side2 A3.out).mono ?_); (case side1 => repeat (first | (with_reducible first | exact HI560.out | apply IsS98.alloc | apply IsS98.drewN | apply IsS98.drew | apply IsS98.set_1) | exact HI560.out)); (case side2 => repeat (first | (with_reducible first | exact HB.out | apply below_alloc | apply pw_below_drewN | apply below_drew1 | refine below_set ?_ (IsS98.ge HI560.out)) | exact HB.out)); rintro e w6 ⟨v562, rfl, ho0, hi, hb, hk⟩; refine zv ?_; have HO563 := z0 (Kd.R_lower ho0 (below_size (by repeat (first | (with_reducible first | exact HB.out | apply below_alloc | apply pw_below_drewN | apply below_drew1 | refine below_set ?_ (IsS98.ge HI560.out)) | exact HB.out)))); replace HB := z0 (hb); replace HI560 := z0 (hi); (try clear hb hk hi ho0)) | ((with_reducible refine gate_callee (f := 78) rfl ?_); refine goesL_ (some 11) rfl rfl Try.func78 (by kernel_rfl) rfl #[.pointer (some ⟨g560, 0, none⟩), .int .i64 12] rfl zo ?_; (with_reducible refine (spec_l6Rd_pick.calls k g560 t558 t564 12 t565 t566 w _ ?side1 ?side2 A4.out).mono ?_); (case side1 => repeat (first | (with_reducible first | exact HI560.out | apply IsS98.alloc | apply IsS98.drewN | apply IsS98.drew | apply IsS98.set_1) | exact HI560.out)); (case side2 => repeat (first | (with_reducible first | exact HB.out | apply below_alloc | apply pw_below_drewN | apply below_drew1 | refine below_set ?_ (IsS98.ge HI560.out)) | exact HB.out)); rintro e w7 ⟨rfl, hi, hb, hk⟩; refine zv ?_; replace HO563 := z0 (Kd.R_mono (Kd.R_keep (IsS98.apart (show IsS98 w _ g560 t558 t564 from by repeat (first | (with_reducible first | exact HI560.out | apply IsS98.alloc | apply IsS98.drewN | apply IsS98.drew | apply IsS98.set_1) | exact HI560.out)) (zr HO563.out) (by decide)) hk (fun _ h => h.2)) (fun _ h => h.1)); replace HB := z0 (hb); replace HI560 := z0 (hi); (try clear hb hk hi)))
 by_cases c8 : t565 = 0
 ·rw [if_pos c8] at H; have c8b0 : (t565 == 0) = true := beq_iff_eq.mpr c8; have c8b1 : (t565 != 0) = false := bne_eq_false_iff_eq.mpr c8; clear c8; (first | rw [c8b0] | (simp only [i64_w, i32_w]; rw [c8b0]) | simp only [*, Bool.not_true, Bool.not_false] | skip); replace H := zi H; obtain ⟨⟨t567, t570⟩, A9, H⟩ := H; (try dsimp only at H); obtain ⟨y571, hy571⟩ : ∃ y_ : List Int, y_ = (([0, 0, 1, 1, 2, 5, 6, (-1)] : List Int)) := ⟨_, rfl⟩
  replace H : ((spec_l6Rd_pick.f k t558 t570 8).bind fun bt574 => (if 0 ≤ bt574.1 then (if bt574.1 < (y571.length : Int) then (some (t567, rd y571 bt574.1)) else (none)) else (none))) = some (r1, r2) := by first | (rw [hy571]; with_reducible exact H) | (have H2_ := (Option.bind_some _ _).symm.trans H; rw [hy571]; with_reducible exact H2_) | (have H2_ := (Option.bind_some _ _).symm.trans H; with_reducible exact H2_) | with_reducible exact H | (rw [hy571]; exact H) | exact H
  have Ny571 := Aside0.mk hy571; clear hy571; replace H := zi H; obtain ⟨⟨t574, t575⟩, A10, H⟩ := H; (try dsimp only at H)
  by_cases c11 : 0 ≤ t574
  ·rw [if_pos c11] at H; have c11b0 : decide (0 ≤ t574) = true := decide_eq_true c11; clear c11
   by_cases c12 : t574 < (y571.length : Int)
   ·rw [if_pos c12] at H; have c12b0 : decide (t574 < (y571.length : Int)) = true := decide_eq_true c12; clear c12; simp only [Option.some.injEq, Prod.mk.injEq] at H; obtain ⟨rfl, rfl⟩ := H
    try go_wp2_with (first | ((with_reducible refine gate_callee (f := 79) rfl ?_); refine goesL_ (some 14) rfl rfl Try.func79 (by kernel_rfl) rfl #[.pointer (some ⟨g560, 0, none⟩)] rfl zo ?_; (with_reducible refine (spec_l71Mess.calls k g560 t558 t566 t567 t570 w _ ?side1 ?side2 A9.out).mono ?_); (case side1 => repeat (first | (with_reducible first | exact HI560.out | apply IsS98.alloc | apply IsS98.drewN | apply IsS98.drew | apply IsS98.set_1) | exact HI560.out)); (case side2 => repeat (first | (with_reducible first | exact HB.out | apply below_alloc | apply pw_below_drewN | apply below_drew1 | refine below_set ?_ (IsS98.ge HI560.out)) | exact HB.out)); rintro e w13 ⟨v568, rfl, ho0, hi, hb, hk⟩; refine zv ?_; have HO569 := z0 (Kd.R_lower (Kd.R_new' ho0 (Kd.R_lt (zr HO563.out))) (below_size (by repeat (first | (with_reducible first | exact HB.out | apply below_alloc | apply pw_below_drewN | apply below_drew1 | refine below_set ?_ (IsS98.ge HI560.out)) | exact HB.out)))); replace HO563 := z0 (Kd.R_mono (Kd.R_told (Kd.R_oldK (IsS98.apart (show IsS98 w _ g560 t558 t566 from by repeat (first | (with_reducible first | exact HI560.out | apply IsS98.alloc | apply IsS98.drewN | apply IsS98.drew | apply IsS98.set_1) | exact HI560.out)) (zr HO563.out) (by decide)) hk) (Kd.R_base ho0)) (fun _ h_ => h_.1)); replace HB := z0 (hb); replace HI560 := z0 (hi); (try clear hb hk hi ho0)))
    have pi576 : (0 ≤ (t574 : Int)) = True := eq_true (zd); have qi576 : (t574 < (y571.length : Int)) = True := eq_true (zd); replace HO563 := z0 (Kd.R_drew HO563.out); replace HO569 := z0 (Kd.R_drew HO569.out); replace HI560 := z0 (IsS98.drew HI560.out); replace HB := z0 (below_drew1 HB.out); refine start_ (n := 8) (S := fun w' => True) (ds := []) (fb 8 0) (by kernel_rfl) rfl rfl trivial (fun hHeld => ?_); refine with_tabW spec_DrawSieveOf.tab5 spec_DrawSieveOf.bits5 (fun HT_ HW_ => ?_); generalize w13.drew = w14 at HO563 HO569 HI560 HB hHeld ⊢; refine pure_ (i := 0) (N := some 15) (v := ?_) (a' := ?_) (fb 8 1) rfl rfl (any_of HT_.out (by kernel_rfl)) (fun _ _ _ h => h) (Or.inl ⟨by rfl, ?_⟩) ?_ ?_; rotate_left
    ·intro w'
     go_simp
     with_reducible rfl
    rotate_left
    ·simp only [Act.put, List.setIfInBounds_toArray, List.set_cons_zero, List.set_cons_succ, i64_w, i32_w]
     rfl
    refine pure_ (i := 2) (N := some 17) (v := ?_) (a' := ?_) (fb 8 5) rfl rfl (any_of HT_.out (by kernel_rfl)) (fun _ _ _ h => h) (Or.inl ⟨by rfl, ?_⟩) ?_ ?_; rotate_left
    ·intro w'
     go_simp
     with_reducible rfl
    rotate_left
    ·simp only [Act.put, List.setIfInBounds_toArray, List.set_cons_zero, List.set_cons_succ, i64_w, i32_w]
     rfl
    refine inv_at [1, 3, 4, 5, 6, 7] (fun a0_ b a w' => ∃ (v572 : Value) (adz_v572 : Addr) (m4_ : Value), a = putSel a0_ b [(1, 16, v572), (3, 18, .int .i64 t574), (4, 19, m4_), (5, 20, .int .i64 (rd y571 t574)), (6, 2, v568), (7, 3, .int .i64 (rd y571 t574))] ∧ (Kd.R Kd.string 9 w' w.heap.size (fun k_ => some k_ ≠ (v568 : Value).ownBlock) v562 t561) ∧ (Kd.R Kd.string 9 w' w.heap.size (fun k_ => some k_ ≠ (v562 : Value).ownBlock) v568 t567) ∧ (b 3 = false → IsS98 w w' g560 t558 t570) ∧ (Below w.heap.size w w') ∧ (b 1 = true → Kd.R (Kd.int .i64) 3 w' w.heap.size (fun _ => True) v572 y571) ∧ (b 1 = true → ∃ c_, (v572 : Value) = .slice (some adz_v572) y571.length c_) ∧ (b 3 = true → IsS98 w w' g560 t558 t575) ∧ (b 4 = true → (m4_ : Value) = .pointer (some (adz_v572.add (t574).toNat)))) HT_.out HW_.out (by kernel_rfl) (by kernel_rfl) ?_ ?_ ?_
    ·exact ⟨.bool false, ⟨0, 0, none⟩, .bool false, by simp only [putSel, Bool.false_eq_true, if_false], (by first | exact HO563.out | exact Kd.R_mono HO563.out (fun _ hk => hk.2)), (by first | exact HO569.out | exact Kd.R_mono HO569.out (fun _ hk => hk.2)), fun _ => HI560.out, HB.out, fun h_ => absurd h_ (by decide), fun h_ => absurd h_ (by decide), fun h_ => absurd h_ (by decide), fun h_ => absurd h_ (by decide)⟩
    ·skip
     clear HB HI560 HO563 HO569; refine steps_cons ?_ ?_
     ·rintro b a w' ⟨v572, adz_v572, m4_, ha, Q_HO563, Q_HO569, Q_HI560, Q_HB, Q_HO573, Q_HA_HO573, Q_HI560_e3, Q_X4_⟩ hb_ hon hoff; refine ⟨_, rfl, fun K hK => ?_⟩; replace ha := Aside0.mk ha; have HO563 := Aside0.mk Q_HO563; have HO569 := Aside0.mk Q_HO569; have HB := Aside0.mk Q_HB; refine Kd.R_lit_step (Kd.int .i64) _ 3 ?hg (N := 16) ?hd (xs := ([0, 0, 1, 1, 2, 5, 6, (-1)] : List Int)) (inner := [.int .i64 0, .int .i64 0, .int .i64 1, .int .i64 1, .int .i64 2, .int .i64 5, .int .i64 6, .int .i64 (-1)]) (ok := fun _ => True) (okp := fun _ => True) ?hr ?hp (fun _ hk => hk) trivial (Below.refl _ _) (Nat.le_refl _) (by simp) ?_; (case hd => rfl); (case hg => rfl); (case hr => first | (go_simp; done) | (go_simp; rfl)); (case hp => exact (Reps.one (show Kd.M (Kd.int .i64) _ _ _ 0 [.int .i64 0] from rfl) (Reps.one (show Kd.M (Kd.int .i64) _ _ _ 0 [.int .i64 0] from rfl) (Reps.one (show Kd.M (Kd.int .i64) _ _ _ 1 [.int .i64 1] from rfl) (Reps.one (show Kd.M (Kd.int .i64) _ _ _ 1 [.int .i64 1] from rfl) (Reps.one (show Kd.M (Kd.int .i64) _ _ _ 2 [.int .i64 2] from rfl) (Reps.one (show Kd.M (Kd.int .i64) _ _ _ 5 [.int .i64 5] from rfl) (Reps.one (show Kd.M (Kd.int .i64) _ _ _ 6 [.int .i64 6] from rfl) (Reps.one (show Kd.M (Kd.int .i64) _ _ _ (-1) [.int .i64 (-1)] from rfl) (Reps.none _ _)))))))))); intro v572 w15 ho16 hb hg_ hnew_; clear hg_ hnew_; (first | rw [← Ny571.out] at ho16 | (simp only [Int.reduceToNat] at ho16; rw [← Ny571.out] at ho16)); have n0_ := zA HO563 hb; have n1_ := zA HO569 hb; have n2_ := z0 (Kd.R_lower ho16 (below_size (zb HB.out))); have n4_ := zH HB hb; have z_HI560 := fun (h0_ : b 3 = false) => (show IsS98 w w15 g560 t558 t570 from by first | exact (IsS98.below (by repeat (first | (with_reducible first | exact (Q_HI560 h0_) | apply IsS98.alloc | apply IsS98.drewN | apply IsS98.drew | apply IsS98.set_1) | exact (Q_HI560 h0_))) hb)); have z_HI560_e3 := fun (h0_ : b 3 = true) => (show IsS98 w w15 g560 t558 t575 from by first | exact (IsS98.below (by repeat (first | (with_reducible first | exact (Q_HI560_e3 h0_) | apply IsS98.alloc | apply IsS98.drewN | apply IsS98.drew | apply IsS98.set_1) | exact (Q_HI560_e3 h0_))) hb)); clear HO563; clear HO569; clear HB; have HO563 := n0_; have HO569 := n1_; have HO573 := n2_; have HB := n4_; clear n0_ n1_ n2_ n4_; clear hb ho16; obtain ⟨Ao17, co17, eo17⟩ := Kd.R_slice HO573.out; subst eo17; obtain ⟨ado17, fo17, _⟩ := Kd.at_int (Kd.R_reads' HO573.out).2.2 0 (by decide) (by rw [Ny571.out]; simp)
      cases fo17
      refine hK.out _ _ ⟨.slice (some ado17) y571.length co17, ado17, m4_, (by rw [ha.out]; exact putSel_upk 0 hb_ rfl rfl rfl), (Kd.R_mono (zr HO563.out) (fun _ hk => by first | exact hk.2 | exact hk)), (Kd.R_mono (zr HO569.out) (fun _ hk => by first | exact hk.2 | exact hk)), z_HI560, (zb HB.out), fun _ => (zr HO573.out), fun _ => ⟨_, rfl⟩, z_HI560_e3, fun h0_ => absurd ((hoff 4 (by kernel_rfl)).symm.trans h0_) (by decide)⟩
     refine steps_cons ?_ ?_
     ·rintro b a w' ⟨v572, adz_v572, m4_, ha, Q_HO563, Q_HO569, Q_HI560, Q_HB, Q_HO573, Q_HA_HO573, Q_HI560_e3, Q_X4_⟩ hb_ hon hoff; refine ⟨_, rfl, fun K hK => ?_⟩
      have e17 : a.tmps[17]? = some (.pointer (some ⟨g560, 0, none⟩)) := by rw [ha]; exact (putSel_off rfl).trans rfl
      replace ha := Aside0.mk ha; have HO563 := Aside0.mk Q_HO563; have HO569 := Aside0.mk Q_HO569; have HI560 := z0 (Q_HI560 hb_); have HB := Aside0.mk Q_HB; refine goes_ Try.func78 (by kernel_rfl) rfl #[.pointer (some ⟨g560, 0, none⟩), .int .i64 8] (by rfl) rfl rfl (by first | (simp only [List.map_toArray, List.map_cons, List.map_nil, Act.eval, Array.getD_eq_getD_getElem?, Option.getD_some, e17]; done) | (simp only [List.map_toArray, List.map_cons, List.map_nil, Act.eval, Array.getD_eq_getD_getElem?, Option.getD_some, e17]; rfl)) ?_
      with_reducible refine (spec_l6Rd_pick.calls k g560 t558 t570 8 t574 t575 w _ ?side1 ?side2 A10.out).mono ?_
      (case side1 => repeat (first | (with_reducible first | exact HI560.out | apply IsS98.alloc | apply IsS98.drewN | apply IsS98.drew | apply IsS98.set_1) | exact HI560.out)); (case side2 => repeat (first | (with_reducible first | exact HB.out | apply below_alloc | apply pw_below_drewN | apply below_drew1 | refine below_set ?_ (IsS98.ge HI560.out)) | exact HB.out)); rintro e w15 ⟨rfl, hi, hb, hk⟩; refine ⟨_, rfl, ?_⟩; have n0_ := z0 (Kd.R_mono (Kd.R_keep (IsS98.apart (show IsS98 w _ g560 t558 t570 from by repeat (first | (with_reducible first | exact HI560.out | apply IsS98.alloc | apply IsS98.drewN | apply IsS98.drew | apply IsS98.set_1) | exact HI560.out)) (zr HO563.out) (by decide)) hk (fun _ h => h.2)) (fun _ h => h.1)); have n1_ := z0 (Kd.R_mono (Kd.R_keep (IsS98.apart (show IsS98 w _ g560 t558 t570 from by repeat (first | (with_reducible first | exact HI560.out | apply IsS98.alloc | apply IsS98.drewN | apply IsS98.drew | apply IsS98.set_1) | exact HI560.out)) (zr HO569.out) (by decide)) hk (fun _ h => h.2)) (fun _ h => h.1)); have n2_ := z0 (hb); have n3_ := z0 (hi); have z_HO573 := fun (h0_ : b 1 = true) => (show Kd.R (Kd.int .i64) 3 w15 w.heap.size (fun _ => True) v572 y571 from by first | exact (Kd.R_mono (Kd.R_keep (IsS98.apart (show IsS98 w _ g560 t558 t570 from by repeat (first | (with_reducible first | exact HI560.out | apply IsS98.alloc | apply IsS98.drewN | apply IsS98.drew | apply IsS98.set_1) | exact HI560.out)) (zr (Q_HO573 h0_)) (by decide)) hk (fun _ h => h.2)) (fun _ h => h.1)) | exact Kd.R_mono (Kd.R_mono (Kd.R_keep (IsS98.apart (show IsS98 w _ g560 t558 t570 from by repeat (first | (with_reducible first | exact HI560.out | apply IsS98.alloc | apply IsS98.drewN | apply IsS98.drew | apply IsS98.set_1) | exact HI560.out)) (zr (Q_HO573 h0_)) (by decide)) hk (fun _ h => h.2)) (fun _ h => h.1)) (fun _ h_ => by first | trivial | exact h_ | exact h_.1)); clear HO563; clear HO569; clear HB; clear HI560; have HO563 := n0_; have HO569 := n1_; have HB := n2_; have HI560 := n3_; clear n0_ n1_ n2_ n3_; (try clear hb hk hi); refine hK.out _ _ ⟨v572, adz_v572, m4_, (by rw [ha.out]; exact putSel_upk 1 hb_ rfl rfl rfl), (Kd.R_mono (zr HO563.out) (fun _ hk => by first | exact hk.2 | exact hk)), (Kd.R_mono (zr HO569.out) (fun _ hk => by first | exact hk.2 | exact hk)), fun h0_ => absurd ((up_self b 3).symm.trans h0_) (by decide), (by repeat (first | (with_reducible first | exact HB.out | apply below_alloc | apply pw_below_drewN | apply below_drew1 | refine below_set ?_ (IsS98.ge HI560.out)) | exact HB.out)), z_HO573, Q_HA_HO573, fun _ => (by repeat (first | (with_reducible first | exact HI560.out | apply IsS98.alloc | apply IsS98.drewN | apply IsS98.drew | apply IsS98.set_1) | exact HI560.out)), fun h0_ => absurd ((hoff 4 (by kernel_rfl)).symm.trans h0_) (by decide)⟩
     refine steps_cons ?_ ?_
     ·rintro b a w' ⟨v572, adz_v572, m4_, ha, Q_HO563, Q_HO569, Q_HI560, Q_HB, Q_HO573, Q_HA_HO573, Q_HI560_e3, Q_X4_⟩ hb_ hon hoff; refine ⟨_, rfl, fun K hK => ?_⟩
      have e16 : a.tmps[16]? = some (v572) := by rw [ha]; exact putSel_on (e := (1, 16, v572)) 0 rfl rfl (hon 1 (by kernel_rfl)) rfl
      have e18 : a.tmps[18]? = some (.int .i64 t574) := by rw [ha]; exact putSel_on (e := (3, 18, .int .i64 t574)) 1 rfl rfl (hon 3 (by kernel_rfl)) rfl
      replace ha := Aside0.mk ha; have HO563 := Aside0.mk Q_HO563; have HO569 := Aside0.mk Q_HO569; have HB := Aside0.mk Q_HB; have HO573 := z0 (Q_HO573 (hon 1 (by kernel_rfl))); have HA_HO573 := z0 (Q_HA_HO573 (hon 1 (by kernel_rfl))); have HI560 := z0 (Q_HI560_e3 (hon 3 (by kernel_rfl))); obtain ⟨c_, hv_⟩ := HA_HO573.out; rw [hv_] at e16; refine value_ (w1 := w') (v := .pointer (some (adz_v572.add (t574).toNat))) (by rfl) rfl ?_ ?_
      ·go_simp
       (try simp only [i64_w])
       try rfl
      refine hK.out _ _ ⟨v572, adz_v572, (.pointer (some (adz_v572.add (t574).toNat))), (by rw [ha.out]; exact putSel_upk 2 hb_ rfl rfl rfl), Q_HO563, Q_HO569, fun h0_ => absurd ((hon 3 (by kernel_rfl)).symm.trans h0_) (by decide), Q_HB, Q_HO573, Q_HA_HO573, Q_HI560_e3, fun _ => rfl⟩
     refine steps_cons ?_ ?_
     ·rintro b a w' ⟨v572, adz_v572, m4_, ha, Q_HO563, Q_HO569, Q_HI560, Q_HB, Q_HO573, Q_HA_HO573, Q_HI560_e3, Q_X4_⟩ hb_ hon hoff; refine ⟨_, rfl, fun K hK => ?_⟩
      have e19 : a.tmps[19]? = some (m4_) := by rw [ha]; exact putSel_on (e := (4, 19, m4_)) 2 rfl rfl (hon 4 (by kernel_rfl)) rfl
      rw [Q_X4_ (hon 4 (by kernel_rfl))] at e19; replace ha := Aside0.mk ha; have HO563 := Aside0.mk Q_HO563; have HO569 := Aside0.mk Q_HO569; have HB := Aside0.mk Q_HB; have HO573 := z0 (Q_HO573 (hon 1 (by kernel_rfl))); have HA_HO573 := z0 (Q_HA_HO573 (hon 1 (by kernel_rfl))); have HI560 := z0 (Q_HI560_e3 (hon 3 (by kernel_rfl))); obtain ⟨c_, hv_⟩ := HA_HO573.out; have hF_ := HO573.out; rw [hv_] at hF_; obtain ⟨ad_, ea_, hx_⟩ := Kd.at_int (Kd.R_reads' hF_).2.2 t574 (of_eq_true pi576) (of_eq_true qi576)
      cases ea_
      refine value_ (w1 := w') (v := .int .i64 (rd y571 t574)) (by rfl) rfl ?_ ?_
      ·go_simp
       (try simp only [i64_w])
       try rfl
      refine hK.out _ _ ⟨v572, adz_v572, m4_, (by rw [ha.out]; exact putSel_upk 3 hb_ rfl rfl rfl), Q_HO563, Q_HO569, fun h0_ => absurd ((hon 3 (by kernel_rfl)).symm.trans h0_) (by decide), Q_HB, Q_HO573, Q_HA_HO573, Q_HI560_e3, Q_X4_⟩
     refine steps_cons ?_ ?_
     ·rintro b a w' ⟨v572, adz_v572, m4_, ha, Q_HO563, Q_HO569, Q_HI560, Q_HB, Q_HO573, Q_HA_HO573, Q_HI560_e3, Q_X4_⟩ hb_ hon hoff; refine ⟨_, rfl, fun K hK => ?_⟩
      have e15 : a.tmps[15]? = some (v568) := by rw [ha]; exact (putSel_off rfl).trans rfl
      replace ha := Aside0.mk ha; have HO563 := Aside0.mk Q_HO563; have HO569 := Aside0.mk Q_HO569; have HB := Aside0.mk Q_HB; have HI560 := z0 (Q_HI560_e3 (hon 3 (by kernel_rfl))); refine value_ (w1 := w') (v := v568) (by rfl) rfl ?_ ?_
      ·go_simp
       (try simp only [i64_w])
       try rfl
      refine hK.out _ _ ⟨v572, adz_v572, m4_, (by rw [ha.out]; exact putSel_upk 4 hb_ rfl rfl rfl), Q_HO563, Q_HO569, fun h0_ => absurd ((hon 3 (by kernel_rfl)).symm.trans h0_) (by decide), Q_HB, Q_HO573, Q_HA_HO573, Q_HI560_e3, Q_X4_⟩
     refine steps_cons ?_ ?_
     ·rintro b a w' ⟨v572, adz_v572, m4_, ha, Q_HO563, Q_HO569, Q_HI560, Q_HB, Q_HO573, Q_HA_HO573, Q_HI560_e3, Q_X4_⟩ hb_ hon hoff; refine ⟨_, rfl, fun K hK => ?_⟩
      have e20 : a.tmps[20]? = some (.int .i64 (rd y571 t574)) := by rw [ha]; exact putSel_on (e := (5, 20, .int .i64 (rd y571 t574))) 3 rfl rfl (hon 5 (by kernel_rfl)) rfl
      replace ha := Aside0.mk ha; have HO563 := Aside0.mk Q_HO563; have HO569 := Aside0.mk Q_HO569; have HB := Aside0.mk Q_HB; have HO573 := z0 (Q_HO573 (hon 1 (by kernel_rfl))); have HA_HO573 := z0 (Q_HA_HO573 (hon 1 (by kernel_rfl))); have HI560 := z0 (Q_HI560_e3 (hon 3 (by kernel_rfl))); refine value_ (w1 := w') (v := .int .i64 (rd y571 t574)) (by rfl) rfl ?_ ?_
      ·go_simp
       (try simp only [i64_w])
       try rfl
      refine hK.out _ _ ⟨v572, adz_v572, m4_, (by rw [ha.out]; exact putSel_upk 5 hb_ rfl rfl rfl), Q_HO563, Q_HO569, fun h0_ => absurd ((hon 3 (by kernel_rfl)).symm.trans h0_) (by decide), Q_HB, Q_HO573, Q_HA_HO573, Q_HI560_e3, Q_X4_⟩
     exact steps_nil
    rintro b a w19 hall ⟨v572, adz_v572, m4_, ha, Q_HO563, Q_HO569, Q_HI560, Q_HB, Q_HO573, Q_HA_HO573, Q_HI560_e3, Q_X4_⟩; clear HB HI560 HO563 HO569; have hb1_ := hall 1 (by kernel_rfl); have hb3_ := hall 3 (by kernel_rfl); have hb4_ := hall 4 (by kernel_rfl); have hb5_ := hall 5 (by kernel_rfl); have hb6_ := hall 6 (by kernel_rfl); have hb7_ := hall 7 (by kernel_rfl); subst ha; obtain rfl := Q_X4_ hb4_; simp only [putSel, hb1_, hb3_, hb4_, hb5_, hb6_, hb7_, if_true, Act.put, List.setIfInBounds_toArray, List.set_cons_zero, List.set_cons_succ]; have HO563 := Aside0.mk Q_HO563; clear Q_HO563; have HO569 := Aside0.mk Q_HO569; clear Q_HO569; clear Q_HI560; have HB := Aside0.mk Q_HB; clear Q_HB; have HO573 := z0 (Q_HO573 hb1_); clear Q_HO573; have HA_HO573 := z0 (Q_HA_HO573 hb1_); clear Q_HA_HO573; have HI560 := z0 (Q_HI560_e3 hb3_); clear Q_HI560_e3; clear hall hb1_ hb3_ hb4_ hb5_ hb6_ hb7_; obtain ⟨co20, eo20⟩ := HA_HO573.out; clear HA_HO573; subst eo20
    try go_wp2
    go_ret2
    exact ⟨_, ze, Kd.R_mono (zr HO569.out) (fun _ hk => trivial), by repeat (first | (with_reducible first | exact HB.out | apply below_alloc | apply pw_below_drewN | apply below_drew1 | refine below_set ?_ (IsS98.ge HI560.out)) | exact HB.out)⟩
   ·rw [if_neg c12] at H; exact absurd H (by simp)
  ·rw [if_neg c11] at H; exact absurd H (by simp)
 ·rw [if_neg c8] at H; have c8b0 : (t565 == 0) = false := beq_eq_false_iff_ne.mpr c8; have c8b1 : (t565 != 0) = true := bne_iff_ne.mpr c8; (first | rw [c8b0] | (simp only [i64_w, i32_w]; rw [c8b0]) | simp only [*, Bool.not_true, Bool.not_false] | skip); obtain ⟨y577, hy577⟩ : ∃ y_ : List Int, y_ = (([0, 0, 1, 1, 2, 5, 6, (-1)] : List Int)) := ⟨_, rfl⟩
  replace H : ((spec_l6Rd_pick.f k t558 t566 8).bind fun bt580 => (if 0 ≤ bt580.1 then (if bt580.1 < (y577.length : Int) then (some (t561, rd y577 bt580.1)) else (none)) else (none))) = some (r1, r2) := by first | (rw [hy577]; with_reducible exact H) | (have H2_ := (Option.bind_some _ _).symm.trans H; rw [hy577]; with_reducible exact H2_) | (have H2_ := (Option.bind_some _ _).symm.trans H; with_reducible exact H2_) | with_reducible exact H | (rw [hy577]; exact H) | exact H
  have Ny577 := Aside0.mk hy577; clear hy577; replace H := zi H; obtain ⟨⟨t580, t581⟩, A21, H⟩ := H; (try dsimp only at H)
  by_cases c22 : 0 ≤ t580
  ·rw [if_pos c22] at H; have c22b0 : decide (0 ≤ t580) = true := decide_eq_true c22; clear c22
   by_cases c23 : t580 < (y577.length : Int)
   ·rw [if_pos c23] at H; have c23b0 : decide (t580 < (y577.length : Int)) = true := decide_eq_true c23; clear c23; simp only [Option.some.injEq, Prod.mk.injEq] at H; obtain ⟨rfl, rfl⟩ := H
    try go_wp2
    have pi582 : (0 ≤ (t580 : Int)) = True := eq_true (zd); have qi582 : (t580 < (y577.length : Int)) = True := eq_true (zd); replace HO563 := z0 (Kd.R_drew HO563.out); replace HI560 := z0 (IsS98.drew HI560.out); replace HB := z0 (below_drew1 HB.out); refine start_ (n := 8) (S := fun w' => True) (ds := []) (fb 8 0) (by kernel_rfl) rfl rfl trivial (fun hHeld => ?_); refine with_tabW spec_DrawSieveOf.tab5 spec_DrawSieveOf.bits5 (fun HT_ HW_ => ?_); generalize w7.drew = w24 at HO563 HI560 HB hHeld ⊢; refine pure_ (i := 0) (N := some 15) (v := ?_) (a' := ?_) (fb 8 1) rfl rfl (any_of HT_.out (by kernel_rfl)) (fun _ _ _ h => h) (Or.inl ⟨by rfl, ?_⟩) ?_ ?_; rotate_left
    ·intro w'
     go_simp
     with_reducible rfl
    rotate_left
    ·simp only [Act.put, List.setIfInBounds_toArray, List.set_cons_zero, List.set_cons_succ, i64_w, i32_w]
     rfl
    refine pure_ (i := 2) (N := some 17) (v := ?_) (a' := ?_) (fb 8 5) rfl rfl (any_of HT_.out (by kernel_rfl)) (fun _ _ _ h => h) (Or.inl ⟨by rfl, ?_⟩) ?_ ?_; rotate_left
    ·intro w'
     go_simp
     with_reducible rfl
    rotate_left
    ·simp only [Act.put, List.setIfInBounds_toArray, List.set_cons_zero, List.set_cons_succ, i64_w, i32_w]
     rfl
    refine inv_at [1, 3, 4, 5, 6, 7] (fun a0_ b a w' => ∃ (v578 : Value) (adz_v578 : Addr) (m4_ : Value), a = putSel a0_ b [(1, 16, v578), (3, 18, .int .i64 t580), (4, 19, m4_), (5, 20, .int .i64 (rd y577 t580)), (6, 2, v562), (7, 3, .int .i64 (rd y577 t580))] ∧ (Kd.R Kd.string 9 w' w.heap.size (fun _ => True) v562 t561) ∧ (b 3 = false → IsS98 w w' g560 t558 t566) ∧ (Below w.heap.size w w') ∧ (b 1 = true → Kd.R (Kd.int .i64) 3 w' w.heap.size (fun _ => True) v578 y577) ∧ (b 1 = true → ∃ c_, (v578 : Value) = .slice (some adz_v578) y577.length c_) ∧ (b 3 = true → IsS98 w w' g560 t558 t581) ∧ (b 4 = true → (m4_ : Value) = .pointer (some (adz_v578.add (t580).toNat)))) HT_.out HW_.out (by kernel_rfl) (by kernel_rfl) ?_ ?_ ?_
    ·exact ⟨.bool false, ⟨0, 0, none⟩, .bool false, by simp only [putSel, Bool.false_eq_true, if_false], (by first | exact HO563.out | exact Kd.R_mono HO563.out (fun _ hk => hk.2)), fun _ => HI560.out, HB.out, fun h_ => absurd h_ (by decide), fun h_ => absurd h_ (by decide), fun h_ => absurd h_ (by decide), fun h_ => absurd h_ (by decide)⟩
    ·skip
     clear HB HI560 HO563; refine steps_cons ?_ ?_
     ·rintro b a w' ⟨v578, adz_v578, m4_, ha, Q_HO563, Q_HI560, Q_HB, Q_HO579, Q_HA_HO579, Q_HI560_e3, Q_X4_⟩ hb_ hon hoff; refine ⟨_, rfl, fun K hK => ?_⟩; replace ha := Aside0.mk ha; have HO563 := Aside0.mk Q_HO563; have HB := Aside0.mk Q_HB; refine Kd.R_lit_step (Kd.int .i64) _ 3 ?hg (N := 16) ?hd (xs := ([0, 0, 1, 1, 2, 5, 6, (-1)] : List Int)) (inner := [.int .i64 0, .int .i64 0, .int .i64 1, .int .i64 1, .int .i64 2, .int .i64 5, .int .i64 6, .int .i64 (-1)]) (ok := fun _ => True) (okp := fun _ => True) ?hr ?hp (fun _ hk => hk) trivial (Below.refl _ _) (Nat.le_refl _) (by simp) ?_; (case hd => rfl); (case hg => rfl); (case hr => first | (go_simp; done) | (go_simp; rfl)); (case hp => exact (Reps.one (show Kd.M (Kd.int .i64) _ _ _ 0 [.int .i64 0] from rfl) (Reps.one (show Kd.M (Kd.int .i64) _ _ _ 0 [.int .i64 0] from rfl) (Reps.one (show Kd.M (Kd.int .i64) _ _ _ 1 [.int .i64 1] from rfl) (Reps.one (show Kd.M (Kd.int .i64) _ _ _ 1 [.int .i64 1] from rfl) (Reps.one (show Kd.M (Kd.int .i64) _ _ _ 2 [.int .i64 2] from rfl) (Reps.one (show Kd.M (Kd.int .i64) _ _ _ 5 [.int .i64 5] from rfl) (Reps.one (show Kd.M (Kd.int .i64) _ _ _ 6 [.int .i64 6] from rfl) (Reps.one (show Kd.M (Kd.int .i64) _ _ _ (-1) [.int .i64 (-1)] from rfl) (Reps.none _ _)))))))))); intro v578 w25 ho26 hb hg_ hnew_; clear hg_ hnew_; (first | rw [← Ny577.out] at ho26 | (simp only [Int.reduceToNat] at ho26; rw [← Ny577.out] at ho26)); have n0_ := zA HO563 hb; have n1_ := z0 (Kd.R_lower ho26 (below_size (zb HB.out))); have n3_ := zH HB hb; have z_HI560 := fun (h0_ : b 3 = false) => (show IsS98 w w25 g560 t558 t566 from by first | exact (IsS98.below (by repeat (first | (with_reducible first | exact (Q_HI560 h0_) | apply IsS98.alloc | apply IsS98.drewN | apply IsS98.drew | apply IsS98.set_1) | exact (Q_HI560 h0_))) hb)); have z_HI560_e3 := fun (h0_ : b 3 = true) => (show IsS98 w w25 g560 t558 t581 from by first | exact (IsS98.below (by repeat (first | (with_reducible first | exact (Q_HI560_e3 h0_) | apply IsS98.alloc | apply IsS98.drewN | apply IsS98.drew | apply IsS98.set_1) | exact (Q_HI560_e3 h0_))) hb)); clear HO563; clear HB; have HO563 := n0_; have HO579 := n1_; have HB := n3_; clear n0_ n1_ n3_; clear hb ho26; obtain ⟨Ao27, co27, eo27⟩ := Kd.R_slice HO579.out; subst eo27; obtain ⟨ado27, fo27, _⟩ := Kd.at_int (Kd.R_reads' HO579.out).2.2 0 (by decide) (by rw [Ny577.out]; simp)
      cases fo27
      refine hK.out _ _ ⟨.slice (some ado27) y577.length co27, ado27, m4_, (by rw [ha.out]; exact putSel_upk 0 hb_ rfl rfl rfl), (zr HO563.out), z_HI560, (zb HB.out), fun _ => (zr HO579.out), fun _ => ⟨_, rfl⟩, z_HI560_e3, fun h0_ => absurd ((hoff 4 (by kernel_rfl)).symm.trans h0_) (by decide)⟩
     refine steps_cons ?_ ?_
     ·rintro b a w' ⟨v578, adz_v578, m4_, ha, Q_HO563, Q_HI560, Q_HB, Q_HO579, Q_HA_HO579, Q_HI560_e3, Q_X4_⟩ hb_ hon hoff; refine ⟨_, rfl, fun K hK => ?_⟩
      have e17 : a.tmps[17]? = some (.pointer (some ⟨g560, 0, none⟩)) := by rw [ha]; exact (putSel_off rfl).trans rfl
      replace ha := Aside0.mk ha; have HO563 := Aside0.mk Q_HO563; have HI560 := z0 (Q_HI560 hb_); have HB := Aside0.mk Q_HB; refine goes_ Try.func78 (by kernel_rfl) rfl #[.pointer (some ⟨g560, 0, none⟩), .int .i64 8] (by rfl) rfl rfl (by first | (simp only [List.map_toArray, List.map_cons, List.map_nil, Act.eval, Array.getD_eq_getD_getElem?, Option.getD_some, e17]; done) | (simp only [List.map_toArray, List.map_cons, List.map_nil, Act.eval, Array.getD_eq_getD_getElem?, Option.getD_some, e17]; rfl)) ?_
      with_reducible refine (spec_l6Rd_pick.calls k g560 t558 t566 8 t580 t581 w _ ?side1 ?side2 A21.out).mono ?_
      (case side1 => repeat (first | (with_reducible first | exact HI560.out | apply IsS98.alloc | apply IsS98.drewN | apply IsS98.drew | apply IsS98.set_1) | exact HI560.out)); (case side2 => repeat (first | (with_reducible first | exact HB.out | apply below_alloc | apply pw_below_drewN | apply below_drew1 | refine below_set ?_ (IsS98.ge HI560.out)) | exact HB.out)); rintro e w25 ⟨rfl, hi, hb, hk⟩; refine ⟨_, rfl, ?_⟩; have n0_ := z0 (Kd.R_mono (Kd.R_keep (IsS98.apart (show IsS98 w _ g560 t558 t566 from by repeat (first | (with_reducible first | exact HI560.out | apply IsS98.alloc | apply IsS98.drewN | apply IsS98.drew | apply IsS98.set_1) | exact HI560.out)) (zr HO563.out) (by decide)) hk (fun _ h => h.2)) (fun _ h => h.1)); have n1_ := z0 (hb); have n2_ := z0 (hi); have z_HO579 := fun (h0_ : b 1 = true) => (show Kd.R (Kd.int .i64) 3 w25 w.heap.size (fun _ => True) v578 y577 from by first | exact (Kd.R_mono (Kd.R_keep (IsS98.apart (show IsS98 w _ g560 t558 t566 from by repeat (first | (with_reducible first | exact HI560.out | apply IsS98.alloc | apply IsS98.drewN | apply IsS98.drew | apply IsS98.set_1) | exact HI560.out)) (zr (Q_HO579 h0_)) (by decide)) hk (fun _ h => h.2)) (fun _ h => h.1)) | exact Kd.R_mono (Kd.R_mono (Kd.R_keep (IsS98.apart (show IsS98 w _ g560 t558 t566 from by repeat (first | (with_reducible first | exact HI560.out | apply IsS98.alloc | apply IsS98.drewN | apply IsS98.drew | apply IsS98.set_1) | exact HI560.out)) (zr (Q_HO579 h0_)) (by decide)) hk (fun _ h => h.2)) (fun _ h => h.1)) (fun _ h_ => by first | trivial | exact h_ | exact h_.1)); clear HO563; clear HB; clear HI560; have HO563 := n0_; have HB := n1_; have HI560 := n2_; clear n0_ n1_ n2_; (try clear hb hk hi); refine hK.out _ _ ⟨v578, adz_v578, m4_, (by rw [ha.out]; exact putSel_upk 1 hb_ rfl rfl rfl), (zr HO563.out), fun h0_ => absurd ((up_self b 3).symm.trans h0_) (by decide), (by repeat (first | (with_reducible first | exact HB.out | apply below_alloc | apply pw_below_drewN | apply below_drew1 | refine below_set ?_ (IsS98.ge HI560.out)) | exact HB.out)), z_HO579, Q_HA_HO579, fun _ => (by repeat (first | (with_reducible first | exact HI560.out | apply IsS98.alloc | apply IsS98.drewN | apply IsS98.drew | apply IsS98.set_1) | exact HI560.out)), fun h0_ => absurd ((hoff 4 (by kernel_rfl)).symm.trans h0_) (by decide)⟩
     refine steps_cons ?_ ?_
     ·rintro b a w' ⟨v578, adz_v578, m4_, ha, Q_HO563, Q_HI560, Q_HB, Q_HO579, Q_HA_HO579, Q_HI560_e3, Q_X4_⟩ hb_ hon hoff; refine ⟨_, rfl, fun K hK => ?_⟩
      have e16 : a.tmps[16]? = some (v578) := by rw [ha]; exact putSel_on (e := (1, 16, v578)) 0 rfl rfl (hon 1 (by kernel_rfl)) rfl
      have e18 : a.tmps[18]? = some (.int .i64 t580) := by rw [ha]; exact putSel_on (e := (3, 18, .int .i64 t580)) 1 rfl rfl (hon 3 (by kernel_rfl)) rfl
      replace ha := Aside0.mk ha; have HO563 := Aside0.mk Q_HO563; have HB := Aside0.mk Q_HB; have HO579 := z0 (Q_HO579 (hon 1 (by kernel_rfl))); have HA_HO579 := z0 (Q_HA_HO579 (hon 1 (by kernel_rfl))); have HI560 := z0 (Q_HI560_e3 (hon 3 (by kernel_rfl))); obtain ⟨c_, hv_⟩ := HA_HO579.out; rw [hv_] at e16; refine value_ (w1 := w') (v := .pointer (some (adz_v578.add (t580).toNat))) (by rfl) rfl ?_ ?_
      ·go_simp
       (try simp only [i64_w])
       try rfl
      refine hK.out _ _ ⟨v578, adz_v578, (.pointer (some (adz_v578.add (t580).toNat))), (by rw [ha.out]; exact putSel_upk 2 hb_ rfl rfl rfl), Q_HO563, fun h0_ => absurd ((hon 3 (by kernel_rfl)).symm.trans h0_) (by decide), Q_HB, Q_HO579, Q_HA_HO579, Q_HI560_e3, fun _ => rfl⟩
     refine steps_cons ?_ ?_
     ·rintro b a w' ⟨v578, adz_v578, m4_, ha, Q_HO563, Q_HI560, Q_HB, Q_HO579, Q_HA_HO579, Q_HI560_e3, Q_X4_⟩ hb_ hon hoff; refine ⟨_, rfl, fun K hK => ?_⟩
      have e19 : a.tmps[19]? = some (m4_) := by rw [ha]; exact putSel_on (e := (4, 19, m4_)) 2 rfl rfl (hon 4 (by kernel_rfl)) rfl
      rw [Q_X4_ (hon 4 (by kernel_rfl))] at e19; replace ha := Aside0.mk ha; have HO563 := Aside0.mk Q_HO563; have HB := Aside0.mk Q_HB; have HO579 := z0 (Q_HO579 (hon 1 (by kernel_rfl))); have HA_HO579 := z0 (Q_HA_HO579 (hon 1 (by kernel_rfl))); have HI560 := z0 (Q_HI560_e3 (hon 3 (by kernel_rfl))); obtain ⟨c_, hv_⟩ := HA_HO579.out; have hF_ := HO579.out; rw [hv_] at hF_; obtain ⟨ad_, ea_, hx_⟩ := Kd.at_int (Kd.R_reads' hF_).2.2 t580 (of_eq_true pi582) (of_eq_true qi582)
      cases ea_
      refine value_ (w1 := w') (v := .int .i64 (rd y577 t580)) (by rfl) rfl ?_ ?_
      ·go_simp
       (try simp only [i64_w])
       try rfl
      refine hK.out _ _ ⟨v578, adz_v578, m4_, (by rw [ha.out]; exact putSel_upk 3 hb_ rfl rfl rfl), Q_HO563, fun h0_ => absurd ((hon 3 (by kernel_rfl)).symm.trans h0_) (by decide), Q_HB, Q_HO579, Q_HA_HO579, Q_HI560_e3, Q_X4_⟩
     refine steps_cons ?_ ?_
     ·rintro b a w' ⟨v578, adz_v578, m4_, ha, Q_HO563, Q_HI560, Q_HB, Q_HO579, Q_HA_HO579, Q_HI560_e3, Q_X4_⟩ hb_ hon hoff; refine ⟨_, rfl, fun K hK => ?_⟩
      have e15 : a.tmps[15]? = some (v562) := by rw [ha]; exact (putSel_off rfl).trans rfl
      replace ha := Aside0.mk ha; have HO563 := Aside0.mk Q_HO563; have HB := Aside0.mk Q_HB; have HI560 := z0 (Q_HI560_e3 (hon 3 (by kernel_rfl))); refine value_ (w1 := w') (v := v562) (by rfl) rfl ?_ ?_
      ·go_simp
       (try simp only [i64_w])
       try rfl
      refine hK.out _ _ ⟨v578, adz_v578, m4_, (by rw [ha.out]; exact putSel_upk 4 hb_ rfl rfl rfl), Q_HO563, fun h0_ => absurd ((hon 3 (by kernel_rfl)).symm.trans h0_) (by decide), Q_HB, Q_HO579, Q_HA_HO579, Q_HI560_e3, Q_X4_⟩
     refine steps_cons ?_ ?_
     ·rintro b a w' ⟨v578, adz_v578, m4_, ha, Q_HO563, Q_HI560, Q_HB, Q_HO579, Q_HA_HO579, Q_HI560_e3, Q_X4_⟩ hb_ hon hoff; refine ⟨_, rfl, fun K hK => ?_⟩
      have e20 : a.tmps[20]? = some (.int .i64 (rd y577 t580)) := by rw [ha]; exact putSel_on (e := (5, 20, .int .i64 (rd y577 t580))) 3 rfl rfl (hon 5 (by kernel_rfl)) rfl
      replace ha := Aside0.mk ha; have HO563 := Aside0.mk Q_HO563; have HB := Aside0.mk Q_HB; have HO579 := z0 (Q_HO579 (hon 1 (by kernel_rfl))); have HA_HO579 := z0 (Q_HA_HO579 (hon 1 (by kernel_rfl))); have HI560 := z0 (Q_HI560_e3 (hon 3 (by kernel_rfl))); refine value_ (w1 := w') (v := .int .i64 (rd y577 t580)) (by rfl) rfl ?_ ?_
      ·go_simp
       (try simp only [i64_w])
       try rfl
      refine hK.out _ _ ⟨v578, adz_v578, m4_, (by rw [ha.out]; exact putSel_upk 5 hb_ rfl rfl rfl), Q_HO563, fun h0_ => absurd ((hon 3 (by kernel_rfl)).symm.trans h0_) (by decide), Q_HB, Q_HO579, Q_HA_HO579, Q_HI560_e3, Q_X4_⟩
     exact steps_nil
    rintro b a w29 hall ⟨v578, adz_v578, m4_, ha, Q_HO563, Q_HI560, Q_HB, Q_HO579, Q_HA_HO579, Q_HI560_e3, Q_X4_⟩; clear HB HI560 HO563; have hb1_ := hall 1 (by kernel_rfl); have hb3_ := hall 3 (by kernel_rfl); have hb4_ := hall 4 (by kernel_rfl); have hb5_ := hall 5 (by kernel_rfl); have hb6_ := hall 6 (by kernel_rfl); have hb7_ := hall 7 (by kernel_rfl); subst ha; obtain rfl := Q_X4_ hb4_; simp only [putSel, hb1_, hb3_, hb4_, hb5_, hb6_, hb7_, if_true, Act.put, List.setIfInBounds_toArray, List.set_cons_zero, List.set_cons_succ]; have HO563 := Aside0.mk Q_HO563; clear Q_HO563; clear Q_HI560; have HB := Aside0.mk Q_HB; clear Q_HB; have HO579 := z0 (Q_HO579 hb1_); clear Q_HO579; have HA_HO579 := z0 (Q_HA_HO579 hb1_); clear Q_HA_HO579; have HI560 := z0 (Q_HI560_e3 hb3_); clear Q_HI560_e3; clear hall hb1_ hb3_ hb4_ hb5_ hb6_ hb7_; obtain ⟨co30, eo30⟩ := HA_HO579.out; clear HA_HO579; subst eo30
    try go_wp2
    go_ret2
    exact ⟨_, ze, zr HO563.out, by repeat (first | (with_reducible first | exact HB.out | apply below_alloc | apply pw_below_drewN | apply below_drew1 | refine below_set ?_ (IsS98.ge HI560.out)) | exact HB.out)⟩
   ·rw [if_neg c23] at H; exact absurd H (by simp)
  ·rw [if_neg c22] at H; exact absurd H (by simp)
end Go.Proofs.Ytifgcajpkgamgaa.Q
end
section
namespace Go.Proofs.Ytifgcajpkgamgaa.Q
open Go.RowKit Go.Proofs.YtifgcajpkgamgaaW.PrintWords Go.Proofs.YtifgcajpkgamgaaW.PrintLast Go.Proofs.YtifgcajpkgamgaaW.PrintMore
attribute [local go_sem] max2_int min2_int max_two min_two max_three min_three max_four min_four   
set_option linter.unusedVariables false
set_option linter.unusedSimpArgs false
theorem laws_ltSames.mono_l : ∀ k, (∀ y0 y1 y2, LeO (laws_ltSames.l0 k y0 y1 y2) (laws_ltSames.l0 (k + 1) y0 y1 y2))
  | 0 => fun _ _ _ r h => by simp [laws_ltSames.l0] at h
  | k + 1 => by
    have ih0 := laws_ltSames.mono_l k
    · intro y0 y1 y2
      unfold laws_ltSames.l0
      repeat' first
      | (with_reducible exact ih0 _ _ _)
      | (with_reducible exact LeO.refl _)
      | (with_reducible exact LeO.none _)
      | (with_reducible refine LeO.ite ?_ ?_)
      | (with_reducible refine LeO.bind ?_ (fun _ => ?_))
      | exact ih0 _ _ _
      | exact LeO.none _
      | refine LeO.ite ?_ ?_
      | refine LeO.bind ?_ (fun _ => ?_)
theorem laws_ltSames.mono : ∀ a0 a1 k, LeO (laws_ltSames.f k a0 a1) (laws_ltSames.f (k + 1) a0 a1) := by
  intro a0 a1 k
  have ih0 := laws_ltSames.mono_l k
  unfold laws_ltSames.f
  repeat' first
      | (with_reducible exact ih0 _ _ _)
      | (with_reducible exact LeO.refl _)
      | (with_reducible exact LeO.none _)
      | (with_reducible refine LeO.ite ?_ ?_)
      | (with_reducible refine LeO.bind ?_ (fun _ => ?_))
      | exact ih0 _ _ _
      | exact LeO.none _
      | refine LeO.ite ?_ ?_
      | refine LeO.bind ?_ (fun _ => ?_)
set_option maxHeartbeats 8000000 in
set_option maxRecDepth 100000 in
theorem laws_ltSames.calls (k : Nat) (A0 : Option Addr) (c0 : Nat) (l0 : List ByteArray) (A1 : Option Addr) (c1 : Nat) (l1 : List ByteArray) (r : Bool) (w : World) (hr0 : Kd.C Kd.string w A0 l0.length l0) (hc0 : l0.length ≤ c0) (hr1 : Kd.C Kd.string w A1 l1.length l1) (hc1 : l1.length ≤ c1) (h : laws_ltSames.f k l0 l1 = some r) :
    Calls Try.prog 51 #[.slice A0 l0.length c0, .slice A1 l1.length c1] w fun e w' => e = .returned (.bool r) ∧ Drawn0 w w' := by
 have HR0 := Aside0.mk hr0; have HC0 := Aside0.mk hc0; clear hr0 hc0; have HR1 := Aside0.mk hr1; have HC1 := Aside0.mk hc1; clear hr1 hc1; have H : (if (l0.length : Int) = (l1.length : Int) then (laws_ltSames.l0 k l0 l1 0) else (some false)) = some r := h; clear h
 by_cases c3 : (l0.length : Int) = (l1.length : Int)
 ·rw [if_pos c3] at H; have c3b0 : ((l0.length : Int) == (l1.length : Int)) = true := beq_iff_eq.mpr c3; have c3b1 : ((l0.length : Int) != (l1.length : Int)) = false := bne_eq_false_iff_eq.mpr c3
  have c3b2 : (l0.length == l1.length) = true := by first | simpa using c3 | (simp at c3 ⊢; omega)
  clear c3; have H' := Aside0.mk H; clear H; go_enter Try.func51, Try.ntmps51; go_wp2
  repeat (go_quiet (fail); try go_wp2)
  go_loopg [5] k (fun kq v5 w' => ∃ (x5_1 : Int), v5 = .int .i64 x5_1 ∧ Aside0 (laws_ltSames.l0 kq l0 l1 x5_1 = some r) ∧ Aside0 (kq ≤ k) ∧ Drawn0 w w')
  case atStart => exact ⟨(0), zf, H', ⟨Nat.le_refl _⟩, by repeat (first | exact Drawn0.refl _ | apply Drawn0.step)⟩
  case round =>
   clear H'
   try clear c1
   try clear p2
   try clear c3
   try clear c3b0
   try clear c3b1
   try clear c3b2
   obtain ⟨x5_1, rfl, HA, HK1, ⟨m1, rfl⟩⟩ := hrel
   cases gk with
   | zero => exact absurd HA.out (by simp [laws_ltSames.l0])
   | succ k1 =>
    have H := HA.out; clear HA; simp only [laws_ltSames.l0] at H
    by_cases c4 : x5_1 < (l0.length : Int)
    ·rw [if_pos c4] at H; have c4b0 : decide (x5_1 < (l0.length : Int)) = true := decide_eq_true c4; clear c4
     by_cases c5 : 0 ≤ x5_1
     ·rw [if_pos c5] at H; have c5b0 : decide (0 ≤ x5_1) = true := decide_eq_true c5; clear c5
      by_cases c6 : x5_1 < (l1.length : Int)
      ·rw [if_pos c6] at H; have c6b0 : decide (x5_1 < (l1.length : Int)) = true := decide_eq_true c6; clear c6
       by_cases c7 : (rdOf ByteArray.empty l0 x5_1).toList = (rdOf ByteArray.empty l1 x5_1).toList
       ·rw [if_pos c7] at H; have c7b0 : ((rdOf ByteArray.empty l0 x5_1).toList == (rdOf ByteArray.empty l1 x5_1).toList) = true := beq_iff_eq.mpr c7; have c7b1 : ((rdOf ByteArray.empty l0 x5_1).toList != (rdOf ByteArray.empty l1 x5_1).toList) = false := bne_eq_false_iff_eq.mpr c7; clear c7; have H' := Aside0.mk H; clear H; have p605 : 0 ≤ (x5_1 : Int) := zd; have q605 : x5_1 < (l0.length : Int) := zd; obtain ⟨ad605, e605, hx605_0⟩ := Kd.at_string HR0.out x5_1 p605 q605; cases e605; replace p605 := eq_true p605; replace q605 := eq_true q605; have p606 : 0 ≤ (x5_1 : Int) := zd; have q606 : x5_1 < (l1.length : Int) := zd; obtain ⟨ad606, e606, hx606_0⟩ := Kd.at_string HR1.out x5_1 p606 q606; cases e606; replace p606 := eq_true p606; replace q606 := eq_true q606; go_wp2
        repeat (go_quiet (fail); try go_wp2)
        go_roundg k1
        case measure => have := HK1.out; omega
        case rel => exact ⟨(wrap64 (x5_1 + 1)), zf, H', ⟨by have := HK1.out; omega⟩, by repeat (first | exact Drawn0.refl _ | apply Drawn0.step)⟩
       ·rw [if_neg c7] at H; have c7b0 : ((rdOf ByteArray.empty l0 x5_1).toList == (rdOf ByteArray.empty l1 x5_1).toList) = false := beq_eq_false_iff_ne.mpr c7; have c7b1 : ((rdOf ByteArray.empty l0 x5_1).toList != (rdOf ByteArray.empty l1 x5_1).toList) = true := bne_iff_ne.mpr c7; obtain rfl := Option.some.inj H; have p605 : 0 ≤ (x5_1 : Int) := zd; have q605 : x5_1 < (l0.length : Int) := zd; obtain ⟨ad605, e605, hx605_0⟩ := Kd.at_string HR0.out x5_1 p605 q605; cases e605; replace p605 := eq_true p605; replace q605 := eq_true q605; have p606 : 0 ≤ (x5_1 : Int) := zd; have q606 : x5_1 < (l1.length : Int) := zd; obtain ⟨ad606, e606, hx606_0⟩ := Kd.at_string HR1.out x5_1 p606 q606; cases e606; replace p606 := eq_true p606; replace q606 := eq_true q606; go_wp2
        repeat (go_quiet (fail); try go_wp2)
        go_ret; exact ⟨zf, by repeat (first | exact Drawn0.refl _ | apply Drawn0.step)⟩
      ·rw [if_neg c6] at H; exact absurd H (by simp)
     ·rw [if_neg c5] at H; exact absurd H (by simp)
    ·rw [if_neg c4] at H; have c4b0 : decide (x5_1 < (l0.length : Int)) = false := decide_eq_false c4; clear c4; obtain rfl := Option.some.inj H; go_wp2
     repeat (go_quiet (fail); try go_wp2)
     go_ret; exact ⟨zf, by repeat (first | exact Drawn0.refl _ | apply Drawn0.step)⟩
 ·rw [if_neg c3] at H; have c3b0 : ((l0.length : Int) == (l1.length : Int)) = false := beq_eq_false_iff_ne.mpr c3; have c3b1 : ((l0.length : Int) != (l1.length : Int)) = true := bne_iff_ne.mpr c3
  have c3b2 : (l0.length == l1.length) = false := by first | simpa using c3 | (simp at c3 ⊢; omega)
  obtain rfl := Option.some.inj H; go_enter Try.func51, Try.ntmps51; go_wp2
  repeat (go_quiet (fail); try go_wp2)
  go_ret; exact ⟨zf, by repeat (first | exact Drawn0.refl _ | apply Drawn0.step)⟩
end Go.Proofs.Ytifgcajpkgamgaa.Q
end
section
namespace Go.Proofs.Ytifgcajpkgamgaa.Q
open Go.RowKit Go.Proofs.YtifgcajpkgamgaaW.PrintWords Go.Proofs.YtifgcajpkgamgaaW.PrintLast Go.Proofs.YtifgcajpkgamgaaW.PrintMore
attribute [local go_sem] max2_int min2_int max_two min_two max_three min_three max_four min_four   
set_option linter.unusedVariables false
set_option linter.unusedSimpArgs false
theorem laws_ltSieve.mono : ∀ a0 a1 a2 a3 a4 a5 a6 a7 a8 a9 k, LeO (laws_ltSieve.f k a0 a1 a2 a3 a4 a5 a6 a7 a8 a9) (laws_ltSieve.f (k + 1) a0 a1 a2 a3 a4 a5 a6 a7 a8 a9) := by
  intro a0 a1 a2 a3 a4 a5 a6 a7 a8 a9 k
  unfold laws_ltSieve.f
  repeat' first
      | (with_reducible exact laws_ltSames.mono _ _ _)
      | (with_reducible exact LeO.refl _)
      | (with_reducible exact LeO.none _)
      | (with_reducible refine LeO.ite ?_ ?_)
      | (with_reducible refine LeO.bind ?_ (fun _ => ?_))
      | exact laws_ltSames.mono _ _ _
      | exact LeO.none _
      | refine LeO.ite ?_ ?_
      | refine LeO.bind ?_ (fun _ => ?_)
set_option maxHeartbeats 8000000 in
set_option maxRecDepth 100000 in
theorem laws_ltSieve.calls (k : Nat) (a0_0 : ByteArray) (a0_1 : ByteArray) (a0_2 : ByteArray) (A0_3 : Option Addr) (c0_3 : Nat) (l0_3 : List ByteArray) (a0_4 : Int) (a1_0 : ByteArray) (a1_1 : ByteArray) (a1_2 : ByteArray) (A1_3 : Option Addr) (c1_3 : Nat) (l1_3 : List ByteArray) (a1_4 : Int) (r : Bool) (w : World) (hr0_3 : Kd.C Kd.string w A0_3 l0_3.length l0_3) (hc0_3 : l0_3.length ≤ c0_3) (hr1_3 : Kd.C Kd.string w A1_3 l1_3.length l1_3) (hc1_3 : l1_3.length ≤ c1_3) (h : laws_ltSieve.f k a0_0 a0_1 a0_2 l0_3 a0_4 a1_0 a1_1 a1_2 l1_3 a1_4 = some r) :
    Calls Try.prog 37 #[.agg #[.string a0_0, .string a0_1, .string a0_2, .slice A0_3 l0_3.length c0_3, .int .i64 a0_4], .agg #[.string a1_0, .string a1_1, .string a1_2, .slice A1_3 l1_3.length c1_3, .int .i64 a1_4]] w fun e w' => e = .returned (.bool r) ∧ Below w.heap.size w w' := by
 have hu25 := Try.underlying25; have HR0_3 := Aside0.mk hr0_3; have HC0_3 := Aside0.mk hc0_3; clear hr0_3 hc0_3; have HR1_3 := Aside0.mk hr1_3; have HC1_3 := Aside0.mk hc1_3; clear hr1_3 hc1_3; have HB := z0 (Below.refl w.heap.size w); have H : (if a0_0.toList = a1_0.toList then (if a0_1.toList = a1_1.toList then (if a0_2.toList = a1_2.toList then (if a0_4 = a1_4 then ((laws_ltSames.f k l0_3 l1_3).bind fun t609 => (some t609)) else (some false)) else (some false)) else (some false)) else (some false)) = some r := h; clear h
 by_cases c3 : a0_0.toList = a1_0.toList
 ·rw [if_pos c3] at H; have c3b0 : (a0_0.toList == a1_0.toList) = true := beq_iff_eq.mpr c3; have c3b1 : (a0_0.toList != a1_0.toList) = false := bne_eq_false_iff_eq.mpr c3; clear c3
  by_cases c4 : a0_1.toList = a1_1.toList
  ·rw [if_pos c4] at H; have c4b0 : (a0_1.toList == a1_1.toList) = true := beq_iff_eq.mpr c4; have c4b1 : (a0_1.toList != a1_1.toList) = false := bne_eq_false_iff_eq.mpr c4; clear c4
   by_cases c5 : a0_2.toList = a1_2.toList
   ·rw [if_pos c5] at H; have c5b0 : (a0_2.toList == a1_2.toList) = true := beq_iff_eq.mpr c5; have c5b1 : (a0_2.toList != a1_2.toList) = false := bne_eq_false_iff_eq.mpr c5; clear c5
    by_cases c6 : a0_4 = a1_4
    ·rw [if_pos c6] at H; have c6b0 : (a0_4 == a1_4) = true := beq_iff_eq.mpr c6; have c6b1 : (a0_4 != a1_4) = false := bne_eq_false_iff_eq.mpr c6; clear c6; replace H := zi H; obtain ⟨t609, A7, H⟩ := H; obtain rfl := Option.some.inj H; go_enter Try.func37, Try.ntmps37
     go_wp2_with (first | ((with_reducible refine gate_dst (N := 2) rfl ?_); refine box_event zh (N := 2) zh (cs := #[.string a0_0, .string a0_1, .string a0_2, .slice A0_3 l0_3.length c0_3, .int .i64 a0_4]) (t := 25) zg ?_; intro gb607 hg w8 hbox hb; have BK607 := z0 (hbox); have GW607 := (zG hg HB : Aside0 (w.heap.size ≤ gb607)); have GE607 := (zG hg HB : Aside0 (w.heap.size ≤ gb607)); replace HB := zH HB hb; clear hb hbox hg) | ((with_reducible refine gate_dst (N := 3) rfl ?_); refine box_event zh (N := 3) zh (cs := #[.string a1_0, .string a1_1, .string a1_2, .slice A1_3 l1_3.length c1_3, .int .i64 a1_4]) (t := 25) zg ?_; intro gb608 hg w9 hbox hb; have BK608 := z0 (hbox); have GW608 := (zG hg HB : Aside0 (w.heap.size ≤ gb608)); have GE608 := (zG hg HB : Aside0 (w.heap.size ≤ gb608)); replace HB := zH HB hb; have NB607_608 := (zLt hg BK607 : Aside0 (gb607 ≠ gb608)); have NB608_607 := (zGt hg BK607 : Aside0 (gb608 ≠ gb607)); replace BK607 := zK BK607 hb; clear hb hbox hg; have hnb10 := NB607_608.out; have hnc10 := NB608_607.out; have hcz11 := zc5 BK607.out; have hcz12 := zc5 BK608.out) | (go_at_call 51; (with_reducible refine (laws_ltSames.calls k _ _ l0_3 _ _ l1_3 t609 _ ?side1 ?side2 ?side3 ?side4 A7.out).mono ?_); (case side1 => repeat (first | exact (Kd.C_below HR0_3.out HB.out) | (with_reducible refine Kd.C_alloc ?_ _) | (with_reducible refine Kd.C_drewN ?_ _) | (with_reducible refine Kd.C_drew ?_))); (case side2 => exact HC0_3.out); (case side3 => repeat (first | exact (Kd.C_below HR1_3.out HB.out) | (with_reducible refine Kd.C_alloc ?_ _) | (with_reducible refine Kd.C_drewN ?_ _) | (with_reducible refine Kd.C_drew ?_))); (case side4 => exact HC1_3.out); rintro e w' ⟨rfl, ⟨nd, rfl⟩⟩))
     go_ret; exact ⟨ze, zb HB.out⟩
    ·rw [if_neg c6] at H; have c6b0 : (a0_4 == a1_4) = false := beq_eq_false_iff_ne.mpr c6; have c6b1 : (a0_4 != a1_4) = true := bne_iff_ne.mpr c6; obtain rfl := Option.some.inj H; go_enter Try.func37, Try.ntmps37
     go_wp2_with (first | ((with_reducible refine gate_dst (N := 2) rfl ?_); refine box_event zh (N := 2) zh (cs := #[.string a0_0, .string a0_1, .string a0_2, .slice A0_3 l0_3.length c0_3, .int .i64 a0_4]) (t := 25) zg ?_; intro gb607 hg w13 hbox hb; have BK607 := z0 (hbox); have GW607 := (zG hg HB : Aside0 (w.heap.size ≤ gb607)); have GE607 := (zG hg HB : Aside0 (w.heap.size ≤ gb607)); replace HB := zH HB hb; clear hb hbox hg) | ((with_reducible refine gate_dst (N := 3) rfl ?_); refine box_event zh (N := 3) zh (cs := #[.string a1_0, .string a1_1, .string a1_2, .slice A1_3 l1_3.length c1_3, .int .i64 a1_4]) (t := 25) zg ?_; intro gb608 hg w14 hbox hb; have BK608 := z0 (hbox); have GW608 := (zG hg HB : Aside0 (w.heap.size ≤ gb608)); have GE608 := (zG hg HB : Aside0 (w.heap.size ≤ gb608)); replace HB := zH HB hb; have NB607_608 := (zLt hg BK607 : Aside0 (gb607 ≠ gb608)); have NB608_607 := (zGt hg BK607 : Aside0 (gb608 ≠ gb607)); replace BK607 := zK BK607 hb; clear hb hbox hg; have hnb15 := NB607_608.out; have hnc15 := NB608_607.out; have hcz16 := zc5 BK607.out; have hcz17 := zc5 BK608.out))
     go_ret; exact ⟨ze, zb HB.out⟩
   ·rw [if_neg c5] at H; have c5b0 : (a0_2.toList == a1_2.toList) = false := beq_eq_false_iff_ne.mpr c5; have c5b1 : (a0_2.toList != a1_2.toList) = true := bne_iff_ne.mpr c5; obtain rfl := Option.some.inj H; go_enter Try.func37, Try.ntmps37
    go_wp2_with (first | ((with_reducible refine gate_dst (N := 2) rfl ?_); refine box_event zh (N := 2) zh (cs := #[.string a0_0, .string a0_1, .string a0_2, .slice A0_3 l0_3.length c0_3, .int .i64 a0_4]) (t := 25) zg ?_; intro gb607 hg w18 hbox hb; have BK607 := z0 (hbox); have GW607 := (zG hg HB : Aside0 (w.heap.size ≤ gb607)); have GE607 := (zG hg HB : Aside0 (w.heap.size ≤ gb607)); replace HB := zH HB hb; clear hb hbox hg) | ((with_reducible refine gate_dst (N := 3) rfl ?_); refine box_event zh (N := 3) zh (cs := #[.string a1_0, .string a1_1, .string a1_2, .slice A1_3 l1_3.length c1_3, .int .i64 a1_4]) (t := 25) zg ?_; intro gb608 hg w19 hbox hb; have BK608 := z0 (hbox); have GW608 := (zG hg HB : Aside0 (w.heap.size ≤ gb608)); have GE608 := (zG hg HB : Aside0 (w.heap.size ≤ gb608)); replace HB := zH HB hb; have NB607_608 := (zLt hg BK607 : Aside0 (gb607 ≠ gb608)); have NB608_607 := (zGt hg BK607 : Aside0 (gb608 ≠ gb607)); replace BK607 := zK BK607 hb; clear hb hbox hg; have hnb20 := NB607_608.out; have hnc20 := NB608_607.out; have hcz21 := zc5 BK607.out; have hcz22 := zc5 BK608.out))
    go_ret; exact ⟨ze, zb HB.out⟩
  ·rw [if_neg c4] at H; have c4b0 : (a0_1.toList == a1_1.toList) = false := beq_eq_false_iff_ne.mpr c4; have c4b1 : (a0_1.toList != a1_1.toList) = true := bne_iff_ne.mpr c4; obtain rfl := Option.some.inj H; go_enter Try.func37, Try.ntmps37
   go_wp2_with (first | ((with_reducible refine gate_dst (N := 2) rfl ?_); refine box_event zh (N := 2) zh (cs := #[.string a0_0, .string a0_1, .string a0_2, .slice A0_3 l0_3.length c0_3, .int .i64 a0_4]) (t := 25) zg ?_; intro gb607 hg w23 hbox hb; have BK607 := z0 (hbox); have GW607 := (zG hg HB : Aside0 (w.heap.size ≤ gb607)); have GE607 := (zG hg HB : Aside0 (w.heap.size ≤ gb607)); replace HB := zH HB hb; clear hb hbox hg) | ((with_reducible refine gate_dst (N := 3) rfl ?_); refine box_event zh (N := 3) zh (cs := #[.string a1_0, .string a1_1, .string a1_2, .slice A1_3 l1_3.length c1_3, .int .i64 a1_4]) (t := 25) zg ?_; intro gb608 hg w24 hbox hb; have BK608 := z0 (hbox); have GW608 := (zG hg HB : Aside0 (w.heap.size ≤ gb608)); have GE608 := (zG hg HB : Aside0 (w.heap.size ≤ gb608)); replace HB := zH HB hb; have NB607_608 := (zLt hg BK607 : Aside0 (gb607 ≠ gb608)); have NB608_607 := (zGt hg BK607 : Aside0 (gb608 ≠ gb607)); replace BK607 := zK BK607 hb; clear hb hbox hg; have hnb25 := NB607_608.out; have hnc25 := NB608_607.out; have hcz26 := zc5 BK607.out; have hcz27 := zc5 BK608.out))
   go_ret; exact ⟨ze, zb HB.out⟩
 ·rw [if_neg c3] at H; have c3b0 : (a0_0.toList == a1_0.toList) = false := beq_eq_false_iff_ne.mpr c3; have c3b1 : (a0_0.toList != a1_0.toList) = true := bne_iff_ne.mpr c3; obtain rfl := Option.some.inj H; go_enter Try.func37, Try.ntmps37
  go_wp2_with (first | ((with_reducible refine gate_dst (N := 2) rfl ?_); refine box_event zh (N := 2) zh (cs := #[.string a0_0, .string a0_1, .string a0_2, .slice A0_3 l0_3.length c0_3, .int .i64 a0_4]) (t := 25) zg ?_; intro gb607 hg w28 hbox hb; have BK607 := z0 (hbox); have GW607 := (zG hg HB : Aside0 (w.heap.size ≤ gb607)); have GE607 := (zG hg HB : Aside0 (w.heap.size ≤ gb607)); replace HB := zH HB hb; clear hb hbox hg) | ((with_reducible refine gate_dst (N := 3) rfl ?_); refine box_event zh (N := 3) zh (cs := #[.string a1_0, .string a1_1, .string a1_2, .slice A1_3 l1_3.length c1_3, .int .i64 a1_4]) (t := 25) zg ?_; intro gb608 hg w29 hbox hb; have BK608 := z0 (hbox); have GW608 := (zG hg HB : Aside0 (w.heap.size ≤ gb608)); have GE608 := (zG hg HB : Aside0 (w.heap.size ≤ gb608)); replace HB := zH HB hb; have NB607_608 := (zLt hg BK607 : Aside0 (gb607 ≠ gb608)); have NB608_607 := (zGt hg BK607 : Aside0 (gb608 ≠ gb607)); replace BK607 := zK BK607 hb; clear hb hbox hg; have hnb30 := NB607_608.out; have hnc30 := NB608_607.out; have hcz31 := zc5 BK607.out; have hcz32 := zc5 BK608.out))
  go_ret; exact ⟨ze, zb HB.out⟩
end Go.Proofs.Ytifgcajpkgamgaa.Q
end
section
namespace Go.Proofs.Ytifgcajpkgamgaa.Q
open Go.RowKit Go.Proofs.YtifgcajpkgamgaaW.PrintWords Go.Proofs.YtifgcajpkgamgaaW.PrintLast Go.Proofs.YtifgcajpkgamgaaW.PrintMore
attribute [local go_sem] max2_int min2_int max_two min_two max_three min_three max_four min_four   
set_option linter.unusedVariables false
set_option linter.unusedSimpArgs false
theorem impl_texts.mono_l : ∀ k, (∀ y0 y1 y2 y3, LeO (impl_texts.l0 k y0 y1 y2 y3) (impl_texts.l0 (k + 1) y0 y1 y2 y3))
  | 0 => fun _ _ _ _ r h => by simp [impl_texts.l0] at h
  | k + 1 => by
    have ih0 := impl_texts.mono_l k
    · intro y0 y1 y2 y3
      unfold impl_texts.l0
      repeat' first
      | (with_reducible exact ih0 _ _ _ _)
      | (with_reducible exact LeO.refl _)
      | (with_reducible exact LeO.none _)
      | (with_reducible refine LeO.ite ?_ ?_)
      | (with_reducible refine LeO.bind ?_ (fun _ => ?_))
      | exact ih0 _ _ _ _
      | exact LeO.none _
      | refine LeO.ite ?_ ?_
      | refine LeO.bind ?_ (fun _ => ?_)
theorem impl_texts.mono : ∀ a0 k, LeO (impl_texts.f k a0) (impl_texts.f (k + 1) a0) := by
  intro a0 k
  have ih0 := impl_texts.mono_l k
  unfold impl_texts.f
  repeat' first
      | (with_reducible exact ih0 _ _ _ _)
      | (with_reducible exact LeO.refl _)
      | (with_reducible exact LeO.none _)
      | (with_reducible refine LeO.ite ?_ ?_)
      | (with_reducible refine LeO.bind ?_ (fun _ => ?_))
      | exact ih0 _ _ _ _
      | exact LeO.none _
      | refine LeO.ite ?_ ?_
      | refine LeO.bind ?_ (fun _ => ?_)
set_option maxHeartbeats 8000000 in
set_option maxRecDepth 100000 in
theorem impl_texts.calls (k : Nat) (A0 : Option Addr) (c0 : Nat) (l0 : List (S93)) (r : List ByteArray) (w : World) (hr0 : Kd.C k93 w A0 l0.length l0) (hc0 : l0.length ≤ c0) (h : impl_texts.f k l0 = some r) :
    Calls Try.prog 90 #[.slice A0 l0.length c0] w fun e w' => ∃ v0_ : Value, e = .returned (v0_) ∧ Kd.R Kd.string 9 w' w.heap.size (fun _ => True) v0_ r ∧ Below w.heap.size w w' := by
 have hu93 := Try.underlying93; have HR0 := Aside0.mk hr0; have HC0 := Aside0.mk hc0; clear hr0 hc0; have HB := z0 (Below.refl w.heap.size w); have H : (impl_texts.l0 k ([] : List ByteArray) l0 (l0.length : Int) 0) = some r := h; clear h; have H' := Aside0.mk H; clear H; go_enter Try.func90, Try.ntmps90; go_wp2
 go_loopg [3, 8] k (fun kq v3 v8 w' => ∃ (x3_1 : List ByteArray) (x8_1 : Int), v8 = .int .i64 x8_1 ∧ Aside0 (impl_texts.l0 kq x3_1 l0 (l0.length : Int) x8_1 = some r) ∧ Aside0 (kq ≤ k) ∧ Aside0 (Kd.R Kd.string 9 w' w.heap.size (fun _ => True) v3 x3_1) ∧ Aside0 (Below w.heap.size w w'))
 case atStart => exact ⟨(([] : List ByteArray)), (0), zf, H', ⟨Nat.le_refl _⟩, ⟨by first | exact Kd.R_nil _ _ _ _ _ | exact Kd.N_nil _ _ _ _ _ | exact Kd.V_nil _ _ _ _ _ | exact Kd.Q_nil _ _ _ _ _ | exact Kd.S_nil _ _ _ _ _⟩, ⟨zb HB.out⟩⟩
 case round =>
  clear H'; obtain ⟨x3_1, x8_1, rfl, HA, HK1, HO_3, HB⟩ := hrel
  cases gk with
  | zero => exact absurd HA.out (by simp [impl_texts.l0])
  | succ k1 =>
   have H := HA.out; clear HA; simp only [impl_texts.l0] at H
   by_cases c2 : x8_1 < (l0.length : Int)
   ·rw [if_pos c2] at H; have c2b0 : decide (x8_1 < (l0.length : Int)) = true := decide_eq_true c2; clear c2
    by_cases c3 : 0 ≤ x8_1
    ·rw [if_pos c3] at H; have c3b0 : decide (0 ≤ x8_1) = true := decide_eq_true c3; clear c3
     by_cases c4 : x8_1 < (l0.length : Int)
     ·rw [if_pos c4] at H; have c4b0 : decide (x8_1 < (l0.length : Int)) = true := decide_eq_true c4; clear c4
      by_cases c5 : x3_1.length < 8796093022208
      ·rw [if_pos c5] at H; have LMc5 := Aside0.mk c5; clear c5; obtain ⟨y332, hy332⟩ : ∃ y_ : List ByteArray, y_ = (x3_1 ++ [(rd_T93 l0 x8_1).f0]) := ⟨_, rfl⟩
       replace H : (impl_texts.l0 k1 y332 l0 (l0.length : Int) (wrap64 (x8_1 + 1))) = some r := by first | (rw [hy332]; with_reducible exact H) | (have H2_ := (Option.bind_some _ _).symm.trans H; rw [hy332]; with_reducible exact H2_) | (have H2_ := (Option.bind_some _ _).symm.trans H; with_reducible exact H2_) | with_reducible exact H | (rw [hy332]; exact H) | exact H
       have Ny332 := Aside0.mk hy332; clear hy332; have H' := Aside0.mk H; clear H; have p330 : 0 ≤ (x8_1 : Int) := zd; have q330 : x8_1 < (l0.length : Int) := zd; obtain ⟨ad330, e330, hx330_0, hx330_1⟩ := at_T93 HR0.out x8_1 p330 q330; cases e330; replace hx330_0 := (HB.out.cell (World.block_lt_of_cell? w _ hx330_0)).trans hx330_0; replace hx330_1 := (HB.out.cell (World.block_lt_of_cell? w _ hx330_1)).trans hx330_1; replace p330 := eq_true p330; replace q330 := eq_true q330
       go_wp2_with (first | ((with_reducible refine gate_dst (N := 5) rfl ?_); refine box_event zh (N := 5) zh (cs := #[.string (⟨#[]⟩ : ByteArray), .bool false]) (t := 93) zg ?_; intro gb331 hg w6 hbox hb; replace HO_3 := zA HO_3 hb; have BK331 := z0 (hbox); have GW331 := (zG hg HB : Aside0 (w.heap.size ≤ gb331)); have GE331 := (zG hg HB : Aside0 (w.heap.size ≤ gb331)); replace HB := zH HB hb; clear hb hbox hg; have hcz7 := zc2 BK331.out) | ((with_reducible refine gate_builtin (b := .append) (xs := #[.tmp 12, .tmp 15]) rfl ?_); at_builtin; refine Kd.R_append Kd.string (w0 := w) w.heap.size rfl (.tmp 12) (.tmp 15) 23 9 (.string ⟨#[]⟩) 16 rfl Try.underlying23 info9 rfl (by decide) (by omega) u3 x3_1 ((rd_T93 l0 x8_1).f0) [.string ((rd_T93 l0 x8_1).f0)] (fun _ => True) (fun _ => False) rfl (by first | (go_simp; done) | (go_simp; rfl)) ?aP (fun _ hk => hk.elim) ?aF ?aO ?aB ?aS ?aL ?_; (case aP => exact rfl); (case aB => exact (zb HB.out)); (case aF => exact (fun _ _ => trivial)); (case aO => exact (Kd.R_mono (zt HO_3.out BK331.out) (fun _ hk => trivial))); (case aS => exact (below_size (zb HB.out))); (case aL => have := LMc5.out; omega); intro v333 w8 ho hb hg hat; rw [← Ny332.out] at ho; replace BK331 := z0 (blk_grown (zpc BK331.out #[.string ((rd_T93 l0 x8_1).f0), .bool ((rd_T93 l0 x8_1).f1)]) hg (Kd.R_ne HO_3.out BK331.out (by decide))); replace HB := z0 (hb); have HO334 := z0 (ho); clear HO_3; clear ho hb hg hat))
       go_roundg k1
       case measure => have := HK1.out; omega
       case rel => exact ⟨(y332), (wrap64 (x8_1 + 1)), zf, H', ⟨by have := HK1.out; omega⟩, ⟨zr HO334.out⟩, ⟨zb HB.out⟩⟩
      ·rw [if_neg c5] at H; exact absurd H (by simp)
     ·rw [if_neg c4] at H; exact absurd H (by simp)
    ·rw [if_neg c3] at H; exact absurd H (by simp)
   ·rw [if_neg c2] at H; have c2b0 : decide (x8_1 < (l0.length : Int)) = false := decide_eq_false c2; clear c2; obtain rfl := Option.some.inj H; go_wp2; go_ret; exact ⟨_, ze, zr HO_3.out, zb HB.out⟩
end Go.Proofs.Ytifgcajpkgamgaa.Q
end
section
namespace Go.Proofs.Ytifgcajpkgamgaa.Q
open Go.RowKit Go.Proofs.YtifgcajpkgamgaaW.PrintWords Go.Proofs.YtifgcajpkgamgaaW.PrintLast Go.Proofs.YtifgcajpkgamgaaW.PrintMore
attribute [local go_sem] max2_int min2_int max_two min_two max_three min_three max_four min_four   
set_option linter.unusedVariables false
set_option linter.unusedSimpArgs false
theorem impl_BitsOk.mono_l : ∀ k, (∀ y0 y1 y2, LeO (impl_BitsOk.l0 k y0 y1 y2) (impl_BitsOk.l0 (k + 1) y0 y1 y2))
  | 0 => fun _ _ _ r h => by simp [impl_BitsOk.l0] at h
  | k + 1 => by
    have ih0 := impl_BitsOk.mono_l k
    · intro y0 y1 y2
      unfold impl_BitsOk.l0
      repeat' first
      | (with_reducible exact ih0 _ _ _)
      | (with_reducible exact LeO.refl _)
      | (with_reducible exact LeO.none _)
      | (with_reducible refine LeO.ite ?_ ?_)
      | (with_reducible refine LeO.bind ?_ (fun _ => ?_))
      | exact ih0 _ _ _
      | exact LeO.none _
      | refine LeO.ite ?_ ?_
      | refine LeO.bind ?_ (fun _ => ?_)
theorem impl_BitsOk.mono : ∀ a0 k, LeO (impl_BitsOk.f k a0) (impl_BitsOk.f (k + 1) a0) := by
  intro a0 k
  have ih0 := impl_BitsOk.mono_l k
  unfold impl_BitsOk.f
  repeat' first
      | (with_reducible exact ih0 _ _ _)
      | (with_reducible exact LeO.refl _)
      | (with_reducible exact LeO.none _)
      | (with_reducible refine LeO.ite ?_ ?_)
      | (with_reducible refine LeO.bind ?_ (fun _ => ?_))
      | exact ih0 _ _ _
      | exact LeO.none _
      | refine LeO.ite ?_ ?_
      | refine LeO.bind ?_ (fun _ => ?_)
set_option maxHeartbeats 8000000 in
set_option maxRecDepth 100000 in
theorem impl_BitsOk.calls (k : Nat) (a0 : ByteArray) (r : Bool) (w : World) (h : impl_BitsOk.f k a0 = some r) :
    Calls Try.prog 98 #[.string a0] w fun e w' => e = .returned (.bool r) ∧ Drawn0 w w' := by
 have H : (impl_BitsOk.l0 k a0 (a0.size : Int) 0) = some r := h; clear h; have H' := Aside0.mk H; clear H; go_enter Try.func98, Try.ntmps98; go_wp2
 go_loopg [6] k (fun kq v6 w' => ∃ (x6_1 : Int), v6 = .int .i64 x6_1 ∧ Aside0 (impl_BitsOk.l0 kq a0 (a0.size : Int) x6_1 = some r) ∧ Aside0 (kq ≤ k) ∧ Drawn0 w w')
 case atStart => exact ⟨(0), zf, H', ⟨Nat.le_refl _⟩, by repeat (first | exact Drawn0.refl _ | apply Drawn0.step)⟩
 case round =>
  clear H'; obtain ⟨x6_1, rfl, HA, HK1, ⟨m1, rfl⟩⟩ := hrel
  cases gk with
  | zero => exact absurd HA.out (by simp [impl_BitsOk.l0])
  | succ k1 =>
   have H := HA.out; clear HA; simp only [impl_BitsOk.l0] at H
   by_cases c2 : x6_1 < (a0.size : Int)
   ·rw [if_pos c2] at H; have c2b0 : decide (x6_1 < (a0.size : Int)) = true := decide_eq_true c2; clear c2
    by_cases c3 : 0 ≤ x6_1
    ·rw [if_pos c3] at H; have c3b0 : decide (0 ≤ x6_1) = true := decide_eq_true c3; clear c3
     by_cases c4 : x6_1 < (a0.size : Int)
     ·rw [if_pos c4] at H; have c4b0 : decide (x6_1 < (a0.size : Int)) = true := decide_eq_true c4; clear c4
      by_cases c6 : (bt a0 x6_1) = 48
      ·rw [if_pos c6] at H; have c6b0 : ((bt a0 x6_1) == 48) = true := beq_iff_eq.mpr c6; have c6b1 : ((bt a0 x6_1) != 48) = false := bne_eq_false_iff_eq.mpr c6; clear c6; have H' := Aside0.mk H; clear H; have p5 : 0 ≤ (x6_1 : Int) := zd; have q5 : x6_1 < (a0.size : Int) := zd; have hx5 := bt_at a0 x6_1; replace p5 := eq_true p5; replace q5 := eq_true q5; go_wp2; go_roundg k1
       case measure => have := HK1.out; omega
       case rel => exact ⟨(wrap64 (x6_1 + 1)), zf, H', ⟨by have := HK1.out; omega⟩, by repeat (first | exact Drawn0.refl _ | apply Drawn0.step)⟩
      ·rw [if_neg c6] at H; have c6b0 : ((bt a0 x6_1) == 48) = false := beq_eq_false_iff_ne.mpr c6; have c6b1 : ((bt a0 x6_1) != 48) = true := bne_iff_ne.mpr c6
       by_cases c8 : (bt a0 x6_1) = 49
       ·rw [if_pos c8] at H; have c8b0 : ((bt a0 x6_1) == 49) = true := beq_iff_eq.mpr c8; have c8b1 : ((bt a0 x6_1) != 49) = false := bne_eq_false_iff_eq.mpr c8; clear c8; have H' := Aside0.mk H; clear H; have p5 : 0 ≤ (x6_1 : Int) := zd; have q5 : x6_1 < (a0.size : Int) := zd; have hx5 := bt_at a0 x6_1; replace p5 := eq_true p5; replace q5 := eq_true q5; have p7 : 0 ≤ (x6_1 : Int) := zd; have q7 : x6_1 < (a0.size : Int) := zd; have hx7 := bt_at a0 x6_1; replace p7 := eq_true p7; replace q7 := eq_true q7; go_wp2; go_roundg k1
        case measure => have := HK1.out; omega
        case rel => exact ⟨(wrap64 (x6_1 + 1)), zf, H', ⟨by have := HK1.out; omega⟩, by repeat (first | exact Drawn0.refl _ | apply Drawn0.step)⟩
       ·rw [if_neg c8] at H; have c8b0 : ((bt a0 x6_1) == 49) = false := beq_eq_false_iff_ne.mpr c8; have c8b1 : ((bt a0 x6_1) != 49) = true := bne_iff_ne.mpr c8; obtain rfl := Option.some.inj H; have p5 : 0 ≤ (x6_1 : Int) := zd; have q5 : x6_1 < (a0.size : Int) := zd; have hx5 := bt_at a0 x6_1; replace p5 := eq_true p5; replace q5 := eq_true q5; have p7 : 0 ≤ (x6_1 : Int) := zd; have q7 : x6_1 < (a0.size : Int) := zd; have hx7 := bt_at a0 x6_1; replace p7 := eq_true p7; replace q7 := eq_true q7; go_wp2; go_ret; exact ⟨zf, by repeat (first | exact Drawn0.refl _ | apply Drawn0.step)⟩
     ·rw [if_neg c4] at H; exact absurd H (by simp)
    ·rw [if_neg c3] at H; exact absurd H (by simp)
   ·rw [if_neg c2] at H; have c2b0 : decide (x6_1 < (a0.size : Int)) = false := decide_eq_false c2; clear c2; obtain rfl := Option.some.inj H; go_wp2; go_ret; exact ⟨zf, by repeat (first | exact Drawn0.refl _ | apply Drawn0.step)⟩
end Go.Proofs.Ytifgcajpkgamgaa.Q
end
section
namespace Go.Proofs.Ytifgcajpkgamgaa.Q
open Go.RowKit Go.Proofs.YtifgcajpkgamgaaW.PrintWords Go.Proofs.YtifgcajpkgamgaaW.PrintLast Go.Proofs.YtifgcajpkgamgaaW.PrintMore
attribute [local go_sem] max2_int min2_int max_two min_two max_three min_three max_four min_four   
set_option linter.unusedVariables false
set_option linter.unusedSimpArgs false
theorem strings_Count.calls (a0 : ByteArray) (a1 : ByteArray) (r : Int) (w : World) (h : strings_Count.f a0 a1 = some r) :
    Calls Try.prog 100 #[.string a0, .string a1] w fun e w' => e = .returned (.int .i64 r) ∧ Drawn0 w w' := by
 unfold strings_Count.f at h
 by_cases hs : a1.size = 1
 ·rw [if_pos hs] at h; obtain rfl := Option.some.inj h
  obtain ⟨c, rfl⟩ : ∃ c, a1 = ⟨#[c]⟩ := by
    obtain ⟨⟨l⟩⟩ := a1
    match l, hs with
    | [c], _ => exact ⟨c, rfl⟩
  exact (Try.strings_Count_one a0 c w).mono fun e w' ⟨he, hw⟩ => ⟨he, ⟨⟨0, hw⟩⟩⟩
 ·rw [if_neg hs] at h
  cases h
end Go.Proofs.Ytifgcajpkgamgaa.Q
end
section
namespace Go.Proofs.Ytifgcajpkgamgaa.Q
open Go.RowKit Go.Proofs.YtifgcajpkgamgaaW.PrintWords Go.Proofs.YtifgcajpkgamgaaW.PrintLast Go.Proofs.YtifgcajpkgamgaaW.PrintMore
attribute [local go_sem] max2_int min2_int max_two min_two max_three min_three max_four min_four   
set_option linter.unusedVariables false
set_option linter.unusedSimpArgs false
theorem impl_one.mono_l : ∀ k, (∀ y0 y1 y2 y3, LeO (impl_one.l0 k y0 y1 y2 y3) (impl_one.l0 (k + 1) y0 y1 y2 y3))
  | 0 => fun _ _ _ _ r h => by simp [impl_one.l0] at h
  | k + 1 => by
    have ih0 := impl_one.mono_l k
    · intro y0 y1 y2 y3
      unfold impl_one.l0
      repeat' first
      | (with_reducible exact ih0 _ _ _ _)
      | (with_reducible exact LeO.refl _)
      | (with_reducible exact LeO.none _)
      | (with_reducible refine LeO.ite ?_ ?_)
      | (with_reducible refine LeO.bind ?_ (fun _ => ?_))
      | exact ih0 _ _ _ _
      | exact LeO.none _
      | refine LeO.ite ?_ ?_
      | refine LeO.bind ?_ (fun _ => ?_)
theorem impl_one.mono : ∀ a0 a1 k, LeO (impl_one.f k a0 a1) (impl_one.f (k + 1) a0 a1) := by
  intro a0 a1 k
  have ih0 := impl_one.mono_l k
  unfold impl_one.f
  repeat' first
      | (with_reducible exact ih0 _ _ _ _)
      | (with_reducible exact LeO.refl _)
      | (with_reducible exact LeO.none _)
      | (with_reducible refine LeO.ite ?_ ?_)
      | (with_reducible refine LeO.bind ?_ (fun _ => ?_))
      | exact ih0 _ _ _ _
      | exact LeO.none _
      | refine LeO.ite ?_ ?_
      | refine LeO.bind ?_ (fun _ => ?_)
set_option maxHeartbeats 8000000 in
set_option maxRecDepth 100000 in
theorem impl_one.calls (k : Nat) (a0 : ByteArray) (a1 : Int) (r : Int) (w : World) (h : impl_one.f k a0 a1 = some r) :
    Calls Try.prog 125 #[.string a0, .int .i64 a1] w fun e w' => e = .returned (.int .i64 r) ∧ Drawn0 w w' := by
 have H : (impl_one.l0 k a0 a1 (a0.size : Int) 0) = some r := h; clear h; have H' := Aside0.mk H; clear H; go_enter Try.func125, Try.ntmps125; go_wp2
 go_loopg [1, 8] k (fun kq v1 v8 w' => ∃ (x1_1 : Int) (x8_1 : Int), v1 = .int .i64 x1_1 ∧ v8 = .int .i64 x8_1 ∧ Aside0 (impl_one.l0 kq a0 x1_1 (a0.size : Int) x8_1 = some r) ∧ Aside0 (kq ≤ k) ∧ Drawn0 w w')
 case atStart => exact ⟨(a1), (0), zf, zf, H', ⟨Nat.le_refl _⟩, by repeat (first | exact Drawn0.refl _ | apply Drawn0.step)⟩
 case round =>
  clear H'
  try clear c1
  try clear p2
  obtain ⟨x1_1, x8_1, rfl, rfl, HA, HK1, ⟨m1, rfl⟩⟩ := hrel
  cases gk with
  | zero => exact absurd HA.out (by simp [impl_one.l0])
  | succ k1 =>
   have H := HA.out; clear HA; simp only [impl_one.l0] at H
   by_cases c3 : x8_1 < (a0.size : Int)
   ·rw [if_pos c3] at H; have c3b0 : decide (x8_1 < (a0.size : Int)) = true := decide_eq_true c3; clear c3
    by_cases c4 : 0 ≤ x8_1
    ·rw [if_pos c4] at H; have c4b0 : decide (0 ≤ x8_1) = true := decide_eq_true c4; clear c4
     by_cases c5 : x8_1 < (a0.size : Int)
     ·rw [if_pos c5] at H; have c5b0 : decide (x8_1 < (a0.size : Int)) = true := decide_eq_true c5; clear c5
      by_cases c7 : (bt a0 x8_1) = 49
      ·rw [if_pos c7] at H; have c7b0 : ((bt a0 x8_1) == 49) = true := beq_iff_eq.mpr c7; have c7b1 : ((bt a0 x8_1) != 49) = false := bne_eq_false_iff_eq.mpr c7; clear c7
       by_cases c8 : x1_1 = 0
       ·rw [if_pos c8] at H; have c8b0 : (x1_1 == 0) = true := beq_iff_eq.mpr c8; have c8b1 : (x1_1 != 0) = false := bne_eq_false_iff_eq.mpr c8; clear c8; obtain rfl := Option.some.inj H; have p6 : 0 ≤ (x8_1 : Int) := zd; have q6 : x8_1 < (a0.size : Int) := zd; have hx6 := bt_at a0 x8_1; replace p6 := eq_true p6; replace q6 := eq_true q6; go_wp2; go_ret; exact ⟨zf, by repeat (first | exact Drawn0.refl _ | apply Drawn0.step)⟩
       ·rw [if_neg c8] at H; have c8b0 : (x1_1 == 0) = false := beq_eq_false_iff_ne.mpr c8; have c8b1 : (x1_1 != 0) = true := bne_iff_ne.mpr c8; have H' := Aside0.mk H; clear H; have p6 : 0 ≤ (x8_1 : Int) := zd; have q6 : x8_1 < (a0.size : Int) := zd; have hx6 := bt_at a0 x8_1; replace p6 := eq_true p6; replace q6 := eq_true q6; go_wp2; go_roundg k1
        case measure => have := HK1.out; omega
        case rel => exact ⟨(wrap64 (x1_1 - 1)), (wrap64 (x8_1 + 1)), zf, zf, H', ⟨by have := HK1.out; omega⟩, by repeat (first | exact Drawn0.refl _ | apply Drawn0.step)⟩
      ·rw [if_neg c7] at H; have c7b0 : ((bt a0 x8_1) == 49) = false := beq_eq_false_iff_ne.mpr c7; have c7b1 : ((bt a0 x8_1) != 49) = true := bne_iff_ne.mpr c7; have H' := Aside0.mk H; clear H; have p6 : 0 ≤ (x8_1 : Int) := zd; have q6 : x8_1 < (a0.size : Int) := zd; have hx6 := bt_at a0 x8_1; replace p6 := eq_true p6; replace q6 := eq_true q6; go_wp2; go_roundg k1
       case measure => have := HK1.out; omega
       case rel => exact ⟨(x1_1), (wrap64 (x8_1 + 1)), zf, zf, H', ⟨by have := HK1.out; omega⟩, by repeat (first | exact Drawn0.refl _ | apply Drawn0.step)⟩
     ·rw [if_neg c5] at H; exact absurd H (by simp)
    ·rw [if_neg c4] at H; exact absurd H (by simp)
   ·rw [if_neg c3] at H; have c3b0 : decide (x8_1 < (a0.size : Int)) = false := decide_eq_false c3; clear c3; obtain rfl := Option.some.inj H; go_wp2; go_ret; exact ⟨zf, by repeat (first | exact Drawn0.refl _ | apply Drawn0.step)⟩
end Go.Proofs.Ytifgcajpkgamgaa.Q
end
section
namespace Go.Proofs.Ytifgcajpkgamgaa.Q
open Go.RowKit Go.Proofs.YtifgcajpkgamgaaW.PrintWords Go.Proofs.YtifgcajpkgamgaaW.PrintLast Go.Proofs.YtifgcajpkgamgaaW.PrintMore
attribute [local go_sem] max2_int min2_int max_two min_two max_three min_three max_four min_four   
set_option linter.unusedVariables false
set_option linter.unusedSimpArgs false
theorem impl_Sieve_branches.mono_l : ∀ k, (∀ y0 y1 y2 y3 y4 y5 y6, LeO (impl_Sieve_branches.l0 k y0 y1 y2 y3 y4 y5 y6) (impl_Sieve_branches.l0 (k + 1) y0 y1 y2 y3 y4 y5 y6))
  | 0 => fun _ _ _ _ _ _ _ r h => by simp [impl_Sieve_branches.l0] at h
  | k + 1 => by
    have ih0 := impl_Sieve_branches.mono_l k
    · intro y0 y1 y2 y3 y4 y5 y6
      unfold impl_Sieve_branches.l0
      repeat' first
      | (with_reducible exact ih0 _ _ _ _ _ _ _)
      | (with_reducible exact impl_one.mono _ _ _)
      | (with_reducible exact LeO.refl _)
      | (with_reducible exact LeO.none _)
      | (with_reducible refine LeO.ite ?_ ?_)
      | (with_reducible refine LeO.bind ?_ (fun _ => ?_))
      | exact ih0 _ _ _ _ _ _ _
      | exact impl_one.mono _ _ _
      | exact LeO.none _
      | refine LeO.ite ?_ ?_
      | refine LeO.bind ?_ (fun _ => ?_)
theorem impl_Sieve_branches.mono : ∀ a0 a1 a2 a3 a4 a5 k, LeO (impl_Sieve_branches.f k a0 a1 a2 a3 a4 a5) (impl_Sieve_branches.f (k + 1) a0 a1 a2 a3 a4 a5) := by
  intro a0 a1 a2 a3 a4 a5 k
  have ih0 := impl_Sieve_branches.mono_l k
  unfold impl_Sieve_branches.f
  repeat' first
      | (with_reducible exact ih0 _ _ _ _ _ _ _)
      | (with_reducible exact impl_one.mono _ _ _)
      | (with_reducible exact LeO.refl _)
      | (with_reducible exact LeO.none _)
      | (with_reducible refine LeO.ite ?_ ?_)
      | (with_reducible refine LeO.bind ?_ (fun _ => ?_))
      | exact ih0 _ _ _ _ _ _ _
      | exact impl_one.mono _ _ _
      | exact LeO.none _
      | refine LeO.ite ?_ ?_
      | refine LeO.bind ?_ (fun _ => ?_)
set_option maxHeartbeats 8000000 in
set_option maxRecDepth 100000 in
theorem impl_Sieve_branches.calls (k : Nat) (a0_0 : ByteArray) (a0_1 : ByteArray) (a0_2 : ByteArray) (A0_3 : Option Addr) (c0_3 : Nat) (l0_3 : List ByteArray) (a0_4 : Int) (a1 : Int) (r1 : Int) (r2 : Int) (w : World) (hr0_3 : Kd.C Kd.string w A0_3 l0_3.length l0_3) (hc0_3 : l0_3.length ≤ c0_3) (h : impl_Sieve_branches.f k a0_0 a0_1 a0_2 l0_3 a0_4 a1 = some (r1, r2)) :
    Calls Try.prog 102 #[.agg #[.string a0_0, .string a0_1, .string a0_2, .slice A0_3 l0_3.length c0_3, .int .i64 a0_4], .int .i64 a1] w fun e w' => e = .returned (.tuple #[.int .i64 r1, .int .i64 r2]) ∧ Below w.heap.size w w' := by
 have hu25 := Try.underlying25; have HR0_3 := Aside0.mk hr0_3; have HC0_3 := Aside0.mk hc0_3; clear hr0_3 hc0_3; have HB := z0 (Below.refl w.heap.size w); have H : ((impl_one.f k a0_2 a1).bind fun t338 => (if t338 < 0 then (some (0, 0)) else (impl_Sieve_branches.l0 k t338 (wrap64 (t338 + 1)) a0_0 a0_1 a0_2 l0_3 a0_4))) = some (r1, r2) := h; clear h; replace H := zi H; obtain ⟨t338, A3, H⟩ := H; go_enter Try.func102, Try.ntmps102
 go_upto_if 13 with (first | ((with_reducible refine gate_dst (N := 2) rfl ?_); refine box_event zh (N := 2) zh (cs := #[.string a0_0, .string a0_1, .string a0_2, .slice A0_3 l0_3.length c0_3, .int .i64 a0_4]) (t := 25) zg ?_; intro gb337 hg w4 hbox hb; have BK337 := z0 (hbox); have GW337 := (zG hg HB : Aside0 (w.heap.size ≤ gb337)); have GE337 := (zG hg HB : Aside0 (w.heap.size ≤ gb337)); replace HB := zH HB hb; clear hb hbox hg; have hcz5 := zc5 BK337.out) | ((with_reducible refine gate_callee (f := 125) rfl ?_); refine goesL_ (some 11) rfl rfl Try.func125 (by kernel_rfl) rfl #[.string a0_2, .int .i64 a1] rfl (by (try simp only [List.map_toArray, List.map_cons, List.map_nil]); first | done | rfl | (simp only [List.length_drop, List.length_take]; rfl)) ?_; (with_reducible refine (impl_one.calls k a0_2 a1 t338 _ A3.out).mono ?_); rintro e w' ⟨rfl, ⟨nd, rfl⟩⟩; refine ⟨_, rfl, ?_⟩))
 by_cases c6 : t338 < 0
 ·rw [if_pos c6] at H; have c6b0 : decide (t338 < 0) = true := decide_eq_true c6; clear c6; (first | rw [c6b0] | (simp only [i64_w, i32_w]; rw [c6b0]) | simp only [*, Bool.not_true, Bool.not_false] | skip); simp only [Option.some.injEq, Prod.mk.injEq] at H; obtain ⟨rfl, rfl⟩ := H; go_wp2
  go_ret2
  exact ⟨ze, zb HB.out⟩
 ·rw [if_neg c6] at H; have c6b0 : decide (t338 < 0) = false := decide_eq_false c6; clear c6; (first | rw [c6b0] | (simp only [i64_w, i32_w]; rw [c6b0]) | simp only [*, Bool.not_true, Bool.not_false] | skip); have H' := Aside0.mk H; clear H; go_wp2
  go_loopg [7] k (fun kq v7 w' => ∃ (x7_1 : Int), v7 = .int .i64 x7_1 ∧ Aside0 (impl_Sieve_branches.l0 kq t338 x7_1 a0_0 a0_1 a0_2 l0_3 a0_4 = some (r1, r2)) ∧ Aside0 (kq ≤ k) ∧ Aside0 (w'.heap[gb337]? = some (.cells #[.string a0_0, .string a0_1, .string a0_2, (.slice A0_3 l0_3.length c0_3), .int .i64 a0_4] 25 (0, 0))) ∧ Aside0 (Below w.heap.size w w'))
  case atStart => exact ⟨(wrap64 (t338 + 1)), zf, H', ⟨Nat.le_refl _⟩, ⟨zl BK337.out⟩, ⟨zb HB.out⟩⟩
  case round =>
   clear H'
   try clear c1
   try clear p2
   try clear c6
   try clear c6b0
   try clear p6
   try clear hcz5
   obtain ⟨x7_1, rfl, HA, HK1, BK337, HB⟩ := hrel
   cases gk with
   | zero => exact absurd HA.out (by simp [impl_Sieve_branches.l0])
   | succ k1 =>
    have H := HA.out; clear HA; simp only [impl_Sieve_branches.l0] at H
    by_cases c7 : x7_1 < (a0_2.size : Int)
    ·rw [if_pos c7] at H; have c7b0 : decide (x7_1 < (a0_2.size : Int)) = true := decide_eq_true c7; clear c7
     by_cases c8 : 0 ≤ x7_1
     ·rw [if_pos c8] at H; have c8b0 : decide (0 ≤ x7_1) = true := decide_eq_true c8; clear c8
      by_cases c10 : (bt a0_2 x7_1) = 48
      ·rw [if_pos c10] at H; have c10b0 : ((bt a0_2 x7_1) == 48) = true := beq_iff_eq.mpr c10; have c10b1 : ((bt a0_2 x7_1) != 48) = false := bne_eq_false_iff_eq.mpr c10; clear c10; have H' := Aside0.mk H; clear H; have hcz11 := zc5 BK337.out; have p9 : 0 ≤ (x7_1 : Int) := zd; have q9 : x7_1 < (a0_2.size : Int) := zd; have hx9 := bt_at a0_2 x7_1; replace p9 := eq_true p9; replace q9 := eq_true q9; go_wp2; go_roundg k1
       case measure => have := HK1.out; omega
       case rel => exact ⟨(wrap64 (x7_1 + 1)), zf, H', ⟨by have := HK1.out; omega⟩, ⟨zl BK337.out⟩, ⟨zb HB.out⟩⟩
      ·rw [if_neg c10] at H; have c10b0 : ((bt a0_2 x7_1) == 48) = false := beq_eq_false_iff_ne.mpr c10; have c10b1 : ((bt a0_2 x7_1) != 48) = true := bne_iff_ne.mpr c10; simp only [Option.some.injEq, Prod.mk.injEq] at H; obtain ⟨rfl, rfl⟩ := H; have hcz12 := zc5 BK337.out; have p9 : 0 ≤ (x7_1 : Int) := zd; have q9 : x7_1 < (a0_2.size : Int) := zd; have hx9 := bt_at a0_2 x7_1; replace p9 := eq_true p9; replace q9 := eq_true q9; go_wp2
       go_ret2
       exact ⟨ze, zb HB.out⟩
     ·rw [if_neg c8] at H; exact absurd H (by simp)
    ·rw [if_neg c7] at H; have c7b0 : decide (x7_1 < (a0_2.size : Int)) = false := decide_eq_false c7; clear c7; simp only [Option.some.injEq, Prod.mk.injEq] at H; obtain ⟨rfl, rfl⟩ := H; have hcz13 := zc5 BK337.out; go_wp2
     go_ret2
     exact ⟨ze, zb HB.out⟩
end Go.Proofs.Ytifgcajpkgamgaa.Q
end
section
namespace Go.Proofs.Ytifgcajpkgamgaa.Q
open Go.RowKit Go.Proofs.YtifgcajpkgamgaaW.PrintWords Go.Proofs.YtifgcajpkgamgaaW.PrintLast Go.Proofs.YtifgcajpkgamgaaW.PrintMore
attribute [local go_sem] max2_int min2_int max_two min_two max_three min_three max_four min_four   
set_option linter.unusedVariables false
set_option linter.unusedSimpArgs false
set_option maxHeartbeats 8000000 in
set_option maxRecDepth 100000 in
theorem impl_Sieve_node.calls (a0_0 : ByteArray) (a0_1 : ByteArray) (a0_2 : ByteArray) (A0_3 : Option Addr) (c0_3 : Nat) (l0_3 : List ByteArray) (a0_4 : Int) (a1 : Int) (r : Int) (w : World) (hr0_3 : Kd.C Kd.string w A0_3 l0_3.length l0_3) (hc0_3 : l0_3.length ≤ c0_3) (h : impl_Sieve_node.f a0_0 a0_1 a0_2 l0_3 a0_4 a1 = some r) :
    Calls Try.prog 104 #[.agg #[.string a0_0, .string a0_1, .string a0_2, .slice A0_3 l0_3.length c0_3, .int .i64 a0_4], .int .i64 a1] w fun e w' => e = .returned (.int .i64 r) ∧ Below w.heap.size w w' := by
 have hu25 := Try.underlying25; have HR0_3 := Aside0.mk hr0_3; have HC0_3 := Aside0.mk hc0_3; clear hr0_3 hc0_3; have HB := z0 (Below.refl w.heap.size w); have H : (if 0 ≤ (wrap64 (a1 + 1)) then (if (wrap64 (a1 + 1)) ≤ (a0_1.size : Int) then ((strings_Count.f (a0_1.extract 0 ((wrap64 (a1 + 1)) : Int).toNat) (⟨#[49]⟩ : ByteArray)).bind fun t340 => (some t340)) else (none)) else (none)) = some r := h; clear h; obtain ⟨ji3, hji3⟩ : ∃ j_ : Int, (wrap64 (a1 + 1)) = j_ := ⟨_, rfl⟩
 replace H : (if 0 ≤ (ji3) then (if (ji3) ≤ (a0_1.size : Int) then ((strings_Count.f (a0_1.extract 0 ((ji3) : Int).toNat) (⟨#[49]⟩ : ByteArray)).bind fun t340 => (some t340)) else (none)) else (none)) = some r := by first | (rw [hji3] at H; exact H) | (simp only [hji3] at H ⊢; exact H)
 have hji3w : (IntKind.i64.wrap (a1 + 1)) = ji3 := (i64_w _).trans hji3
 by_cases c4 : 0 ≤ (ji3)
 ·rw [if_pos c4] at H; have c4b0 := eq_true c4; have c4b1 : decide (0 ≤ (ji3)) = true := decide_eq_true c4; clear c4
  by_cases c5 : (ji3) ≤ (a0_1.size : Int)
  ·rw [if_pos c5] at H; have c5b0 := eq_true c5; have c5b1 : decide ((ji3) ≤ (a0_1.size : Int)) = true := decide_eq_true c5; clear c5; replace H := zi H; obtain ⟨t340, A6, H⟩ := H; obtain rfl := Option.some.inj H; go_enter Try.func104, Try.ntmps104
   go_wp2_with (first | ((with_reducible refine gate_dst (N := 2) rfl ?_); refine box_event zh (N := 2) zh (cs := #[.string a0_0, .string a0_1, .string a0_2, .slice A0_3 l0_3.length c0_3, .int .i64 a0_4]) (t := 25) zg ?_; intro gb339 hg w7 hbox hb; have BK339 := z0 (hbox); have GW339 := (zG hg HB : Aside0 (w.heap.size ≤ gb339)); have GE339 := (zG hg HB : Aside0 (w.heap.size ≤ gb339)); replace HB := zH HB hb; clear hb hbox hg; have hcz8 := zc5 BK339.out) | ((with_reducible refine gate_callee (f := 100) rfl ?_); refine goesL_ (some 10) rfl rfl Try.func100 (by kernel_rfl) rfl #[.string (a0_1.extract 0 ((ji3) : Int).toNat), .string (⟨#[49]⟩ : ByteArray)] rfl (by (try simp only [List.map_toArray, List.map_cons, List.map_nil]); first | done | (simp only [hji3]; rfl) | rfl | (simp only [List.length_drop, List.length_take]; rfl)) ?_; (with_reducible refine (strings_Count.calls (a0_1.extract 0 ((ji3) : Int).toNat) (⟨#[49]⟩ : ByteArray) t340 _ A6.out).mono ?_); rintro e w' ⟨rfl, ⟨nd, rfl⟩⟩; refine ⟨_, rfl, ?_⟩))
   go_ret; exact ⟨by first | rfl | (simp [errW_none, errW_some] <;> rfl) | (simp only [← hji3]; first | rfl | (simp [errW_none, errW_some] <;> rfl)) | (simp [*, errW_none, errW_some] <;> rfl), zb HB.out⟩
  ·rw [if_neg c5] at H; exact absurd H (by simp)
 ·rw [if_neg c4] at H; exact absurd H (by simp)
end Go.Proofs.Ytifgcajpkgamgaa.Q
end
section
namespace Go.Proofs.Ytifgcajpkgamgaa.Q
open Go.RowKit Go.Proofs.YtifgcajpkgamgaaW.PrintWords Go.Proofs.YtifgcajpkgamgaaW.PrintLast Go.Proofs.YtifgcajpkgamgaaW.PrintMore
attribute [local go_sem] max2_int min2_int max_two min_two max_three min_three max_four min_four   
set_option linter.unusedVariables false
set_option linter.unusedSimpArgs false
set_option maxHeartbeats 8000000 in
set_option maxRecDepth 100000 in
theorem impl_Sieve_rest.calls (a0_0 : ByteArray) (a0_1 : ByteArray) (a0_2 : ByteArray) (A0_3 : Option Addr) (c0_3 : Nat) (l0_3 : List ByteArray) (a0_4 : Int) (a1 : Int) (r : ByteArray) (w : World) (hr0_3 : Kd.C Kd.string w A0_3 l0_3.length l0_3) (hc0_3 : l0_3.length ≤ c0_3) (h : impl_Sieve_rest.f a0_0 a0_1 a0_2 l0_3 a0_4 a1 = some r) :
    Calls Try.prog 106 #[.agg #[.string a0_0, .string a0_1, .string a0_2, .slice A0_3 l0_3.length c0_3, .int .i64 a0_4], .int .i64 a1] w fun e w' => e = .returned (.string r) ∧ Below w.heap.size w w' := by
 have hu25 := Try.underlying25; have HR0_3 := Aside0.mk hr0_3; have HC0_3 := Aside0.mk hc0_3; clear hr0_3 hc0_3; have HB := z0 (Below.refl w.heap.size w); have H : (if 0 ≤ a1 then (if a1 ≤ (a0_1.size : Int) then ((strings_Count.f (a0_1.extract 0 (a1 : Int).toNat) (⟨#[48]⟩ : ByteArray)).bind fun t342 => (if 0 ≤ t342 then (if t342 < (l0_3.length : Int) then (some (rdOf ByteArray.empty l0_3 t342)) else (none)) else (none))) else (none)) else (none)) = some r := h; clear h
 by_cases c3 : 0 ≤ a1
 ·rw [if_pos c3] at H; have c3b0 := eq_true c3; have c3b1 : decide (0 ≤ a1) = true := decide_eq_true c3; clear c3
  by_cases c4 : a1 ≤ (a0_1.size : Int)
  ·rw [if_pos c4] at H; have c4b0 := eq_true c4; have c4b1 : decide (a1 ≤ (a0_1.size : Int)) = true := decide_eq_true c4; clear c4; replace H := zi H; obtain ⟨t342, A5, H⟩ := H
   by_cases c6 : 0 ≤ t342
   ·rw [if_pos c6] at H; have c6b0 : decide (0 ≤ t342) = true := decide_eq_true c6; clear c6
    by_cases c7 : t342 < (l0_3.length : Int)
    ·rw [if_pos c7] at H; have c7b0 : decide (t342 < (l0_3.length : Int)) = true := decide_eq_true c7; clear c7; obtain rfl := Option.some.inj H; go_enter Try.func106, Try.ntmps106
     go_wp2_with (first | ((with_reducible refine gate_dst (N := 2) rfl ?_); refine box_event zh (N := 2) zh (cs := #[.string a0_0, .string a0_1, .string a0_2, .slice A0_3 l0_3.length c0_3, .int .i64 a0_4]) (t := 25) zg ?_; intro gb341 hg w8 hbox hb; have BK341 := z0 (hbox); have GW341 := (zG hg HB : Aside0 (w.heap.size ≤ gb341)); have GE341 := (zG hg HB : Aside0 (w.heap.size ≤ gb341)); replace HB := zH HB hb; clear hb hbox hg; have hcz9 := zc5 BK341.out) | (go_at_call 100; (with_reducible refine (strings_Count.calls (a0_1.extract 0 (a1 : Int).toNat) (⟨#[48]⟩ : ByteArray) t342 _ A5.out).mono ?_); rintro e w' ⟨rfl, ⟨nd, rfl⟩⟩; (try first | exact ⟨rfl, _, World.drewN_drewN _ _ _⟩ | exact ⟨rfl, _, Eq.trans (World.drewN_drewN _ _ _) (congrArg (World.drewN _) (Nat.add_assoc _ _ _))⟩); have p343 : 0 ≤ (t342 : Int) := zd; have q343 : t342 < (l0_3.length : Int) := zd; obtain ⟨ad343, e343, hx343_0⟩ := Kd.at_string HR0_3.out t342 p343 q343; cases e343; replace hx343_0 := (HB.out.cell (World.block_lt_of_cell? w _ hx343_0)).trans hx343_0; replace p343 := eq_true p343; replace q343 := eq_true q343))
     repeat (go_quiet (first | ((with_reducible refine gate_dst (N := 2) rfl ?_); refine box_event zh (N := 2) zh (cs := #[.string a0_0, .string a0_1, .string a0_2, .slice A0_3 l0_3.length c0_3, .int .i64 a0_4]) (t := 25) zg ?_; intro gb341 hg w8 hbox hb; have BK341 := z0 (hbox); have GW341 := (zG hg HB : Aside0 (w.heap.size ≤ gb341)); have GE341 := (zG hg HB : Aside0 (w.heap.size ≤ gb341)); replace HB := zH HB hb; clear hb hbox hg; have hcz9 := zc5 BK341.out) | (go_at_call 100; (with_reducible refine (strings_Count.calls (a0_1.extract 0 (a1 : Int).toNat) (⟨#[48]⟩ : ByteArray) t342 _ A5.out).mono ?_); rintro e w' ⟨rfl, ⟨nd, rfl⟩⟩; (try first | exact ⟨rfl, _, World.drewN_drewN _ _ _⟩ | exact ⟨rfl, _, Eq.trans (World.drewN_drewN _ _ _) (congrArg (World.drewN _) (Nat.add_assoc _ _ _))⟩); have p343 : 0 ≤ (t342 : Int) := zd; have q343 : t342 < (l0_3.length : Int) := zd; obtain ⟨ad343, e343, hx343_0⟩ := Kd.at_string HR0_3.out t342 p343 q343; cases e343; replace hx343_0 := (HB.out.cell (World.block_lt_of_cell? w _ hx343_0)).trans hx343_0; replace p343 := eq_true p343; replace q343 := eq_true q343)); try go_wp2_with (first | ((with_reducible refine gate_dst (N := 2) rfl ?_); refine box_event zh (N := 2) zh (cs := #[.string a0_0, .string a0_1, .string a0_2, .slice A0_3 l0_3.length c0_3, .int .i64 a0_4]) (t := 25) zg ?_; intro gb341 hg w8 hbox hb; have BK341 := z0 (hbox); have GW341 := (zG hg HB : Aside0 (w.heap.size ≤ gb341)); have GE341 := (zG hg HB : Aside0 (w.heap.size ≤ gb341)); replace HB := zH HB hb; clear hb hbox hg; have hcz9 := zc5 BK341.out) | (go_at_call 100; (with_reducible refine (strings_Count.calls (a0_1.extract 0 (a1 : Int).toNat) (⟨#[48]⟩ : ByteArray) t342 _ A5.out).mono ?_); rintro e w' ⟨rfl, ⟨nd, rfl⟩⟩; (try first | exact ⟨rfl, _, World.drewN_drewN _ _ _⟩ | exact ⟨rfl, _, Eq.trans (World.drewN_drewN _ _ _) (congrArg (World.drewN _) (Nat.add_assoc _ _ _))⟩); have p343 : 0 ≤ (t342 : Int) := zd; have q343 : t342 < (l0_3.length : Int) := zd; obtain ⟨ad343, e343, hx343_0⟩ := Kd.at_string HR0_3.out t342 p343 q343; cases e343; replace hx343_0 := (HB.out.cell (World.block_lt_of_cell? w _ hx343_0)).trans hx343_0; replace p343 := eq_true p343; replace q343 := eq_true q343)))
     go_ret; exact ⟨ze, zb HB.out⟩
    ·rw [if_neg c7] at H; exact absurd H (by simp)
   ·rw [if_neg c6] at H; exact absurd H (by simp)
  ·rw [if_neg c4] at H; exact absurd H (by simp)
 ·rw [if_neg c3] at H; exact absurd H (by simp)
end Go.Proofs.Ytifgcajpkgamgaa.Q
end
section
namespace Go.Proofs.Ytifgcajpkgamgaa.Q
open Go.RowKit Go.Proofs.YtifgcajpkgamgaaW.PrintWords Go.Proofs.YtifgcajpkgamgaaW.PrintLast Go.Proofs.YtifgcajpkgamgaaW.PrintMore
attribute [local go_sem] max2_int min2_int max_two min_two max_three min_three max_four min_four   
set_option linter.unusedVariables false
set_option linter.unusedSimpArgs false
def impl_Sieve_complete.T1 : Bool × List (List Nat × List Nat) := (true, [([], []), ([0], [0]), ([], []), ([1, 2], [1, 2]), ([3], [3]), ([4], [4]), ([5], [5]), ([5], [5]), ([6, 7, 5, 5], [5, 6, 7]), ([8, 5], [5, 8]), ([5], [5]), ([10, 5], [5, 10]), ([9, 11, 5], [5, 9, 11]), ([5, 12], [5, 12]), ([13, 8, 0, 1, 2, 3, 4, 5, 6, 7, 8, 9, 10, 11, 12, 13], [13])])
def impl_Sieve_complete.B1 : List Nat := [0, 1, 0, 7, 15, 31, 63, 63, 255, 511, 63, 1087, 4095, 8191, 16383]
theorem impl_Sieve_complete.tab1 : rtab .any (opsOf Try.f105 1) = impl_Sieve_complete.T1 := by kernel_rfl
theorem impl_Sieve_complete.bits1 : waitsOk impl_Sieve_complete.T1.2 impl_Sieve_complete.B1 = true := by kernel_rfl
set_option maxHeartbeats 8000000 in
set_option maxRecDepth 100000 in
theorem impl_Sieve_complete.calls (a0_0 : ByteArray) (a0_1 : ByteArray) (a0_2 : ByteArray) (A0_3 : Option Addr) (c0_3 : Nat) (l0_3 : List ByteArray) (a0_4 : Int) (a1 : Int) (r : Bool) (w : World) (hr0_3 : Kd.C Kd.string w A0_3 l0_3.length l0_3) (hc0_3 : l0_3.length ≤ c0_3) (h : impl_Sieve_complete.f a0_0 a0_1 a0_2 l0_3 a0_4 a1 = some r) :
    Calls Try.prog 105 #[.agg #[.string a0_0, .string a0_1, .string a0_2, .slice A0_3 l0_3.length c0_3, .int .i64 a0_4], .int .i64 a1] w fun e w' => e = .returned (.bool r) ∧ Below w.heap.size w w' := by
 have hu25 := Try.underlying25; have HR0_3 := Aside0.mk hr0_3; have HC0_3 := Aside0.mk hc0_3; clear hr0_3 hc0_3; have HB := z0 (Below.refl w.heap.size w); have H : (if 0 ≤ a1 then (if a1 < (a0_0.size : Int) then (if (bt a0_0 a1) = 45 then (some true) else ((impl_Sieve_rest.f a0_0 a0_1 a0_2 l0_3 a0_4 a1).bind fun t345 => (some (decide ((t345.size : Int) < a0_4))))) else (none)) else (none)) = some r := h; clear h
 by_cases c3 : 0 ≤ a1
 ·rw [if_pos c3] at H; have c3b0 : decide (0 ≤ a1) = true := decide_eq_true c3; clear c3
  by_cases c4 : a1 < (a0_0.size : Int)
  ·rw [if_pos c4] at H; have c4b0 : decide (a1 < (a0_0.size : Int)) = true := decide_eq_true c4; clear c4
   by_cases c6 : (bt a0_0 a1) = 45
   ·rw [if_pos c6] at H; have c6b0 : ((bt a0_0 a1) == 45) = true := beq_iff_eq.mpr c6; have c6b1 : ((bt a0_0 a1) != 45) = false := bne_eq_false_iff_eq.mpr c6; clear c6; obtain rfl := Option.some.inj H; go_enter Try.func105, Try.ntmps105
    try go_wp2_with (first | ((with_reducible refine gate_dst (N := 2) rfl ?_); (try (refine gate_guard (by rfl) ?_; dsimp only)); refine box_event zh (N := 2) zh (cs := #[.string a0_0, .string a0_1, .string a0_2, .slice A0_3 l0_3.length c0_3, .int .i64 a0_4]) (t := 25) zg ?_; intro gb344 hg w7 hbox hb; have BK344 := z0 (hbox); have GW344 := (zG hg HB : Aside0 (w.heap.size ≤ gb344)); have GE344 := (zG hg HB : Aside0 (w.heap.size ≤ gb344)); replace HB := zH HB hb; clear hb hbox hg))
    replace BK344 := z0 (blk_drew BK344.out); replace HB := z0 (below_drew1 HB.out); have p5 : 0 ≤ (a1 : Int) := zd; have q5 : a1 < (a0_0.size : Int) := zd; have hx5 := bt_at a0_0 a1; replace p5 := eq_true p5; replace q5 := eq_true q5; refine start_ (n := 15) (S := fun w' => w'.cell? ⟨gb344, 0, none⟩ = some (.string a0_0) ∧ w'.cell? ⟨gb344, 1, none⟩ = some (.string a0_1) ∧ w'.cell? ⟨gb344, 2, none⟩ = some (.string a0_2) ∧ w'.cell? ⟨gb344, 3, none⟩ = some (.slice A0_3 l0_3.length c0_3) ∧ w'.cell? ⟨gb344, 4, none⟩ = some (.int .i64 a0_4)) (ds := []) (fb 15 0) (by kernel_rfl) rfl rfl ⟨(blk_cell BK344.out 0).trans rfl, (blk_cell BK344.out 1).trans rfl, (blk_cell BK344.out 2).trans rfl, (blk_cell BK344.out 3).trans rfl, (blk_cell BK344.out 4).trans rfl⟩ (fun hHeld => ?_); refine with_tabW impl_Sieve_complete.tab1 impl_Sieve_complete.bits1 (fun HT_ HW_ => ?_); generalize w7.drew = w8 at BK344 HB hHeld ⊢; refine pure_ (i := 0) (N := some 5) (v := ?_) (a' := ?_) (fb 15 1) rfl rfl (any_of HT_.out (by kernel_rfl)) (fun _ _ _ h => h) (Or.inl ⟨by rfl, ?_⟩) ?_ ?_; rotate_left
    ·intro w'
     go_simp
     with_reducible rfl
    rotate_left
    ·simp only [Act.put, List.setIfInBounds_toArray, List.set_cons_zero, List.set_cons_succ, i64_w, i32_w]
     rfl
    refine pure_ (i := 2) (N := some 7) (v := ?_) (a' := ?_) (fb 15 5) rfl rfl (any_of HT_.out (by kernel_rfl)) (fun _ _ _ h => h) (Or.inl ⟨by rfl, ?_⟩) ?_ ?_; rotate_left
    ·intro w'
     go_simp
     with_reducible rfl
    rotate_left
    ·simp only [Act.put, List.setIfInBounds_toArray, List.set_cons_zero, List.set_cons_succ, i64_w, i32_w]
     rfl
    refine take_ (i := 1) (N := some 6) (v := ?_) (a' := ?_) (fb 15 7) rfl rfl (take_ofW HT_.out HW_.out (by kernel_rfl)) (fun _ _ _ h => h) (Or.inl ⟨by rfl, ?_⟩) hHeld ?_ ?_; rotate_left
    ·rintro w' ⟨s0, s1, s2, s3, s4⟩
     go_simp
     with_reducible rfl
    rotate_left
    ·simp only [Act.put, List.setIfInBounds_toArray, List.set_cons_zero, List.set_cons_succ, i64_w, i32_w]
     rfl
    refine take_ (i := 3) (N := some 8) (v := ?_) (a' := ?_) (fb 15 15) rfl rfl (take_ofW HT_.out HW_.out (by kernel_rfl)) (fun _ _ _ h => h) (Or.inl ⟨by rfl, ?_⟩) hHeld ?_ ?_; rotate_left
    ·rintro w' ⟨s0, s1, s2, s3, s4⟩
     go_simp
     with_reducible rfl
    rotate_left
    ·simp only [Act.put, List.setIfInBounds_toArray, List.set_cons_zero, List.set_cons_succ, i64_w, i32_w]
     rfl
    refine pure_ (i := 4) (N := some 9) (v := ?_) (a' := ?_) (fb 15 31) rfl rfl (any_of HT_.out (by kernel_rfl)) (fun _ _ _ h => h) (Or.inl ⟨by rfl, ?_⟩) ?_ ?_; rotate_left
    ·intro w'
     go_simp
     with_reducible rfl
    rotate_left
    ·simp only [Act.put, List.setIfInBounds_toArray, List.set_cons_zero, List.set_cons_succ, i64_w, i32_w]
     rfl
    refine pure_ (i := 5) (N := some 10) (v := ?_) (a' := ?_) (fb 15 63) rfl rfl (any_of HT_.out (by kernel_rfl)) (fun _ _ _ h => h) (Or.inl ⟨by rfl, ?_⟩) ?_ ?_; rotate_left
    ·intro w'
     go_simp
     with_reducible rfl
    rotate_left
    ·simp only [Act.put, List.setIfInBounds_toArray, List.set_cons_zero, List.set_cons_succ, i64_w, i32_w]
     rfl
    refine pure_ (i := 6) (N := some 11) (v := undef) (a' := ?_) (fb 15 127) rfl rfl (any_of HT_.out (by kernel_rfl)) (fun _ _ _ h => h) (Or.inr ⟨by rfl, rfl⟩) ?_ ?_; rotate_left
    ·simp only [Act.put, List.setIfInBounds_toArray, List.set_cons_zero, List.set_cons_succ, i64_w, i32_w]
     rfl
    refine pure_ (i := 7) (N := some 12) (v := undef) (a' := ?_) (fb 15 255) rfl rfl (any_of HT_.out (by kernel_rfl)) (fun _ _ _ h => h) (Or.inr ⟨by rfl, rfl⟩) ?_ ?_; rotate_left
    ·simp only [Act.put, List.setIfInBounds_toArray, List.set_cons_zero, List.set_cons_succ, i64_w, i32_w]
     rfl
    refine pure_ (i := 8) (N := some 13) (v := undef) (a' := ?_) (fb 15 511) rfl rfl (any_of HT_.out (by kernel_rfl)) (fun _ _ _ h => h) (Or.inr ⟨by rfl, rfl⟩) ?_ ?_; rotate_left
    ·simp only [Act.put, List.setIfInBounds_toArray, List.set_cons_zero, List.set_cons_succ, i64_w, i32_w]
     rfl
    refine pure_ (i := 9) (N := some 14) (v := undef) (a' := ?_) (fb 15 1023) rfl rfl (any_of HT_.out (by kernel_rfl)) (fun _ _ _ h => h) (Or.inr ⟨by rfl, rfl⟩) ?_ ?_; rotate_left
    ·simp only [Act.put, List.setIfInBounds_toArray, List.set_cons_zero, List.set_cons_succ, i64_w, i32_w]
     rfl
    refine pure_ (i := 10) (N := some 15) (v := undef) (a' := ?_) (fb 15 2047) rfl rfl (any_of HT_.out (by kernel_rfl)) (fun _ _ _ h => h) (Or.inr ⟨by rfl, rfl⟩) ?_ ?_; rotate_left
    ·simp only [Act.put, List.setIfInBounds_toArray, List.set_cons_zero, List.set_cons_succ, i64_w, i32_w]
     rfl
    refine pure_ (i := 11) (N := some 16) (v := undef) (a' := ?_) (fb 15 4095) rfl rfl (any_of HT_.out (by kernel_rfl)) (fun _ _ _ h => h) (Or.inr ⟨by rfl, rfl⟩) ?_ ?_; rotate_left
    ·simp only [Act.put, List.setIfInBounds_toArray, List.set_cons_zero, List.set_cons_succ, i64_w, i32_w]
     rfl
    refine pure_ (i := 12) (N := some 17) (v := undef) (a' := ?_) (fb 15 8191) rfl rfl (any_of HT_.out (by kernel_rfl)) (fun _ _ _ h => h) (Or.inr ⟨by rfl, rfl⟩) ?_ ?_; rotate_left
    ·simp only [Act.put, List.setIfInBounds_toArray, List.set_cons_zero, List.set_cons_succ, i64_w, i32_w]
     rfl
    refine pure_ (i := 13) (N := some 18) (v := ?_) (a' := ?_) (fb 15 16383) rfl rfl (any_of HT_.out (by kernel_rfl)) (fun _ _ _ h => h) (Or.inl ⟨by rfl, ?_⟩) ?_ ?_; rotate_left
    ·intro w'
     go_simp
     with_reducible rfl
    rotate_left
    ·simp only [Act.put, List.setIfInBounds_toArray, List.set_cons_zero, List.set_cons_succ, i64_w, i32_w]
     rfl
    refine pure_ (i := 14) (N := some 4) (v := ?_) (a' := ?_) (fb 15 32767) rfl rfl (any_of HT_.out (by kernel_rfl)) (fun _ _ _ h => h) (Or.inl ⟨by rfl, ?_⟩) ?_ ?_; rotate_left
    ·intro w'
     go_simp
     with_reducible rfl
    rotate_left
    ·simp only [Act.put, List.setIfInBounds_toArray, List.set_cons_zero, List.set_cons_succ, i64_w, i32_w]
     rfl
    refine done_ (done_of HT_.out (by kernel_rfl)) ?_
    try go_wp2
    go_ret; exact ⟨ze, zb HB.out⟩
   ·rw [if_neg c6] at H; have c6b0 : ((bt a0_0 a1) == 45) = false := beq_eq_false_iff_ne.mpr c6; have c6b1 : ((bt a0_0 a1) != 45) = true := bne_iff_ne.mpr c6; replace H := zi H; obtain ⟨t345, A9, H⟩ := H; obtain rfl := Option.some.inj H; go_enter Try.func105, Try.ntmps105
    try go_wp2_with (first | ((with_reducible refine gate_dst (N := 2) rfl ?_); (try (refine gate_guard (by rfl) ?_; dsimp only)); refine box_event zh (N := 2) zh (cs := #[.string a0_0, .string a0_1, .string a0_2, .slice A0_3 l0_3.length c0_3, .int .i64 a0_4]) (t := 25) zg ?_; intro gb344 hg w10 hbox hb; have BK344 := z0 (hbox); have GW344 := (zG hg HB : Aside0 (w.heap.size ≤ gb344)); have GE344 := (zG hg HB : Aside0 (w.heap.size ≤ gb344)); replace HB := zH HB hb; clear hb hbox hg))
    replace BK344 := z0 (blk_drew BK344.out); replace HB := z0 (below_drew1 HB.out); have p5 : 0 ≤ (a1 : Int) := zd; have q5 : a1 < (a0_0.size : Int) := zd; have hx5 := bt_at a0_0 a1; replace p5 := eq_true p5; replace q5 := eq_true q5; refine start_ (n := 15) (S := fun w' => w'.cell? ⟨gb344, 0, none⟩ = some (.string a0_0) ∧ w'.cell? ⟨gb344, 1, none⟩ = some (.string a0_1) ∧ w'.cell? ⟨gb344, 2, none⟩ = some (.string a0_2) ∧ w'.cell? ⟨gb344, 3, none⟩ = some (.slice A0_3 l0_3.length c0_3) ∧ w'.cell? ⟨gb344, 4, none⟩ = some (.int .i64 a0_4)) (ds := []) (fb 15 0) (by kernel_rfl) rfl rfl ⟨(blk_cell BK344.out 0).trans rfl, (blk_cell BK344.out 1).trans rfl, (blk_cell BK344.out 2).trans rfl, (blk_cell BK344.out 3).trans rfl, (blk_cell BK344.out 4).trans rfl⟩ (fun hHeld => ?_); refine with_tabW impl_Sieve_complete.tab1 impl_Sieve_complete.bits1 (fun HT_ HW_ => ?_); generalize w10.drew = w11 at BK344 HB hHeld ⊢; refine pure_ (i := 0) (N := some 5) (v := ?_) (a' := ?_) (fb 15 1) rfl rfl (any_of HT_.out (by kernel_rfl)) (fun _ _ _ h => h) (Or.inl ⟨by rfl, ?_⟩) ?_ ?_; rotate_left
    ·intro w'
     go_simp
     with_reducible rfl
    rotate_left
    ·simp only [Act.put, List.setIfInBounds_toArray, List.set_cons_zero, List.set_cons_succ, i64_w, i32_w]
     rfl
    refine pure_ (i := 2) (N := some 7) (v := ?_) (a' := ?_) (fb 15 5) rfl rfl (any_of HT_.out (by kernel_rfl)) (fun _ _ _ h => h) (Or.inl ⟨by rfl, ?_⟩) ?_ ?_; rotate_left
    ·intro w'
     go_simp
     with_reducible rfl
    rotate_left
    ·simp only [Act.put, List.setIfInBounds_toArray, List.set_cons_zero, List.set_cons_succ, i64_w, i32_w]
     rfl
    refine take_ (i := 1) (N := some 6) (v := ?_) (a' := ?_) (fb 15 7) rfl rfl (take_ofW HT_.out HW_.out (by kernel_rfl)) (fun _ _ _ h => h) (Or.inl ⟨by rfl, ?_⟩) hHeld ?_ ?_; rotate_left
    ·rintro w' ⟨s0, s1, s2, s3, s4⟩
     go_simp
     with_reducible rfl
    rotate_left
    ·simp only [Act.put, List.setIfInBounds_toArray, List.set_cons_zero, List.set_cons_succ, i64_w, i32_w]
     rfl
    refine take_ (i := 3) (N := some 8) (v := ?_) (a' := ?_) (fb 15 15) rfl rfl (take_ofW HT_.out HW_.out (by kernel_rfl)) (fun _ _ _ h => h) (Or.inl ⟨by rfl, ?_⟩) hHeld ?_ ?_; rotate_left
    ·rintro w' ⟨s0, s1, s2, s3, s4⟩
     go_simp
     with_reducible rfl
    rotate_left
    ·simp only [Act.put, List.setIfInBounds_toArray, List.set_cons_zero, List.set_cons_succ, i64_w, i32_w]
     rfl
    refine pure_ (i := 4) (N := some 9) (v := ?_) (a' := ?_) (fb 15 31) rfl rfl (any_of HT_.out (by kernel_rfl)) (fun _ _ _ h => h) (Or.inl ⟨by rfl, ?_⟩) ?_ ?_; rotate_left
    ·intro w'
     go_simp
     with_reducible rfl
    rotate_left
    ·simp only [Act.put, List.setIfInBounds_toArray, List.set_cons_zero, List.set_cons_succ, i64_w, i32_w]
     rfl
    refine pure_ (i := 5) (N := some 10) (v := ?_) (a' := ?_) (fb 15 63) rfl rfl (any_of HT_.out (by kernel_rfl)) (fun _ _ _ h => h) (Or.inl ⟨by rfl, ?_⟩) ?_ ?_; rotate_left
    ·intro w'
     go_simp
     with_reducible rfl
    rotate_left
    ·simp only [Act.put, List.setIfInBounds_toArray, List.set_cons_zero, List.set_cons_succ, i64_w, i32_w]
     rfl
    refine pure_ (i := 7) (N := some 12) (v := ?_) (a' := ?_) (fb 15 191) rfl rfl (any_of HT_.out (by kernel_rfl)) (fun _ _ _ h => h) (Or.inl ⟨by rfl, ?_⟩) ?_ ?_; rotate_left
    ·intro w'
     go_simp
     with_reducible rfl
    rotate_left
    ·simp only [Act.put, List.setIfInBounds_toArray, List.set_cons_zero, List.set_cons_succ, i64_w, i32_w]
     rfl
    refine pure_ (i := 10) (N := some 15) (v := ?_) (a' := ?_) (fb 15 1215) rfl rfl (any_of HT_.out (by kernel_rfl)) (fun _ _ _ h => h) (Or.inl ⟨by rfl, ?_⟩) ?_ ?_; rotate_left
    ·intro w'
     go_simp
     with_reducible rfl
    rotate_left
    ·simp only [Act.put, List.setIfInBounds_toArray, List.set_cons_zero, List.set_cons_succ, i64_w, i32_w]
     rfl
    refine take_ (i := 6) (N := some 11) (v := ?_) (a' := ?_) (fb 15 1279) rfl rfl (take_ofW HT_.out HW_.out (by kernel_rfl)) (fun _ _ _ h => h) (Or.inl ⟨by rfl, ?_⟩) hHeld ?_ ?_; rotate_left
    ·rintro w' ⟨s0, s1, s2, s3, s4⟩
     go_simp
     with_reducible rfl
    rotate_left
    ·simp only [Act.put, List.setIfInBounds_toArray, List.set_cons_zero, List.set_cons_succ, i64_w, i32_w]
     rfl
    refine take_ (i := 11) (N := some 16) (v := ?_) (a' := ?_) (fb 15 3327) rfl rfl (take_ofW HT_.out HW_.out (by kernel_rfl)) (fun _ _ _ h => h) (Or.inl ⟨by rfl, ?_⟩) hHeld ?_ ?_; rotate_left
    ·rintro w' ⟨s0, s1, s2, s3, s4⟩
     go_simp
     with_reducible rfl
    rotate_left
    ·simp only [Act.put, List.setIfInBounds_toArray, List.set_cons_zero, List.set_cons_succ, i64_w, i32_w]
     rfl
    refine one_ (i := 8) (N := some 13) (fb 15 3583) rfl rfl (one_of HT_.out (by kernel_rfl)) (by decide) (fun K hK => ?_); refine goes_ Try.func106 (by kernel_rfl) rfl #[.agg #[.string a0_0, .string a0_1, .string a0_2, .slice A0_3 l0_3.length c0_3, .int .i64 a0_4], .int .i64 a1] (by rfl) rfl rfl (by (try simp only [List.map_toArray, List.map_cons, List.map_nil]); first | done | rfl | (simp only [List.length_drop, List.length_take]; rfl)) ?_
    with_reducible refine (impl_Sieve_rest.calls a0_0 a0_1 a0_2 _ _ l0_3 a0_4 a1 t345 _ ?side1 ?side2 A9.out).mono ?_
    (case side1 => repeat (first | exact (Kd.C_below HR0_3.out HB.out) | (with_reducible refine Kd.C_alloc ?_ _) | (with_reducible refine Kd.C_drewN ?_ _) | (with_reducible refine Kd.C_drew ?_))); (case side2 => exact HC0_3.out); rintro e w12 ⟨rfl, hb⟩; refine ⟨_, rfl, ?_⟩; replace BK344 := zK BK344 hb; replace HB := zH HB hb; (try clear hb); refine hK.out _ _ ⟨(blk_cell BK344.out 0).trans rfl, (blk_cell BK344.out 1).trans rfl, (blk_cell BK344.out 2).trans rfl, (blk_cell BK344.out 3).trans rfl, (blk_cell BK344.out 4).trans rfl⟩ (fun hHeld => ?_); clear hK K; refine norm_ (a' := ?_) ?_ ?_; rotate_left
    ·show Act.put _ (some 13) _ = _
     simp only [Act.put, List.setIfInBounds_toArray, List.set_cons_zero, List.set_cons_succ, i64_w, i32_w]
     rfl
    refine pure_ (i := 9) (N := some 14) (v := ?_) (a' := ?_) (fb 15 4095) rfl rfl (any_of HT_.out (by kernel_rfl)) (fun _ _ _ h => h) (Or.inl ⟨by rfl, ?_⟩) ?_ ?_; rotate_left
    ·intro w'
     go_simp
     with_reducible rfl
    rotate_left
    ·simp only [Act.put, List.setIfInBounds_toArray, List.set_cons_zero, List.set_cons_succ, i64_w, i32_w]
     rfl
    refine pure_ (i := 12) (N := some 17) (v := ?_) (a' := ?_) (fb 15 8191) rfl rfl (any_of HT_.out (by kernel_rfl)) (fun _ _ _ h => h) (Or.inl ⟨by rfl, ?_⟩) ?_ ?_; rotate_left
    ·intro w'
     go_simp
     with_reducible rfl
    rotate_left
    ·simp only [Act.put, List.setIfInBounds_toArray, List.set_cons_zero, List.set_cons_succ, i64_w, i32_w]
     rfl
    refine pure_ (i := 13) (N := some 18) (v := ?_) (a' := ?_) (fb 15 16383) rfl rfl (any_of HT_.out (by kernel_rfl)) (fun _ _ _ h => h) (Or.inl ⟨by rfl, ?_⟩) ?_ ?_; rotate_left
    ·intro w'
     go_simp
     with_reducible rfl
    rotate_left
    ·simp only [Act.put, List.setIfInBounds_toArray, List.set_cons_zero, List.set_cons_succ, i64_w, i32_w]
     rfl
    refine pure_ (i := 14) (N := some 4) (v := ?_) (a' := ?_) (fb 15 32767) rfl rfl (any_of HT_.out (by kernel_rfl)) (fun _ _ _ h => h) (Or.inl ⟨by rfl, ?_⟩) ?_ ?_; rotate_left
    ·intro w'
     go_simp
     with_reducible rfl
    rotate_left
    ·simp only [Act.put, List.setIfInBounds_toArray, List.set_cons_zero, List.set_cons_succ, i64_w, i32_w]
     rfl
    refine done_ (done_of HT_.out (by kernel_rfl)) ?_
    try go_wp2
    go_ret; exact ⟨ze, zb HB.out⟩
  ·rw [if_neg c4] at H; exact absurd H (by simp)
 ·rw [if_neg c3] at H; exact absurd H (by simp)
end Go.Proofs.Ytifgcajpkgamgaa.Q
end
section
namespace Go.Proofs.Ytifgcajpkgamgaa.Q
open Go.RowKit Go.Proofs.YtifgcajpkgamgaaW.PrintWords Go.Proofs.YtifgcajpkgamgaaW.PrintLast Go.Proofs.YtifgcajpkgamgaaW.PrintMore
attribute [local go_sem] max2_int min2_int max_two min_two max_three min_three max_four min_four   
set_option linter.unusedVariables false
set_option linter.unusedSimpArgs false
theorem impl_Sieve_parts.mono_l : ∀ k, (∀ y0 y1 y2 y3 y4 y5 y6 y7, LeO (impl_Sieve_parts.f k y0 y1 y2 y3 y4 y5 y6 y7) (impl_Sieve_parts.f (k + 1) y0 y1 y2 y3 y4 y5 y6 y7)) ∧ (∀ y0 y1 y2 y3 y4 y5 y6 y7 y8, LeO (impl_Sieve_parts.l0 k y0 y1 y2 y3 y4 y5 y6 y7 y8) (impl_Sieve_parts.l0 (k + 1) y0 y1 y2 y3 y4 y5 y6 y7 y8)) ∧ (∀ y0 y1 y2 y3 y4 y5 y6 y7 y8 y9, LeO (impl_Sieve_parts.j1 k y0 y1 y2 y3 y4 y5 y6 y7 y8 y9) (impl_Sieve_parts.j1 (k + 1) y0 y1 y2 y3 y4 y5 y6 y7 y8 y9)) ∧ (∀ y0 y1 y2 y3 y4 y5 y6 y7 y8 y9 y10, LeO (impl_Sieve_parts.j2 k y0 y1 y2 y3 y4 y5 y6 y7 y8 y9 y10) (impl_Sieve_parts.j2 (k + 1) y0 y1 y2 y3 y4 y5 y6 y7 y8 y9 y10))
  | 0 => ⟨fun _ _ _ _ _ _ _ _ r h => by simp [impl_Sieve_parts.f] at h, fun _ _ _ _ _ _ _ _ _ r h => by simp [impl_Sieve_parts.l0] at h, fun _ _ _ _ _ _ _ _ _ _ r h => by simp [impl_Sieve_parts.j1] at h, fun _ _ _ _ _ _ _ _ _ _ _ r h => by simp [impl_Sieve_parts.j2] at h⟩
  | k + 1 => by
    obtain ⟨ih0, ih1, ih2, ih3⟩ := impl_Sieve_parts.mono_l k
    refine ⟨?_, ?_, ?_, ?_⟩
    · intro y0 y1 y2 y3 y4 y5 y6 y7
      unfold impl_Sieve_parts.f
      repeat' first
      | (with_reducible exact ih0 _ _ _ _ _ _ _ _)
      | (with_reducible exact ih1 _ _ _ _ _ _ _ _ _)
      | (with_reducible exact ih2 _ _ _ _ _ _ _ _ _ _)
      | (with_reducible exact ih3 _ _ _ _ _ _ _ _ _ _ _)
      | (with_reducible exact impl_Sieve_branches.mono _ _ _ _ _ _ _)
      | (with_reducible exact LeO.refl _)
      | (with_reducible exact LeO.none _)
      | (with_reducible refine LeO.ite ?_ ?_)
      | (with_reducible refine LeO.bind ?_ (fun _ => ?_))
      | exact ih0 _ _ _ _ _ _ _ _
      | exact ih1 _ _ _ _ _ _ _ _ _
      | exact ih2 _ _ _ _ _ _ _ _ _ _
      | exact ih3 _ _ _ _ _ _ _ _ _ _ _
      | exact impl_Sieve_branches.mono _ _ _ _ _ _ _
      | exact LeO.none _
      | refine LeO.ite ?_ ?_
      | refine LeO.bind ?_ (fun _ => ?_)
    · intro y0 y1 y2 y3 y4 y5 y6 y7 y8
      unfold impl_Sieve_parts.l0
      repeat' first
      | (with_reducible exact ih0 _ _ _ _ _ _ _ _)
      | (with_reducible exact ih1 _ _ _ _ _ _ _ _ _)
      | (with_reducible exact ih2 _ _ _ _ _ _ _ _ _ _)
      | (with_reducible exact ih3 _ _ _ _ _ _ _ _ _ _ _)
      | (with_reducible exact impl_Sieve_branches.mono _ _ _ _ _ _ _)
      | (with_reducible exact LeO.refl _)
      | (with_reducible exact LeO.none _)
      | (with_reducible refine LeO.ite ?_ ?_)
      | (with_reducible refine LeO.bind ?_ (fun _ => ?_))
      | exact ih0 _ _ _ _ _ _ _ _
      | exact ih1 _ _ _ _ _ _ _ _ _
      | exact ih2 _ _ _ _ _ _ _ _ _ _
      | exact ih3 _ _ _ _ _ _ _ _ _ _ _
      | exact impl_Sieve_branches.mono _ _ _ _ _ _ _
      | exact LeO.none _
      | refine LeO.ite ?_ ?_
      | refine LeO.bind ?_ (fun _ => ?_)
    · intro y0 y1 y2 y3 y4 y5 y6 y7 y8 y9
      unfold impl_Sieve_parts.j1
      repeat' first
      | (with_reducible exact ih0 _ _ _ _ _ _ _ _)
      | (with_reducible exact ih1 _ _ _ _ _ _ _ _ _)
      | (with_reducible exact ih2 _ _ _ _ _ _ _ _ _ _)
      | (with_reducible exact ih3 _ _ _ _ _ _ _ _ _ _ _)
      | (with_reducible exact impl_Sieve_branches.mono _ _ _ _ _ _ _)
      | (with_reducible exact LeO.refl _)
      | (with_reducible exact LeO.none _)
      | (with_reducible refine LeO.ite ?_ ?_)
      | (with_reducible refine LeO.bind ?_ (fun _ => ?_))
      | exact ih0 _ _ _ _ _ _ _ _
      | exact ih1 _ _ _ _ _ _ _ _ _
      | exact ih2 _ _ _ _ _ _ _ _ _ _
      | exact ih3 _ _ _ _ _ _ _ _ _ _ _
      | exact impl_Sieve_branches.mono _ _ _ _ _ _ _
      | exact LeO.none _
      | refine LeO.ite ?_ ?_
      | refine LeO.bind ?_ (fun _ => ?_)
    · intro y0 y1 y2 y3 y4 y5 y6 y7 y8 y9 y10
      unfold impl_Sieve_parts.j2
      repeat' first
      | (with_reducible exact ih0 _ _ _ _ _ _ _ _)
      | (with_reducible exact ih1 _ _ _ _ _ _ _ _ _)
      | (with_reducible exact ih2 _ _ _ _ _ _ _ _ _ _)
      | (with_reducible exact ih3 _ _ _ _ _ _ _ _ _ _ _)
      | (with_reducible exact impl_Sieve_branches.mono _ _ _ _ _ _ _)
      | (with_reducible exact LeO.refl _)
      | (with_reducible exact LeO.none _)
      | (with_reducible refine LeO.ite ?_ ?_)
      | (with_reducible refine LeO.bind ?_ (fun _ => ?_))
      | exact ih0 _ _ _ _ _ _ _ _
      | exact ih1 _ _ _ _ _ _ _ _ _
      | exact ih2 _ _ _ _ _ _ _ _ _ _
      | exact ih3 _ _ _ _ _ _ _ _ _ _ _
      | exact impl_Sieve_branches.mono _ _ _ _ _ _ _
      | exact LeO.none _
      | refine LeO.ite ?_ ?_
      | refine LeO.bind ?_ (fun _ => ?_)
theorem impl_Sieve_parts.mono : ∀ a0 a1 a2 a3 a4 a5 a6 a7 k, LeO (impl_Sieve_parts.f k a0 a1 a2 a3 a4 a5 a6 a7) (impl_Sieve_parts.f (k + 1) a0 a1 a2 a3 a4 a5 a6 a7) := by
  intro a0 a1 a2 a3 a4 a5 a6 a7 k
  obtain ⟨ih0, ih1, ih2, ih3⟩ := impl_Sieve_parts.mono_l k
  exact ih0 a0 a1 a2 a3 a4 a5 a6 a7
def impl_Sieve_parts.T11 : Bool × List (List Nat × List Nat) := (true, [([], []), ([], []), ([], []), ([], []), ([2, 3], [2, 3]), ([1, 4], [1, 4]), ([], []), ([], []), ([6, 7, 4], [6, 7]), ([5, 8], [5, 8]), ([9], [9]), ([0, 10, 8], [0, 10]), ([11, 11, 0, 1, 2, 3, 4, 5, 6, 7, 8, 9, 10, 11], [0, 11])])
def impl_Sieve_parts.B11 : List Nat := [0, 0, 0, 0, 12, 30, 0, 0, 220, 510, 1022, 2047, 4095]
theorem impl_Sieve_parts.tab11 : rtab .any (opsOf Try.f118 11) = impl_Sieve_parts.T11 := by kernel_rfl
theorem impl_Sieve_parts.bits11 : waitsOk impl_Sieve_parts.T11.2 impl_Sieve_parts.B11 = true := by kernel_rfl
def impl_Sieve_parts.T12 : Bool × List (List Nat × List Nat) := (true, [([], []), ([], []), ([], []), ([1, 2], [1, 2]), ([0, 3, 3], [0, 3]), ([4], [4]), ([5], [5]), ([5], [5]), ([6, 4, 0, 1, 2, 3, 4, 5, 6], [6]), ([7, 8, 0, 1, 2, 3, 4, 5, 6, 7, 8], [7])])
def impl_Sieve_parts.B12 : List Nat := [0, 0, 0, 6, 15, 31, 63, 63, 127, 511]
theorem impl_Sieve_parts.tab12 : rtab .any (opsOf Try.f118 12) = impl_Sieve_parts.T12 := by kernel_rfl
theorem impl_Sieve_parts.bits12 : waitsOk impl_Sieve_parts.T12.2 impl_Sieve_parts.B12 = true := by kernel_rfl
def impl_Sieve_parts.T15 : Bool × List (List Nat × List Nat) := (true, [([], []), ([], []), ([], []), ([1, 2], [1, 2]), ([], []), ([], []), ([0, 3, 4, 5, 3], [0, 3, 4, 5]), ([6], [6]), ([7], [7]), ([7], [7]), ([8, 6, 0, 1, 2, 3, 4, 5, 6, 7, 8], [8]), ([9, 10, 0, 1, 2, 3, 4, 5, 6, 7, 8, 9, 10], [9])])
def impl_Sieve_parts.B15 : List Nat := [0, 0, 0, 6, 0, 0, 63, 127, 255, 255, 511, 2047]
theorem impl_Sieve_parts.tab15 : rtab .any (opsOf Try.f118 15) = impl_Sieve_parts.T15 := by kernel_rfl
theorem impl_Sieve_parts.bits15 : waitsOk impl_Sieve_parts.T15.2 impl_Sieve_parts.B15 = true := by kernel_rfl
set_option maxHeartbeats 8000000 in
set_option maxRecDepth 100000 in
theorem impl_Sieve_parts.calls (k : Nat) : ∀ (a0_0 : ByteArray) (a0_1 : ByteArray) (a0_2 : ByteArray) (A0_3 : Option Addr) (c0_3 : Nat) (l0_3 : List ByteArray) (a0_4 : Int) (a1 : Int) (a2 : ByteArray) (P3_ : Nat → Prop) (u9000_ : Value) (l3 : List (S93)) (r1 : List (S93)) (r2 : Bool) (w0 w : World) (hB : Below w0.heap.size w0 w) (hr0_3 : ∀ W_, Kept w W_ (fun k_ => P3_ k_) → Kd.C Kd.string W_ A0_3 l0_3.length l0_3) (hc0_3 : l0_3.length ≤ c0_3) (ho3 : Kd.R k93 93 w w0.heap.size P3_ u9000_ l3) (h : impl_Sieve_parts.f k a0_0 a0_1 a0_2 l0_3 a0_4 a1 a2 l3 = some (r1, r2)),
    Calls Try.prog 118 #[.agg #[.string a0_0, .string a0_1, .string a0_2, .slice A0_3 l0_3.length c0_3, .int .i64 a0_4], .int .i64 a1, .string a2, u9000_] w fun e w' => ∃ v0_ : Value, e = .returned (.tuple #[v0_, .bool r2]) ∧ Kd.R k93 93 w' w0.heap.size (fun k_ => (P3_ k_ ∨ w.heap.size ≤ k_)) v0_ r1 ∧ Below w0.heap.size w0 w' ∧ Kept w w' (fun k_ => P3_ k_) := by
 induction k using Nat.strongRecOn with
 | _ k ih =>
 intro a0_0 a0_1 a0_2 A0_3 c0_3 l0_3 a0_4 a1 a2 P3_ u9000_ l3 r1 r2 w0 w hB hr0_3 hc0_3 ho3 h
 cases k with
 | zero => exact absurd h (by simp [impl_Sieve_parts.f])
 | succ k =>
 simp only [impl_Sieve_parts.f] at h; have hu25 := Try.underlying25; have hu93 := Try.underlying93; have HR0_3 := Aside0.mk hr0_3; have HC0_3 := Aside0.mk hc0_3; clear hr0_3 hc0_3; have HO3 := z0 (show Kd.R k93 93 w w0.heap.size (fun k_ => (P3_ k_ ∨ w.heap.size ≤ k_)) u9000_ l3 from Kd.R_mono ho3 (fun k_ hk => (.inl hk))); have HK := z0 (Kept.refl w (fun k_ => P3_ k_)); have HW0 := Aside0.mk hB.size; have HB := Aside0.mk hB; clear hB; have H : (if (a2.size : Int) > 5 then (some (([] : List (S93)), false)) else ((impl_Sieve_branches.f k a0_0 a0_1 a0_2 l0_3 a0_4 a1).bind fun bt347 => (impl_Sieve_parts.l0 k a2 l3 bt347.2 bt347.1 a0_0 a0_1 a0_2 l0_3 a0_4))) = some (r1, r2) := h; clear h
 by_cases c5 : (a2.size : Int) > 5
 ·rw [if_pos c5] at H; have c5b0 : decide (5 < (a2.size : Int)) = true := decide_eq_true c5; have c5b1 : decide (5 < a2.size) = true := decide_eq_true (by omega); clear c5; simp only [Option.some.injEq, Prod.mk.injEq] at H; obtain ⟨rfl, rfl⟩ := H; go_enter Try.func118, Try.ntmps118
  go_wp2_with (first | ((with_reducible refine gate_dst (N := 4) rfl ?_); refine box_event zh (N := 4) zh (cs := #[.string a0_0, .string a0_1, .string a0_2, .slice A0_3 l0_3.length c0_3, .int .i64 a0_4]) (t := 25) zg ?_; intro gb346 hg w6 hbox hb; replace HO3 := zA HO3 hb; have BK346 := z0 (hbox); have GW346 := z0 ((by rw [hg]; exact (by first | exact HK.out.1 | exact (show Kept w _ (fun k_ => P3_ k_) from zk HK.out).1) : w.heap.size ≤ gb346)); replace HK := z0 (Kept.below (zk HK.out) hb); have GE346 := (zG hg HB : Aside0 (w0.heap.size ≤ gb346)); replace HB := zH HB hb; clear hb hbox hg))
  go_ret2
  exact ⟨_, ze, by first | exact Kd.R_nil _ _ _ _ _ | exact Kd.N_nil _ _ _ _ _ | exact Kd.V_nil _ _ _ _ _ | exact Kd.Q_nil _ _ _ _ _ | exact Kd.S_nil _ _ _ _ _, zb HB.out, zk HK.out⟩
 ·rw [if_neg c5] at H; have c5b0 : decide (5 < (a2.size : Int)) = false := decide_eq_false c5; have c5b1 : decide (5 < a2.size) = false := decide_eq_false (by omega); clear c5; replace H := zi H; obtain ⟨⟨t347, t348⟩, A7, H⟩ := H; (try dsimp only at H); have H' := Aside0.mk H; clear H; go_enter Try.func118, Try.ntmps118
  go_wp2_with (first | ((with_reducible refine gate_dst (N := 4) rfl ?_); refine box_event zh (N := 4) zh (cs := #[.string a0_0, .string a0_1, .string a0_2, .slice A0_3 l0_3.length c0_3, .int .i64 a0_4]) (t := 25) zg ?_; intro gb346 hg w8 hbox hb; replace HO3 := zA HO3 hb; have BK346 := z0 (hbox); have GW346 := z0 ((by rw [hg]; exact (by first | exact HK.out.1 | exact (show Kept w _ (fun k_ => P3_ k_) from zk HK.out).1) : w.heap.size ≤ gb346)); replace HK := z0 (Kept.below (zk HK.out) hb); have GE346 := (zG hg HB : Aside0 (w0.heap.size ≤ gb346)); replace HB := zH HB hb; clear hb hbox hg; have hcz9 := zc5 BK346.out) | ((with_reducible refine gate_callee (f := 102) rfl ?_); refine goesL_ (some 24) rfl rfl Try.func102 (by kernel_rfl) rfl #[.agg #[.string a0_0, .string a0_1, .string a0_2, .slice A0_3 l0_3.length c0_3, .int .i64 a0_4], .int .i64 a1] rfl zo ?_; (with_reducible refine (impl_Sieve_branches.calls k a0_0 a0_1 a0_2 _ _ l0_3 a0_4 a1 t347 t348 _ (Kd.C_kept_now HR0_3.out (zk HK.out)) HC0_3.out A7.out).mono ?_); rintro e w10 ⟨rfl, hb⟩; refine zv ?_; replace HO3 := zA HO3 hb; replace BK346 := zK BK346 hb; replace HK := z0 (Kept.below (zk HK.out) hb); replace HB := zH HB hb; (try clear hb)))
  go_loopg [3, 12] k (fun kq v3 v12 w' => ∃ (x3_1 : List (S93)) (x12_1 : Int), v12 = .int .i64 x12_1 ∧ Aside0 (impl_Sieve_parts.l0 kq a2 x3_1 t348 x12_1 a0_0 a0_1 a0_2 l0_3 a0_4 = some (r1, r2)) ∧ Aside0 (kq ≤ k) ∧ Aside0 (Kd.R k93 93 w' w0.heap.size (fun k_ => (P3_ k_ ∨ w.heap.size ≤ k_)) v3 x3_1) ∧ Aside0 (w'.heap[gb346]? = some (.cells #[.string a0_0, .string a0_1, .string a0_2, (.slice A0_3 l0_3.length c0_3), .int .i64 a0_4] 25 (0, 0))) ∧ Aside0 (Kept w w' (fun k_ => P3_ k_)) ∧ Aside0 (Below w0.heap.size w0 w'))
  case atStart => exact ⟨(l3), (t347), zf, H', ⟨Nat.le_refl _⟩, ⟨zr HO3.out⟩, ⟨zl BK346.out⟩, ⟨zk HK.out⟩, ⟨zb HB.out⟩⟩
  case round =>
   clear H'
   try clear c1
   try clear p2
   try clear c5
   try clear c5b0
   try clear c5b1
   try clear c10
   try clear hcz9
   obtain ⟨x3_1, x12_1, rfl, HA, HK1, HO_3, BK346, HK, HB⟩ := hrel
   cases gk with
   | zero => exact absurd HA.out (by simp [impl_Sieve_parts.l0])
   | succ k1 =>
    have H := HA.out; clear HA; simp only [impl_Sieve_parts.l0] at H
    by_cases c11 : x12_1 < t348
    ·rw [if_pos c11] at H; have c11b0 : decide (x12_1 < t348) = true := decide_eq_true c11; clear c11
     by_cases c12 : 0 ≤ x12_1
     ·rw [if_pos c12] at H; have c12b0 : decide (0 ≤ x12_1) = true := decide_eq_true c12; clear c12
      by_cases c13 : x12_1 < (a0_0.size : Int)
      ·rw [if_pos c13] at H; have c13b0 : decide (x12_1 < (a0_0.size : Int)) = true := decide_eq_true c13; clear c13; have HC15 := Aside0.mk H; clear H; have hcz16 := zc5 BK346.out; have p14 : 0 ≤ (x12_1 : Int) := zd; have q14 : x12_1 < (a0_0.size : Int) := zd; have hx14 := bt_at a0_0 x12_1; replace p14 := eq_true p14; replace q14 := eq_true q14
       go_upto_if 38 with (fail)
       go_cut [13] (fun v13 wc => ∃ (kq : Nat) (x13_14 : ByteArray), v13 = .string x13_14 ∧ Aside0 (impl_Sieve_parts.j1 kq a2 x3_1 t348 x12_1 x13_14 a0_0 a0_1 a0_2 l0_3 a0_4 = some (r1, r2)) ∧ Aside0 (kq ≤ k1) ∧ Aside0 (Kd.R k93 93 wc w0.heap.size (fun k_ => (P3_ k_ ∨ w.heap.size ≤ k_)) u3 x3_1) ∧ Aside0 (wc.heap[gb346]? = some (.cells #[.string a0_0, .string a0_1, .string a0_2, (.slice A0_3 l0_3.length c0_3), .int .i64 a0_4] 25 (0, 0))) ∧ Aside0 (Kept w wc (fun k_ => P3_ k_)) ∧ Aside0 (Below w0.heap.size w0 wc))
       case first =>
        have H := HC15.out; clear HC15
        by_cases c17 : (bt a0_0 x12_1) = 45
        ·rw [if_pos c17] at H; have c17b0 : ((bt a0_0 x12_1) == 45) = true := beq_iff_eq.mpr c17; have c17b1 : ((bt a0_0 x12_1) != 45) = false := bne_eq_false_iff_eq.mpr c17; clear c17; (first | rw [c17b0] | (simp only [i64_w, i32_w]; rw [c17b0]) | simp only [*, Bool.not_true, Bool.not_false] | skip); have H' := Aside0.mk H; clear H; go_wp2; go_meet
         case rel => exact ⟨_, (a2), zf, H', ⟨by have := HK1.out; first | omega | exact Nat.le_refl _⟩, ⟨zr HO_3.out⟩, ⟨zl BK346.out⟩, ⟨zk HK.out⟩, ⟨zb HB.out⟩⟩
        ·rw [if_neg c17] at H; have c17b0 : ((bt a0_0 x12_1) == 45) = false := beq_eq_false_iff_ne.mpr c17; have c17b1 : ((bt a0_0 x12_1) != 45) = true := bne_iff_ne.mpr c17; (first | rw [c17b0] | (simp only [i64_w, i32_w]; rw [c17b0]) | simp only [*, Bool.not_true, Bool.not_false] | skip); have c18b0 := eq_true (zd : 0 ≤ x12_1)
         by_cases c19 : x12_1 ≤ (wrap64 (x12_1 + 1))
         ·rw [if_pos c19] at H; have c19b0 := eq_true c19; have c19b1 : decide (x12_1 ≤ (wrap64 (x12_1 + 1))) = true := decide_eq_true c19
          by_cases c20 : (wrap64 (x12_1 + 1)) ≤ (a0_0.size : Int)
          ·rw [if_pos c20] at H; have c20b0 := eq_true c20; have c20b1 : decide ((wrap64 (x12_1 + 1)) ≤ (a0_0.size : Int)) = true := decide_eq_true c20
           by_cases c21 : a2.size + (a0_0.extract (x12_1 : Int).toNat ((wrap64 (x12_1 + 1)) : Int).toNat).size ≤ 9223372036854775807
           ·rw [if_pos c21] at H; have c21b0 := eq_true c21; have c21b1 : decide (a2.size + (a0_0.extract (x12_1 : Int).toNat ((wrap64 (x12_1 + 1)) : Int).toNat).size ≤ 9223372036854775807) = true := decide_eq_true c21
            try have c21b2 : (9223372036854775807 < a2.size + (a0_0.extract (x12_1 : Int).toNat ((wrap64 (x12_1 + 1)) : Int).toNat).size) = False := eq_false (Nat.not_lt.2 c21)
            have H' := Aside0.mk H; clear H; have hcz22 := zc5 BK346.out; go_wp2; go_meet
            case rel => exact ⟨_, (a2 ++ (a0_0.extract (x12_1 : Int).toNat ((wrap64 (x12_1 + 1)) : Int).toNat)), zf, H', ⟨by have := HK1.out; first | omega | exact Nat.le_refl _⟩, ⟨zr HO_3.out⟩, ⟨zl BK346.out⟩, ⟨zk HK.out⟩, ⟨zb HB.out⟩⟩
           ·rw [if_neg c21] at H; exact absurd H (by simp)
          ·rw [if_neg c20] at H; exact absurd H (by simp)
         ·rw [if_neg c19] at H; exact absurd H (by simp)
       case rest =>
        clear HC15
        try clear c1
        try clear p1
        try clear q1
        try clear hx1
        try clear c2
        try clear p2
        try clear c5
        try clear c5b0
        try clear c5b1
        try clear p6
        try clear c10
        try clear c11
        try clear c11b0
        try clear c12
        try clear c12b0
        try clear c13
        try clear c13b0
        try clear p14
        try clear q14
        try clear hx14
        try clear c17
        try clear c17b0
        try clear c17b1
        try clear c18
        try clear c18b0
        try clear c19
        try clear c19b0
        try clear c19b1
        try clear c20
        try clear c20b0
        try clear c20b1
        try clear c21
        try clear c21b0
        try clear c21b1
        try clear c21b2
        try clear hcz16
        try clear hcz22
        try clear hcz9
        try clear p14
        try clear p2
        try clear q14
        obtain ⟨kq, x13_14, rfl, HA, HJ14, HO_3, BK346, HK, HB⟩ := hcut
        cases kq with
        | zero => exact absurd HA.out (by simp [impl_Sieve_parts.j1])
        | succ kj14 =>
         have H := HA.out; clear HA; simp only [impl_Sieve_parts.j1] at H
         by_cases c23 : 0 ≤ x12_1
         ·rw [if_pos c23] at H; have c23b0 : decide (0 ≤ x12_1) = true := decide_eq_true c23; clear c23
          by_cases c24 : x12_1 < (a0_1.size : Int)
          ·rw [if_pos c24] at H; have c24b0 : decide (x12_1 < (a0_1.size : Int)) = true := decide_eq_true c24; clear c24
           by_cases c26 : (bt a0_1 x12_1) = 48
           ·rw [if_pos c26] at H; have c26b0 : ((bt a0_1 x12_1) == 48) = true := beq_iff_eq.mpr c26; have c26b1 : ((bt a0_1 x12_1) != 48) = false := bne_eq_false_iff_eq.mpr c26; clear c26; replace H := zi H; obtain ⟨t349, A27, H⟩ := H
            by_cases c28 : x13_14.size + t349.size ≤ 9223372036854775807
            ·rw [if_pos c28] at H; have c28b0 := eq_true c28; have c28b1 : decide (x13_14.size + t349.size ≤ 9223372036854775807) = true := decide_eq_true c28
             try have c28b2 : (9223372036854775807 < x13_14.size + t349.size) = False := eq_false (Nat.not_lt.2 c28)
             replace H := zi H; obtain ⟨t350, A29, H⟩ := H
             by_cases c30 : x3_1.length < 5864062014805
             ·rw [if_pos c30] at H; have LMc30 := Aside0.mk c30; clear c30; obtain ⟨y351, hy351⟩ : ∃ y_ : List (S93), y_ = (x3_1 ++ [(⟨x13_14 ++ t349, t350⟩ : S93)]) := ⟨_, rfl⟩
              replace H : (impl_Sieve_parts.l0 kj14 a2 y351 t348 (wrap64 (x12_1 + 1)) a0_0 a0_1 a0_2 l0_3 a0_4) = some (r1, r2) := by first | (rw [hy351]; with_reducible exact H) | (have H2_ := (Option.bind_some _ _).symm.trans H; rw [hy351]; with_reducible exact H2_) | (have H2_ := (Option.bind_some _ _).symm.trans H; with_reducible exact H2_) | with_reducible exact H | (rw [hy351]; exact H) | exact H
              have Ny351 := Aside0.mk hy351; clear hy351; have H' := Aside0.mk H; clear H; have hcz31 := zc5 BK346.out; have p25 : 0 ≤ (x12_1 : Int) := zd; have q25 : x12_1 < (a0_1.size : Int) := zd; have hx25 := bt_at a0_1 x12_1; replace p25 := eq_true p25; replace q25 := eq_true q25
              try go_wp2
              replace HO_3 := z0 (Kd.R_drew HO_3.out); replace BK346 := z0 (blk_drew BK346.out); replace HK := z0 (Kept.drew HK.out); replace HB := z0 (below_drew1 HB.out); refine start_ (n := 13) (S := fun w' => w'.cell? ⟨gb346, 0, none⟩ = some (.string a0_0) ∧ w'.cell? ⟨gb346, 1, none⟩ = some (.string a0_1) ∧ w'.cell? ⟨gb346, 2, none⟩ = some (.string a0_2) ∧ w'.cell? ⟨gb346, 3, none⟩ = some (.slice A0_3 l0_3.length c0_3) ∧ w'.cell? ⟨gb346, 4, none⟩ = some (.int .i64 a0_4)) (ds := []) (fb 13 0) (by kernel_rfl) rfl rfl ⟨(blk_cell BK346.out 0).trans rfl, (blk_cell BK346.out 1).trans rfl, (blk_cell BK346.out 2).trans rfl, (blk_cell BK346.out 3).trans rfl, (blk_cell BK346.out 4).trans rfl⟩ (fun hHeld => ?_); refine with_tabW impl_Sieve_parts.tab11 impl_Sieve_parts.bits11 (fun HT_ HW_ => ?_); generalize wc.drew = w32 at HO_3 BK346 HK HB hHeld ⊢; refine pure_ (i := 0) (N := some 52) (v := ?_) (a' := ?_) (fb 13 1) rfl rfl (any_of HT_.out (by kernel_rfl)) (fun _ _ _ h => h) (Or.inl ⟨by rfl, ?_⟩) ?_ ?_; rotate_left
              ·intro w'
               go_simp
               with_reducible rfl
              rotate_left
              ·simp only [Act.put, List.setIfInBounds_toArray, List.set_cons_zero, List.set_cons_succ, i64_w, i32_w]
               rfl
              refine pure_ (i := 1) (N := some 53) (v := ?_) (a' := ?_) (fb 13 3) rfl rfl (any_of HT_.out (by kernel_rfl)) (fun _ _ _ h => h) (Or.inl ⟨by rfl, ?_⟩) ?_ ?_; rotate_left
              ·intro w'
               go_simp
               with_reducible rfl
              rotate_left
              ·simp only [Act.put, List.setIfInBounds_toArray, List.set_cons_zero, List.set_cons_succ, i64_w, i32_w]
               rfl
              refine pure_ (i := 3) (N := some 55) (v := ?_) (a' := ?_) (fb 13 11) rfl rfl (any_of HT_.out (by kernel_rfl)) (fun _ _ _ h => h) (Or.inl ⟨by rfl, ?_⟩) ?_ ?_; rotate_left
              ·intro w'
               go_simp
               with_reducible rfl
              rotate_left
              ·simp only [Act.put, List.setIfInBounds_toArray, List.set_cons_zero, List.set_cons_succ, i64_w, i32_w]
               rfl
              refine pure_ (i := 7) (N := some 59) (v := ?_) (a' := ?_) (fb 13 139) rfl rfl (any_of HT_.out (by kernel_rfl)) (fun _ _ _ h => h) (Or.inl ⟨by rfl, ?_⟩) ?_ ?_; rotate_left
              ·intro w'
               go_simp
               with_reducible rfl
              rotate_left
              ·simp only [Act.put, List.setIfInBounds_toArray, List.set_cons_zero, List.set_cons_succ, i64_w, i32_w]
               rfl
              refine take_ (i := 2) (N := some 54) (v := ?_) (a' := ?_) (fb 13 143) rfl rfl (take_ofW HT_.out HW_.out (by kernel_rfl)) (fun _ _ _ h => h) (Or.inl ⟨by rfl, ?_⟩) hHeld ?_ ?_; rotate_left
              ·rintro w' ⟨s0, s1, s2, s3, s4⟩
               go_simp
               with_reducible rfl
              rotate_left
              ·simp only [Act.put, List.setIfInBounds_toArray, List.set_cons_zero, List.set_cons_succ, i64_w, i32_w]
               rfl
              refine take_ (i := 6) (N := some 58) (v := ?_) (a' := ?_) (fb 13 207) rfl rfl (take_ofW HT_.out HW_.out (by kernel_rfl)) (fun _ _ _ h => h) (Or.inl ⟨by rfl, ?_⟩) hHeld ?_ ?_; rotate_left
              ·rintro w' ⟨s0, s1, s2, s3, s4⟩
               go_simp
               with_reducible rfl
              rotate_left
              ·simp only [Act.put, List.setIfInBounds_toArray, List.set_cons_zero, List.set_cons_succ, i64_w, i32_w]
               rfl
              refine one_ (i := 4) (N := some 56) (fb 13 223) rfl rfl (one_of HT_.out (by kernel_rfl)) (by decide) (fun K hK => ?_); refine goes_ Try.func106 (by kernel_rfl) rfl #[.agg #[.string a0_0, .string a0_1, .string a0_2, .slice A0_3 l0_3.length c0_3, .int .i64 a0_4], .int .i64 x12_1] (by rfl) rfl rfl (by (try simp only [List.map_toArray, List.map_cons, List.map_nil]); first | done | rfl | (simp only [List.length_drop, List.length_take]; rfl)) ?_
              with_reducible refine (impl_Sieve_rest.calls a0_0 a0_1 a0_2 _ _ l0_3 a0_4 x12_1 t349 _ ?side1 ?side2 A27.out).mono ?_
              (case side1 => exact Kd.C_kept_now HR0_3.out (zk HK.out)); (case side2 => exact HC0_3.out); rintro e w33 ⟨rfl, hb⟩; refine ⟨_, rfl, ?_⟩; replace HO_3 := zA HO_3 hb; replace BK346 := zK BK346 hb; replace HK := z0 (Kept.below (zk HK.out) hb); replace HB := zH HB hb; (try clear hb); refine hK.out _ _ ⟨(blk_cell BK346.out 0).trans rfl, (blk_cell BK346.out 1).trans rfl, (blk_cell BK346.out 2).trans rfl, (blk_cell BK346.out 3).trans rfl, (blk_cell BK346.out 4).trans rfl⟩ (fun hHeld => ?_); clear hK K; refine norm_ (a' := ?_) ?_ ?_; rotate_left
              ·show Act.put _ (some 56) _ = _
               simp only [Act.put, List.setIfInBounds_toArray, List.set_cons_zero, List.set_cons_succ, i64_w, i32_w]
               rfl
              refine pure_ (i := 5) (N := some 57) (v := ?_) (a' := ?_) (fb 13 255) rfl rfl (any_of HT_.out (by kernel_rfl)) (fun _ _ _ h => h) (Or.inl ⟨by rfl, ?_⟩) ?_ ?_; rotate_left
              ·intro w'
               go_simp
               with_reducible rfl
              rotate_left
              ·simp only [Act.put, List.setIfInBounds_toArray, List.set_cons_zero, List.set_cons_succ, i64_w, i32_w]
               rfl
              refine one_ (i := 8) (N := some 60) (fb 13 511) rfl rfl (one_of HT_.out (by kernel_rfl)) (by decide) (fun K hK => ?_); refine goes_ Try.func105 (by kernel_rfl) rfl #[.agg #[.string a0_0, .string a0_1, .string a0_2, .slice A0_3 l0_3.length c0_3, .int .i64 a0_4], .int .i64 x12_1] (by rfl) rfl rfl (by (try simp only [List.map_toArray, List.map_cons, List.map_nil]); first | done | rfl | (simp only [List.length_drop, List.length_take]; rfl)) ?_
              with_reducible refine (impl_Sieve_complete.calls a0_0 a0_1 a0_2 _ _ l0_3 a0_4 x12_1 t350 _ ?side1 ?side2 A29.out).mono ?_
              (case side1 => exact Kd.C_kept_now HR0_3.out (zk HK.out)); (case side2 => exact HC0_3.out); rintro e w34 ⟨rfl, hb⟩; refine ⟨_, rfl, ?_⟩; replace HO_3 := zA HO_3 hb; replace BK346 := zK BK346 hb; replace HK := z0 (Kept.below (zk HK.out) hb); replace HB := zH HB hb; (try clear hb); refine hK.out _ _ ⟨(blk_cell BK346.out 0).trans rfl, (blk_cell BK346.out 1).trans rfl, (blk_cell BK346.out 2).trans rfl, (blk_cell BK346.out 3).trans rfl, (blk_cell BK346.out 4).trans rfl⟩ (fun hHeld => ?_); clear hK K; refine norm_ (a' := ?_) ?_ ?_; rotate_left
              ·show Act.put _ (some 60) _ = _
               simp only [Act.put, List.setIfInBounds_toArray, List.set_cons_zero, List.set_cons_succ, i64_w, i32_w]
               rfl
              refine pure_ (i := 9) (N := some 61) (v := ?_) (a' := ?_) (fb 13 1023) rfl rfl (any_of HT_.out (by kernel_rfl)) (fun _ _ _ h => h) (Or.inl ⟨by rfl, ?_⟩) ?_ ?_; rotate_left
              ·intro w'
               go_simp
               with_reducible rfl
              rotate_left
              ·simp only [Act.put, List.setIfInBounds_toArray, List.set_cons_zero, List.set_cons_succ, i64_w, i32_w]
               rfl
              refine one_ (i := 10) (N := some 62) (fb 13 2047) rfl rfl (one_of HT_.out (by kernel_rfl)) (by decide) (fun K hK => ?_); refine value_ (w1 := ?_) (v := ?_) (by rfl) rfl ?_ ?_; rotate_left 2
              ·go_simp
               constructor
               ·rfl
               ·rfl
              refine hK.out _ _ ⟨(blk_cell (blk_alloc BK346.out _) 0).trans rfl, (blk_cell (blk_alloc BK346.out _) 1).trans rfl, (blk_cell (blk_alloc BK346.out _) 2).trans rfl, (blk_cell (blk_alloc BK346.out _) 3).trans rfl, (blk_cell (blk_alloc BK346.out _) 4).trans rfl⟩ (fun hHeld => ?_); clear hK K; refine norm_ (a' := ?_) ?_ ?_; rotate_left
              ·show Act.put _ (some 62) _ = _
               simp only [Act.put, List.setIfInBounds_toArray, List.set_cons_zero, List.set_cons_succ, i64_w, i32_w]
               rfl
              refine one_ (i := 11) (N := some 63) (fb 13 4095) rfl rfl (one_of HT_.out (by kernel_rfl)) (by decide) (fun K hK => ?_); refine Kd.R_append_step k93 (w0 := w0) w0.heap.size (by rfl) (.tmp 52) (.tmp 62) 88 93 (.agg #[(.string ⟨#[]⟩), (.bool false)]) 24 rfl Try.underlying88 info93 rfl (by decide) (by omega) u3 x3_1 (⟨x13_14 ++ t349, t350⟩ : S93) [.string (x13_14 ++ t349), .bool t350] (fun k_ => (P3_ k_ ∨ w.heap.size ≤ k_)) (fun _ => False) rfl rfl ?aP (fun _ hk => hk.elim) ?aF ?aO ?aB ?aS ?aL ?_; (case aP => exact k93_mkM _ _ _ (⟨x13_14 ++ t349, t350⟩ : S93)); (case aB => exact (zb HB.out)); (case aF => exact (fun k_ hk => (.inr (Nat.le_trans (by first | exact HK.out.1 | exact (show Kept w _ (fun k_ => P3_ k_) from zk HK.out).1) hk)))); (case aO => exact (zr HO_3.out)); (case aS => exact (below_size (zb HB.out))); (case aL => have := LMc30.out; omega); intro v352 w35 ho hb hg hat; rw [← Ny351.out] at ho; replace BK346 := z0 (blk_grown (zl BK346.out) hg (Kd.R_ne HO_3.out BK346.out (by decide))); replace HB := z0 (hb); replace HK := z0 (Kept.of_grown (S := (fun k_ => P3_ k_)) hg (zk HK.out) (fun k_ e_ => (HO_3.out.1 k_ e_))); have HO353 := z0 (ho); clear HO_3; clear ho hb hg hat; refine hK.out _ _ ⟨(blk_cell BK346.out 0).trans rfl, (blk_cell BK346.out 1).trans rfl, (blk_cell BK346.out 2).trans rfl, (blk_cell BK346.out 3).trans rfl, (blk_cell BK346.out 4).trans rfl⟩ (fun hHeld => ?_); clear hK K; refine norm_ (a' := ?_) ?_ ?_; rotate_left
              ·show Act.put _ (some 63) _ = _
               simp only [Act.put, List.setIfInBounds_toArray, List.set_cons_zero, List.set_cons_succ, i64_w, i32_w]
               rfl
              refine pure_ (i := 12) (N := some 3) (v := ?_) (a' := ?_) (fb 13 8191) rfl rfl (any_of HT_.out (by kernel_rfl)) (fun _ _ _ h => h) (Or.inl ⟨by rfl, ?_⟩) ?_ ?_; rotate_left
              ·intro w'
               go_simp
               with_reducible rfl
              rotate_left
              ·simp only [Act.put, List.setIfInBounds_toArray, List.set_cons_zero, List.set_cons_succ, i64_w, i32_w]
               rfl
              refine done_ (done_of HT_.out (by kernel_rfl)) ?_
              try go_wp2
              go_roundg kj14
              case measure => have := HK1.out; have := HJ14.out; omega
              case rel => exact ⟨(y351), (wrap64 (x12_1 + 1)), zf, H', ⟨by have := HK1.out; have := HJ14.out; omega⟩, ⟨zr HO353.out⟩, ⟨zl BK346.out⟩, ⟨zk HK.out⟩, ⟨zb HB.out⟩⟩
             ·rw [if_neg c30] at H; exact absurd H (by simp)
            ·rw [if_neg c28] at H; exact absurd H (by simp)
           ·rw [if_neg c26] at H; have c26b0 : ((bt a0_1 x12_1) == 48) = false := beq_eq_false_iff_ne.mpr c26; have c26b1 : ((bt a0_1 x12_1) != 48) = true := bne_iff_ne.mpr c26; replace H := zi H; obtain ⟨t354, A36, H⟩ := H; replace H := zi H; obtain ⟨⟨t355, t356⟩, A37, H⟩ := H; (try dsimp only at H); have HC38 := Aside0.mk H; clear H; have hcz39 := zc5 BK346.out; have p25 : 0 ≤ (x12_1 : Int) := zd; have q25 : x12_1 < (a0_1.size : Int) := zd; have hx25 := bt_at a0_1 x12_1; replace p25 := eq_true p25; replace q25 := eq_true q25
            try go_wp2
            replace HO_3 := z0 (Kd.R_drew HO_3.out); replace BK346 := z0 (blk_drew BK346.out); replace HK := z0 (Kept.drew HK.out); replace HB := z0 (below_drew1 HB.out); refine start_ (n := 10) (S := fun w' => w'.cell? ⟨gb346, 0, none⟩ = some (.string a0_0) ∧ w'.cell? ⟨gb346, 1, none⟩ = some (.string a0_1) ∧ w'.cell? ⟨gb346, 2, none⟩ = some (.string a0_2) ∧ w'.cell? ⟨gb346, 3, none⟩ = some (.slice A0_3 l0_3.length c0_3) ∧ w'.cell? ⟨gb346, 4, none⟩ = some (.int .i64 a0_4)) (ds := []) (fb 10 0) (by kernel_rfl) rfl rfl ⟨(blk_cell BK346.out 0).trans rfl, (blk_cell BK346.out 1).trans rfl, (blk_cell BK346.out 2).trans rfl, (blk_cell BK346.out 3).trans rfl, (blk_cell BK346.out 4).trans rfl⟩ (fun hHeld => ?_); refine with_tabW impl_Sieve_parts.tab12 impl_Sieve_parts.bits12 (fun HT_ HW_ => ?_); generalize wc.drew = w40 at HO_3 BK346 HK HB hHeld ⊢; refine pure_ (i := 2) (N := some 67) (v := ?_) (a' := ?_) (fb 10 4) rfl rfl (any_of HT_.out (by kernel_rfl)) (fun _ _ _ h => h) (Or.inl ⟨by rfl, ?_⟩) ?_ ?_; rotate_left
            ·intro w'
             go_simp
             with_reducible rfl
            rotate_left
            ·simp only [Act.put, List.setIfInBounds_toArray, List.set_cons_zero, List.set_cons_succ, i64_w, i32_w]
             rfl
            refine take_ (i := 0) (N := some 65) (v := ?_) (a' := ?_) (fb 10 5) rfl rfl (take_ofW HT_.out HW_.out (by kernel_rfl)) (fun _ _ _ h => h) (Or.inl ⟨by rfl, ?_⟩) hHeld ?_ ?_; rotate_left
            ·rintro w' ⟨s0, s1, s2, s3, s4⟩
             go_simp
             with_reducible rfl
            rotate_left
            ·simp only [Act.put, List.setIfInBounds_toArray, List.set_cons_zero, List.set_cons_succ, i64_w, i32_w]
             rfl
            refine take_ (i := 1) (N := some 66) (v := ?_) (a' := ?_) (fb 10 7) rfl rfl (take_ofW HT_.out HW_.out (by kernel_rfl)) (fun _ _ _ h => h) (Or.inl ⟨by rfl, ?_⟩) hHeld ?_ ?_; rotate_left
            ·rintro w' ⟨s0, s1, s2, s3, s4⟩
             go_simp
             with_reducible rfl
            rotate_left
            ·simp only [Act.put, List.setIfInBounds_toArray, List.set_cons_zero, List.set_cons_succ, i64_w, i32_w]
             rfl
            refine one_ (i := 3) (N := some 68) (fb 10 15) rfl rfl (one_of HT_.out (by kernel_rfl)) (by decide) (fun K hK => ?_); refine goes_ Try.func104 (by kernel_rfl) rfl #[.agg #[.string a0_0, .string a0_1, .string a0_2, .slice A0_3 l0_3.length c0_3, .int .i64 a0_4], .int .i64 x12_1] (by rfl) rfl rfl (by (try simp only [List.map_toArray, List.map_cons, List.map_nil]); first | done | rfl | (simp only [List.length_drop, List.length_take]; rfl)) ?_
            with_reducible refine (impl_Sieve_node.calls a0_0 a0_1 a0_2 _ _ l0_3 a0_4 x12_1 t354 _ ?side1 ?side2 A36.out).mono ?_
            (case side1 => exact Kd.C_kept_now HR0_3.out (zk HK.out)); (case side2 => exact HC0_3.out); rintro e w41 ⟨rfl, hb⟩; refine ⟨_, rfl, ?_⟩; replace HO_3 := zA HO_3 hb; replace BK346 := zK BK346 hb; replace HK := z0 (Kept.below (zk HK.out) hb); replace HB := zH HB hb; (try clear hb); refine hK.out _ _ ⟨(blk_cell BK346.out 0).trans rfl, (blk_cell BK346.out 1).trans rfl, (blk_cell BK346.out 2).trans rfl, (blk_cell BK346.out 3).trans rfl, (blk_cell BK346.out 4).trans rfl⟩ (fun hHeld => ?_); clear hK K; refine norm_ (a' := ?_) ?_ ?_; rotate_left
            ·show Act.put _ (some 68) _ = _
             simp only [Act.put, List.setIfInBounds_toArray, List.set_cons_zero, List.set_cons_succ, i64_w, i32_w]
             rfl
            refine one_ (i := 4) (N := some 69) (fb 10 31) rfl rfl (one_of HT_.out (by kernel_rfl)) (by decide) (fun K hK => ?_); refine goes_ Try.func102 (by kernel_rfl) rfl #[.agg #[.string a0_0, .string a0_1, .string a0_2, .slice A0_3 l0_3.length c0_3, .int .i64 a0_4], .int .i64 t354] (by rfl) rfl rfl (by (try simp only [List.map_toArray, List.map_cons, List.map_nil]); first | done | rfl | (simp only [List.length_drop, List.length_take]; rfl)) ?_
            with_reducible refine (impl_Sieve_branches.calls kj14 a0_0 a0_1 a0_2 _ _ l0_3 a0_4 t354 t355 t356 _ ?side1 ?side2 A37.out).mono ?_
            (case side1 => exact Kd.C_kept_now HR0_3.out (zk HK.out)); (case side2 => exact HC0_3.out); rintro e w42 ⟨rfl, hb⟩; refine ⟨_, rfl, ?_⟩; replace HO_3 := zA HO_3 hb; replace BK346 := zK BK346 hb; replace HK := z0 (Kept.below (zk HK.out) hb); replace HB := zH HB hb; (try clear hb); refine hK.out _ _ ⟨(blk_cell BK346.out 0).trans rfl, (blk_cell BK346.out 1).trans rfl, (blk_cell BK346.out 2).trans rfl, (blk_cell BK346.out 3).trans rfl, (blk_cell BK346.out 4).trans rfl⟩ (fun hHeld => ?_); clear hK K; refine norm_ (a' := ?_) ?_ ?_; rotate_left
            ·show Act.put _ (some 69) _ = _
             simp only [Act.put, List.setIfInBounds_toArray, List.set_cons_zero, List.set_cons_succ, i64_w, i32_w]
             rfl
            refine pure_ (i := 5) (N := some 64) (v := ?_) (a' := ?_) (fb 10 63) rfl rfl (any_of HT_.out (by kernel_rfl)) (fun _ _ _ h => h) (Or.inl ⟨by rfl, ?_⟩) ?_ ?_; rotate_left
            ·intro w'
             go_simp
             with_reducible rfl
            rotate_left
            ·simp only [Act.put, List.setIfInBounds_toArray, List.set_cons_zero, List.set_cons_succ, i64_w, i32_w]
             rfl
            refine pure_ (i := 6) (N := some 70) (v := ?_) (a' := ?_) (fb 10 127) rfl rfl (any_of HT_.out (by kernel_rfl)) (fun _ _ _ h => h) (Or.inl ⟨by rfl, ?_⟩) ?_ ?_; rotate_left
            ·intro w'
             go_simp
             with_reducible rfl
            rotate_left
            ·simp only [Act.put, List.setIfInBounds_toArray, List.set_cons_zero, List.set_cons_succ, i64_w, i32_w]
             rfl
            refine pure_ (i := 7) (N := some 71) (v := ?_) (a' := ?_) (fb 10 255) rfl rfl (any_of HT_.out (by kernel_rfl)) (fun _ _ _ h => h) (Or.inl ⟨by rfl, ?_⟩) ?_ ?_; rotate_left
            ·intro w'
             go_simp
             with_reducible rfl
            rotate_left
            ·simp only [Act.put, List.setIfInBounds_toArray, List.set_cons_zero, List.set_cons_succ, i64_w, i32_w]
             rfl
            refine pure_ (i := 8) (N := some 14) (v := ?_) (a' := ?_) (fb 10 511) rfl rfl (any_of HT_.out (by kernel_rfl)) (fun _ _ _ h => h) (Or.inl ⟨by rfl, ?_⟩) ?_ ?_; rotate_left
            ·intro w'
             go_simp
             with_reducible rfl
            rotate_left
            ·simp only [Act.put, List.setIfInBounds_toArray, List.set_cons_zero, List.set_cons_succ, i64_w, i32_w]
             rfl
            refine pure_ (i := 9) (N := some 15) (v := ?_) (a' := ?_) (fb 10 1023) rfl rfl (any_of HT_.out (by kernel_rfl)) (fun _ _ _ h => h) (Or.inl ⟨by rfl, ?_⟩) ?_ ?_; rotate_left
            ·intro w'
             go_simp
             with_reducible rfl
            rotate_left
            ·simp only [Act.put, List.setIfInBounds_toArray, List.set_cons_zero, List.set_cons_succ, i64_w, i32_w]
             rfl
            refine done_ (done_of HT_.out (by kernel_rfl)) ?_
            go_upto_region 13 with (fail)
            go_cut [81] (fun v81 wc => ∃ (kq : Nat) (x81_37 : Bool), v81 = .bool x81_37 ∧ Aside0 (impl_Sieve_parts.j2 kq a2 x3_1 t348 x12_1 x13_14 x81_37 a0_0 a0_1 a0_2 l0_3 a0_4 = some (r1, r2)) ∧ Aside0 (kq ≤ kj14) ∧ Aside0 (Kd.R k93 93 wc w0.heap.size (fun k_ => (P3_ k_ ∨ w.heap.size ≤ k_)) u3 x3_1) ∧ Aside0 (wc.heap[gb346]? = some (.cells #[.string a0_0, .string a0_1, .string a0_2, (.slice A0_3 l0_3.length c0_3), .int .i64 a0_4] 25 (0, 0))) ∧ Aside0 (Kept w wc (fun k_ => P3_ k_)) ∧ Aside0 (Below w0.heap.size w0 wc))
            case first =>
             have H := HC38.out; clear HC38
             by_cases c43 : t355 ≤ x12_1
             ·rw [if_pos c43] at H; have c43b0 : decide (t355 ≤ x12_1) = true := decide_eq_true c43; clear c43; (first | rw [c43b0] | (simp only [i64_w, i32_w]; rw [c43b0]) | simp only [*, Bool.not_true, Bool.not_false] | skip); have H' := Aside0.mk H; clear H; go_wp2; go_meet
              case rel => exact ⟨_, (true), zf, H', ⟨by have := HK1.out; have := HJ14.out; first | omega | exact Nat.le_refl _⟩, ⟨zr HO_3.out⟩, ⟨zl BK346.out⟩, ⟨zk HK.out⟩, ⟨zb HB.out⟩⟩
             ·rw [if_neg c43] at H; have c43b0 : decide (t355 ≤ x12_1) = false := decide_eq_false c43; clear c43; (first | rw [c43b0] | (simp only [i64_w, i32_w]; rw [c43b0]) | simp only [*, Bool.not_true, Bool.not_false] | skip)
              by_cases c44 : x12_1 < (a0_0.size : Int)
              ·rw [if_pos c44] at H; have c44b0 : decide (x12_1 < (a0_0.size : Int)) = true := decide_eq_true c44; clear c44; have H' := Aside0.mk H; clear H; have hcz46 := zc5 BK346.out; have p45 : 0 ≤ (x12_1 : Int) := zd; have q45 : x12_1 < (a0_0.size : Int) := zd; have hx45 := bt_at a0_0 x12_1; replace p45 := eq_true p45; replace q45 := eq_true q45; go_wp2; go_meet
               case rel => exact ⟨_, (((bt a0_0 x12_1) == 45)), zf, H', ⟨by have := HK1.out; have := HJ14.out; first | omega | exact Nat.le_refl _⟩, ⟨zr HO_3.out⟩, ⟨zl BK346.out⟩, ⟨zk HK.out⟩, ⟨zb HB.out⟩⟩
              ·rw [if_neg c44] at H; exact absurd H (by simp)
            case rest =>
             clear HC38
             try clear c1
             try clear p1
             try clear q1
             try clear hx1
             try clear c2
             try clear p2
             try clear q2
             try clear hx2
             try clear c3
             try clear c4
             try clear p4
             try clear q4
             try clear hx4
             try clear c5
             try clear c5b0
             try clear c5b1
             try clear p6
             try clear c10
             try clear c11
             try clear c11b0
             try clear c12
             try clear c12b0
             try clear c13
             try clear c13b0
             try clear p14
             try clear q14
             try clear hx14
             try clear c17
             try clear c17b0
             try clear c17b1
             try clear c18
             try clear c18b0
             try clear c19
             try clear c19b0
             try clear c19b1
             try clear c20
             try clear c20b0
             try clear c20b1
             try clear c21
             try clear c21b0
             try clear c21b1
             try clear c21b2
             try clear c23
             try clear c23b0
             try clear c24
             try clear c24b0
             try clear p25
             try clear q25
             try clear hx25
             try clear c26
             try clear c26b0
             try clear c26b1
             try clear c28
             try clear c28b0
             try clear c28b1
             try clear c28b2
             try clear c30
             try clear c43
             try clear c43b0
             try clear c44
             try clear c44b0
             try clear p45
             try clear q45
             try clear hx45
             try clear hcz16
             try clear hcz22
             try clear hcz31
             try clear hcz39
             try clear hcz46
             try clear hcz9
             try clear p1
             try clear p14
             try clear p2
             try clear p25
             try clear p45
             try clear p6
             try clear q1
             try clear q14
             try clear q25
             try clear q45
             obtain ⟨kq, x81_37, rfl, HA, HJ37, HO_3, BK346, HK, HB⟩ := hcut
             cases kq with
             | zero => exact absurd HA.out (by simp [impl_Sieve_parts.j2])
             | succ kj37 =>
              have H := HA.out; clear HA; simp only [impl_Sieve_parts.j2] at H
              by_cases c47 : x81_37 = true
              ·subst c47
               have H1 : (some (([] : List (S93)), false)) = some (r1, r2) := by rw [if_pos rfl] at H; exact H
               clear H; have H := H1; clear H1; simp only [Option.some.injEq, Prod.mk.injEq] at H; obtain ⟨rfl, rfl⟩ := H; go_wp2
               go_ret2
               exact ⟨_, ze, by first | exact Kd.R_nil _ _ _ _ _ | exact Kd.N_nil _ _ _ _ _ | exact Kd.V_nil _ _ _ _ _ | exact Kd.Q_nil _ _ _ _ _ | exact Kd.S_nil _ _ _ _ _, zb HB.out, zk HK.out⟩
              ·replace c47 := Bool.eq_false_iff.mpr c47; subst c47
               have H1 : ((impl_Sieve_node.f a0_0 a0_1 a0_2 l0_3 a0_4 x12_1).bind fun t357 => ((impl_Sieve_parts.f kj37 a0_0 a0_1 a0_2 l0_3 a0_4 t357 x13_14 x3_1).bind fun bt358 => (if bt358.2 = true then (impl_Sieve_parts.l0 kj37 a2 bt358.1 t348 (wrap64 (x12_1 + 1)) a0_0 a0_1 a0_2 l0_3 a0_4) else (some (([] : List (S93)), false))))) = some (r1, r2) := by rw [if_neg (show ¬ (false = true) by decide)] at H; exact H
               clear H; have H := H1; clear H1; replace H := zi H; obtain ⟨t357, A48, H⟩ := H; replace H := zi H; obtain ⟨⟨t358, t361⟩, A49, H⟩ := H; (try dsimp only at H)
               by_cases c50 : t361 = true
               ·subst c50
                have H1 : (impl_Sieve_parts.l0 kj37 a2 t358 t348 (wrap64 (x12_1 + 1)) a0_0 a0_1 a0_2 l0_3 a0_4) = some (r1, r2) := by rw [if_pos rfl] at H; exact H
                clear H; have H := H1; clear H1; have H' := Aside0.mk H; clear H
                try go_wp2
                replace HO_3 := z0 (Kd.R_drew HO_3.out); replace BK346 := z0 (blk_drew BK346.out); replace HK := z0 (Kept.drew HK.out); replace HB := z0 (below_drew1 HB.out); refine start_ (n := 12) (S := fun w' => w'.cell? ⟨gb346, 0, none⟩ = some (.string a0_0) ∧ w'.cell? ⟨gb346, 1, none⟩ = some (.string a0_1) ∧ w'.cell? ⟨gb346, 2, none⟩ = some (.string a0_2) ∧ w'.cell? ⟨gb346, 3, none⟩ = some (.slice A0_3 l0_3.length c0_3) ∧ w'.cell? ⟨gb346, 4, none⟩ = some (.int .i64 a0_4)) (ds := []) (fb 12 0) (by kernel_rfl) rfl rfl ⟨(blk_cell BK346.out 0).trans rfl, (blk_cell BK346.out 1).trans rfl, (blk_cell BK346.out 2).trans rfl, (blk_cell BK346.out 3).trans rfl, (blk_cell BK346.out 4).trans rfl⟩ (fun hHeld => ?_); refine with_tabW impl_Sieve_parts.tab15 impl_Sieve_parts.bits15 (fun HT_ HW_ => ?_); generalize wc.drew = w51 at HO_3 BK346 HK HB hHeld ⊢; refine pure_ (i := 2) (N := some 85) (v := ?_) (a' := ?_) (fb 12 4) rfl rfl (any_of HT_.out (by kernel_rfl)) (fun _ _ _ h => h) (Or.inl ⟨by rfl, ?_⟩) ?_ ?_; rotate_left
                ·intro w'
                 go_simp
                 with_reducible rfl
                rotate_left
                ·simp only [Act.put, List.setIfInBounds_toArray, List.set_cons_zero, List.set_cons_succ, i64_w, i32_w]
                 rfl
                refine pure_ (i := 4) (N := some 87) (v := ?_) (a' := ?_) (fb 12 20) rfl rfl (any_of HT_.out (by kernel_rfl)) (fun _ _ _ h => h) (Or.inl ⟨by rfl, ?_⟩) ?_ ?_; rotate_left
                ·intro w'
                 go_simp
                 with_reducible rfl
                rotate_left
                ·simp only [Act.put, List.setIfInBounds_toArray, List.set_cons_zero, List.set_cons_succ, i64_w, i32_w]
                 rfl
                refine pure_ (i := 5) (N := some 88) (v := ?_) (a' := ?_) (fb 12 52) rfl rfl (any_of HT_.out (by kernel_rfl)) (fun _ _ _ h => h) (Or.inl ⟨by rfl, ?_⟩) ?_ ?_; rotate_left
                ·intro w'
                 go_simp
                 with_reducible rfl
                rotate_left
                ·simp only [Act.put, List.setIfInBounds_toArray, List.set_cons_zero, List.set_cons_succ, i64_w, i32_w]
                 rfl
                refine take_ (i := 0) (N := some 83) (v := ?_) (a' := ?_) (fb 12 53) rfl rfl (take_ofW HT_.out HW_.out (by kernel_rfl)) (fun _ _ _ h => h) (Or.inl ⟨by rfl, ?_⟩) hHeld ?_ ?_; rotate_left
                ·rintro w' ⟨s0, s1, s2, s3, s4⟩
                 go_simp
                 with_reducible rfl
                rotate_left
                ·simp only [Act.put, List.setIfInBounds_toArray, List.set_cons_zero, List.set_cons_succ, i64_w, i32_w]
                 rfl
                refine take_ (i := 1) (N := some 84) (v := ?_) (a' := ?_) (fb 12 55) rfl rfl (take_ofW HT_.out HW_.out (by kernel_rfl)) (fun _ _ _ h => h) (Or.inl ⟨by rfl, ?_⟩) hHeld ?_ ?_; rotate_left
                ·rintro w' ⟨s0, s1, s2, s3, s4⟩
                 go_simp
                 with_reducible rfl
                rotate_left
                ·simp only [Act.put, List.setIfInBounds_toArray, List.set_cons_zero, List.set_cons_succ, i64_w, i32_w]
                 rfl
                refine one_ (i := 3) (N := some 86) (fb 12 63) rfl rfl (one_of HT_.out (by kernel_rfl)) (by decide) (fun K hK => ?_); refine goes_ Try.func104 (by kernel_rfl) rfl #[.agg #[.string a0_0, .string a0_1, .string a0_2, .slice A0_3 l0_3.length c0_3, .int .i64 a0_4], .int .i64 x12_1] (by rfl) rfl rfl (by (try simp only [List.map_toArray, List.map_cons, List.map_nil]); first | done | rfl | (simp only [List.length_drop, List.length_take]; rfl)) ?_
                with_reducible refine (impl_Sieve_node.calls a0_0 a0_1 a0_2 _ _ l0_3 a0_4 x12_1 t357 _ ?side1 ?side2 A48.out).mono ?_
                (case side1 => exact Kd.C_kept_now HR0_3.out (zk HK.out)); (case side2 => exact HC0_3.out); rintro e w52 ⟨rfl, hb⟩; refine ⟨_, rfl, ?_⟩; replace HO_3 := zA HO_3 hb; replace BK346 := zK BK346 hb; replace HK := z0 (Kept.below (zk HK.out) hb); replace HB := zH HB hb; (try clear hb); obtain ⟨Ao53, co53, eo53⟩ := Kd.R_slice HO_3.out; (first | subst eo53 | (injection eo53 with f1_ f2_ f3_; have f4_ := f1_.symm; have f5_ := f3_.symm; clear f1_ f2_ f3_; subst f4_; subst f5_)); refine hK.out _ _ ⟨(blk_cell BK346.out 0).trans rfl, (blk_cell BK346.out 1).trans rfl, (blk_cell BK346.out 2).trans rfl, (blk_cell BK346.out 3).trans rfl, (blk_cell BK346.out 4).trans rfl⟩ (fun hHeld => ?_); clear hK K; refine norm_ (a' := ?_) ?_ ?_; rotate_left
                ·show Act.put _ (some 86) _ = _
                 simp only [Act.put, List.setIfInBounds_toArray, List.set_cons_zero, List.set_cons_succ, i64_w, i32_w]
                 rfl
                refine one_ (i := 6) (N := some 89) (fb 12 127) rfl rfl (one_of HT_.out (by kernel_rfl)) (by decide) (fun K hK => ?_); refine goes_ Try.func118 (by kernel_rfl) rfl #[.agg #[.string a0_0, .string a0_1, .string a0_2, .slice A0_3 l0_3.length c0_3, .int .i64 a0_4], .int .i64 t357, .string x13_14, .slice Ao53 x3_1.length co53] (by rfl) rfl rfl (by (try simp only [List.map_toArray, List.map_cons, List.map_nil]); first | done | rfl | (simp only [List.length_drop, List.length_take]; rfl)) ?_
                with_reducible refine (ih kj37 (by have := HK1.out; have := HJ14.out; have := HJ37.out; omega) a0_0 a0_1 a0_2 _ _ l0_3 a0_4 t357 x13_14 (fun k_ => some k_ = (.slice Ao53 x3_1.length co53 : Value).ownBlock) (.slice Ao53 x3_1.length co53) x3_1 t358 true w0 _ ?side1 ?side2 ?side3 ?side4 A49.out).mono ?_
                (case side1 => repeat (first | (with_reducible first | exact HB.out | apply below_alloc | apply pw_below_drewN | apply below_drew1 | refine below_set ?_ GE346.out) | exact HB.out)); (case side2 => exact Kd.C_kept_call HR0_3.out (zk HK.out) (fun k_ hs_ => (fun e_ => (HO_3.out.1 k_ e_.symm)) hs_)); (case side3 => exact HC0_3.out); (case side4 => exact Kd.R_tight rfl HO_3.out); rintro e w54 ⟨v359, rfl, ho0, hb, hkp⟩; refine ⟨_, rfl, ?_⟩; replace BK346 := z0 (blk_kept (zl BK346.out) hkp (fun hs_ => (fun e_ => (Kd.R_ne HO_3.out BK346.out (by decide)) e_) hs_)); have HO360 := z0 (Kd.R_mono (ok' := fun k_ => (P3_ k_ ∨ w.heap.size ≤ k_)) ho0 (fun k_ hk_ => Or.elim hk_ (fun hs_ => (HO_3.out.1 k_ (hs_).symm)) (fun hn_ => (.inr (Nat.le_trans (by first | exact HK.out.1 | exact (show Kept w _ (fun k_ => P3_ k_) from zk HK.out).1) hn_))))); replace HK := z0 (Kept.then_ (S := (fun k_ => P3_ k_)) (zk HK.out) hkp (fun k_ hs_ => (fun e_ => (HO_3.out.1 k_ e_.symm)) hs_)); replace HB := z0 (hb); clear HO_3; (try clear hb); (try clear hkp); (try clear ho0); refine hK.out _ _ ⟨(blk_cell BK346.out 0).trans rfl, (blk_cell BK346.out 1).trans rfl, (blk_cell BK346.out 2).trans rfl, (blk_cell BK346.out 3).trans rfl, (blk_cell BK346.out 4).trans rfl⟩ (fun hHeld => ?_); clear hK K; refine norm_ (a' := ?_) ?_ ?_; rotate_left
                ·show Act.put _ (some 89) _ = _
                 simp only [Act.put, List.setIfInBounds_toArray, List.set_cons_zero, List.set_cons_succ, i64_w, i32_w]
                 rfl
                refine pure_ (i := 7) (N := some 82) (v := ?_) (a' := ?_) (fb 12 255) rfl rfl (any_of HT_.out (by kernel_rfl)) (fun _ _ _ h => h) (Or.inl ⟨by rfl, ?_⟩) ?_ ?_; rotate_left
                ·intro w'
                 go_simp
                 with_reducible rfl
                rotate_left
                ·simp only [Act.put, List.setIfInBounds_toArray, List.set_cons_zero, List.set_cons_succ, i64_w, i32_w]
                 rfl
                refine pure_ (i := 8) (N := some 90) (v := ?_) (a' := ?_) (fb 12 511) rfl rfl (any_of HT_.out (by kernel_rfl)) (fun _ _ _ h => h) (Or.inl ⟨by rfl, ?_⟩) ?_ ?_; rotate_left
                ·intro w'
                 go_simp
                 with_reducible rfl
                rotate_left
                ·simp only [Act.put, List.setIfInBounds_toArray, List.set_cons_zero, List.set_cons_succ, i64_w, i32_w]
                 rfl
                refine pure_ (i := 9) (N := some 91) (v := ?_) (a' := ?_) (fb 12 1023) rfl rfl (any_of HT_.out (by kernel_rfl)) (fun _ _ _ h => h) (Or.inl ⟨by rfl, ?_⟩) ?_ ?_; rotate_left
                ·intro w'
                 go_simp
                 with_reducible rfl
                rotate_left
                ·simp only [Act.put, List.setIfInBounds_toArray, List.set_cons_zero, List.set_cons_succ, i64_w, i32_w]
                 rfl
                refine pure_ (i := 10) (N := some 16) (v := ?_) (a' := ?_) (fb 12 2047) rfl rfl (any_of HT_.out (by kernel_rfl)) (fun _ _ _ h => h) (Or.inl ⟨by rfl, ?_⟩) ?_ ?_; rotate_left
                ·intro w'
                 go_simp
                 with_reducible rfl
                rotate_left
                ·simp only [Act.put, List.setIfInBounds_toArray, List.set_cons_zero, List.set_cons_succ, i64_w, i32_w]
                 rfl
                refine pure_ (i := 11) (N := some 17) (v := ?_) (a' := ?_) (fb 12 4095) rfl rfl (any_of HT_.out (by kernel_rfl)) (fun _ _ _ h => h) (Or.inl ⟨by rfl, ?_⟩) ?_ ?_; rotate_left
                ·intro w'
                 go_simp
                 with_reducible rfl
                rotate_left
                ·simp only [Act.put, List.setIfInBounds_toArray, List.set_cons_zero, List.set_cons_succ, i64_w, i32_w]
                 rfl
                refine done_ (done_of HT_.out (by kernel_rfl)) ?_
                try go_wp2
                go_roundg kj37
                case measure => have := HK1.out; have := HJ14.out; have := HJ37.out; omega
                case rel => exact ⟨(t358), (wrap64 (x12_1 + 1)), zf, H', ⟨by have := HK1.out; have := HJ14.out; have := HJ37.out; omega⟩, ⟨zr HO360.out⟩, ⟨zl BK346.out⟩, ⟨zk HK.out⟩, ⟨zb HB.out⟩⟩
               ·replace c50 := Bool.eq_false_iff.mpr c50; subst c50
                have H1 : (some (([] : List (S93)), false)) = some (r1, r2) := by rw [if_neg (show ¬ (false = true) by decide)] at H; exact H
                clear H; have H := H1; clear H1; simp only [Option.some.injEq, Prod.mk.injEq] at H; obtain ⟨rfl, rfl⟩ := H
                try go_wp2
                replace HO_3 := z0 (Kd.R_drew HO_3.out); replace BK346 := z0 (blk_drew BK346.out); replace HK := z0 (Kept.drew HK.out); replace HB := z0 (below_drew1 HB.out); refine start_ (n := 12) (S := fun w' => w'.cell? ⟨gb346, 0, none⟩ = some (.string a0_0) ∧ w'.cell? ⟨gb346, 1, none⟩ = some (.string a0_1) ∧ w'.cell? ⟨gb346, 2, none⟩ = some (.string a0_2) ∧ w'.cell? ⟨gb346, 3, none⟩ = some (.slice A0_3 l0_3.length c0_3) ∧ w'.cell? ⟨gb346, 4, none⟩ = some (.int .i64 a0_4)) (ds := []) (fb 12 0) (by kernel_rfl) rfl rfl ⟨(blk_cell BK346.out 0).trans rfl, (blk_cell BK346.out 1).trans rfl, (blk_cell BK346.out 2).trans rfl, (blk_cell BK346.out 3).trans rfl, (blk_cell BK346.out 4).trans rfl⟩ (fun hHeld => ?_); refine with_tabW impl_Sieve_parts.tab15 impl_Sieve_parts.bits15 (fun HT_ HW_ => ?_); generalize wc.drew = w55 at HO_3 BK346 HK HB hHeld ⊢; refine pure_ (i := 2) (N := some 85) (v := ?_) (a' := ?_) (fb 12 4) rfl rfl (any_of HT_.out (by kernel_rfl)) (fun _ _ _ h => h) (Or.inl ⟨by rfl, ?_⟩) ?_ ?_; rotate_left
                ·intro w'
                 go_simp
                 with_reducible rfl
                rotate_left
                ·simp only [Act.put, List.setIfInBounds_toArray, List.set_cons_zero, List.set_cons_succ, i64_w, i32_w]
                 rfl
                refine pure_ (i := 4) (N := some 87) (v := ?_) (a' := ?_) (fb 12 20) rfl rfl (any_of HT_.out (by kernel_rfl)) (fun _ _ _ h => h) (Or.inl ⟨by rfl, ?_⟩) ?_ ?_; rotate_left
                ·intro w'
                 go_simp
                 with_reducible rfl
                rotate_left
                ·simp only [Act.put, List.setIfInBounds_toArray, List.set_cons_zero, List.set_cons_succ, i64_w, i32_w]
                 rfl
                refine pure_ (i := 5) (N := some 88) (v := ?_) (a' := ?_) (fb 12 52) rfl rfl (any_of HT_.out (by kernel_rfl)) (fun _ _ _ h => h) (Or.inl ⟨by rfl, ?_⟩) ?_ ?_; rotate_left
                ·intro w'
                 go_simp
                 with_reducible rfl
                rotate_left
                ·simp only [Act.put, List.setIfInBounds_toArray, List.set_cons_zero, List.set_cons_succ, i64_w, i32_w]
                 rfl
                refine take_ (i := 0) (N := some 83) (v := ?_) (a' := ?_) (fb 12 53) rfl rfl (take_ofW HT_.out HW_.out (by kernel_rfl)) (fun _ _ _ h => h) (Or.inl ⟨by rfl, ?_⟩) hHeld ?_ ?_; rotate_left
                ·rintro w' ⟨s0, s1, s2, s3, s4⟩
                 go_simp
                 with_reducible rfl
                rotate_left
                ·simp only [Act.put, List.setIfInBounds_toArray, List.set_cons_zero, List.set_cons_succ, i64_w, i32_w]
                 rfl
                refine take_ (i := 1) (N := some 84) (v := ?_) (a' := ?_) (fb 12 55) rfl rfl (take_ofW HT_.out HW_.out (by kernel_rfl)) (fun _ _ _ h => h) (Or.inl ⟨by rfl, ?_⟩) hHeld ?_ ?_; rotate_left
                ·rintro w' ⟨s0, s1, s2, s3, s4⟩
                 go_simp
                 with_reducible rfl
                rotate_left
                ·simp only [Act.put, List.setIfInBounds_toArray, List.set_cons_zero, List.set_cons_succ, i64_w, i32_w]
                 rfl
                refine one_ (i := 3) (N := some 86) (fb 12 63) rfl rfl (one_of HT_.out (by kernel_rfl)) (by decide) (fun K hK => ?_); refine goes_ Try.func104 (by kernel_rfl) rfl #[.agg #[.string a0_0, .string a0_1, .string a0_2, .slice A0_3 l0_3.length c0_3, .int .i64 a0_4], .int .i64 x12_1] (by rfl) rfl rfl (by (try simp only [List.map_toArray, List.map_cons, List.map_nil]); first | done | rfl | (simp only [List.length_drop, List.length_take]; rfl)) ?_
                with_reducible refine (impl_Sieve_node.calls a0_0 a0_1 a0_2 _ _ l0_3 a0_4 x12_1 t357 _ ?side1 ?side2 A48.out).mono ?_
                (case side1 => exact Kd.C_kept_now HR0_3.out (zk HK.out)); (case side2 => exact HC0_3.out); rintro e w56 ⟨rfl, hb⟩; refine ⟨_, rfl, ?_⟩; replace HO_3 := zA HO_3 hb; replace BK346 := zK BK346 hb; replace HK := z0 (Kept.below (zk HK.out) hb); replace HB := zH HB hb; (try clear hb); obtain ⟨Ao57, co57, eo57⟩ := Kd.R_slice HO_3.out; (first | subst eo57 | (injection eo57 with f1_ f2_ f3_; have f4_ := f1_.symm; have f5_ := f3_.symm; clear f1_ f2_ f3_; subst f4_; subst f5_)); refine hK.out _ _ ⟨(blk_cell BK346.out 0).trans rfl, (blk_cell BK346.out 1).trans rfl, (blk_cell BK346.out 2).trans rfl, (blk_cell BK346.out 3).trans rfl, (blk_cell BK346.out 4).trans rfl⟩ (fun hHeld => ?_); clear hK K; refine norm_ (a' := ?_) ?_ ?_; rotate_left
                ·show Act.put _ (some 86) _ = _
                 simp only [Act.put, List.setIfInBounds_toArray, List.set_cons_zero, List.set_cons_succ, i64_w, i32_w]
                 rfl
                refine one_ (i := 6) (N := some 89) (fb 12 127) rfl rfl (one_of HT_.out (by kernel_rfl)) (by decide) (fun K hK => ?_); refine goes_ Try.func118 (by kernel_rfl) rfl #[.agg #[.string a0_0, .string a0_1, .string a0_2, .slice A0_3 l0_3.length c0_3, .int .i64 a0_4], .int .i64 t357, .string x13_14, .slice Ao57 x3_1.length co57] (by rfl) rfl rfl (by (try simp only [List.map_toArray, List.map_cons, List.map_nil]); first | done | rfl | (simp only [List.length_drop, List.length_take]; rfl)) ?_
                with_reducible refine (ih kj37 (by have := HK1.out; have := HJ14.out; have := HJ37.out; omega) a0_0 a0_1 a0_2 _ _ l0_3 a0_4 t357 x13_14 (fun k_ => some k_ = (.slice Ao57 x3_1.length co57 : Value).ownBlock) (.slice Ao57 x3_1.length co57) x3_1 t358 false w0 _ ?side1 ?side2 ?side3 ?side4 A49.out).mono ?_
                (case side1 => repeat (first | (with_reducible first | exact HB.out | apply below_alloc | apply pw_below_drewN | apply below_drew1 | refine below_set ?_ GE346.out) | exact HB.out)); (case side2 => exact Kd.C_kept_call HR0_3.out (zk HK.out) (fun k_ hs_ => (fun e_ => (HO_3.out.1 k_ e_.symm)) hs_)); (case side3 => exact HC0_3.out); (case side4 => exact Kd.R_tight rfl HO_3.out); rintro e w58 ⟨v359, rfl, ho0, hb, hkp⟩; refine ⟨_, rfl, ?_⟩; replace BK346 := z0 (blk_kept (zl BK346.out) hkp (fun hs_ => (fun e_ => (Kd.R_ne HO_3.out BK346.out (by decide)) e_) hs_)); have HO360 := z0 (Kd.R_mono (ok' := fun k_ => (P3_ k_ ∨ w.heap.size ≤ k_)) ho0 (fun k_ hk_ => Or.elim hk_ (fun hs_ => (HO_3.out.1 k_ (hs_).symm)) (fun hn_ => (.inr (Nat.le_trans (by first | exact HK.out.1 | exact (show Kept w _ (fun k_ => P3_ k_) from zk HK.out).1) hn_))))); replace HK := z0 (Kept.then_ (S := (fun k_ => P3_ k_)) (zk HK.out) hkp (fun k_ hs_ => (fun e_ => (HO_3.out.1 k_ e_.symm)) hs_)); replace HB := z0 (hb); clear HO_3; (try clear hb); (try clear hkp); (try clear ho0); refine hK.out _ _ ⟨(blk_cell BK346.out 0).trans rfl, (blk_cell BK346.out 1).trans rfl, (blk_cell BK346.out 2).trans rfl, (blk_cell BK346.out 3).trans rfl, (blk_cell BK346.out 4).trans rfl⟩ (fun hHeld => ?_); clear hK K; refine norm_ (a' := ?_) ?_ ?_; rotate_left
                ·show Act.put _ (some 89) _ = _
                 simp only [Act.put, List.setIfInBounds_toArray, List.set_cons_zero, List.set_cons_succ, i64_w, i32_w]
                 rfl
                refine pure_ (i := 7) (N := some 82) (v := ?_) (a' := ?_) (fb 12 255) rfl rfl (any_of HT_.out (by kernel_rfl)) (fun _ _ _ h => h) (Or.inl ⟨by rfl, ?_⟩) ?_ ?_; rotate_left
                ·intro w'
                 go_simp
                 with_reducible rfl
                rotate_left
                ·simp only [Act.put, List.setIfInBounds_toArray, List.set_cons_zero, List.set_cons_succ, i64_w, i32_w]
                 rfl
                refine pure_ (i := 8) (N := some 90) (v := ?_) (a' := ?_) (fb 12 511) rfl rfl (any_of HT_.out (by kernel_rfl)) (fun _ _ _ h => h) (Or.inl ⟨by rfl, ?_⟩) ?_ ?_; rotate_left
                ·intro w'
                 go_simp
                 with_reducible rfl
                rotate_left
                ·simp only [Act.put, List.setIfInBounds_toArray, List.set_cons_zero, List.set_cons_succ, i64_w, i32_w]
                 rfl
                refine pure_ (i := 9) (N := some 91) (v := ?_) (a' := ?_) (fb 12 1023) rfl rfl (any_of HT_.out (by kernel_rfl)) (fun _ _ _ h => h) (Or.inl ⟨by rfl, ?_⟩) ?_ ?_; rotate_left
                ·intro w'
                 go_simp
                 with_reducible rfl
                rotate_left
                ·simp only [Act.put, List.setIfInBounds_toArray, List.set_cons_zero, List.set_cons_succ, i64_w, i32_w]
                 rfl
                refine pure_ (i := 10) (N := some 16) (v := ?_) (a' := ?_) (fb 12 2047) rfl rfl (any_of HT_.out (by kernel_rfl)) (fun _ _ _ h => h) (Or.inl ⟨by rfl, ?_⟩) ?_ ?_; rotate_left
                ·intro w'
                 go_simp
                 with_reducible rfl
                rotate_left
                ·simp only [Act.put, List.setIfInBounds_toArray, List.set_cons_zero, List.set_cons_succ, i64_w, i32_w]
                 rfl
                refine pure_ (i := 11) (N := some 17) (v := ?_) (a' := ?_) (fb 12 4095) rfl rfl (any_of HT_.out (by kernel_rfl)) (fun _ _ _ h => h) (Or.inl ⟨by rfl, ?_⟩) ?_ ?_; rotate_left
                ·intro w'
                 go_simp
                 with_reducible rfl
                rotate_left
                ·simp only [Act.put, List.setIfInBounds_toArray, List.set_cons_zero, List.set_cons_succ, i64_w, i32_w]
                 rfl
                refine done_ (done_of HT_.out (by kernel_rfl)) ?_
                try go_wp2
                go_ret2
                exact ⟨_, ze, by first | exact Kd.R_nil _ _ _ _ _ | exact Kd.N_nil _ _ _ _ _ | exact Kd.V_nil _ _ _ _ _ | exact Kd.Q_nil _ _ _ _ _ | exact Kd.S_nil _ _ _ _ _, zb HB.out, zk HK.out⟩
          ·rw [if_neg c24] at H; exact absurd H (by simp)
         ·rw [if_neg c23] at H; exact absurd H (by simp)
      ·rw [if_neg c13] at H; exact absurd H (by simp)
     ·rw [if_neg c12] at H; exact absurd H (by simp)
    ·rw [if_neg c11] at H; have c11b0 : decide (x12_1 < t348) = false := decide_eq_false c11; clear c11; simp only [Option.some.injEq, Prod.mk.injEq] at H; obtain ⟨rfl, rfl⟩ := H; go_wp2
     go_ret2
     exact ⟨_, ze, zr HO_3.out, zb HB.out, zk HK.out⟩
end Go.Proofs.Ytifgcajpkgamgaa.Q
end
section
namespace Go.Proofs.Ytifgcajpkgamgaa.Q
open Go.RowKit Go.Proofs.YtifgcajpkgamgaaW.PrintWords Go.Proofs.YtifgcajpkgamgaaW.PrintLast Go.Proofs.YtifgcajpkgamgaaW.PrintMore
attribute [local go_sem] max2_int min2_int max_two min_two max_three min_three max_four min_four   
set_option linter.unusedVariables false
set_option linter.unusedSimpArgs false
theorem slices_Equal_string_string.mono_l : ∀ k, (∀ y0 y1 y2 y3, LeO (slices_Equal_string_string.l0 k y0 y1 y2 y3) (slices_Equal_string_string.l0 (k + 1) y0 y1 y2 y3))
  | 0 => fun _ _ _ _ r h => by simp [slices_Equal_string_string.l0] at h
  | k + 1 => by
    have ih0 := slices_Equal_string_string.mono_l k
    · intro y0 y1 y2 y3
      unfold slices_Equal_string_string.l0
      repeat' first
      | (with_reducible exact ih0 _ _ _ _)
      | (with_reducible exact LeO.refl _)
      | (with_reducible exact LeO.none _)
      | (with_reducible refine LeO.ite ?_ ?_)
      | (with_reducible refine LeO.bind ?_ (fun _ => ?_))
      | exact ih0 _ _ _ _
      | exact LeO.none _
      | refine LeO.ite ?_ ?_
      | refine LeO.bind ?_ (fun _ => ?_)
theorem slices_Equal_string_string.mono : ∀ a0 a1 k, LeO (slices_Equal_string_string.f k a0 a1) (slices_Equal_string_string.f (k + 1) a0 a1) := by
  intro a0 a1 k
  have ih0 := slices_Equal_string_string.mono_l k
  unfold slices_Equal_string_string.f
  repeat' first
      | (with_reducible exact ih0 _ _ _ _)
      | (with_reducible exact LeO.refl _)
      | (with_reducible exact LeO.none _)
      | (with_reducible refine LeO.ite ?_ ?_)
      | (with_reducible refine LeO.bind ?_ (fun _ => ?_))
      | exact ih0 _ _ _ _
      | exact LeO.none _
      | refine LeO.ite ?_ ?_
      | refine LeO.bind ?_ (fun _ => ?_)
set_option maxHeartbeats 8000000 in
set_option maxRecDepth 100000 in
theorem slices_Equal_string_string.calls (k : Nat) (A0 : Option Addr) (c0 : Nat) (l0 : List ByteArray) (A1 : Option Addr) (c1 : Nat) (l1 : List ByteArray) (r : Bool) (w : World) (hr0 : Kd.C Kd.string w A0 l0.length l0) (hc0 : l0.length ≤ c0) (hr1 : Kd.C Kd.string w A1 l1.length l1) (hc1 : l1.length ≤ c1) (h : slices_Equal_string_string.f k l0 l1 = some r) :
    Calls Try.prog 138 #[.slice A0 l0.length c0, .slice A1 l1.length c1] w fun e w' => e = .returned (.bool r) ∧ Drawn0 w w' := by
 have HR0 := Aside0.mk hr0; have HC0 := Aside0.mk hc0; clear hr0 hc0; have HR1 := Aside0.mk hr1; have HC1 := Aside0.mk hc1; clear hr1 hc1; have H : (if (l0.length : Int) = (l1.length : Int) then (slices_Equal_string_string.l0 k l0 l1 (l0.length : Int) 0) else (some false)) = some r := h; clear h
 by_cases c3 : (l0.length : Int) = (l1.length : Int)
 ·rw [if_pos c3] at H; have c3b0 : ((l0.length : Int) == (l1.length : Int)) = true := beq_iff_eq.mpr c3; have c3b1 : ((l0.length : Int) != (l1.length : Int)) = false := bne_eq_false_iff_eq.mpr c3
  have c3b2 : (l0.length == l1.length) = true := by first | simpa using c3 | (simp at c3 ⊢; omega)
  clear c3; have H' := Aside0.mk H; clear H; go_enter Try.func138, Try.ntmps138; go_wp2
  repeat (go_quiet (fail); try go_wp2)
  go_loopg [13] k (fun kq v13 w' => ∃ (x13_1 : Int), v13 = .int .i64 x13_1 ∧ Aside0 (slices_Equal_string_string.l0 kq l0 l1 (l0.length : Int) x13_1 = some r) ∧ Aside0 (kq ≤ k) ∧ Drawn0 w w')
  case atStart => exact ⟨(0), zf, H', ⟨Nat.le_refl _⟩, by repeat (first | exact Drawn0.refl _ | apply Drawn0.step)⟩
  case round =>
   clear H'
   try clear c1
   try clear p2
   try clear c3
   try clear c3b0
   try clear c3b1
   try clear c3b2
   obtain ⟨x13_1, rfl, HA, HK1, ⟨m1, rfl⟩⟩ := hrel
   cases gk with
   | zero => exact absurd HA.out (by simp [slices_Equal_string_string.l0])
   | succ k1 =>
    have H := HA.out; clear HA; simp only [slices_Equal_string_string.l0] at H
    by_cases c4 : x13_1 < (l0.length : Int)
    ·rw [if_pos c4] at H; have c4b0 : decide (x13_1 < (l0.length : Int)) = true := decide_eq_true c4; clear c4
     by_cases c5 : 0 ≤ x13_1
     ·rw [if_pos c5] at H; have c5b0 : decide (0 ≤ x13_1) = true := decide_eq_true c5; clear c5
      by_cases c6 : x13_1 < (l0.length : Int)
      ·rw [if_pos c6] at H; have c6b0 : decide (x13_1 < (l0.length : Int)) = true := decide_eq_true c6; clear c6
       by_cases c7 : x13_1 < (l1.length : Int)
       ·rw [if_pos c7] at H; have c7b0 : decide (x13_1 < (l1.length : Int)) = true := decide_eq_true c7; clear c7
        by_cases c8 : (rdOf ByteArray.empty l0 x13_1).toList = (rdOf ByteArray.empty l1 x13_1).toList
        ·rw [if_pos c8] at H; have c8b0 : ((rdOf ByteArray.empty l0 x13_1).toList == (rdOf ByteArray.empty l1 x13_1).toList) = true := beq_iff_eq.mpr c8; have c8b1 : ((rdOf ByteArray.empty l0 x13_1).toList != (rdOf ByteArray.empty l1 x13_1).toList) = false := bne_eq_false_iff_eq.mpr c8; clear c8; have H' := Aside0.mk H; clear H; have p362 : 0 ≤ (x13_1 : Int) := zd; have q362 : x13_1 < (l0.length : Int) := zd; obtain ⟨ad362, e362, hx362_0⟩ := Kd.at_string HR0.out x13_1 p362 q362; cases e362; replace p362 := eq_true p362; replace q362 := eq_true q362; have p363 : 0 ≤ (x13_1 : Int) := zd; have q363 : x13_1 < (l1.length : Int) := zd; obtain ⟨ad363, e363, hx363_0⟩ := Kd.at_string HR1.out x13_1 p363 q363; cases e363; replace p363 := eq_true p363; replace q363 := eq_true q363; go_wp2
         repeat (go_quiet (fail); try go_wp2)
         go_roundg k1
         case measure => have := HK1.out; omega
         case rel => exact ⟨(wrap64 (x13_1 + 1)), zf, H', ⟨by have := HK1.out; omega⟩, by repeat (first | exact Drawn0.refl _ | apply Drawn0.step)⟩
        ·rw [if_neg c8] at H; have c8b0 : ((rdOf ByteArray.empty l0 x13_1).toList == (rdOf ByteArray.empty l1 x13_1).toList) = false := beq_eq_false_iff_ne.mpr c8; have c8b1 : ((rdOf ByteArray.empty l0 x13_1).toList != (rdOf ByteArray.empty l1 x13_1).toList) = true := bne_iff_ne.mpr c8; obtain rfl := Option.some.inj H; have p362 : 0 ≤ (x13_1 : Int) := zd; have q362 : x13_1 < (l0.length : Int) := zd; obtain ⟨ad362, e362, hx362_0⟩ := Kd.at_string HR0.out x13_1 p362 q362; cases e362; replace p362 := eq_true p362; replace q362 := eq_true q362; have p363 : 0 ≤ (x13_1 : Int) := zd; have q363 : x13_1 < (l1.length : Int) := zd; obtain ⟨ad363, e363, hx363_0⟩ := Kd.at_string HR1.out x13_1 p363 q363; cases e363; replace p363 := eq_true p363; replace q363 := eq_true q363; go_wp2
         repeat (go_quiet (fail); try go_wp2)
         go_ret; exact ⟨zf, by repeat (first | exact Drawn0.refl _ | apply Drawn0.step)⟩
       ·rw [if_neg c7] at H; exact absurd H (by simp)
      ·rw [if_neg c6] at H; exact absurd H (by simp)
     ·rw [if_neg c5] at H; exact absurd H (by simp)
    ·rw [if_neg c4] at H; have c4b0 : decide (x13_1 < (l0.length : Int)) = false := decide_eq_false c4; clear c4; obtain rfl := Option.some.inj H; go_wp2
     repeat (go_quiet (fail); try go_wp2)
     go_ret; exact ⟨zf, by repeat (first | exact Drawn0.refl _ | apply Drawn0.step)⟩
 ·rw [if_neg c3] at H; have c3b0 : ((l0.length : Int) == (l1.length : Int)) = false := beq_eq_false_iff_ne.mpr c3; have c3b1 : ((l0.length : Int) != (l1.length : Int)) = true := bne_iff_ne.mpr c3
  have c3b2 : (l0.length == l1.length) = false := by first | simpa using c3 | (simp at c3 ⊢; omega)
  obtain rfl := Option.some.inj H; go_enter Try.func138, Try.ntmps138; go_wp2
  repeat (go_quiet (fail); try go_wp2)
  go_ret; exact ⟨zf, by repeat (first | exact Drawn0.refl _ | apply Drawn0.step)⟩
end Go.Proofs.Ytifgcajpkgamgaa.Q
end
section
namespace Go.Proofs.Ytifgcajpkgamgaa.Q
open Go.RowKit Go.Proofs.YtifgcajpkgamgaaW.PrintWords Go.Proofs.YtifgcajpkgamgaaW.PrintLast Go.Proofs.YtifgcajpkgamgaaW.PrintMore
attribute [local go_sem] max2_int min2_int max_two min_two max_three min_three max_four min_four   
set_option linter.unusedVariables false
set_option linter.unusedSimpArgs false
theorem impl_Sieve_same.mono : ∀ a0 a1 a2 a3 a4 a5 a6 a7 a8 a9 k, LeO (impl_Sieve_same.f k a0 a1 a2 a3 a4 a5 a6 a7 a8 a9) (impl_Sieve_same.f (k + 1) a0 a1 a2 a3 a4 a5 a6 a7 a8 a9) := by
  intro a0 a1 a2 a3 a4 a5 a6 a7 a8 a9 k
  unfold impl_Sieve_same.f
  repeat' first
      | (with_reducible exact slices_Equal_string_string.mono _ _ _)
      | (with_reducible exact LeO.refl _)
      | (with_reducible exact LeO.none _)
      | (with_reducible refine LeO.ite ?_ ?_)
      | (with_reducible refine LeO.bind ?_ (fun _ => ?_))
      | exact slices_Equal_string_string.mono _ _ _
      | exact LeO.none _
      | refine LeO.ite ?_ ?_
      | refine LeO.bind ?_ (fun _ => ?_)
set_option maxHeartbeats 8000000 in
set_option maxRecDepth 100000 in
theorem impl_Sieve_same.calls (k : Nat) (a0_0 : ByteArray) (a0_1 : ByteArray) (a0_2 : ByteArray) (A0_3 : Option Addr) (c0_3 : Nat) (l0_3 : List ByteArray) (a0_4 : Int) (a1_0 : ByteArray) (a1_1 : ByteArray) (a1_2 : ByteArray) (A1_3 : Option Addr) (c1_3 : Nat) (l1_3 : List ByteArray) (a1_4 : Int) (r : Bool) (w : World) (hr0_3 : Kd.C Kd.string w A0_3 l0_3.length l0_3) (hc0_3 : l0_3.length ≤ c0_3) (hr1_3 : Kd.C Kd.string w A1_3 l1_3.length l1_3) (hc1_3 : l1_3.length ≤ c1_3) (h : impl_Sieve_same.f k a0_0 a0_1 a0_2 l0_3 a0_4 a1_0 a1_1 a1_2 l1_3 a1_4 = some r) :
    Calls Try.prog 119 #[.agg #[.string a0_0, .string a0_1, .string a0_2, .slice A0_3 l0_3.length c0_3, .int .i64 a0_4], .agg #[.string a1_0, .string a1_1, .string a1_2, .slice A1_3 l1_3.length c1_3, .int .i64 a1_4]] w fun e w' => e = .returned (.bool r) ∧ Below w.heap.size w w' := by
 have hu25 := Try.underlying25; have HR0_3 := Aside0.mk hr0_3; have HC0_3 := Aside0.mk hc0_3; clear hr0_3 hc0_3; have HR1_3 := Aside0.mk hr1_3; have HC1_3 := Aside0.mk hc1_3; clear hr1_3 hc1_3; have HB := z0 (Below.refl w.heap.size w); have H : (if a0_0.toList = a1_0.toList then (if a0_1.toList = a1_1.toList then (if a0_2.toList = a1_2.toList then (if a0_4 = a1_4 then ((slices_Equal_string_string.f k l0_3 l1_3).bind fun t366 => (some t366)) else (some false)) else (some false)) else (some false)) else (some false)) = some r := h; clear h
 by_cases c3 : a0_0.toList = a1_0.toList
 ·rw [if_pos c3] at H; have c3b0 : (a0_0.toList == a1_0.toList) = true := beq_iff_eq.mpr c3; have c3b1 : (a0_0.toList != a1_0.toList) = false := bne_eq_false_iff_eq.mpr c3; clear c3
  by_cases c4 : a0_1.toList = a1_1.toList
  ·rw [if_pos c4] at H; have c4b0 : (a0_1.toList == a1_1.toList) = true := beq_iff_eq.mpr c4; have c4b1 : (a0_1.toList != a1_1.toList) = false := bne_eq_false_iff_eq.mpr c4; clear c4
   by_cases c5 : a0_2.toList = a1_2.toList
   ·rw [if_pos c5] at H; have c5b0 : (a0_2.toList == a1_2.toList) = true := beq_iff_eq.mpr c5; have c5b1 : (a0_2.toList != a1_2.toList) = false := bne_eq_false_iff_eq.mpr c5; clear c5
    by_cases c6 : a0_4 = a1_4
    ·rw [if_pos c6] at H; have c6b0 : (a0_4 == a1_4) = true := beq_iff_eq.mpr c6; have c6b1 : (a0_4 != a1_4) = false := bne_eq_false_iff_eq.mpr c6; clear c6; replace H := zi H; obtain ⟨t366, A7, H⟩ := H; obtain rfl := Option.some.inj H; go_enter Try.func119, Try.ntmps119
     go_wp2_with (first | ((with_reducible refine gate_dst (N := 2) rfl ?_); refine box_event zh (N := 2) zh (cs := #[.string a0_0, .string a0_1, .string a0_2, .slice A0_3 l0_3.length c0_3, .int .i64 a0_4]) (t := 25) zg ?_; intro gb364 hg w8 hbox hb; have BK364 := z0 (hbox); have GW364 := (zG hg HB : Aside0 (w.heap.size ≤ gb364)); have GE364 := (zG hg HB : Aside0 (w.heap.size ≤ gb364)); replace HB := zH HB hb; clear hb hbox hg) | ((with_reducible refine gate_dst (N := 3) rfl ?_); refine box_event zh (N := 3) zh (cs := #[.string a1_0, .string a1_1, .string a1_2, .slice A1_3 l1_3.length c1_3, .int .i64 a1_4]) (t := 25) zg ?_; intro gb365 hg w9 hbox hb; have BK365 := z0 (hbox); have GW365 := (zG hg HB : Aside0 (w.heap.size ≤ gb365)); have GE365 := (zG hg HB : Aside0 (w.heap.size ≤ gb365)); replace HB := zH HB hb; have NB364_365 := (zLt hg BK364 : Aside0 (gb364 ≠ gb365)); have NB365_364 := (zGt hg BK364 : Aside0 (gb365 ≠ gb364)); replace BK364 := zK BK364 hb; clear hb hbox hg; have hnb10 := NB364_365.out; have hnc10 := NB365_364.out; have hcz11 := zc5 BK364.out; have hcz12 := zc5 BK365.out) | (go_at_call 138; (with_reducible refine (slices_Equal_string_string.calls k _ _ l0_3 _ _ l1_3 t366 _ ?side1 ?side2 ?side3 ?side4 A7.out).mono ?_); (case side1 => repeat (first | exact (Kd.C_below HR0_3.out HB.out) | (with_reducible refine Kd.C_alloc ?_ _) | (with_reducible refine Kd.C_drewN ?_ _) | (with_reducible refine Kd.C_drew ?_))); (case side2 => exact HC0_3.out); (case side3 => repeat (first | exact (Kd.C_below HR1_3.out HB.out) | (with_reducible refine Kd.C_alloc ?_ _) | (with_reducible refine Kd.C_drewN ?_ _) | (with_reducible refine Kd.C_drew ?_))); (case side4 => exact HC1_3.out); rintro e w' ⟨rfl, ⟨nd, rfl⟩⟩))
     go_ret; exact ⟨ze, zb HB.out⟩
    ·rw [if_neg c6] at H; have c6b0 : (a0_4 == a1_4) = false := beq_eq_false_iff_ne.mpr c6; have c6b1 : (a0_4 != a1_4) = true := bne_iff_ne.mpr c6; obtain rfl := Option.some.inj H; go_enter Try.func119, Try.ntmps119
     go_wp2_with (first | ((with_reducible refine gate_dst (N := 2) rfl ?_); refine box_event zh (N := 2) zh (cs := #[.string a0_0, .string a0_1, .string a0_2, .slice A0_3 l0_3.length c0_3, .int .i64 a0_4]) (t := 25) zg ?_; intro gb364 hg w13 hbox hb; have BK364 := z0 (hbox); have GW364 := (zG hg HB : Aside0 (w.heap.size ≤ gb364)); have GE364 := (zG hg HB : Aside0 (w.heap.size ≤ gb364)); replace HB := zH HB hb; clear hb hbox hg) | ((with_reducible refine gate_dst (N := 3) rfl ?_); refine box_event zh (N := 3) zh (cs := #[.string a1_0, .string a1_1, .string a1_2, .slice A1_3 l1_3.length c1_3, .int .i64 a1_4]) (t := 25) zg ?_; intro gb365 hg w14 hbox hb; have BK365 := z0 (hbox); have GW365 := (zG hg HB : Aside0 (w.heap.size ≤ gb365)); have GE365 := (zG hg HB : Aside0 (w.heap.size ≤ gb365)); replace HB := zH HB hb; have NB364_365 := (zLt hg BK364 : Aside0 (gb364 ≠ gb365)); have NB365_364 := (zGt hg BK364 : Aside0 (gb365 ≠ gb364)); replace BK364 := zK BK364 hb; clear hb hbox hg; have hnb15 := NB364_365.out; have hnc15 := NB365_364.out; have hcz16 := zc5 BK364.out; have hcz17 := zc5 BK365.out))
     go_ret; exact ⟨ze, zb HB.out⟩
   ·rw [if_neg c5] at H; have c5b0 : (a0_2.toList == a1_2.toList) = false := beq_eq_false_iff_ne.mpr c5; have c5b1 : (a0_2.toList != a1_2.toList) = true := bne_iff_ne.mpr c5; obtain rfl := Option.some.inj H; go_enter Try.func119, Try.ntmps119
    go_wp2_with (first | ((with_reducible refine gate_dst (N := 2) rfl ?_); refine box_event zh (N := 2) zh (cs := #[.string a0_0, .string a0_1, .string a0_2, .slice A0_3 l0_3.length c0_3, .int .i64 a0_4]) (t := 25) zg ?_; intro gb364 hg w18 hbox hb; have BK364 := z0 (hbox); have GW364 := (zG hg HB : Aside0 (w.heap.size ≤ gb364)); have GE364 := (zG hg HB : Aside0 (w.heap.size ≤ gb364)); replace HB := zH HB hb; clear hb hbox hg) | ((with_reducible refine gate_dst (N := 3) rfl ?_); refine box_event zh (N := 3) zh (cs := #[.string a1_0, .string a1_1, .string a1_2, .slice A1_3 l1_3.length c1_3, .int .i64 a1_4]) (t := 25) zg ?_; intro gb365 hg w19 hbox hb; have BK365 := z0 (hbox); have GW365 := (zG hg HB : Aside0 (w.heap.size ≤ gb365)); have GE365 := (zG hg HB : Aside0 (w.heap.size ≤ gb365)); replace HB := zH HB hb; have NB364_365 := (zLt hg BK364 : Aside0 (gb364 ≠ gb365)); have NB365_364 := (zGt hg BK364 : Aside0 (gb365 ≠ gb364)); replace BK364 := zK BK364 hb; clear hb hbox hg; have hnb20 := NB364_365.out; have hnc20 := NB365_364.out; have hcz21 := zc5 BK364.out; have hcz22 := zc5 BK365.out))
    go_ret; exact ⟨ze, zb HB.out⟩
  ·rw [if_neg c4] at H; have c4b0 : (a0_1.toList == a1_1.toList) = false := beq_eq_false_iff_ne.mpr c4; have c4b1 : (a0_1.toList != a1_1.toList) = true := bne_iff_ne.mpr c4; obtain rfl := Option.some.inj H; go_enter Try.func119, Try.ntmps119
   go_wp2_with (first | ((with_reducible refine gate_dst (N := 2) rfl ?_); refine box_event zh (N := 2) zh (cs := #[.string a0_0, .string a0_1, .string a0_2, .slice A0_3 l0_3.length c0_3, .int .i64 a0_4]) (t := 25) zg ?_; intro gb364 hg w23 hbox hb; have BK364 := z0 (hbox); have GW364 := (zG hg HB : Aside0 (w.heap.size ≤ gb364)); have GE364 := (zG hg HB : Aside0 (w.heap.size ≤ gb364)); replace HB := zH HB hb; clear hb hbox hg) | ((with_reducible refine gate_dst (N := 3) rfl ?_); refine box_event zh (N := 3) zh (cs := #[.string a1_0, .string a1_1, .string a1_2, .slice A1_3 l1_3.length c1_3, .int .i64 a1_4]) (t := 25) zg ?_; intro gb365 hg w24 hbox hb; have BK365 := z0 (hbox); have GW365 := (zG hg HB : Aside0 (w.heap.size ≤ gb365)); have GE365 := (zG hg HB : Aside0 (w.heap.size ≤ gb365)); replace HB := zH HB hb; have NB364_365 := (zLt hg BK364 : Aside0 (gb364 ≠ gb365)); have NB365_364 := (zGt hg BK364 : Aside0 (gb365 ≠ gb364)); replace BK364 := zK BK364 hb; clear hb hbox hg; have hnb25 := NB364_365.out; have hnc25 := NB365_364.out; have hcz26 := zc5 BK364.out; have hcz27 := zc5 BK365.out))
   go_ret; exact ⟨ze, zb HB.out⟩
 ·rw [if_neg c3] at H; have c3b0 : (a0_0.toList == a1_0.toList) = false := beq_eq_false_iff_ne.mpr c3; have c3b1 : (a0_0.toList != a1_0.toList) = true := bne_iff_ne.mpr c3; obtain rfl := Option.some.inj H; go_enter Try.func119, Try.ntmps119
  go_wp2_with (first | ((with_reducible refine gate_dst (N := 2) rfl ?_); refine box_event zh (N := 2) zh (cs := #[.string a0_0, .string a0_1, .string a0_2, .slice A0_3 l0_3.length c0_3, .int .i64 a0_4]) (t := 25) zg ?_; intro gb364 hg w28 hbox hb; have BK364 := z0 (hbox); have GW364 := (zG hg HB : Aside0 (w.heap.size ≤ gb364)); have GE364 := (zG hg HB : Aside0 (w.heap.size ≤ gb364)); replace HB := zH HB hb; clear hb hbox hg) | ((with_reducible refine gate_dst (N := 3) rfl ?_); refine box_event zh (N := 3) zh (cs := #[.string a1_0, .string a1_1, .string a1_2, .slice A1_3 l1_3.length c1_3, .int .i64 a1_4]) (t := 25) zg ?_; intro gb365 hg w29 hbox hb; have BK365 := z0 (hbox); have GW365 := (zG hg HB : Aside0 (w.heap.size ≤ gb365)); have GE365 := (zG hg HB : Aside0 (w.heap.size ≤ gb365)); replace HB := zH HB hb; have NB364_365 := (zLt hg BK364 : Aside0 (gb364 ≠ gb365)); have NB365_364 := (zGt hg BK364 : Aside0 (gb365 ≠ gb364)); replace BK364 := zK BK364 hb; clear hb hbox hg; have hnb30 := NB364_365.out; have hnc30 := NB365_364.out; have hcz31 := zc5 BK364.out; have hcz32 := zc5 BK365.out))
  go_ret; exact ⟨ze, zb HB.out⟩
end Go.Proofs.Ytifgcajpkgamgaa.Q
end
