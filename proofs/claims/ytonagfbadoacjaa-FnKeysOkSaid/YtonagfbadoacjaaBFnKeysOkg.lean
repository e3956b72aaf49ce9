/- What the law FnKeysOk needs, part 7: the kit's printed words, the printed functions with their proofs, and plain facts on them. -/
import Derived.Test.YtonagfbadoacjaaBFnKeysOkf
section
namespace Go.Proofs.Ytonagfbadoacjaa.Q
open Go.RowKit Go.Proofs.YtonagfbadoacjaaW.PrintWords Go.Proofs.YtonagfbadoacjaaW.PrintLast Go.Proofs.YtonagfbadoacjaaW.PrintMore
attribute [local go_sem] max2_int min2_int max_two min_two max_three min_three max_four min_four   
set_option linter.unusedVariables false
set_option linter.unusedSimpArgs false
def spec_DrawKeysSort.l0 : Nat → List ByteArray → Int → List Int → Int → Option (List ByteArray)
  | 0, _, _, _, _ => none
  | k + 1, x4, x5, x1218000, x1218001 => if x5 > 0 then ((spec_l71Near.f k x1218000 x1218001 x4).bind fun bt1223 => (if x4.length < 8796093022208 then (spec_DrawKeysSort.l0 k (x4 ++ [bt1223.1]) (wrap64 (x5 - 1)) x1218000 bt1223.2) else (none))) else ((spec_l71Mess.f k x1218000 x1218001).bind fun bt1228 => (if x4.length + bt1228.1.length < 8796093022208 then (some (x4 ++ bt1228.1)) else (none)))
def spec_DrawKeysSort.f (k : Nat) (l0 : List Int) : Option (List ByteArray) := (spec_l6Open.f l0).bind fun bt1215 => ((spec_l6Rd_pick.f k bt1215.1 bt1215.2 10).bind fun bt1221 => (spec_DrawKeysSort.l0 k (([] : List ByteArray)) bt1221.1 bt1215.1 bt1221.2))
theorem spec_DrawKeysSort.mono_l : ∀ k, (∀ y0 y1 y2 y3, LeO (spec_DrawKeysSort.l0 k y0 y1 y2 y3) (spec_DrawKeysSort.l0 (k + 1) y0 y1 y2 y3))
  | 0 => fun _ _ _ _ r h => by simp [spec_DrawKeysSort.l0] at h
  | k + 1 => by
    have ih0 := spec_DrawKeysSort.mono_l k
    · intro y0 y1 y2 y3
      unfold spec_DrawKeysSort.l0
      repeat' first
      | (with_reducible exact ih0 _ _ _ _)
      | (with_reducible exact spec_l6Rd_pick.mono _ _ _ _)
      | (with_reducible exact spec_l71Mess.mono _ _ _)
      | (with_reducible exact spec_l71Near.mono _ _ _ _)
      | (with_reducible exact LeO.refl _)
      | (with_reducible exact LeO.none _)
      | (with_reducible refine LeO.ite ?_ ?_)
      | (with_reducible refine LeO.bind ?_ (fun _ => ?_))
      | exact ih0 _ _ _ _
      | exact spec_l6Rd_pick.mono _ _ _ _
      | exact spec_l71Mess.mono _ _ _
      | exact spec_l71Near.mono _ _ _ _
      | exact LeO.none _
      | refine LeO.ite ?_ ?_
      | refine LeO.bind ?_ (fun _ => ?_)
theorem spec_DrawKeysSort.mono : ∀ a0 k, LeO (spec_DrawKeysSort.f k a0) (spec_DrawKeysSort.f (k + 1) a0) := by
  intro a0 k
  have ih0 := spec_DrawKeysSort.mono_l k
  unfold spec_DrawKeysSort.f
  repeat' first
      | (with_reducible exact ih0 _ _ _ _)
      | (with_reducible exact spec_l6Rd_pick.mono _ _ _ _)
      | (with_reducible exact spec_l71Mess.mono _ _ _)
      | (with_reducible exact spec_l71Near.mono _ _ _ _)
      | (with_reducible exact LeO.refl _)
      | (with_reducible exact LeO.none _)
      | (with_reducible refine LeO.ite ?_ ?_)
      | (with_reducible refine LeO.bind ?_ (fun _ => ?_))
      | exact ih0 _ _ _ _
      | exact spec_l6Rd_pick.mono _ _ _ _
      | exact spec_l71Mess.mono _ _ _
      | exact spec_l71Near.mono _ _ _ _
      | exact LeO.none _
      | refine LeO.ite ?_ ?_
      | refine LeO.bind ?_ (fun _ => ?_)
set_option maxHeartbeats 8000000 in
set_option maxRecDepth 100000 in
theorem spec_DrawKeysSort.calls (k : Nat) (A0 : Option Addr) (c0 : Nat) (l0 : List Int) (r : List ByteArray) (w : World) (hr0 : Kd.C (Kd.int .u8) w A0 l0.length l0) (hc0 : l0.length ≤ c0) (h : spec_DrawKeysSort.f k l0 = some r) :
    Calls Try.prog 82 #[.slice A0 l0.length c0] w fun e w' => ∃ v0_ : Value, e = .returned (v0_) ∧ Kd.R Kd.string 9 w' w.heap.size (fun _ => True) v0_ r ∧ Below w.heap.size w w' := by
  have HR0 := Aside0.mk hr0
  have HC0 := Aside0.mk hc0
  clear hr0 hc0
  have HB := Aside0.mk (Below.refl w.heap.size w)
  have H : ((spec_l6Open.f l0).bind fun bt1215 => ((spec_l6Rd_pick.f k bt1215.1 bt1215.2 10).bind fun bt1221 => (spec_DrawKeysSort.l0 k (([] : List ByteArray)) bt1221.1 bt1215.1 bt1221.2))) = some r := h
  clear h
  replace H := Option.bind_eq_some_iff.mp H
  obtain ⟨⟨t1215, t1216⟩, A20, H⟩ := H
  (try dsimp only at H)
  have A2 := Aside0.mk A20
  clear A20
  obtain ⟨y1218, hy1218⟩ : ∃ y_ : List ByteArray, y_ = (([] : List ByteArray)) := ⟨_, rfl⟩
  replace H : ((spec_l6Rd_pick.f k t1215 t1216 10).bind fun bt1221 => (spec_DrawKeysSort.l0 k y1218 bt1221.1 t1215 bt1221.2)) = some r := by first | (rw [hy1218]; with_reducible exact H) | (have H2_ := (Option.bind_some _ _).symm.trans H; rw [hy1218]; with_reducible exact H2_) | (have H2_ := (Option.bind_some _ _).symm.trans H; with_reducible exact H2_) | with_reducible exact H | (rw [hy1218]; exact H) | exact H
  have Ny1218 := Aside0.mk hy1218
  clear hy1218
  replace H := Option.bind_eq_some_iff.mp H
  obtain ⟨⟨t1221, t1222⟩, A30, H⟩ := H
  (try dsimp only at H)
  have A3 := Aside0.mk A30
  clear A30
  have H' := Aside0.mk H
  clear H
  go_enter Try.func82, Try.ntmps82
  go_wp2_with (first | ((with_reducible refine gate_callee (f := 102) rfl ?_); refine goesL_ (some 7) rfl rfl Try.func102 (by kernel_rfl) rfl #[.slice A0 l0.length c0] rfl (by (try simp only [List.map_toArray, List.map_cons, List.map_nil]); first | done | rfl | (simp only [List.length_drop, List.length_take]; rfl)) ?_; (with_reducible refine (spec_l6Open.calls _ _ l0 t1215 t1216 w _ ?side1 ?side2 ?side3 A2.out).mono ?_); (case side1 => repeat (first | (with_reducible first | exact HB.out | apply below_alloc | apply pw_below_drewN | apply below_drew1) | exact HB.out)); (case side2 => exact HR0.out); (case side3 => exact HC0.out); rintro e w4 ⟨g1217, rfl, hi, hb, hb2⟩; refine ⟨_, rfl, ?_⟩; have n0_ := Aside0.mk (hb); have n1_ := Aside0.mk (hi); clear HB; have HB := n0_; have HI1217 := n1_; clear n0_ n1_; (try clear hb); (try clear hb2); (try clear hk); (try clear hi)) | ((with_reducible refine gate_dst (N := 8) rfl ?_); refine Kd.R_lit Kd.string _ 9 ?hg (N := 8) ?hd (xs := ([] : List ByteArray)) (inner := []) (ok := fun _ => True) (okp := fun _ => True) ?hr ?hp (fun _ hk => hk) trivial (Below.refl _ _) (Nat.le_refl _) (by simp) ?_; (case hd => rfl); (case hg => rfl); (case hr => first | (go_simp; done) | (go_simp; rfl)); (case hp => exact (Reps.none _ _)); intro v1219 w5 ho6 hb hg_ hnew_; clear hg_ hnew_; (first | rw [← Ny1218.out] at ho6 | (simp only [Int.reduceToNat] at ho6; rw [← Ny1218.out] at ho6)); have n0_ := Aside0.mk (Kd.R_lower ho6 (below_size (by repeat (first | (with_reducible first | exact HB.out | apply below_alloc | apply pw_below_drewN | apply below_drew1 | refine below_set ?_ (IsS109.ge HI1217.out)) | exact HB.out)))); have n1_ := Aside0.mk (IsS109.below (by repeat (first | (with_reducible first | exact HI1217.out | apply IsS109.alloc | apply IsS109.drewN | apply IsS109.drew | apply IsS109.set_1) | exact HI1217.out)) hb); have n2_ := Aside0.mk (below_step (by repeat (first | (with_reducible first | exact HB.out | apply below_alloc | apply pw_below_drewN | apply below_drew1 | refine below_set ?_ (IsS109.ge HI1217.out)) | exact HB.out)) hb); clear HI1217; clear HB; have HO1220 := n0_; have HI1217 := n1_; have HB := n2_; clear n0_ n1_ n2_; clear hb ho6) | ((with_reducible refine gate_callee (f := 113) rfl ?_); refine goesL_ (some 10) rfl rfl Try.func113 (by kernel_rfl) rfl #[.pointer (some ⟨g1217, 0, none⟩), .int .i64 10] rfl (by (try simp only [List.map_toArray, List.map_cons, List.map_nil]); first | done | rfl | (simp only [List.length_drop, List.length_take]; rfl)) ?_; (with_reducible refine (spec_l6Rd_pick.calls k g1217 t1215 t1216 10 t1221 t1222 w _ ?side1 ?side2 A3.out).mono ?_); (case side1 => repeat (first | (with_reducible first | exact HI1217.out | apply IsS109.alloc | apply IsS109.drewN | apply IsS109.drew | apply IsS109.set_1) | exact HI1217.out)); (case side2 => repeat (first | (with_reducible first | exact HB.out | apply below_alloc | apply pw_below_drewN | apply below_drew1 | refine below_set ?_ (IsS109.ge HI1217.out)) | exact HB.out)); rintro e w7 ⟨rfl, hi, hb, hk⟩; refine ⟨_, rfl, ?_⟩; have n0_ := Aside0.mk (Kd.R_mono (Kd.R_keep (IsS109.apart (show IsS109 w _ g1217 t1215 t1216 from by repeat (first | (with_reducible first | exact HI1217.out | apply IsS109.alloc | apply IsS109.drewN | apply IsS109.drew | apply IsS109.set_1) | exact HI1217.out)) (by (with_reducible repeat (first | apply Kd.R_alloc | apply Kd.R_drewN | apply Kd.R_drew)); exact HO1220.out) (by decide)) hk (fun _ h => h.2)) (fun _ h => h.1)); have n1_ := Aside0.mk (hb); have n2_ := Aside0.mk (hi); clear HO1220; clear HB; clear HI1217; have HO1220 := n0_; have HB := n1_; have HI1217 := n2_; clear n0_ n1_ n2_; (try clear hb); (try clear hb2); (try clear hk); (try clear hi)))
  go_loopg [4, 5] k (fun kq v4 v5 w' => ∃ (x4_1 : List ByteArray) (x5_1 : Int) (x1218001_1 : Int), v5 = .int .i64 x5_1 ∧ Aside0 (spec_DrawKeysSort.l0 kq x4_1 x5_1 t1215 x1218001_1 = some r) ∧ Aside0 (kq ≤ k) ∧ Aside0 (Kd.R Kd.string 9 w' w.heap.size (fun _ => True) v4 x4_1) ∧ Aside0 (IsS109 w w' g1217 t1215 x1218001_1) ∧ Aside0 (Below w.heap.size w w'))
  case atStart => exact ⟨(y1218), (t1221), (t1222), (by first | rfl | (simp; done) | (simp [*]; done)), H', ⟨Nat.le_refl _⟩, ⟨by (with_reducible repeat (first | apply Kd.R_alloc | apply Kd.R_drewN | apply Kd.R_drew)); exact HO1220.out⟩, ⟨by repeat (first | (with_reducible first | exact HI1217.out | apply IsS109.alloc | apply IsS109.drewN | apply IsS109.drew | apply IsS109.set_1) | exact HI1217.out)⟩, ⟨by repeat (first | (with_reducible first | exact HB.out | apply below_alloc | apply pw_below_drewN | apply below_drew1 | refine below_set ?_ (IsS109.ge HI1217.out)) | exact HB.out)⟩⟩
  case round =>
    clear H'
    try clear c1
    try clear p2
    obtain ⟨x4_1, x5_1, x1218001_1, rfl, HA, HK1, HO_4, HI1217, HB⟩ := hrel
    cases gk with
    | zero => exact absurd HA.out (by simp [spec_DrawKeysSort.l0])
    | succ k1 =>
      have H := HA.out
      clear HA
      simp only [spec_DrawKeysSort.l0] at H
      by_cases c8 : x5_1 > 0
      · rw [if_pos c8] at H
        have c8b0 : decide (0 < x5_1) = true := decide_eq_true c8
        clear c8
        replace H := Option.bind_eq_some_iff.mp H
        obtain ⟨⟨t1223, t1224⟩, A90, H⟩ := H
        (try dsimp only at H)
        have A9 := Aside0.mk A90
        clear A90
        by_cases c10 : x4_1.length < 8796093022208
        · rw [if_pos c10] at H
          have LMc10 := Aside0.mk c10
          clear c10
          obtain ⟨y1225, hy1225⟩ : ∃ y_ : List ByteArray, y_ = (x4_1 ++ [t1223]) := ⟨_, rfl⟩
          replace H : (spec_DrawKeysSort.l0 k1 y1225 (wrap64 (x5_1 - 1)) t1215 t1224) = some r := by first | (rw [hy1225]; with_reducible exact H) | (have H2_ := (Option.bind_some _ _).symm.trans H; rw [hy1225]; with_reducible exact H2_) | (have H2_ := (Option.bind_some _ _).symm.trans H; with_reducible exact H2_) | with_reducible exact H | (rw [hy1225]; exact H) | exact H
          have Ny1225 := Aside0.mk hy1225
          clear hy1225
          have H' := Aside0.mk H
          clear H
          obtain ⟨Ao11, co11, eo11⟩ := Kd.R_slice HO_4.out
          subst eo11
          go_wp2_with (first | ((with_reducible refine gate_callee (f := 104) rfl ?_); refine goesL_ (some 18) rfl rfl Try.func104 (by kernel_rfl) rfl #[.pointer (some ⟨g1217, 0, none⟩), .slice Ao11 x4_1.length co11] rfl (by (try simp only [List.map_toArray, List.map_cons, List.map_nil]); first | done | rfl | (simp only [List.length_drop, List.length_take]; rfl)) ?_; (with_reducible refine (spec_l71Near.calls k1 g1217 t1215 x1218001_1 _ _ x4_1 t1223 t1224 w _ ?side1 ?side2 ?side3 ?side4 ?side5 A9.out).mono ?_); (case side1 => repeat (first | (with_reducible first | exact HI1217.out | apply IsS109.alloc | apply IsS109.drewN | apply IsS109.drew | apply IsS109.set_1) | exact HI1217.out)); (case side2 => repeat (first | (with_reducible first | exact HB.out | apply below_alloc | apply pw_below_drewN | apply below_drew1 | refine below_set ?_ (IsS109.ge HI1217.out)) | exact HB.out)); (case side3 => repeat (first | exact (Kd.R_reads' HO_4.out).2.2 | (with_reducible refine Kd.C_alloc ?_ _) | (with_reducible refine Kd.C_drewN ?_ _) | (with_reducible refine Kd.C_drew ?_))); (case side4 => exact (Kd.R_reads' HO_4.out).2.1); (case side5 => exact far_slice (IsS109.own_ne HI1217.out HO_4.out (by decide))); rintro e w12 ⟨rfl, hi, hb, hk⟩; refine ⟨_, rfl, ?_⟩; have n0_ := Aside0.mk (Kd.R_mono (Kd.R_keep (IsS109.apart (show IsS109 w _ g1217 t1215 x1218001_1 from by repeat (first | (with_reducible first | exact HI1217.out | apply IsS109.alloc | apply IsS109.drewN | apply IsS109.drew | apply IsS109.set_1) | exact HI1217.out)) (by (with_reducible repeat (first | apply Kd.R_alloc | apply Kd.R_drewN | apply Kd.R_drew)); exact HO_4.out) (by decide)) hk (fun _ h => h.2)) (fun _ h => h.1)); have n1_ := Aside0.mk (hb); have n2_ := Aside0.mk (hi); clear HO_4; clear HB; clear HI1217; have HO_4 := n0_; have HB := n1_; have HI1217 := n2_; clear n0_ n1_ n2_; (try clear hb); (try clear hb2); (try clear hk); (try clear hi)) | ((with_reducible refine gate_builtin (b := .append) (xs := #[.tmp 15, .tmp 19]) rfl ?_); at_builtin; refine Kd.R_append Kd.string (w0 := w) w.heap.size rfl (.tmp 15) (.tmp 19) 26 9 (.string ⟨#[]⟩) 16 rfl Try.underlying26 info9 rfl (by decide) (by omega) (.slice Ao11 x4_1.length co11) x4_1 t1223 [.string t1223] (fun _ => True) (fun _ => False) rfl rfl ?aP (fun _ hk => hk.elim) ?aF ?aO ?aB ?aS ?aL ?_; (case aP => exact rfl); (case aB => exact (by repeat (first | (with_reducible first | exact HB.out | apply below_alloc | apply pw_below_drewN | apply below_drew1 | refine below_set ?_ (IsS109.ge HI1217.out)) | exact HB.out))); (case aF => exact (fun _ _ => trivial)); (case aO => exact (by (with_reducible repeat (first | apply Kd.R_alloc | apply Kd.R_drewN | apply Kd.R_drew)); exact HO_4.out)); (case aS => exact (below_size (by repeat (first | (with_reducible first | exact HB.out | apply below_alloc | apply pw_below_drewN | apply below_drew1 | refine below_set ?_ (IsS109.ge HI1217.out)) | exact HB.out)))); (case aL => have := LMc10.out; omega); intro v1226 w13 ho hb hg hat; rw [← Ny1225.out] at ho; have n0_ := Aside0.mk (IsS109.grown (by repeat (first | (with_reducible first | exact HI1217.out | apply IsS109.alloc | apply IsS109.drewN | apply IsS109.drew | apply IsS109.set_1) | exact HI1217.out)) hg (IsS109.own_ne HI1217.out HO_4.out (by decide))); have n1_ := Aside0.mk (hb); have n2_ := Aside0.mk (ho); clear HI1217; clear HB; clear HO_4; have HI1217 := n0_; have HB := n1_; have HO1227 := n2_; clear n0_ n1_ n2_; clear ho hb hg hat))
          go_roundg k1
          case measure => have := HK1.out; omega
          case rel => exact ⟨(y1225), (wrap64 (x5_1 - 1)), (t1224), (by first | rfl | (simp; done) | (simp [*]; done)), H', ⟨by have := HK1.out; omega⟩, ⟨by (with_reducible repeat (first | apply Kd.R_alloc | apply Kd.R_drewN | apply Kd.R_drew)); exact HO1227.out⟩, ⟨by repeat (first | (with_reducible first | exact HI1217.out | apply IsS109.alloc | apply IsS109.drewN | apply IsS109.drew | apply IsS109.set_1) | exact HI1217.out)⟩, ⟨by repeat (first | (with_reducible first | exact HB.out | apply below_alloc | apply pw_below_drewN | apply below_drew1 | refine below_set ?_ (IsS109.ge HI1217.out)) | exact HB.out)⟩⟩
        · rw [if_neg c10] at H
          exact absurd H (by simp)
      · rw [if_neg c8] at H
        have c8b0 : decide (0 < x5_1) = false := decide_eq_false c8
        clear c8
        replace H := Option.bind_eq_some_iff.mp H
        obtain ⟨⟨t1228, t1231⟩, A140, H⟩ := H
        (try dsimp only at H)
        have A14 := Aside0.mk A140
        clear A140
        by_cases c15 : x4_1.length + t1228.length < 8796093022208
        · rw [if_pos c15] at H
          have LMc15 := Aside0.mk c15
          clear c15
          obtain ⟨y1232, hy1232⟩ : ∃ y_ : List ByteArray, y_ = (x4_1 ++ t1228) := ⟨_, rfl⟩
          replace H : (some y1232) = some r := by first | (rw [hy1232]; with_reducible exact H) | (have H2_ := (Option.bind_some _ _).symm.trans H; rw [hy1232]; with_reducible exact H2_) | (have H2_ := (Option.bind_some _ _).symm.trans H; with_reducible exact H2_) | with_reducible exact H | (rw [hy1232]; exact H) | exact H
          have Ny1232 := Aside0.mk hy1232
          clear hy1232
          obtain rfl := Option.some.inj H
          go_wp2_with (first | ((with_reducible refine gate_callee (f := 114) rfl ?_); refine goesL_ (some 23) rfl rfl Try.func114 (by kernel_rfl) rfl #[.pointer (some ⟨g1217, 0, none⟩)] rfl (by (try simp only [List.map_toArray, List.map_cons, List.map_nil]); first | done | rfl | (simp only [List.length_drop, List.length_take]; rfl)) ?_; (with_reducible refine (spec_l71Mess.calls k1 g1217 t1215 x1218001_1 t1228 t1231 w _ ?side1 ?side2 A14.out).mono ?_); (case side1 => repeat (first | (with_reducible first | exact HI1217.out | apply IsS109.alloc | apply IsS109.drewN | apply IsS109.drew | apply IsS109.set_1) | exact HI1217.out)); (case side2 => repeat (first | (with_reducible first | exact HB.out | apply below_alloc | apply pw_below_drewN | apply below_drew1 | refine below_set ?_ (IsS109.ge HI1217.out)) | exact HB.out)); rintro e w16 ⟨v1229, rfl, ho0, hi, hb, hk⟩; refine ⟨_, rfl, ?_⟩; have n0_ := Aside0.mk (Kd.R_mono (Kd.R_told (Kd.R_oldK (IsS109.apart (show IsS109 w _ g1217 t1215 x1218001_1 from by repeat (first | (with_reducible first | exact HI1217.out | apply IsS109.alloc | apply IsS109.drewN | apply IsS109.drew | apply IsS109.set_1) | exact HI1217.out)) (by (with_reducible repeat (first | apply Kd.R_alloc | apply Kd.R_drewN | apply Kd.R_drew)); exact HO_4.out) (by decide)) hk) (Kd.R_base ho0)) (fun _ h_ => h_.1)); have n1_ := Aside0.mk (Kd.R_lower (Kd.R_new' ho0 (Kd.R_lt (by (with_reducible repeat (first | apply Kd.R_alloc | apply Kd.R_drewN | apply Kd.R_drew)); exact HO_4.out))) (below_size (by repeat (first | (with_reducible first | exact HB.out | apply below_alloc | apply pw_below_drewN | apply below_drew1 | refine below_set ?_ (IsS109.ge HI1217.out)) | exact HB.out)))); have n2_ := Aside0.mk (hb); have n3_ := Aside0.mk (hi); clear HO_4; clear HB; clear HI1217; have HO_4 := n0_; have HO1230 := n1_; have HB := n2_; have HI1217 := n3_; clear n0_ n1_ n2_ n3_; (try clear hb); (try clear hb2); (try clear hk); (try clear hi); (try clear ho0); obtain ⟨Ao18, co18, eo18⟩ := Kd.R_slice HO1230.out; subst eo18) | ((with_reducible refine gate_builtin (b := .append) (xs := #[.tmp 21, .tmp 23]) rfl ?_); at_builtin; refine Kd.R_append_rows Kd.string (w0 := w) w.heap.size rfl (.tmp 21) (.tmp 23) 26 9 (.string ⟨#[]⟩) 16 rfl Try.underlying26 info9 rfl (by decide) (by omega) u4 x4_1 t1228 _ _ _ (fun k_ => some k_ ≠ (.slice Ao18 t1228.length co18 : Value).ownBlock) (fun _ => False) rfl rfl ?aO ?aR (fun _ _ h => h) (fun _ h => h.elim) ?aF ?aB ?aS ?aL ?_; (case aR => repeat (first | exact (Kd.R_reads' HO1230.out).2.2 | (with_reducible refine Kd.C_alloc ?_ _) | (with_reducible refine Kd.C_drewN ?_ _) | (with_reducible refine Kd.C_drew ?_))); (case aB => exact (by repeat (first | (with_reducible first | exact HB.out | apply below_alloc | apply pw_below_drewN | apply below_drew1 | refine below_set ?_ (IsS109.ge HI1217.out)) | exact HB.out))); (case aF => exact (fun k_ hk => Kd.fresh' (Kd.R_lt (by (with_reducible repeat (first | apply Kd.R_alloc | apply Kd.R_drewN | apply Kd.R_drew)); exact HO1230.out)) k_ hk)); (case aO => exact (by (with_reducible repeat (first | apply Kd.R_alloc | apply Kd.R_drewN | apply Kd.R_drew)); exact Kd.R_mono HO_4.out (fun _ hk => hk.2))); (case aS => exact (below_size (by repeat (first | (with_reducible first | exact HB.out | apply below_alloc | apply pw_below_drewN | apply below_drew1 | refine below_set ?_ (IsS109.ge HI1217.out)) | exact HB.out)))); (case aL => have := LMc15.out; omega); intro v1233 w17 ho hb hg hat; rw [← Ny1232.out] at ho; have n0_ := Aside0.mk (IsS109.grown (by repeat (first | (with_reducible first | exact HI1217.out | apply IsS109.alloc | apply IsS109.drewN | apply IsS109.drew | apply IsS109.set_1) | exact HI1217.out)) hg (IsS109.own_ne HI1217.out HO_4.out (by decide))); have n1_ := Aside0.mk (Kd.R_after (ok := (fun _ => True)) (by (with_reducible repeat (first | apply Kd.R_alloc | apply Kd.R_drewN | apply Kd.R_drew)); exact HO1230.out) hg hat); have n2_ := Aside0.mk (hb); have n3_ := Aside0.mk (ho); clear HI1217; clear HO1230; clear HB; clear HO_4; have HI1217 := n0_; have HO1230 := n1_; have HB := n2_; have HO1234 := n3_; clear n0_ n1_ n2_ n3_; clear ho hb hg hat))
          go_ret
          exact ⟨_, by first | rfl | (simp [errW_none, errW_some] <;> rfl) | (simp [*, errW_none, errW_some] <;> rfl), by (with_reducible repeat (first | apply Kd.R_alloc | apply Kd.R_drewN | apply Kd.R_drew)); exact Kd.R_mono HO1234.out (fun _ hk => trivial), by repeat (first | (with_reducible first | exact HB.out | apply below_alloc | apply pw_below_drewN | apply below_drew1 | refine below_set ?_ (IsS109.ge HI1217.out)) | exact HB.out)⟩
        · rw [if_neg c15] at H
          exact absurd H (by simp)
end Go.Proofs.Ytonagfbadoacjaa.Q
end
section
set_option linter.unusedVariables false
set_option linter.unusedSimpArgs false
namespace Go.Proofs.Ytonagfbadoacjaa.Pb
open Go Go.RowKit Go.Proofs.YtonagfbadoacjaaW.PrintWords Go.Proofs.YtonagfbadoacjaaW.PrintLast Go.Proofs.YtonagfbadoacjaaW.PrintMore Go.Proofs.Ytonagfbadoacjaa.Trie Go.Proofs.Ytonagfbadoacjaa.Q
theorem uniqS {r r' : List ByteArray} (h : (LL r).Pairwise (· < ·)) (h' : (LL r').Pairwise (· < ·)) (e : ∀ x, x ∈ LL r ↔ x ∈ LL r') : r = r' := LL_inj (sorted_unique h h' e)
theorem resort_ev (r : List ByteArray) (hr : SzL r) (hn : r.length ≤ 2000000) (hs : (LL r).Pairwise (· < ·)) (hk : ∀ x ∈ LL r, kokB x = true) : Ev (fun k => impl_KeysSort.f k r) r := by
  obtain ⟨r', h1, _, s1, _, m1⟩ := KeysSort_ev r hr hn
  have : r' = r := uniqS s1 hs (fun x => by rw [m1]; exact ⟨fun q => q.1, fun q => ⟨q, hk x q⟩⟩)
  rw [this] at h1
  exact h1
theorem DrawKeysSort_l0 {b : List Int} (hb : By b) (d : Nat) : ∀ (x4 : List ByteArray) (p : Int), 0 ≤ p → p + 20 * d ≤ 40000 → (∀ x ∈ x4, KOk (L x)) → x4.length + d ≤ 20 →
    ∃ s, Ev (fun k => spec_DrawKeysSort.l0 k x4 (d : Int) b p) s ∧ (∀ x ∈ s, (L x).length ≤ 10) ∧ s.length ≤ 70 := by
  induction d with
  | zero =>
    intro x4 p h0 h1 h2 h3
    obtain ⟨s, q, hs, g, n, _, _⟩ := mess_ev hb p h0 (by omega)
    refine ⟨x4 ++ s, ev_succ ?_, fun x hx => ?_, by simp; omega⟩
    · simp only [spec_DrawKeysSort.l0]
      exact ev_neg (by omega) (Ev.bind hs (ev_pos (by simp only []; omega) (ev_some rfl)))
    · rcases List.mem_append.1 hx with h | h
      · have := (h2 x h).len; omega
      · exact g x h
  | succ d ih =>
    intro x4 p h0 h1 h2 h3
    obtain ⟨s, q, hs, ks, q0, q1⟩ := near_ev hb p h0 (by omega) x4 (by omega) h2
    obtain ⟨r, hr, g⟩ := ih (x4 ++ [s]) q (by omega) (by omega) (fun x hx => by
      rcases List.mem_append.1 hx with h | h
      · exact h2 x h
      · rw [List.mem_singleton.1 h]; exact ks) (by simp; omega)
    refine ⟨r, ev_succ ?_, g⟩
    simp only [spec_DrawKeysSort.l0]
    refine ev_pos (by omega) (Ev.bind hs (ev_pos (by omega) ?_))
    rw [w64 (by omega) (by omega), show ((d + 1 : Nat) : Int) - 1 = (d : Int) by omega]
    exact hr
theorem DrawKeysSort_ev (l0 : List Int) (hl : l0.length ≤ maxLen) (hw : ∀ x ∈ l0, (Lit.int .u8 x).wf = true) :
    ∃ s, Ev (fun k => spec_DrawKeysSort.f k l0) s ∧ SzL s ∧ s.length ≤ 70 := by
  obtain ⟨b, ho, hb⟩ := open_ev l0 hl hw
  obtain ⟨m, hm, m0, m1, _⟩ := pick_ev hb 0 (by omega) (by omega) 10 (by omega)
  have m1 := m1 (by omega)
  obtain ⟨n, rfl⟩ : ∃ n : Nat, m = (n : Int) := ⟨m.toNat, by omega⟩
  obtain ⟨s, hs, g, gl⟩ := DrawKeysSort_l0 hb n [] (0 + 1) (by omega) (by omega) (by simp) (by simp; omega)
  refine ⟨s, ?_, szl_of g (by omega), gl⟩
  unfold spec_DrawKeysSort.f
  exact ev_bindc ho (Ev.bind hm hs)
theorem DrawKeysOk_ev (l0 : List Int) (hl : l0.length ≤ maxLen) (hw : ∀ x ∈ l0, (Lit.int .u8 x).wf = true) :
    ∃ s, Ev (fun k => spec_DrawKeysOk.f k l0) s ∧ SzL s ∧ s.length ≤ 70 := by
  obtain ⟨b, ho, hb⟩ := open_ev l0 hl hw
  obtain ⟨m, hm, m0, m1, _⟩ := pick_ev hb 0 (by omega) (by omega) 2 (by omega)
  by_cases c : m = 0
  · obtain ⟨s, q, hs, ks, ns, _, _⟩ := keys_ev hb (0 + 1) (by omega) (by omega) 10 (by omega)
    refine ⟨s, ?_, szl_of (sok_short ks) (by omega), by omega⟩
    unfold spec_DrawKeysOk.f
    exact ev_bindc ho (Ev.bind hm (ev_pos c (Ev.bind hs (ev_some rfl))))
  · obtain ⟨s, q, hs, ks, ns, _, _⟩ := mess_ev hb (0 + 1) (by omega) (by omega)
    refine ⟨s, ?_, szl_of ks (by omega), by omega⟩
    unfold spec_DrawKeysOk.f
    exact ev_bindc ho (Ev.bind hm (ev_neg c (Ev.bind hs (ev_some rfl))))
theorem szl_append {a b : List ByteArray} (ha : SzL a) (hb : SzL b) (hn : a.length + b.length ≤ 1000000) : SzL (a ++ b) :=
  ⟨by simp; omega, fun s hs => (List.mem_append.1 hs).elim (ha.each s) (hb.each s)⟩
theorem szl_sub {r l : List ByteArray} (hl : SzL l) (hn : r.length ≤ l.length) (h : ∀ x, x ∈ LL r → x ∈ LL l) : SzL r := by
  refine ⟨Nat.le_trans hn hl.len, fun s hs => ?_⟩
  obtain ⟨t, ht, e⟩ := List.mem_map.1 (h _ (LL_mem hs))
  have := hl.each t ht
  rw [size_L] at this ⊢
  rw [← e]; exact this
end Go.Proofs.Ytonagfbadoacjaa.Pb
end
section
set_option linter.unusedVariables false
set_option linter.unusedSimpArgs false
namespace Go.Proofs.Ytonagfbadoacjaa.Pure
open Go Go.RowKit Go.Proofs.YtonagfbadoacjaaW.PrintWords Go.Proofs.YtonagfbadoacjaaW.PrintLast Go.Proofs.YtonagfbadoacjaaW.PrintMore Go.Proofs.Ytonagfbadoacjaa.Trie Go.Proofs.Ytonagfbadoacjaa.Q Go.Proofs.Ytonagfbadoacjaa.Pb
theorem FnKeysOk : laws_FnKeysOk.Pure := by
  intro l0 l1 h0 h1 h2 g0 g1 g2
  refine Ev.rounds ?_
  have main : ∀ b : Bool, Ev (fun k => laws_FnKeysOk.j0 k l0 l1 b) true := by
    intro b
    refine ev_succ ?_
    simp only [laws_FnKeysOk.j0]
    cases b with
    | true => exact ev_pos rfl (ev_some rfl)
    | false =>
      obtain ⟨s, hd, hs, hn⟩ := DrawKeysOk_ev l0 h0 h2
      refine ev_neg (by simp) (Ev.bind hd (Ev.bind (impl_KeysOk_ev s hs) (Ev.bind (spec_KeysOk_ev s hs) (ev_neg (by simp) (ev_succ ?_)))))
      simp only [laws_FnKeysOk.j1]
      cases hk : keysB (LL s) with
      | false => exact ev_pos rfl (Ev.bind (spec_KeysOk_ev s hs) (ev_some (by rw [hk]; rfl)))
      | true =>
        have K := keysB_iff.1 hk
        refine ev_neg (by simp) ?_
        rw [w64 (i := (s.length : Int) + 1) (by omega) (by omega)]
        have e1 : 0 ≤ (l1.length : Int) % ((s.length : Int) + 1) := Int.emod_nonneg _ (by omega)
        have e2 : (l1.length : Int) % ((s.length : Int) + 1) < (s.length : Int) + 1 := Int.emod_lt_of_pos _ (by omega)
        generalize (l1.length : Int) % ((s.length : Int) + 1) = c at e1 e2 ⊢
        have st : SzL (s.take c.toNat) := ⟨by rw [List.length_take]; omega, fun x hx => hs.each x (List.mem_of_mem_take hx)⟩
        have sd : SzL (s.drop c.toNat) := ⟨by rw [List.length_drop]; omega, fun x hx => hs.each x (List.mem_of_mem_drop hx)⟩
        have kt : keysB (LL (s.take c.toNat)) = true := by
          rw [keysB_iff, LL, List.map_take]
          exact ⟨fun k hk => K.ok k (List.mem_of_mem_take hk), K.sorted.sublist (List.take_sublist _ _), by have := K.few; rw [List.length_take]; unfold LL at this; omega⟩
        have kd : keysB (LL (s.drop c.toNat)) = true := by
          rw [keysB_iff, LL, List.map_drop]
          exact ⟨fun k hk => K.ok k (List.mem_of_mem_drop hk), K.sorted.sublist (List.drop_sublist _ _), by have := K.few; rw [List.length_drop]; unfold LL at this; omega⟩
        have hsrt := resort_ev s hs (by omega) K.sorted (fun x hx => kokB_iff.2 (K.ok x hx))
        have it := impl_KeysOk_ev _ st
        have id := impl_KeysOk_ev _ sd
        rw [kt] at it
        rw [kd] at id
        exact ev_neg (by omega) (ev_pos e1 (ev_pos (by omega) (Ev.bind it (ev_pos rfl (Ev.bind id (ev_pos rfl (Ev.bind hsrt (Ev.bind (same_ev s (by omega)) (ev_some rfl)))))))))
  unfold laws_FnKeysOk.f
  by_cases c : (l0.length : Int) > 1048576
  · exact ev_pos c (main _)
  · exact ev_neg c (main _)
end Go.Proofs.Ytonagfbadoacjaa.Pure
end
