/- What the law FnExactSieveOf needs, part 3: the kit's printed words, the printed functions with their proofs, and plain facts on them. -/
import Derived.Lib.Builder
import Derived.Lib.UnsafeStr
import Derived.Lib.Walk
import Derived.Laws.Externs
import Derived.Test.YtonagfbadoacjaaBFnExactSieveOfb
section
namespace Go.Proofs.Ytonagfbadoacjaa.Q
open Go.RowKit Go.Proofs.YtonagfbadoacjaaW.PrintWords Go.Proofs.YtonagfbadoacjaaW.PrintLast Go.Proofs.YtonagfbadoacjaaW.PrintMore
attribute [local go_sem] max2_int min2_int max_two min_two max_three min_three max_four min_four   
set_option linter.unusedVariables false
set_option linter.unusedSimpArgs false
theorem spec_l3Put.mono_l : ∀ k, (∀ y0 y1 y2 y3 y4 y5 y6 y7 y8, LeO (spec_l3Put.l0 k y0 y1 y2 y3 y4 y5 y6 y7 y8) (spec_l3Put.l0 (k + 1) y0 y1 y2 y3 y4 y5 y6 y7 y8))
  | 0 => fun _ _ _ _ _ _ _ _ _ r h => by simp [spec_l3Put.l0] at h
  | k + 1 => by
    have ih0 := spec_l3Put.mono_l k
    · intro y0 y1 y2 y3 y4 y5 y6 y7 y8
      unfold spec_l3Put.l0
      repeat' first
      | (with_reducible exact ih0 _ _ _ _ _ _ _ _ _)
      | (with_reducible exact spec_l3Group.mono _ _ _)
      | (with_reducible exact LeO.refl _)
      | (with_reducible exact LeO.none _)
      | (with_reducible refine LeO.ite ?_ ?_)
      | (with_reducible refine LeO.bind ?_ (fun _ => ?_))
      | exact ih0 _ _ _ _ _ _ _ _ _
      | exact spec_l3Group.mono _ _ _
      | exact LeO.none _
      | refine LeO.ite ?_ ?_
      | refine LeO.bind ?_ (fun _ => ?_)
theorem spec_l3Put.mono : ∀ a0 a1 a2 a3 a4 a5 a6 k, LeO (spec_l3Put.f k a0 a1 a2 a3 a4 a5 a6) (spec_l3Put.f (k + 1) a0 a1 a2 a3 a4 a5 a6) := by
  intro a0 a1 a2 a3 a4 a5 a6 k
  have ih0 := spec_l3Put.mono_l k
  unfold spec_l3Put.f
  repeat' first
      | (with_reducible exact ih0 _ _ _ _ _ _ _ _ _)
      | (with_reducible exact spec_l3Group.mono _ _ _)
      | (with_reducible exact LeO.refl _)
      | (with_reducible exact LeO.none _)
      | (with_reducible refine LeO.ite ?_ ?_)
      | (with_reducible refine LeO.bind ?_ (fun _ => ?_))
      | exact ih0 _ _ _ _ _ _ _ _ _
      | exact spec_l3Group.mono _ _ _
      | exact LeO.none _
      | refine LeO.ite ?_ ?_
      | refine LeO.bind ?_ (fun _ => ?_)
def spec_l3Put.T13 : Bool × List (List Nat × List Nat) := (true, [([], []), ([0], [0]), ([], []), ([2], [2]), ([3], [3]), ([], []), ([5], [5]), ([6], [6]), ([], []), ([8], [8]), ([4, 7, 9], [4, 7, 9]), ([10], [10]), ([1, 11, 10], [1, 11]), ([0, 1, 2, 3, 4, 5, 6, 7, 8, 9, 10, 11, 12], []), ([13, 12, 12, 0, 1, 2, 3, 4, 5, 6, 7, 8, 9, 10, 11, 12], [12, 13])])
def spec_l3Put.B13 : List Nat := [0, 1, 0, 4, 12, 0, 32, 96, 0, 256, 1020, 2044, 4095, 8191, 16383]
theorem spec_l3Put.tab13 : rtab .any (opsOf Try.f115 13) = spec_l3Put.T13 := by kernel_rfl
theorem spec_l3Put.bits13 : waitsOk spec_l3Put.T13.2 spec_l3Put.B13 = true := by kernel_rfl
set_option maxHeartbeats 8000000 in
set_option maxRecDepth 100000 in
theorem spec_l3Put.calls (k : Nat) (a0_0 : ByteArray) (a0_1 : ByteArray) (a0_2 : ByteArray) (P0_3_ : Nat → Prop) (u9000_ : Value) (l0_3 : List ByteArray) (a0_4 : Int) (P1_0_ : Nat → Prop) (A1_0 : Option Addr) (c1_0 : Nat) (l1_0 : List ByteArray) (a1_1 : Int) (r1 : ByteArray) (r2 : ByteArray) (r3 : ByteArray) (r4 : List ByteArray) (r5 : Int) (r6 : List (S89)) (w0 w : World) (hB : Below w0.heap.size w0 w) (ho0_3 : Kd.R Kd.string 9 w w0.heap.size P0_3_ u9000_ l0_3) (hs1_0 : Kd.V Kd.string 9 w w0.heap.size (fun k_ => P1_0_ k_ ∧ some k_ ≠ (u9000_ : Value).ownBlock) (.slice A1_0 l1_0.length c1_0) l1_0) (h : spec_l3Put.f k a0_0 a0_1 a0_2 l0_3 a0_4 l1_0 a1_1 = some (r1, r2, r3, r4, r5, r6)) :
    Calls Try.prog 115 #[.agg #[.string a0_0, .string a0_1, .string a0_2, u9000_, .int .i64 a0_4], .agg #[.slice A1_0 l1_0.length c1_0, .int .i64 a1_1]] w fun e w' => ∃ v3_ v5_ : Value, e = .returned (.tuple #[.agg #[.string r1, .string r2, .string r3, v3_, .int .i64 r5], v5_]) ∧ Kd.R Kd.string 9 w' w0.heap.size (fun k_ => (P0_3_ k_ ∨ w.heap.size ≤ k_)) v3_ r4 ∧ Kd.N k89 89 w' w.heap.size (fun k_ => ((P0_3_ k_ ∨ P1_0_ k_) ∨ w.heap.size ≤ k_) ∧ some k_ ≠ (v3_ : Value).ownBlock) v5_ r6 ∧ Below w0.heap.size w0 w' ∧ Kept w w' (fun k_ => P0_3_ k_) := by
  have hu28 := Try.underlying28
  have hu89 := Try.underlying89
  have HO0_3 := Aside0.mk (show Kd.R Kd.string 9 w w0.heap.size (fun k_ => (P0_3_ k_ ∨ w.heap.size ≤ k_)) u9000_ l0_3 from Kd.R_mono ho0_3 (fun k_ hk => (.inl hk)))
  have HO1_0 := Aside0.mk (show Kd.V Kd.string 9 w w0.heap.size (fun k_ => ((P0_3_ k_ ∨ P1_0_ k_) ∨ w.heap.size ≤ k_) ∧ some k_ ≠ (u9000_ : Value).ownBlock) (.slice A1_0 l1_0.length c1_0) l1_0 from Kd.V_mono hs1_0 (fun k_ hk => ⟨.inl (.inr hk.1), hk.2⟩))
  have HK := Aside0.mk (Kept.refl w (fun k_ => P0_3_ k_))
  have HW0 := Aside0.mk hB.size
  have HB := Aside0.mk hB
  clear hB
  have H : (spec_l3Put.l0 k (([] : List (S89))) (⟨#[49]⟩ : ByteArray) a0_0 a0_1 a0_2 l0_3 a0_4 l1_0 a1_1) = some (r1, r2, r3, r4, r5, r6) := h
  clear h
  obtain ⟨y136, hy136⟩ : ∃ y_ : List (S89), y_ = (([] : List (S89))) := ⟨_, rfl⟩
  replace H : (spec_l3Put.l0 k y136 (⟨#[49]⟩ : ByteArray) a0_0 a0_1 a0_2 l0_3 a0_4 l1_0 a1_1) = some (r1, r2, r3, r4, r5, r6) := by first | (rw [hy136]; with_reducible exact H) | (have H2_ := (Option.bind_some _ _).symm.trans H; rw [hy136]; with_reducible exact H2_) | (have H2_ := (Option.bind_some _ _).symm.trans H; with_reducible exact H2_) | with_reducible exact H | (rw [hy136]; exact H) | exact H
  have Ny136 := Aside0.mk hy136
  clear hy136
  have H' := Aside0.mk H
  clear H
  obtain ⟨Ao3, co3, eo3⟩ := Kd.R_slice HO0_3.out
  subst eo3
  go_enter Try.func115, Try.ntmps115
  go_wp2_with (first | ((with_reducible refine gate_dst (N := 2) rfl ?_); refine box_event ?hg (N := 2) ?hd (cs := #[.string a0_0, .string a0_1, .string a0_2, .slice Ao3 l0_3.length co3, .int .i64 a0_4]) (t := 28) ?hr ?_; (case hd => rfl); (case hg => rfl); (case hr => first | (go_simp; done) | (go_simp; rfl)); intro gb133 hg w4 hbox hb; have n0_ := Aside0.mk (Kd.R_below (zr HO0_3.out) hb); have n1_ := Aside0.mk (Kd.V_below (Kd.V_elderB (by (with_reducible repeat (first | apply Kd.V_alloc | apply Kd.V_drewN | apply Kd.V_drew)); exact HO1_0.out) gb133 (Nat.le_of_eq hg.symm)) hb); have n2_ := Aside0.mk (Kept.below (S := (fun k_ => P0_3_ k_)) (zk HK.out) hb); have n3_ := Aside0.mk (below_step (zb HB.out) hb); have n4_ := Aside0.mk (hbox); have n5_ := Aside0.mk ((by rw [hg]; exact (by first | exact HK.out.1 | exact (show Kept w _ (fun k_ => P0_3_ k_) from zk HK.out).1) : w.heap.size ≤ gb133)); have n6_ := Aside0.mk ((by rw [hg]; exact (below_size (zb HB.out)) : w0.heap.size ≤ gb133)); clear HO0_3; clear HO1_0; clear HK; clear HB; have HO0_3 := n0_; have HO1_0 := n1_; have HK := n2_; have HB := n3_; have BK133 := n4_; have GW133 := n5_; have GE133 := n6_; clear n0_ n1_ n2_ n3_ n4_ n5_ n6_; clear hb hbox hg) | ((with_reducible refine gate_dst (N := 3) rfl ?_); refine box_event ?hg (N := 3) ?hd (cs := #[.slice A1_0 l1_0.length c1_0, .int .i64 a1_1]) (t := 89) ?hr ?_; (case hd => rfl); (case hg => rfl); (case hr => first | (go_simp; done) | (go_simp; rfl)); intro gb134 hg w5 hbox hb; have n0_ := Aside0.mk (Kd.R_below (zr HO0_3.out) hb); have n1_ := Aside0.mk (Kd.V_below (Kd.V_elderB (by (with_reducible repeat (first | apply Kd.V_alloc | apply Kd.V_drewN | apply Kd.V_drew)); exact HO1_0.out) gb134 (Nat.le_of_eq hg.symm)) hb); have n2_ := Aside0.mk (blk_below (g := gb133) (o := .cells #[.string a0_0, .string a0_1, .string a0_2, .slice Ao3 l0_3.length co3, .int .i64 a0_4] 28 (0, 0)) (by (with_reducible repeat (first | refine blk_drewN ?_ _ | refine blk_drew ?_ | refine blk_alloc ?_ _)); exact BK133.out) hb); have n3_ := Aside0.mk (Kept.below (S := (fun k_ => P0_3_ k_)) (by repeat (first | (with_reducible first | exact HK.out | apply Kept.alloc | apply Kept.drewN | apply Kept.drew | refine Kept.setCell ?_ (.inr GW133.out) _) | exact HK.out)) hb); have n4_ := Aside0.mk (below_step (by repeat (first | (with_reducible first | exact HB.out | apply below_alloc | apply pw_below_drewN | apply below_drew1 | refine below_set ?_ GE133.out) | exact HB.out)) hb); have n5_ := Aside0.mk (hbox); have n6_ := Aside0.mk ((by rw [hg]; exact (by first | exact HK.out.1 | exact (show Kept w _ (fun k_ => P0_3_ k_) from by repeat (first | (with_reducible first | exact HK.out | apply Kept.alloc | apply Kept.drewN | apply Kept.drew | refine Kept.setCell ?_ (.inr GW133.out) _) | exact HK.out)).1) : w.heap.size ≤ gb134)); have n7_ := Aside0.mk ((by rw [hg]; exact (below_size (by repeat (first | (with_reducible first | exact HB.out | apply below_alloc | apply pw_below_drewN | apply below_drew1 | refine below_set ?_ GE133.out) | exact HB.out))) : w0.heap.size ≤ gb134)); have n8_ := Aside0.mk ((by rw [hg]; exact Nat.ne_of_lt (blk_lt (g := gb133) (o := .cells #[.string a0_0, .string a0_1, .string a0_2, .slice Ao3 l0_3.length co3, .int .i64 a0_4] 28 (0, 0)) (by (with_reducible repeat (first | refine blk_drewN ?_ _ | refine blk_drew ?_ | refine blk_alloc ?_ _)); exact BK133.out)) : gb133 ≠ gb134)); have n9_ := Aside0.mk ((by rw [hg]; exact Nat.ne_of_gt (blk_lt (g := gb133) (o := .cells #[.string a0_0, .string a0_1, .string a0_2, .slice Ao3 l0_3.length co3, .int .i64 a0_4] 28 (0, 0)) (by (with_reducible repeat (first | refine blk_drewN ?_ _ | refine blk_drew ?_ | refine blk_alloc ?_ _)); exact BK133.out)) : gb134 ≠ gb133)); clear HO0_3; clear HO1_0; clear BK133; clear HK; clear HB; have HO0_3 := n0_; have HO1_0 := n1_; have BK133 := n2_; have HK := n3_; have HB := n4_; have BK134 := n5_; have GW134 := n6_; have GE134 := n7_; have NB133_134 := n8_; have NB134_133 := n9_; clear n0_ n1_ n2_ n3_ n4_ n5_ n6_ n7_ n8_ n9_; clear hb hbox hg) | ((with_reducible refine gate_dst (N := 4) rfl ?_); refine box_event ?hg (N := 4) ?hd (cs := #[.string (⟨#[]⟩ : ByteArray), .string (⟨#[]⟩ : ByteArray), .string (⟨#[]⟩ : ByteArray), .slice none 0 0, .int .i64 0]) (t := 28) ?hr ?_; (case hd => rfl); (case hg => rfl); (case hr => first | (go_simp; done) | (go_simp; rfl)); intro gb135 hg w6 hbox hb; have n0_ := Aside0.mk (Kd.R_below (zr HO0_3.out) hb); have n1_ := Aside0.mk (Kd.V_below (Kd.V_elderB (by (with_reducible repeat (first | apply Kd.V_alloc | apply Kd.V_drewN | apply Kd.V_drew)); exact HO1_0.out) gb135 (Nat.le_of_eq hg.symm)) hb); have n2_ := Aside0.mk (blk_below (g := gb133) (o := .cells #[.string a0_0, .string a0_1, .string a0_2, .slice Ao3 l0_3.length co3, .int .i64 a0_4] 28 (0, 0)) (by (with_reducible repeat (first | refine blk_drewN ?_ _ | refine blk_drew ?_ | refine blk_alloc ?_ _)); exact BK133.out) hb); have n3_ := Aside0.mk (blk_below (g := gb134) (o := .cells #[.slice A1_0 l1_0.length c1_0, .int .i64 a1_1] 89 (0, 0)) (by (with_reducible repeat (first | refine blk_drewN ?_ _ | refine blk_drew ?_ | refine blk_alloc ?_ _)); exact BK134.out) hb); have n4_ := Aside0.mk (Kept.below (S := (fun k_ => P0_3_ k_)) (by repeat (first | (with_reducible first | exact HK.out | apply Kept.alloc | apply Kept.drewN | apply Kept.drew | refine Kept.setCell ?_ (.inr GW133.out) _ | refine Kept.setCell ?_ (.inr GW134.out) _) | exact HK.out)) hb); have n5_ := Aside0.mk (below_step (by repeat (first | (with_reducible first | exact HB.out | apply below_alloc | apply pw_below_drewN | apply below_drew1 | refine below_set ?_ GE133.out | refine below_set ?_ GE134.out) | exact HB.out)) hb); have n6_ := Aside0.mk (hbox); have n7_ := Aside0.mk ((by rw [hg]; exact (by first | exact HK.out.1 | exact (show Kept w _ (fun k_ => P0_3_ k_) from by repeat (first | (with_reducible first | exact HK.out | apply Kept.alloc | apply Kept.drewN | apply Kept.drew | refine Kept.setCell ?_ (.inr GW133.out) _ | refine Kept.setCell ?_ (.inr GW134.out) _) | exact HK.out)).1) : w.heap.size ≤ gb135)); have n8_ := Aside0.mk ((by rw [hg]; exact (below_size (by repeat (first | (with_reducible first | exact HB.out | apply below_alloc | apply pw_below_drewN | apply below_drew1 | refine below_set ?_ GE133.out | refine below_set ?_ GE134.out) | exact HB.out))) : w0.heap.size ≤ gb135)); have n9_ := Aside0.mk ((by rw [hg]; exact Nat.ne_of_lt (blk_lt (g := gb133) (o := .cells #[.string a0_0, .string a0_1, .string a0_2, .slice Ao3 l0_3.length co3, .int .i64 a0_4] 28 (0, 0)) (by (with_reducible repeat (first | refine blk_drewN ?_ _ | refine blk_drew ?_ | refine blk_alloc ?_ _)); exact BK133.out)) : gb133 ≠ gb135)); have n10_ := Aside0.mk ((by rw [hg]; exact Nat.ne_of_gt (blk_lt (g := gb133) (o := .cells #[.string a0_0, .string a0_1, .string a0_2, .slice Ao3 l0_3.length co3, .int .i64 a0_4] 28 (0, 0)) (by (with_reducible repeat (first | refine blk_drewN ?_ _ | refine blk_drew ?_ | refine blk_alloc ?_ _)); exact BK133.out)) : gb135 ≠ gb133)); have n11_ := Aside0.mk ((by rw [hg]; exact Nat.ne_of_lt (blk_lt (g := gb134) (o := .cells #[.slice A1_0 l1_0.length c1_0, .int .i64 a1_1] 89 (0, 0)) (by (with_reducible repeat (first | refine blk_drewN ?_ _ | refine blk_drew ?_ | refine blk_alloc ?_ _)); exact BK134.out)) : gb134 ≠ gb135)); have n12_ := Aside0.mk ((by rw [hg]; exact Nat.ne_of_gt (blk_lt (g := gb134) (o := .cells #[.slice A1_0 l1_0.length c1_0, .int .i64 a1_1] 89 (0, 0)) (by (with_reducible repeat (first | refine blk_drewN ?_ _ | refine blk_drew ?_ | refine blk_alloc ?_ _)); exact BK134.out)) : gb135 ≠ gb134)); clear HO0_3; clear HO1_0; clear BK133; clear BK134; clear HK; clear HB; have HO0_3 := n0_; have HO1_0 := n1_; have BK133 := n2_; have BK134 := n3_; have HK := n4_; have HB := n5_; have BK135 := n6_; have GW135 := n7_; have GE135 := n8_; have NB133_135 := n9_; have NB135_133 := n10_; have NB134_135 := n11_; have NB135_134 := n12_; clear n0_ n1_ n2_ n3_ n4_ n5_ n6_ n7_ n8_ n9_ n10_ n11_ n12_; clear hb hbox hg) | ((with_reducible refine gate_dst (N := 10) rfl ?_); refine Kd.N_lit k89 _ 89 ?hg (N' := 10) ?hd (xs := ([] : List (S89))) (inner := []) (ok := (fun k_ => ((P0_3_ k_ ∨ P1_0_ k_) ∨ w.heap.size ≤ k_) ∧ some k_ ≠ (.slice Ao3 l0_3.length co3 : Value).ownBlock ∧ k_ ≠ gb133 ∧ k_ ≠ gb134 ∧ k_ ≠ gb135)) (okp := (fun k_ => ((P0_3_ k_ ∨ P1_0_ k_) ∨ w.heap.size ≤ k_) ∧ some k_ ≠ (.slice Ao3 l0_3.length co3 : Value).ownBlock ∧ k_ ≠ gb133 ∧ k_ ≠ gb134 ∧ k_ ≠ gb135)) ?hr ?hp (fun _ hk => hk) ((show ∀ k_, w6.heap.size ≤ k_ → (fun k_ => ((P0_3_ k_ ∨ P1_0_ k_) ∨ w.heap.size ≤ k_) ∧ some k_ ≠ (.slice Ao3 l0_3.length co3 : Value).ownBlock ∧ k_ ≠ gb133 ∧ k_ ≠ gb134 ∧ k_ ≠ gb135) k_ from fun k_ hk => ⟨(.inr (Nat.le_trans (by first | exact HK.out.1 | exact (show Kept w _ (fun k_ => P0_3_ k_) from by repeat (first | (with_reducible first | exact HK.out | apply Kept.alloc | apply Kept.drewN | apply Kept.drew | refine Kept.setCell ?_ (.inr GW133.out) _ | refine Kept.setCell ?_ (.inr GW134.out) _ | refine Kept.setCell ?_ (.inr GW135.out) _) | exact HK.out)).1) hk)), Kd.fresh' (Kd.R_lt (zr HO0_3.out)) k_ hk, Kd.freshB (g := gb133) (o := .cells #[.string a0_0, .string a0_1, .string a0_2, .slice Ao3 l0_3.length co3, .int .i64 a0_4] 28 (0, 0)) (by (with_reducible repeat (first | refine blk_drewN ?_ _ | refine blk_drew ?_ | refine blk_alloc ?_ _)); exact BK133.out) k_ hk, Kd.freshB (g := gb134) (o := .cells #[.slice A1_0 l1_0.length c1_0, .int .i64 a1_1] 89 (0, 0)) (by (with_reducible repeat (first | refine blk_drewN ?_ _ | refine blk_drew ?_ | refine blk_alloc ?_ _)); exact BK134.out) k_ hk, Kd.freshB (g := gb135) (o := .cells #[.string (⟨#[]⟩ : ByteArray), .string (⟨#[]⟩ : ByteArray), .string (⟨#[]⟩ : ByteArray), .slice none 0 0, .int .i64 0] 28 (0, 0)) (by (with_reducible repeat (first | refine blk_drewN ?_ _ | refine blk_drew ?_ | refine blk_alloc ?_ _)); exact BK135.out) k_ hk⟩) _ (Nat.le_refl _)) (Below.refl _ _) (Nat.le_refl _) (by simp) ?_; (case hd => rfl); (case hg => rfl); (case hr => first | (go_simp; done) | (go_simp; rfl)); (case hp => exact (Reps.none _ _)); intro v137 w7 ho8 hb hg_ hnew_; clear hg_ hnew_; (first | rw [← Ny136.out] at ho8 | (simp only [Int.reduceToNat] at ho8; rw [← Ny136.out] at ho8)); have n0_ := Aside0.mk (Kd.R_below (zr HO0_3.out) hb); have n1_ := Aside0.mk (Kd.V_elder' (by (with_reducible repeat (first | apply Kd.V_alloc | apply Kd.V_drewN | apply Kd.V_drew)); exact HO1_0.out) (Kd.N_base ho8) hb); have n2_ := Aside0.mk (Kd.N_lower ho8 (by first | exact HK.out.1 | exact (show Kept w _ (fun k_ => P0_3_ k_) from by repeat (first | (with_reducible first | exact HK.out | apply Kept.alloc | apply Kept.drewN | apply Kept.drew | refine Kept.setCell ?_ (.inr GW133.out) _ | refine Kept.setCell ?_ (.inr GW134.out) _ | refine Kept.setCell ?_ (.inr GW135.out) _) | exact HK.out)).1)); have n3_ := Aside0.mk (blk_below (g := gb133) (o := .cells #[.string a0_0, .string a0_1, .string a0_2, .slice Ao3 l0_3.length co3, .int .i64 a0_4] 28 (0, 0)) (by (with_reducible repeat (first | refine blk_drewN ?_ _ | refine blk_drew ?_ | refine blk_alloc ?_ _)); exact BK133.out) hb); have n4_ := Aside0.mk (blk_below (g := gb134) (o := .cells #[.slice A1_0 l1_0.length c1_0, .int .i64 a1_1] 89 (0, 0)) (by (with_reducible repeat (first | refine blk_drewN ?_ _ | refine blk_drew ?_ | refine blk_alloc ?_ _)); exact BK134.out) hb); have n5_ := Aside0.mk (blk_below (g := gb135) (o := .cells #[.string (⟨#[]⟩ : ByteArray), .string (⟨#[]⟩ : ByteArray), .string (⟨#[]⟩ : ByteArray), .slice none 0 0, .int .i64 0] 28 (0, 0)) (by (with_reducible repeat (first | refine blk_drewN ?_ _ | refine blk_drew ?_ | refine blk_alloc ?_ _)); exact BK135.out) hb); have n6_ := Aside0.mk (Kept.below (S := (fun k_ => P0_3_ k_)) (by repeat (first | (with_reducible first | exact HK.out | apply Kept.alloc | apply Kept.drewN | apply Kept.drew | refine Kept.setCell ?_ (.inr GW133.out) _ | refine Kept.setCell ?_ (.inr GW134.out) _ | refine Kept.setCell ?_ (.inr GW135.out) _) | exact HK.out)) hb); have n7_ := Aside0.mk (below_step (by repeat (first | (with_reducible first | exact HB.out | apply below_alloc | apply pw_below_drewN | apply below_drew1 | refine below_set ?_ GE133.out | refine below_set ?_ GE134.out | refine below_set ?_ GE135.out) | exact HB.out)) hb); clear HO0_3; clear HO1_0; clear BK133; clear BK134; clear BK135; clear HK; clear HB; have HO0_3 := n0_; have HO1_0 := n1_; have HO138 := n2_; have BK133 := n3_; have BK134 := n4_; have BK135 := n5_; have HK := n6_; have HB := n7_; clear n0_ n1_ n2_ n3_ n4_ n5_ n6_ n7_; clear hb ho8))
  go_loopg [6, 7] k (fun kq v6 v7 w' => ∃ (x6_1 : List (S89)) (x7_1 : ByteArray) (x134000_1 : ByteArray) (x134001_1 : ByteArray) (x134002_1 : ByteArray) (x134003_1 : List ByteArray) (x135000_1 : List ByteArray) (u134003 : Value) (u135000 : Value), v7 = .string x7_1 ∧ Aside0 (spec_l3Put.l0 kq x6_1 x7_1 x134000_1 x134001_1 x134002_1 x134003_1 a0_4 x135000_1 a1_1 = some (r1, r2, r3, r4, r5, r6)) ∧ Aside0 (kq ≤ k) ∧ Aside0 (Kd.N k89 89 w' w.heap.size (fun k_ => ((P0_3_ k_ ∨ P1_0_ k_) ∨ w.heap.size ≤ k_) ∧ some k_ ≠ (u134003 : Value).ownBlock ∧ k_ ≠ gb133 ∧ k_ ≠ gb134 ∧ k_ ≠ gb135) v6 x6_1) ∧ Aside0 (Kd.R Kd.string 9 w' w0.heap.size (fun k_ => (P0_3_ k_ ∨ w.heap.size ≤ k_)) u134003 x134003_1) ∧ Aside0 (Kd.V Kd.string 9 w' w0.heap.size (fun k_ => ((P0_3_ k_ ∨ P1_0_ k_) ∨ w.heap.size ≤ k_) ∧ some k_ ≠ (v6 : Value).ownBlock ∧ some k_ ≠ (u134003 : Value).ownBlock ∧ k_ ≠ gb133 ∧ k_ ≠ gb134 ∧ k_ ≠ gb135) u135000 x135000_1) ∧ Aside0 (w'.heap[gb133]? = some (.cells #[.string x134000_1, .string x134001_1, .string x134002_1, u134003, .int .i64 a0_4] 28 (0, 0))) ∧ Aside0 (w'.heap[gb134]? = some (.cells #[u135000, .int .i64 a1_1] 89 (0, 0))) ∧ Aside0 (w'.heap[gb135]? = some (.cells #[.string (⟨#[]⟩ : ByteArray), .string (⟨#[]⟩ : ByteArray), .string (⟨#[]⟩ : ByteArray), (.slice none 0 0), .int .i64 0] 28 (0, 0))) ∧ Aside0 (Kept w w' (fun k_ => P0_3_ k_)) ∧ Aside0 (Below w0.heap.size w0 w'))
  case atStart => exact ⟨(y136), ((⟨#[49]⟩ : ByteArray)), (a0_0), (a0_1), (a0_2), (l0_3), (l1_0), (.slice Ao3 l0_3.length co3), (.slice A1_0 l1_0.length c1_0), zf, H', ⟨Nat.le_refl _⟩, ⟨by (with_reducible repeat (first | apply Kd.N_alloc | apply Kd.N_drewN | apply Kd.N_drew)); exact HO138.out⟩, ⟨zr HO0_3.out⟩, ⟨by (with_reducible repeat (first | apply Kd.V_alloc | apply Kd.V_drewN | apply Kd.V_drew)); exact Kd.V_mono HO1_0.out (fun _ hk => ⟨hk.1.1.1.1.1, ⟨hk.2, ⟨hk.1.1.1.1.2, ⟨hk.1.1.1.2, ⟨hk.1.1.2, hk.1.2⟩⟩⟩⟩⟩)⟩, ⟨by (with_reducible repeat (first | refine blk_drewN ?_ _ | refine blk_drew ?_ | refine blk_alloc ?_ _)); exact BK133.out⟩, ⟨by (with_reducible repeat (first | refine blk_drewN ?_ _ | refine blk_drew ?_ | refine blk_alloc ?_ _)); exact BK134.out⟩, ⟨by (with_reducible repeat (first | refine blk_drewN ?_ _ | refine blk_drew ?_ | refine blk_alloc ?_ _)); exact BK135.out⟩, ⟨by repeat (first | (with_reducible first | exact HK.out | apply Kept.alloc | apply Kept.drewN | apply Kept.drew | refine Kept.setCell ?_ (.inr GW133.out) _ | refine Kept.setCell ?_ (.inr GW134.out) _ | refine Kept.setCell ?_ (.inr GW135.out) _) | exact HK.out)⟩, ⟨by repeat (first | (with_reducible first | exact HB.out | apply below_alloc | apply pw_below_drewN | apply below_drew1 | refine below_set ?_ GE133.out | refine below_set ?_ GE134.out | refine below_set ?_ GE135.out) | exact HB.out)⟩⟩
  case round =>
    clear H'
    try clear c1
    try clear p2
    obtain ⟨x6_1, x7_1, x134000_1, x134001_1, x134002_1, x134003_1, x135000_1, u134003, u135000, rfl, HA, HK1, HO_6, HO_134003, HO_135000, BK133, BK134, BK135, HK, HB⟩ := hrel
    cases gk with
    | zero => exact absurd HA.out (by simp [spec_l3Put.l0])
    | succ k1 =>
      have H := HA.out
      clear HA
      simp only [spec_l3Put.l0] at H
      by_cases c9 : (x135000_1.length : Int) > 0
      · rw [if_pos c9] at H
        have c9b0 : decide (0 < (x135000_1.length : Int)) = true := decide_eq_true c9
        have c9b1 : decide (0 < x135000_1.length) = true := decide_eq_true (by omega)
        clear c9
        replace H := Option.bind_eq_some_iff.mp H
        obtain ⟨t139, A100, H⟩ := H
        (try dsimp only at H)
        have A10 := Aside0.mk A100
        clear A100
        by_cases c11 : 0 < (t139.length : Int)
        · rw [if_pos c11] at H
          have c11b0 : decide (0 < (t139.length : Int)) = true := decide_eq_true c11
          have c11b1 : decide (0 < t139.length) = true := decide_eq_true (by omega)
          clear c11
          replace H := Option.bind_eq_some_iff.mp H
          obtain ⟨t143, A120, H⟩ := H
          (try dsimp only at H)
          have A12 := Aside0.mk A120
          clear A120
          by_cases c13 : x134000_1.size + t143.size ≤ 9223372036854775807
          · rw [if_pos c13] at H
            have c13b0 := eq_true c13
            have c13b1 : decide (x134000_1.size + t143.size ≤ 9223372036854775807) = true := decide_eq_true c13
            try have c13b2 : (9223372036854775807 < x134000_1.size + t143.size) = False := eq_false (Nat.not_lt.2 c13)
            by_cases c14 : x134002_1.size + x7_1.size ≤ 9223372036854775807
            · rw [if_pos c14] at H
              have c14b0 := eq_true c14
              have c14b1 : decide (x134002_1.size + x7_1.size ≤ 9223372036854775807) = true := decide_eq_true c14
              try have c14b2 : (9223372036854775807 < x134002_1.size + x7_1.size) = False := eq_false (Nat.not_lt.2 c14)
              have hnb15 := NB134_133.out
              have hnc15 := NB133_134.out
              have hnb16 := NB134_135.out
              have hnc16 := NB135_134.out
              have hcz17_0 : wr.cell? ⟨gb134, 0, none⟩ = some (u135000) := (blk_cell BK134.out 0).trans rfl
              have hcz17_1 : wr.cell? ⟨gb134, 1, none⟩ = some (.int .i64 a1_1) := (blk_cell BK134.out 1).trans rfl
              have hfz17_0 := blk_frozen BK134.out 0
              have hfz17_1 := blk_frozen BK134.out 1
              obtain ⟨Ao18, co18, eo18⟩ := Kd.V_slice HO_135000.out
              subst eo18
              try go_wp2_with (first | ((with_reducible refine gate_callee (f := 146) rfl ?_); refine goesL_ (some 16) rfl rfl Try.func146 (by kernel_rfl) rfl #[.agg #[.slice Ao18 x135000_1.length co18, .int .i64 a1_1]] rfl (by (try simp only [List.map_toArray, List.map_cons, List.map_nil]); first | done | rfl | (simp only [List.length_drop, List.length_take]; rfl)) ?_; (with_reducible refine (spec_l3Group.calls k1 _ _ x135000_1 a1_1 t139 _ ?side1 ?side2 A10.out).mono ?_); (case side1 => repeat (first | exact (Kd.V_reads' HO_135000.out).2.2 | (with_reducible refine Kd.C_alloc ?_ _) | (with_reducible refine Kd.C_drewN ?_ _) | (with_reducible refine Kd.C_drew ?_))); (case side2 => exact (Kd.V_reads' HO_135000.out).2.1); rintro e w19 ⟨v140, rfl, ho0, hb⟩; refine ⟨_, rfl, ?_⟩; have n0_ := Aside0.mk (Kd.N_elder' (by (with_reducible repeat (first | apply Kd.N_alloc | apply Kd.N_drewN | apply Kd.N_drew)); exact HO_6.out) (Kd.R_base ho0) hb); have n1_ := Aside0.mk (Kd.R_elder' (zr HO_134003.out) (Kd.R_base ho0) hb); have n2_ := Aside0.mk (Kd.V_elder' (by (with_reducible repeat (first | apply Kd.V_alloc | apply Kd.V_drewN | apply Kd.V_drew)); exact HO_135000.out) (Kd.R_base ho0) hb); have n3_ := Aside0.mk (Kd.R_lower (Kd.R_new' (Kd.R_newM (M := fun k_ => (P0_3_ k_ ∨ w.heap.size ≤ k_)) ho0 (by first | exact HK.out.1 | exact (show Kept w _ (fun k_ => P0_3_ k_) from by repeat (first | (with_reducible first | exact HK.out | apply Kept.alloc | apply Kept.drewN | apply Kept.drew | refine Kept.setCell ?_ (.inr GW133.out) _ | refine Kept.setCell ?_ (.inr GW134.out) _ | refine Kept.setCell ?_ (.inr GW135.out) _) | exact HK.out)).1) (fun k_ h_ => .inr h_)) (Kd.R_lt (zr HO_134003.out))) (below_size (by repeat (first | (with_reducible first | exact HB.out | apply below_alloc | apply pw_below_drewN | apply below_drew1 | refine below_set ?_ GE133.out | refine below_set ?_ GE134.out | refine below_set ?_ GE135.out) | exact HB.out)))); have n4_ := Aside0.mk (blk_below (g := gb133) (o := .cells #[.string x134000_1, .string x134001_1, .string x134002_1, u134003, .int .i64 a0_4] 28 (0, 0)) (by (with_reducible repeat (first | refine blk_drewN ?_ _ | refine blk_drew ?_ | refine blk_alloc ?_ _)); exact BK133.out) hb); have n5_ := Aside0.mk (blk_below (g := gb134) (o := .cells #[.slice Ao18 x135000_1.length co18, .int .i64 a1_1] 89 (0, 0)) (by (with_reducible repeat (first | refine blk_drewN ?_ _ | refine blk_drew ?_ | refine blk_alloc ?_ _)); exact BK134.out) hb); have n6_ := Aside0.mk (blk_below (g := gb135) (o := .cells #[.string (⟨#[]⟩ : ByteArray), .string (⟨#[]⟩ : ByteArray), .string (⟨#[]⟩ : ByteArray), .slice none 0 0, .int .i64 0] 28 (0, 0)) (by (with_reducible repeat (first | refine blk_drewN ?_ _ | refine blk_drew ?_ | refine blk_alloc ?_ _)); exact BK135.out) hb); have n7_ := Aside0.mk (Kept.below (S := (fun k_ => P0_3_ k_)) (by repeat (first | (with_reducible first | exact HK.out | apply Kept.alloc | apply Kept.drewN | apply Kept.drew | refine Kept.setCell ?_ (.inr GW133.out) _ | refine Kept.setCell ?_ (.inr GW134.out) _ | refine Kept.setCell ?_ (.inr GW135.out) _) | exact HK.out)) hb); have n8_ := Aside0.mk (below_step (by repeat (first | (with_reducible first | exact HB.out | apply below_alloc | apply pw_below_drewN | apply below_drew1 | refine below_set ?_ GE133.out | refine below_set ?_ GE134.out | refine below_set ?_ GE135.out) | exact HB.out)) hb); clear HO_6; clear HO_134003; clear HO_135000; clear BK133; clear BK134; clear BK135; clear HK; clear HB; have HO_6 := n0_; have HO_134003 := n1_; have HO_135000 := n2_; have HO141 := n3_; have BK133 := n4_; have BK134 := n5_; have BK135 := n6_; have HK := n7_; have HB := n8_; clear n0_ n1_ n2_ n3_ n4_ n5_ n6_ n7_ n8_; (try clear hb); (try clear hb2); (try clear hk); (try clear hi); (try clear ho0)))
              have n0_ := Aside0.mk (Kd.N_drew HO_6.out)
              have n1_ := Aside0.mk (Kd.R_drew HO_134003.out)
              have n2_ := Aside0.mk (Kd.V_drew HO_135000.out)
              have n3_ := Aside0.mk (Kd.R_drew HO141.out)
              have n4_ := Aside0.mk (blk_drew BK133.out)
              have n5_ := Aside0.mk (blk_drew BK134.out)
              have n6_ := Aside0.mk (blk_drew BK135.out)
              have n7_ := Aside0.mk (Kept.drew HK.out)
              have n8_ := Aside0.mk (below_drew1 HB.out)
              clear HO_6
              clear HO_134003
              clear HO_135000
              clear HO141
              clear BK133
              clear BK134
              clear BK135
              clear HK
              clear HB
              have HO_6 := n0_
              have HO_134003 := n1_
              have HO_135000 := n2_
              have HO141 := n3_
              have BK133 := n4_
              have BK134 := n5_
              have BK135 := n6_
              have HK := n7_
              have HB := n8_
              clear n0_ n1_ n2_ n3_ n4_ n5_ n6_ n7_ n8_
              obtain ⟨Ao21, co21, eo21⟩ := Kd.R_slice HO141.out
              (first | subst eo21 | (injection eo21 with f1_ f2_ f3_; have f4_ := f1_.symm; have f5_ := f3_.symm; clear f1_ f2_ f3_; subst f4_; subst f5_))
              have p142 : 0 ≤ (0 : Int) := (by omega)
              have q142 : 0 < (t139.length : Int) := zd
              obtain ⟨ad142, e142, hx142_0⟩ := Kd.at_string (Kd.R_reads' HO141.out).2.2 0 p142 q142
              cases e142
              have qi142 : (0 < t139.length) = True := eq_true (by omega)
              (try rw [show ((0 : Int)).toNat = 0 from rfl] at hx142_0)
              (try rw [Addr.add_zero'] at hx142_0)
              replace p142 := eq_true p142
              replace q142 := eq_true q142
              refine start_ (n := 7) (S := fun w' => w'.cell? ⟨gb134, 0, none⟩ = some (.slice Ao18 x135000_1.length co18) ∧ w'.cell? ⟨gb134, 1, none⟩ = some (.int .i64 a1_1) ∧ w'.cell? ad142 = some (.string (rdOf ByteArray.empty t139 0))) (ds := []) #[false, false, false, false, false, false, false] (by kernel_rfl) rfl rfl ⟨(blk_cell BK134.out 0).trans rfl, (blk_cell BK134.out 1).trans rfl, hx142_0⟩ (fun hHeld => ?_)
              generalize w19.drew = w20 at HO_6 HO_134003 HO_135000 HO141 BK133 BK134 BK135 HK HB hx142_0 hHeld ⊢
              refine pure_ (i := 0) (N := some 17) (v := ?_) (a' := ?_) #[true, false, false, false, false, false, false] rfl rfl (by kernel_rfl) (fun _ _ _ h => h) (Or.inl ⟨by rfl, ?_⟩) ?_ ?_
              rotate_left
              · intro w'
                go_simp
                with_reducible rfl
              rotate_left
              · simp only [Act.put, List.setIfInBounds_toArray, List.set_cons_zero, List.set_cons_succ, i64_w, i32_w]
                rfl
              refine pure_ (i := 1) (N := some 18) (v := ?_) (a' := ?_) #[true, true, false, false, false, false, false] rfl rfl (by kernel_rfl) (fun _ _ _ h => h) (Or.inl ⟨by rfl, ?_⟩) ?_ ?_
              rotate_left
              · intro w'
                go_simp
                with_reducible rfl
              rotate_left
              · simp only [Act.put, List.setIfInBounds_toArray, List.set_cons_zero, List.set_cons_succ, i64_w, i32_w]
                rfl
              refine pure_ (i := 3) (N := some 20) (v := ?_) (a' := ?_) #[true, true, false, true, false, false, false] rfl rfl (by kernel_rfl) (fun _ _ _ h => h) (Or.inl ⟨by rfl, ?_⟩) ?_ ?_
              rotate_left
              · intro w'
                go_simp
                with_reducible rfl
              rotate_left
              · simp only [Act.put, List.setIfInBounds_toArray, List.set_cons_zero, List.set_cons_succ, i64_w, i32_w]
                rfl
              refine take_ (i := 2) (N := some 19) (v := ?_) (a' := ?_) #[true, true, true, true, false, false, false] rfl rfl (by kernel_rfl) (fun _ _ _ h => h) (Or.inl ⟨by rfl, ?_⟩) hHeld ?_ ?_
              rotate_left
              · rintro w' ⟨s0, s1, s2⟩
                go_simp
                with_reducible rfl
              rotate_left
              · simp only [Act.put, List.setIfInBounds_toArray, List.set_cons_zero, List.set_cons_succ, i64_w, i32_w]
                rfl
              refine take_ (i := 4) (N := some 21) (v := ?_) (a' := ?_) #[true, true, true, true, true, false, false] rfl rfl (by kernel_rfl) (fun _ _ _ h => h) (Or.inl ⟨by rfl, ?_⟩) hHeld ?_ ?_
              rotate_left
              · rintro w' ⟨s0, s1, s2⟩
                go_simp
                with_reducible rfl
              rotate_left
              · simp only [Act.put, List.setIfInBounds_toArray, List.set_cons_zero, List.set_cons_succ, i64_w, i32_w]
                rfl
              refine one_ (i := 5) (N := some 22) #[true, true, true, true, true, true, false] rfl rfl (by kernel_rfl) (by decide) (fun K hK => ?_)
              refine goes_ Try.func141 (by kernel_rfl) rfl #[.string (rdOf ByteArray.empty t139 0), .int .i64 a1_1] (by rfl) rfl rfl (by (try simp only [List.map_toArray, List.map_cons, List.map_nil]); first | done | rfl | (simp only [List.length_drop, List.length_take]; rfl)) ?_
              with_reducible refine (spec_l3Letter.calls (rdOf ByteArray.empty t139 0) a1_1 t143 _ A12.out).mono ?_
              rintro e w22 ⟨rfl, hb⟩
              have HS2_ := (hb.cell (World.block_lt_of_cell? _ _ (hHeld.2.2))).trans (hHeld.2.2)
              refine ⟨_, rfl, ?_⟩
              have n0_ := Aside0.mk (Kd.N_below (by (with_reducible repeat (first | apply Kd.N_alloc | apply Kd.N_drewN | apply Kd.N_drew)); exact HO_6.out) hb)
              have n1_ := Aside0.mk (Kd.R_below (zr HO_134003.out) hb)
              have n2_ := Aside0.mk (Kd.V_below (by (with_reducible repeat (first | apply Kd.V_alloc | apply Kd.V_drewN | apply Kd.V_drew)); exact HO_135000.out) hb)
              have n3_ := Aside0.mk (Kd.R_below (zr HO141.out) hb)
              have n4_ := Aside0.mk (blk_below (g := gb133) (o := .cells #[.string x134000_1, .string x134001_1, .string x134002_1, u134003, .int .i64 a0_4] 28 (0, 0)) (by (with_reducible repeat (first | refine blk_drewN ?_ _ | refine blk_drew ?_ | refine blk_alloc ?_ _)); exact BK133.out) hb)
              have n5_ := Aside0.mk (blk_below (g := gb134) (o := .cells #[.slice Ao18 x135000_1.length co18, .int .i64 a1_1] 89 (0, 0)) (by (with_reducible repeat (first | refine blk_drewN ?_ _ | refine blk_drew ?_ | refine blk_alloc ?_ _)); exact BK134.out) hb)
              have n6_ := Aside0.mk (blk_below (g := gb135) (o := .cells #[.string (⟨#[]⟩ : ByteArray), .string (⟨#[]⟩ : ByteArray), .string (⟨#[]⟩ : ByteArray), .slice none 0 0, .int .i64 0] 28 (0, 0)) (by (with_reducible repeat (first | refine blk_drewN ?_ _ | refine blk_drew ?_ | refine blk_alloc ?_ _)); exact BK135.out) hb)
              have n7_ := Aside0.mk (Kept.below (S := (fun k_ => P0_3_ k_)) (by repeat (first | (with_reducible first | exact HK.out | apply Kept.alloc | apply Kept.drewN | apply Kept.drew | refine Kept.setCell ?_ (.inr GW133.out) _ | refine Kept.setCell ?_ (.inr GW134.out) _ | refine Kept.setCell ?_ (.inr GW135.out) _) | exact HK.out)) hb)
              have n8_ := Aside0.mk (below_step (by repeat (first | (with_reducible first | exact HB.out | apply below_alloc | apply pw_below_drewN | apply below_drew1 | refine below_set ?_ GE133.out | refine below_set ?_ GE134.out | refine below_set ?_ GE135.out) | exact HB.out)) hb)
              clear HO_6
              clear HO_134003
              clear HO_135000
              clear HO141
              clear BK133
              clear BK134
              clear BK135
              clear HK
              clear HB
              have HO_6 := n0_
              have HO_134003 := n1_
              have HO_135000 := n2_
              have HO141 := n3_
              have BK133 := n4_
              have BK134 := n5_
              have BK135 := n6_
              have HK := n7_
              have HB := n8_
              clear n0_ n1_ n2_ n3_ n4_ n5_ n6_ n7_ n8_
              (try clear hb)
              (try clear hb2)
              (try clear hk)
              (try clear hi)
              refine hK.out _ _ ⟨(blk_cell BK134.out 0).trans rfl, (blk_cell BK134.out 1).trans rfl, HS2_⟩ (fun hHeld => ?_)
              clear hK K
              refine norm_ (a' := ?_) ?_ ?_
              rotate_left
              · show Act.put _ (some 22) _ = _
                simp only [Act.put, List.setIfInBounds_toArray, List.set_cons_zero, List.set_cons_succ, i64_w, i32_w]
                rfl
              refine pure_ (i := 6) (N := some 9) (v := ?_) (a' := ?_) #[true, true, true, true, true, true, true] rfl rfl (by kernel_rfl) (fun _ _ _ h => h) (Or.inl ⟨by rfl, ?_⟩) ?_ ?_
              rotate_left
              · intro w'
                go_simp
                with_reducible rfl
              rotate_left
              · simp only [Act.put, List.setIfInBounds_toArray, List.set_cons_zero, List.set_cons_succ, i64_w, i32_w]
                rfl
              refine done_ (by kernel_rfl) ?_
              have hnb23 := NB133_135.out
              have hnc23 := NB135_133.out
              have hcz24_0 : w22.cell? ⟨gb133, 0, none⟩ = some (.string x134000_1) := (blk_cell BK133.out 0).trans rfl
              have hcz24_1 : w22.cell? ⟨gb133, 1, none⟩ = some (.string x134001_1) := (blk_cell BK133.out 1).trans rfl
              have hcz24_2 : w22.cell? ⟨gb133, 2, none⟩ = some (.string x134002_1) := (blk_cell BK133.out 2).trans rfl
              have hcz24_3 : w22.cell? ⟨gb133, 3, none⟩ = some (u134003) := (blk_cell BK133.out 3).trans rfl
              have hcz24_4 : w22.cell? ⟨gb133, 4, none⟩ = some (.int .i64 a0_4) := (blk_cell BK133.out 4).trans rfl
              have hfz24_0 := blk_frozen BK133.out 0
              have hfz24_1 := blk_frozen BK133.out 1
              have hfz24_2 := blk_frozen BK133.out 2
              have hfz24_3 := blk_frozen BK133.out 3
              have hfz24_4 := blk_frozen BK133.out 4
              go_upto_if 35 with (fail)
              by_cases c25 : (t139.length : Int) > 1
              · rw [if_pos c25] at H
                have c25b0 : decide (1 < (t139.length : Int)) = true := decide_eq_true c25
                have c25b1 : decide (1 < t139.length) = true := decide_eq_true (by omega)
                clear c25
                (first | rw [c25b0] | (simp only [i64_w, i32_w]; rw [c25b0]) | simp only [*, Bool.not_true, Bool.not_false] | skip)
                by_cases c26 : x134001_1.size + 1 ≤ 9223372036854775807
                · rw [if_pos c26] at H
                  have c26b0 := eq_true c26
                  have c26b1 : decide (x134001_1.size + 1 ≤ 9223372036854775807) = true := decide_eq_true c26
                  try have c26b2 : (9223372036854775807 < x134001_1.size + 1) = False := eq_false (Nat.not_lt.2 c26)
                  by_cases c27 : x6_1.length < 4398046511104
                  · rw [if_pos c27] at H
                    have LMc27 := Aside0.mk c27
                    clear c27
                    obtain ⟨y144, hy144⟩ : ∃ y_ : List (S89), y_ = (x6_1 ++ [(⟨t139, wrap64 (a1_1 + 1)⟩ : S89)]) := ⟨_, rfl⟩
                    replace H : (if 0 ≤ (t139.length : Int) then (if (t139.length : Int) ≤ (x135000_1.length : Int) then (spec_l3Put.l0 k1 y144 (⟨#[48]⟩ : ByteArray) (x134000_1 ++ t143) (x134001_1 ++ (⟨#[49]⟩ : ByteArray)) (x134002_1 ++ x7_1) x134003_1 a0_4 (x135000_1.drop ((t139.length : Int) : Int).toNat) a1_1) else (none)) else (none)) = some (r1, r2, r3, r4, r5, r6) := by first | (rw [hy144]; with_reducible exact H) | (have H2_ := (Option.bind_some _ _).symm.trans H; rw [hy144]; with_reducible exact H2_) | (have H2_ := (Option.bind_some _ _).symm.trans H; with_reducible exact H2_) | with_reducible exact H | (rw [hy144]; exact H) | exact H
                    have Ny144 := Aside0.mk hy144
                    clear hy144
                    by_cases c28 : 0 ≤ (t139.length : Int)
                    · rw [if_pos c28] at H
                      have c28b0 := eq_true c28
                      have c28b1 : decide (0 ≤ (t139.length : Int)) = true := decide_eq_true c28
                      clear c28
                      by_cases c29 : (t139.length : Int) ≤ (x135000_1.length : Int)
                      · rw [if_pos c29] at H
                        have c29b0 := eq_true c29
                        have c29b1 : decide ((t139.length : Int) ≤ (x135000_1.length : Int)) = true := decide_eq_true c29
                        clear c29
                        obtain ⟨y147, hy147⟩ : ∃ y_ : List ByteArray, y_ = (x135000_1.drop ((t139.length : Int) : Int).toNat) := ⟨_, rfl⟩
                        replace H : (spec_l3Put.l0 k1 y144 (⟨#[48]⟩ : ByteArray) (x134000_1 ++ t143) (x134001_1 ++ (⟨#[49]⟩ : ByteArray)) (x134002_1 ++ x7_1) x134003_1 a0_4 y147 a1_1) = some (r1, r2, r3, r4, r5, r6) := by first | (rw [hy147]; with_reducible exact H) | (have H2_ := (Option.bind_some _ _).symm.trans H; rw [hy147]; with_reducible exact H2_) | (have H2_ := (Option.bind_some _ _).symm.trans H; with_reducible exact H2_) | with_reducible exact H | (rw [hy147]; exact H) | exact H
                        have Ny147 := Aside0.mk hy147
                        clear hy147
                        have H' := Aside0.mk H
                        clear H
                        have hnb30 := NB133_134.out
                        have hnc30 := NB134_133.out
                        have hnb31 := NB133_135.out
                        have hnc31 := NB135_133.out
                        have hcz32_0 : w22.cell? ⟨gb133, 0, none⟩ = some (.string x134000_1) := (blk_cell BK133.out 0).trans rfl
                        have hcz32_1 : w22.cell? ⟨gb133, 1, none⟩ = some (.string x134001_1) := (blk_cell BK133.out 1).trans rfl
                        have hcz32_2 : w22.cell? ⟨gb133, 2, none⟩ = some (.string x134002_1) := (blk_cell BK133.out 2).trans rfl
                        have hcz32_3 : w22.cell? ⟨gb133, 3, none⟩ = some (u134003) := (blk_cell BK133.out 3).trans rfl
                        have hcz32_4 : w22.cell? ⟨gb133, 4, none⟩ = some (.int .i64 a0_4) := (blk_cell BK133.out 4).trans rfl
                        have hfz32_0 := blk_frozen BK133.out 0
                        have hfz32_1 := blk_frozen BK133.out 1
                        have hfz32_2 := blk_frozen BK133.out 2
                        have hfz32_3 := blk_frozen BK133.out 3
                        have hfz32_4 := blk_frozen BK133.out 4
                        go_wp2_with (first | ((with_reducible refine gate_store (t := 9) (p := 39) rfl ?_); refine store_event (t := 9) (p := 39) (v := ?vo_w33) (w1 := (((w22.setCell ⟨gb133, 0, none⟩ (.string (x134000_1 ++ t143))).setCell ⟨gb133, 2, none⟩ (.string (x134002_1 ++ x7_1))).setCell ⟨gb133, 1, none⟩ (.string (x134001_1 ++ (⟨#[49]⟩ : ByteArray))))) ?hg ?ho ?hn ?hr ?_; (case ho => rfl); (case hg => rfl); (case hn => rfl); (case hr => first | (go_simp; done) | (go_simp; rfl)); intro w33 hw; have n0_ : Aside0 (Kd.N k89 89 w33 w.heap.size (fun k_ => ((P0_3_ k_ ∨ P1_0_ k_) ∨ w.heap.size ≤ k_) ∧ some k_ ≠ (u134003 : Value).ownBlock ∧ some k_ ≠ (.slice (some ad142) t139.length co21 : Value).ownBlock ∧ k_ ≠ gb133 ∧ k_ ≠ gb134 ∧ k_ ≠ gb135) u6 x6_1) := ⟨(by rw [hw]; exact (by (with_reducible repeat (first | apply Kd.N_alloc | apply Kd.N_drewN | apply Kd.N_drew)); exact Kd.N_mono (Kd.N_far (p := ⟨gb133, 1, none⟩) (Kd.N_far (p := ⟨gb133, 2, none⟩) (Kd.N_far (p := ⟨gb133, 0, none⟩) (Kd.N_mono HO_6.out (fun k_ hk => (⟨hk, hk.1.2.2.1⟩ : _ ∧ k_ ≠ gb133))) (fun _ hk => hk.2) (.string (x134000_1 ++ t143))) (fun _ hk => hk.2) (.string (x134002_1 ++ x7_1))) (fun _ hk => hk.2) (.string (x134001_1 ++ (⟨#[49]⟩ : ByteArray)))) (fun _ hk => ⟨hk.1.1.1, ⟨hk.1.1.2.1, ⟨hk.1.2, ⟨hk.1.1.2.2.1, ⟨hk.1.1.2.2.2.1, hk.1.1.2.2.2.2⟩⟩⟩⟩⟩)))⟩; have n1_ : Aside0 (Kd.R Kd.string 9 w33 w0.heap.size (fun k_ => (P0_3_ k_ ∨ w.heap.size ≤ k_) ∧ some k_ ≠ (.slice (some ad142) t139.length co21 : Value).ownBlock) u134003 x134003_1) := ⟨(by rw [hw]; exact (Kd.R_mono (zr (Kd.R_far (p := ⟨gb133, 1, none⟩) (Kd.R_far (p := ⟨gb133, 2, none⟩) (Kd.R_far (p := ⟨gb133, 0, none⟩) (Kd.R_types HO_134003.out BK133.out (by decide)) (fun _ hk => hk.2) (.string (x134000_1 ++ t143))) (fun _ hk => hk.2) (.string (x134002_1 ++ x7_1))) (fun _ hk => hk.2) (.string (x134001_1 ++ (⟨#[49]⟩ : ByteArray))))) (fun _ hk => ⟨hk.1.1, hk.1.2⟩)))⟩; have n2_ : Aside0 (Kd.V Kd.string 9 w33 w0.heap.size (fun k_ => ((P0_3_ k_ ∨ P1_0_ k_) ∨ w.heap.size ≤ k_) ∧ some k_ ≠ (u6 : Value).ownBlock ∧ some k_ ≠ (u134003 : Value).ownBlock ∧ some k_ ≠ (.slice (some ad142) t139.length co21 : Value).ownBlock ∧ k_ ≠ gb133 ∧ k_ ≠ gb134 ∧ k_ ≠ gb135) (.slice Ao18 x135000_1.length co18) x135000_1) := ⟨(by rw [hw]; exact (by (with_reducible repeat (first | apply Kd.V_alloc | apply Kd.V_drewN | apply Kd.V_drew)); exact Kd.V_mono (Kd.V_far (p := ⟨gb133, 1, none⟩) (Kd.V_far (p := ⟨gb133, 2, none⟩) (Kd.V_far (p := ⟨gb133, 0, none⟩) (Kd.V_mono HO_135000.out (fun k_ hk => (⟨hk, hk.1.2.2.2.1⟩ : _ ∧ k_ ≠ gb133))) (fun _ hk => hk.2) (.string (x134000_1 ++ t143))) (fun _ hk => hk.2) (.string (x134002_1 ++ x7_1))) (fun _ hk => hk.2) (.string (x134001_1 ++ (⟨#[49]⟩ : ByteArray)))) (fun _ hk => ⟨hk.1.1.1, ⟨hk.1.1.2.1, ⟨hk.1.1.2.2.1, ⟨hk.1.2, ⟨hk.1.1.2.2.2.1, ⟨hk.1.1.2.2.2.2.1, hk.1.1.2.2.2.2.2⟩⟩⟩⟩⟩⟩)))⟩; have n3_ : Aside0 (Kd.R Kd.string 9 w33 w0.heap.size (fun k_ => (P0_3_ k_ ∨ w.heap.size ≤ k_) ∧ some k_ ≠ (u134003 : Value).ownBlock) (.slice (some ad142) t139.length co21) t139) := ⟨(by rw [hw]; exact (Kd.R_mono (zr (Kd.R_far (p := ⟨gb133, 1, none⟩) (Kd.R_far (p := ⟨gb133, 2, none⟩) (Kd.R_far (p := ⟨gb133, 0, none⟩) (Kd.R_types HO141.out BK133.out (by decide)) (fun _ hk => hk.2) (.string (x134000_1 ++ t143))) (fun _ hk => hk.2) (.string (x134002_1 ++ x7_1))) (fun _ hk => hk.2) (.string (x134001_1 ++ (⟨#[49]⟩ : ByteArray))))) (fun _ hk => ⟨hk.1.1.1, hk.1.2⟩)))⟩; have n4_ : Aside0 (w33.heap[gb133]? = some (.cells #[.string (x134000_1 ++ t143), .string (x134001_1 ++ (⟨#[49]⟩ : ByteArray)), .string (x134002_1 ++ x7_1), u134003, .int .i64 a0_4] 28 (0, 0))) := ⟨(by rw [hw]; exact (by (with_reducible repeat (first | refine blk_drewN ?_ _ | refine blk_drew ?_ | refine blk_alloc ?_ _)); refine blk_put (cs := #[.string (x134000_1 ++ t143), .string x134001_1, .string (x134002_1 ++ x7_1), u134003, .int .i64 a0_4]) ?_ 1 _ rfl; (with_reducible repeat (first | refine blk_drewN ?_ _ | refine blk_drew ?_ | refine blk_alloc ?_ _)); refine blk_put (cs := #[.string (x134000_1 ++ t143), .string x134001_1, .string x134002_1, u134003, .int .i64 a0_4]) ?_ 2 _ rfl; (with_reducible repeat (first | refine blk_drewN ?_ _ | refine blk_drew ?_ | refine blk_alloc ?_ _)); refine blk_put (cs := #[.string x134000_1, .string x134001_1, .string x134002_1, u134003, .int .i64 a0_4]) ?_ 0 _ rfl; (with_reducible repeat (first | refine blk_drewN ?_ _ | refine blk_drew ?_ | refine blk_alloc ?_ _)); exact BK133.out))⟩; have n5_ : Aside0 (w33.heap[gb134]? = some (.cells #[.slice Ao18 x135000_1.length co18, .int .i64 a1_1] 89 (0, 0))) := ⟨(by rw [hw]; exact (by (with_reducible repeat (first | refine blk_drewN ?_ _ | refine blk_drew ?_ | refine blk_alloc ?_ _)); refine blk_far ?_ NB134_133.out _; (with_reducible repeat (first | refine blk_drewN ?_ _ | refine blk_drew ?_ | refine blk_alloc ?_ _)); refine blk_far ?_ NB134_133.out _; (with_reducible repeat (first | refine blk_drewN ?_ _ | refine blk_drew ?_ | refine blk_alloc ?_ _)); refine blk_far ?_ NB134_133.out _; (with_reducible repeat (first | refine blk_drewN ?_ _ | refine blk_drew ?_ | refine blk_alloc ?_ _)); exact BK134.out))⟩; have n6_ : Aside0 (w33.heap[gb135]? = some (.cells #[.string (⟨#[]⟩ : ByteArray), .string (⟨#[]⟩ : ByteArray), .string (⟨#[]⟩ : ByteArray), .slice none 0 0, .int .i64 0] 28 (0, 0))) := ⟨(by rw [hw]; exact (by (with_reducible repeat (first | refine blk_drewN ?_ _ | refine blk_drew ?_ | refine blk_alloc ?_ _)); refine blk_far ?_ NB135_133.out _; (with_reducible repeat (first | refine blk_drewN ?_ _ | refine blk_drew ?_ | refine blk_alloc ?_ _)); refine blk_far ?_ NB135_133.out _; (with_reducible repeat (first | refine blk_drewN ?_ _ | refine blk_drew ?_ | refine blk_alloc ?_ _)); refine blk_far ?_ NB135_133.out _; (with_reducible repeat (first | refine blk_drewN ?_ _ | refine blk_drew ?_ | refine blk_alloc ?_ _)); exact BK135.out))⟩; have n7_ : Aside0 (Kept w w33 (fun k_ => P0_3_ k_)) := ⟨(by rw [hw]; exact (by repeat (first | (with_reducible first | exact HK.out | apply Kept.alloc | apply Kept.drewN | apply Kept.drew | refine Kept.setCell ?_ (.inr GW133.out) _ | refine Kept.setCell ?_ (.inr GW134.out) _ | refine Kept.setCell ?_ (.inr GW135.out) _) | exact HK.out)))⟩; have n8_ : Aside0 (Below w0.heap.size w0 w33) := ⟨(by rw [hw]; exact (by repeat (first | (with_reducible first | exact HB.out | apply below_alloc | apply pw_below_drewN | apply below_drew1 | refine below_set ?_ GE133.out | refine below_set ?_ GE134.out | refine below_set ?_ GE135.out) | exact HB.out)))⟩; clear hw; clear HO_6; clear HO_134003; clear HO_135000; clear HO141; clear BK133; clear BK134; clear BK135; clear HK; clear HB; have HO_6 := n0_; have HO_134003 := n1_; have HO_135000 := n2_; have HO141 := n3_; have BK133 := n4_; have BK134 := n5_; have BK135 := n6_; have HK := n7_; have HB := n8_; clear n0_ n1_ n2_ n3_ n4_ n5_ n6_ n7_ n8_; have hnb34 := NB134_135.out; have hnc34 := NB135_134.out; have hcz35_0 : w33.cell? ⟨gb134, 0, none⟩ = some (.slice Ao18 x135000_1.length co18) := (blk_cell BK134.out 0).trans rfl; have hcz35_1 : w33.cell? ⟨gb134, 1, none⟩ = some (.int .i64 a1_1) := (blk_cell BK134.out 1).trans rfl; have hfz35_0 := blk_frozen BK134.out 0; have hfz35_1 := blk_frozen BK134.out 1) | ((with_reducible refine gate_builtin (b := .append) (xs := #[.tmp 40, .tmp 46]) rfl ?_); at_builtin; refine Kd.N_append k89 w.heap.size rfl (.tmp 40) (.tmp 46) 90 89 (.agg #[(.slice none 0 0), (.int .i64 0)]) 32 rfl Try.underlying90 info89 rfl (by decide) (by omega) u6 x6_1 (⟨t139, wrap64 (a1_1 + 1)⟩ : S89) [.slice (some ad142) t139.length co21, .int .i64 (wrap64 (a1_1 + 1))] (fun k_ => ((P0_3_ k_ ∨ P1_0_ k_) ∨ w.heap.size ≤ k_) ∧ some k_ ≠ (u134003 : Value).ownBlock ∧ k_ ≠ gb133 ∧ k_ ≠ gb134 ∧ k_ ≠ gb135) (fun k_ => ((fun k_ => ((P0_3_ k_ ∨ P1_0_ k_) ∨ w.heap.size ≤ k_) ∧ some k_ ≠ (u134003 : Value).ownBlock ∧ k_ ≠ gb133 ∧ k_ ≠ gb134 ∧ k_ ≠ gb135)) k_ ∧ some k_ ≠ (u6 : Value).ownBlock) rfl rfl ?aP (fun _ hk => hk) ?aF ?aO (Below.refl _ _) ?aS ?aL ?_; (case aP => exact (k89_mkF _ _ (⟨t139, wrap64 (a1_1 + 1)⟩ : S89) (Kd.R_reads' (Kd.R_mono (ok' := (fun k_ => ((fun k_ => ((P0_3_ k_ ∨ P1_0_ k_) ∨ w.heap.size ≤ k_) ∧ some k_ ≠ (u134003 : Value).ownBlock ∧ k_ ≠ gb133 ∧ k_ ≠ gb134 ∧ k_ ≠ gb135)) k_ ∧ some k_ ≠ (u6 : Value).ownBlock)) (Kd.R_types (Kd.R_types (Kd.R_types (Kd.R_apart' (HO141.out) (Kd.N_typed HO_6.out) (by decide)) BK133.out (by decide)) BK134.out (by decide)) BK135.out (by decide)) (fun k_ hk => ⟨⟨(Or.imp_left (fun h_ => (.inl h_)) (hk.1.1.1.1.1)), ⟨hk.1.1.1.1.2, ⟨hk.1.1.2, ⟨hk.1.2, hk.2⟩⟩⟩⟩, hk.1.1.1.2⟩))).2.1 (Kd.R_F (Kd.R_mono (ok' := (fun k_ => ((fun k_ => ((P0_3_ k_ ∨ P1_0_ k_) ∨ w.heap.size ≤ k_) ∧ some k_ ≠ (u134003 : Value).ownBlock ∧ k_ ≠ gb133 ∧ k_ ≠ gb134 ∧ k_ ≠ gb135)) k_ ∧ some k_ ≠ (u6 : Value).ownBlock)) (Kd.R_types (Kd.R_types (Kd.R_types (Kd.R_apart' (HO141.out) (Kd.N_typed HO_6.out) (by decide)) BK133.out (by decide)) BK134.out (by decide)) BK135.out (by decide)) (fun k_ hk => ⟨⟨(Or.imp_left (fun h_ => (.inl h_)) (hk.1.1.1.1.1)), ⟨hk.1.1.1.1.2, ⟨hk.1.1.2, ⟨hk.1.2, hk.2⟩⟩⟩⟩, hk.1.1.1.2⟩))))); (case aF => exact (fun k_ hk => ⟨(.inr (Nat.le_trans (by first | exact HK.out.1 | exact (show Kept w _ (fun k_ => P0_3_ k_) from by repeat (first | (with_reducible first | exact HK.out | apply Kept.alloc | apply Kept.drewN | apply Kept.drew | refine Kept.setCell ?_ (.inr GW133.out) _ | refine Kept.setCell ?_ (.inr GW134.out) _ | refine Kept.setCell ?_ (.inr GW135.out) _) | exact HK.out)).1) hk)), Kd.fresh' (Kd.R_lt (zr HO_134003.out)) k_ hk, Kd.freshB (g := gb133) (o := .cells #[.string (x134000_1 ++ t143), .string (x134001_1 ++ (⟨#[49]⟩ : ByteArray)), .string (x134002_1 ++ x7_1), u134003, .int .i64 a0_4] 28 (0, 0)) (by (with_reducible repeat (first | refine blk_drewN ?_ _ | refine blk_drew ?_ | refine blk_alloc ?_ _)); exact BK133.out) k_ hk, Kd.freshB (g := gb134) (o := .cells #[.slice Ao18 x135000_1.length co18, .int .i64 a1_1] 89 (0, 0)) (by (with_reducible repeat (first | refine blk_drewN ?_ _ | refine blk_drew ?_ | refine blk_alloc ?_ _)); exact BK134.out) k_ hk, Kd.freshB (g := gb135) (o := .cells #[.string (⟨#[]⟩ : ByteArray), .string (⟨#[]⟩ : ByteArray), .string (⟨#[]⟩ : ByteArray), .slice none 0 0, .int .i64 0] 28 (0, 0)) (by (with_reducible repeat (first | refine blk_drewN ?_ _ | refine blk_drew ?_ | refine blk_alloc ?_ _)); exact BK135.out) k_ hk⟩)); (case aO => exact (by (with_reducible repeat (first | apply Kd.N_alloc | apply Kd.N_drewN | apply Kd.N_drew)); exact Kd.N_mono HO_6.out (fun _ hk => ⟨hk.1, ⟨hk.2.1, ⟨hk.2.2.2.1, ⟨hk.2.2.2.2.1, hk.2.2.2.2.2⟩⟩⟩⟩))); (case aS => exact (by first | exact HK.out.1 | exact (show Kept w _ (fun k_ => P0_3_ k_) from by repeat (first | (with_reducible first | exact HK.out | apply Kept.alloc | apply Kept.drewN | apply Kept.drew | refine Kept.setCell ?_ (.inr GW133.out) _ | refine Kept.setCell ?_ (.inr GW134.out) _ | refine Kept.setCell ?_ (.inr GW135.out) _) | exact HK.out)).1)); (case aL => have := LMc27.out; omega); intro v145 w36 ho hb hg hat; rw [← Ny144.out] at ho; have n0_ := Aside0.mk (Kd.R_over' (zr HO_134003.out) (Kd.N_typed (by (with_reducible repeat (first | apply Kd.N_alloc | apply Kd.N_drewN | apply Kd.N_drew)); exact HO_6.out)) (by decide) hg); have n1_ := Aside0.mk (Kd.V_afterv (ok := (fun k_ => ((P0_3_ k_ ∨ P1_0_ k_) ∨ w.heap.size ≤ k_) ∧ some k_ ≠ (u134003 : Value).ownBlock ∧ some k_ ≠ (.slice (some ad142) t139.length co21 : Value).ownBlock ∧ k_ ≠ gb133 ∧ k_ ≠ gb134 ∧ k_ ≠ gb135)) (by (with_reducible repeat (first | apply Kd.V_alloc | apply Kd.V_drewN | apply Kd.V_drew)); exact Kd.V_mono HO_135000.out (fun _ hk => ⟨⟨hk.1, ⟨hk.2.2.1, ⟨hk.2.2.2.1, ⟨hk.2.2.2.2.1, ⟨hk.2.2.2.2.2.1, hk.2.2.2.2.2.2⟩⟩⟩⟩⟩, hk.2.1⟩)) hg hat); have n2_ := Aside0.mk (blk_grown (g := gb133) (o := .cells #[.string (x134000_1 ++ t143), .string (x134001_1 ++ (⟨#[49]⟩ : ByteArray)), .string (x134002_1 ++ x7_1), u134003, .int .i64 a0_4] 28 (0, 0)) (by (with_reducible repeat (first | refine blk_drewN ?_ _ | refine blk_drew ?_ | refine blk_alloc ?_ _)); exact BK133.out) hg (Kd.N_ne HO_6.out BK133.out (by decide))); have n3_ := Aside0.mk (blk_grown (g := gb134) (o := .cells #[.slice Ao18 x135000_1.length co18, .int .i64 a1_1] 89 (0, 0)) (by (with_reducible repeat (first | refine blk_drewN ?_ _ | refine blk_drew ?_ | refine blk_alloc ?_ _)); exact BK134.out) hg (Kd.N_away HO_6.out (fun _ hk => hk.2.2.2.2.1))); have n4_ := Aside0.mk (blk_grown (g := gb135) (o := .cells #[.string (⟨#[]⟩ : ByteArray), .string (⟨#[]⟩ : ByteArray), .string (⟨#[]⟩ : ByteArray), .slice none 0 0, .int .i64 0] 28 (0, 0)) (by (with_reducible repeat (first | refine blk_drewN ?_ _ | refine blk_drew ?_ | refine blk_alloc ?_ _)); exact BK135.out) hg (Kd.N_ne HO_6.out BK135.out (by decide))); have n5_ := Aside0.mk (below_weaken (by repeat (first | (with_reducible first | exact HB.out | apply below_alloc | apply pw_below_drewN | apply below_drew1 | refine below_set ?_ GE133.out | refine below_set ?_ GE134.out | refine below_set ?_ GE135.out) | exact HB.out)) HW0.out hb); have n6_ := Aside0.mk (Kept.of_grown (S := (fun k_ => P0_3_ k_)) hg (by repeat (first | (with_reducible first | exact HK.out | apply Kept.alloc | apply Kept.drewN | apply Kept.drew | refine Kept.setCell ?_ (.inr GW133.out) _ | refine Kept.setCell ?_ (.inr GW134.out) _ | refine Kept.setCell ?_ (.inr GW135.out) _) | exact HK.out)) (fun k_ e_ => .inr (Kd.N_base HO_6.out k_ e_))); have n7_ := Aside0.mk (ho); clear HO_134003; clear HO_135000; clear BK133; clear BK134; clear BK135; clear HB; clear HK; clear HO_6; clear HO141; have HO_134003 := n0_; have HO_135000 := n1_; have BK133 := n2_; have BK134 := n3_; have BK135 := n4_; have HB := n5_; have HK := n6_; have HO146 := n7_; clear n0_ n1_ n2_ n3_ n4_ n5_ n6_ n7_; clear ho hb hg hat; have hcz37_0 : w36.cell? ⟨gb134, 0, none⟩ = some (.slice Ao18 x135000_1.length co18) := (blk_cell BK134.out 0).trans rfl; have hcz37_1 : w36.cell? ⟨gb134, 1, none⟩ = some (.int .i64 a1_1) := (blk_cell BK134.out 1).trans rfl; have hfz37_0 := blk_frozen BK134.out 0; have hfz37_1 := blk_frozen BK134.out 1; have q38 : ((t139.length : Int) : Int) ≤ ((x135000_1.length : Int) : Int) := zd; obtain ⟨i038, hi038, _, hsz38, _⟩ := info_parts info9; have hroom38 : x135000_1.length ≤ co18 := (Kd.V_reads' HO_135000.out).2.1; have hC38 : Kd.F Kd.string _ _ Ao18 x135000_1.length x135000_1 := (Kd.V_at (base := w0.heap.size) HO_135000.out).2.2; have q038 : (0 : Int) ≤ ((t139.length : Int) : Int) := zd; have hcut38 := cut_from (P := Try.prog) 26 9 .i64 Try.underlying26 hi038 1 hsz38 Ao18 x135000_1.length co18 (t139.length : Int) q038 q38; have hr38 := Kd.F_cut (m := ((t139.length : Int) : Int).toNat) (c := co18) hC38 (by omega) hroom38; obtain ⟨A38, hA38⟩ : ∃ A1, A1 = (if co18 = ((t139.length : Int) : Int).toNat then Ao18 else (Ao18 : Option Addr).map (·.add (((t139.length : Int) : Int).toNat * 1))) := ⟨_, rfl⟩; obtain ⟨c38, hc38⟩ : ∃ c1, c1 = co18 - ((t139.length : Int) : Int).toNat := ⟨_, rfl⟩; have hy38 : y147.length = x135000_1.length - ((t139.length : Int) : Int).toNat := (by rw [Ny147.out, List.length_drop] <;> omega); rw [show (x135000_1).drop ((t139.length : Int) : Int).toNat = y147 from Ny147.out.symm] at hr38; replace hr38 : Kd.F Kd.string _ _ A38 y147.length y147 := (by rw [hA38]; exact hr38); rw [← hy38, ← hA38, ← hc38] at hcut38; have HO151 := Aside0.mk (show Kd.V Kd.string 9 _ w0.heap.size _ (.slice A38 y147.length c38) y147 from Kd.V_mk (by rw [hy38, hc38]; exact Nat.sub_le_sub_right hroom38 _) hr38); have HC151 := Aside0.mk (show y147.length ≤ c38 from by rw [hy38, hc38]; exact Nat.sub_le_sub_right hroom38 _); clear hr38 hC38 hroom38 hi038 hsz38 hc38; have KY38 := Aside0.mk hy38; have KA38 := Aside0.mk hA38; clear hy38 hA38; replace q38 := eq_true q38))
                        go_roundg k1
                        case measure => have := HK1.out; omega
                        case rel => exact ⟨(y144), ((⟨#[48]⟩ : ByteArray)), (x134000_1 ++ t143), (x134001_1 ++ (⟨#[49]⟩ : ByteArray)), (x134002_1 ++ x7_1), (x134003_1), (y147), (u134003), (.slice A38 y147.length c38), zf, H', ⟨by have := HK1.out; omega⟩, ⟨by (with_reducible repeat (first | apply Kd.N_alloc | apply Kd.N_drewN | apply Kd.N_drew)); exact Kd.N_mono (Kd.N_far (p := ⟨gb134, 0, none⟩) (Kd.N_mono HO146.out (fun k_ hk => (⟨hk, hk.2.2.2.1⟩ : _ ∧ k_ ≠ gb134))) (fun _ hk => hk.2) (.slice A38 y147.length c38)) (fun _ hk => ⟨hk.1.1, ⟨hk.1.2.1, ⟨hk.1.2.2.1, ⟨hk.1.2.2.2.1, hk.1.2.2.2.2⟩⟩⟩⟩)⟩, ⟨Kd.R_mono (zr (Kd.R_far (p := ⟨gb134, 0, none⟩) (Kd.R_types HO_134003.out BK134.out (by decide)) (fun _ hk => hk.2) (.slice A38 y147.length c38))) (fun _ hk => hk.1.1)⟩, ⟨by (with_reducible repeat (first | apply Kd.V_alloc | apply Kd.V_drewN | apply Kd.V_drew)); exact Kd.V_mono (Kd.V_far (p := ⟨gb134, 0, none⟩) (Kd.V_mono HO151.out (fun k_ hk => (⟨hk, hk.1.2.2.2.2.1⟩ : _ ∧ k_ ≠ gb134))) (fun _ hk => hk.2) (.slice A38 y147.length c38)) (fun _ hk => ⟨hk.1.1.1, ⟨hk.1.2, ⟨hk.1.1.2.1, ⟨hk.1.1.2.2.2.1, ⟨hk.1.1.2.2.2.2.1, hk.1.1.2.2.2.2.2⟩⟩⟩⟩⟩)⟩, ⟨by (with_reducible repeat (first | refine blk_drewN ?_ _ | refine blk_drew ?_ | refine blk_alloc ?_ _)); refine blk_far ?_ NB133_134.out _; (with_reducible repeat (first | refine blk_drewN ?_ _ | refine blk_drew ?_ | refine blk_alloc ?_ _)); exact BK133.out⟩, ⟨by (with_reducible repeat (first | refine blk_drewN ?_ _ | refine blk_drew ?_ | refine blk_alloc ?_ _)); refine blk_put (cs := #[.slice Ao18 x135000_1.length co18, .int .i64 a1_1]) ?_ 0 _ rfl; (with_reducible repeat (first | refine blk_drewN ?_ _ | refine blk_drew ?_ | refine blk_alloc ?_ _)); exact BK134.out⟩, ⟨by (with_reducible repeat (first | refine blk_drewN ?_ _ | refine blk_drew ?_ | refine blk_alloc ?_ _)); refine blk_far ?_ NB135_134.out _; (with_reducible repeat (first | refine blk_drewN ?_ _ | refine blk_drew ?_ | refine blk_alloc ?_ _)); exact BK135.out⟩, ⟨by repeat (first | (with_reducible first | exact HK.out | apply Kept.alloc | apply Kept.drewN | apply Kept.drew | refine Kept.setCell ?_ (.inr GW133.out) _ | refine Kept.setCell ?_ (.inr GW134.out) _ | refine Kept.setCell ?_ (.inr GW135.out) _) | exact HK.out)⟩, ⟨by repeat (first | (with_reducible first | exact HB.out | apply below_alloc | apply pw_below_drewN | apply below_drew1 | refine below_set ?_ GE133.out | refine below_set ?_ GE134.out | refine below_set ?_ GE135.out) | exact HB.out)⟩⟩
                      · rw [if_neg c29] at H
                        exact absurd H (by simp)
                    · rw [if_neg c28] at H
                      exact absurd H (by simp)
                  · rw [if_neg c27] at H
                    exact absurd H (by simp)
                · rw [if_neg c26] at H
                  exact absurd H (by simp)
              · rw [if_neg c25] at H
                have c25b0 : decide (1 < (t139.length : Int)) = false := decide_eq_false c25
                have c25b1 : decide (1 < t139.length) = false := decide_eq_false (by omega)
                clear c25
                (first | rw [c25b0] | (simp only [i64_w, i32_w]; rw [c25b0]) | simp only [*, Bool.not_true, Bool.not_false] | skip)
                by_cases c39 : x134001_1.size + 1 ≤ 9223372036854775807
                · rw [if_pos c39] at H
                  have c39b0 := eq_true c39
                  have c39b1 : decide (x134001_1.size + 1 ≤ 9223372036854775807) = true := decide_eq_true c39
                  try have c39b2 : (9223372036854775807 < x134001_1.size + 1) = False := eq_false (Nat.not_lt.2 c39)
                  replace H := Option.bind_eq_some_iff.mp H
                  obtain ⟨t153, A400, H⟩ := H
                  (try dsimp only at H)
                  have A40 := Aside0.mk A400
                  clear A400
                  by_cases c41 : x134003_1.length < 8796093022208
                  · rw [if_pos c41] at H
                    have LMc41 := Aside0.mk c41
                    clear c41
                    obtain ⟨y154, hy154⟩ : ∃ y_ : List ByteArray, y_ = (x134003_1 ++ [t153]) := ⟨_, rfl⟩
                    replace H : (if 0 ≤ (t139.length : Int) then (if (t139.length : Int) ≤ (x135000_1.length : Int) then (spec_l3Put.l0 k1 x6_1 (⟨#[48]⟩ : ByteArray) (x134000_1 ++ t143) (x134001_1 ++ (⟨#[48]⟩ : ByteArray)) (x134002_1 ++ x7_1) y154 a0_4 (x135000_1.drop ((t139.length : Int) : Int).toNat) a1_1) else (none)) else (none)) = some (r1, r2, r3, r4, r5, r6) := by first | (rw [hy154]; with_reducible exact H) | (have H2_ := (Option.bind_some _ _).symm.trans H; rw [hy154]; with_reducible exact H2_) | (have H2_ := (Option.bind_some _ _).symm.trans H; with_reducible exact H2_) | with_reducible exact H | (rw [hy154]; exact H) | exact H
                    have Ny154 := Aside0.mk hy154
                    clear hy154
                    by_cases c42 : 0 ≤ (t139.length : Int)
                    · rw [if_pos c42] at H
                      have c42b0 := eq_true c42
                      have c42b1 : decide (0 ≤ (t139.length : Int)) = true := decide_eq_true c42
                      clear c42
                      by_cases c43 : (t139.length : Int) ≤ (x135000_1.length : Int)
                      · rw [if_pos c43] at H
                        have c43b0 := eq_true c43
                        have c43b1 : decide ((t139.length : Int) ≤ (x135000_1.length : Int)) = true := decide_eq_true c43
                        clear c43
                        obtain ⟨y157, hy157⟩ : ∃ y_ : List ByteArray, y_ = (x135000_1.drop ((t139.length : Int) : Int).toNat) := ⟨_, rfl⟩
                        replace H : (spec_l3Put.l0 k1 x6_1 (⟨#[48]⟩ : ByteArray) (x134000_1 ++ t143) (x134001_1 ++ (⟨#[48]⟩ : ByteArray)) (x134002_1 ++ x7_1) y154 a0_4 y157 a1_1) = some (r1, r2, r3, r4, r5, r6) := by first | (rw [hy157]; with_reducible exact H) | (have H2_ := (Option.bind_some _ _).symm.trans H; rw [hy157]; with_reducible exact H2_) | (have H2_ := (Option.bind_some _ _).symm.trans H; with_reducible exact H2_) | with_reducible exact H | (rw [hy157]; exact H) | exact H
                        have Ny157 := Aside0.mk hy157
                        clear hy157
                        have H' := Aside0.mk H
                        clear H
                        have hnb44 := NB133_134.out
                        have hnc44 := NB134_133.out
                        have hnb45 := NB133_135.out
                        have hnc45 := NB135_133.out
                        have hcz46_0 : w22.cell? ⟨gb133, 0, none⟩ = some (.string x134000_1) := (blk_cell BK133.out 0).trans rfl
                        have hcz46_1 : w22.cell? ⟨gb133, 1, none⟩ = some (.string x134001_1) := (blk_cell BK133.out 1).trans rfl
                        have hcz46_2 : w22.cell? ⟨gb133, 2, none⟩ = some (.string x134002_1) := (blk_cell BK133.out 2).trans rfl
                        have hcz46_3 : w22.cell? ⟨gb133, 3, none⟩ = some (u134003) := (blk_cell BK133.out 3).trans rfl
                        have hcz46_4 : w22.cell? ⟨gb133, 4, none⟩ = some (.int .i64 a0_4) := (blk_cell BK133.out 4).trans rfl
                        have hfz46_0 := blk_frozen BK133.out 0
                        have hfz46_1 := blk_frozen BK133.out 1
                        have hfz46_2 := blk_frozen BK133.out 2
                        have hfz46_3 := blk_frozen BK133.out 3
                        have hfz46_4 := blk_frozen BK133.out 4
                        try go_wp2
                        have n0_ : Aside0 (Kd.N k89 89 (((w22.setCell ⟨gb133, 0, none⟩ (.string (x134000_1 ++ t143))).setCell ⟨gb133, 2, none⟩ (.string (x134002_1 ++ x7_1))).setCell ⟨gb133, 1, none⟩ (.string (x134001_1 ++ (⟨#[48]⟩ : ByteArray)))) w.heap.size (fun k_ => ((P0_3_ k_ ∨ P1_0_ k_) ∨ w.heap.size ≤ k_) ∧ some k_ ≠ (u134003 : Value).ownBlock ∧ some k_ ≠ (.slice (some ad142) t139.length co21 : Value).ownBlock ∧ k_ ≠ gb133 ∧ k_ ≠ gb134 ∧ k_ ≠ gb135) u6 x6_1) := ⟨by (with_reducible repeat (first | apply Kd.N_alloc | apply Kd.N_drewN | apply Kd.N_drew)); exact Kd.N_mono (Kd.N_far (p := ⟨gb133, 1, none⟩) (Kd.N_far (p := ⟨gb133, 2, none⟩) (Kd.N_far (p := ⟨gb133, 0, none⟩) (Kd.N_mono HO_6.out (fun k_ hk => (⟨hk, hk.1.2.2.1⟩ : _ ∧ k_ ≠ gb133))) (fun _ hk => hk.2) (.string (x134000_1 ++ t143))) (fun _ hk => hk.2) (.string (x134002_1 ++ x7_1))) (fun _ hk => hk.2) (.string (x134001_1 ++ (⟨#[48]⟩ : ByteArray)))) (fun _ hk => ⟨hk.1.1.1, ⟨hk.1.1.2.1, ⟨hk.1.2, ⟨hk.1.1.2.2.1, ⟨hk.1.1.2.2.2.1, hk.1.1.2.2.2.2⟩⟩⟩⟩⟩)⟩
                        have n1_ : Aside0 (Kd.R Kd.string 9 (((w22.setCell ⟨gb133, 0, none⟩ (.string (x134000_1 ++ t143))).setCell ⟨gb133, 2, none⟩ (.string (x134002_1 ++ x7_1))).setCell ⟨gb133, 1, none⟩ (.string (x134001_1 ++ (⟨#[48]⟩ : ByteArray)))) w0.heap.size (fun k_ => (P0_3_ k_ ∨ w.heap.size ≤ k_) ∧ some k_ ≠ (.slice (some ad142) t139.length co21 : Value).ownBlock) u134003 x134003_1) := ⟨Kd.R_mono (zr (Kd.R_far (p := ⟨gb133, 1, none⟩) (Kd.R_far (p := ⟨gb133, 2, none⟩) (Kd.R_far (p := ⟨gb133, 0, none⟩) (Kd.R_types HO_134003.out BK133.out (by decide)) (fun _ hk => hk.2) (.string (x134000_1 ++ t143))) (fun _ hk => hk.2) (.string (x134002_1 ++ x7_1))) (fun _ hk => hk.2) (.string (x134001_1 ++ (⟨#[48]⟩ : ByteArray))))) (fun _ hk => ⟨hk.1.1, hk.1.2⟩)⟩
                        have n2_ : Aside0 (Kd.V Kd.string 9 (((w22.setCell ⟨gb133, 0, none⟩ (.string (x134000_1 ++ t143))).setCell ⟨gb133, 2, none⟩ (.string (x134002_1 ++ x7_1))).setCell ⟨gb133, 1, none⟩ (.string (x134001_1 ++ (⟨#[48]⟩ : ByteArray)))) w0.heap.size (fun k_ => ((P0_3_ k_ ∨ P1_0_ k_) ∨ w.heap.size ≤ k_) ∧ some k_ ≠ (u6 : Value).ownBlock ∧ some k_ ≠ (u134003 : Value).ownBlock ∧ some k_ ≠ (.slice (some ad142) t139.length co21 : Value).ownBlock ∧ k_ ≠ gb133 ∧ k_ ≠ gb134 ∧ k_ ≠ gb135) (.slice Ao18 x135000_1.length co18) x135000_1) := ⟨by (with_reducible repeat (first | apply Kd.V_alloc | apply Kd.V_drewN | apply Kd.V_drew)); exact Kd.V_mono (Kd.V_far (p := ⟨gb133, 1, none⟩) (Kd.V_far (p := ⟨gb133, 2, none⟩) (Kd.V_far (p := ⟨gb133, 0, none⟩) (Kd.V_mono HO_135000.out (fun k_ hk => (⟨hk, hk.1.2.2.2.1⟩ : _ ∧ k_ ≠ gb133))) (fun _ hk => hk.2) (.string (x134000_1 ++ t143))) (fun _ hk => hk.2) (.string (x134002_1 ++ x7_1))) (fun _ hk => hk.2) (.string (x134001_1 ++ (⟨#[48]⟩ : ByteArray)))) (fun _ hk => ⟨hk.1.1.1, ⟨hk.1.1.2.1, ⟨hk.1.1.2.2.1, ⟨hk.1.2, ⟨hk.1.1.2.2.2.1, ⟨hk.1.1.2.2.2.2.1, hk.1.1.2.2.2.2.2⟩⟩⟩⟩⟩⟩)⟩
                        have n3_ : Aside0 (Kd.R Kd.string 9 (((w22.setCell ⟨gb133, 0, none⟩ (.string (x134000_1 ++ t143))).setCell ⟨gb133, 2, none⟩ (.string (x134002_1 ++ x7_1))).setCell ⟨gb133, 1, none⟩ (.string (x134001_1 ++ (⟨#[48]⟩ : ByteArray)))) w0.heap.size (fun k_ => (P0_3_ k_ ∨ w.heap.size ≤ k_) ∧ some k_ ≠ (u134003 : Value).ownBlock) (.slice (some ad142) t139.length co21) t139) := ⟨Kd.R_mono (zr (Kd.R_far (p := ⟨gb133, 1, none⟩) (Kd.R_far (p := ⟨gb133, 2, none⟩) (Kd.R_far (p := ⟨gb133, 0, none⟩) (Kd.R_types HO141.out BK133.out (by decide)) (fun _ hk => hk.2) (.string (x134000_1 ++ t143))) (fun _ hk => hk.2) (.string (x134002_1 ++ x7_1))) (fun _ hk => hk.2) (.string (x134001_1 ++ (⟨#[48]⟩ : ByteArray))))) (fun _ hk => ⟨hk.1.1.1, hk.1.2⟩)⟩
                        have n4_ : Aside0 ((((w22.setCell ⟨gb133, 0, none⟩ (.string (x134000_1 ++ t143))).setCell ⟨gb133, 2, none⟩ (.string (x134002_1 ++ x7_1))).setCell ⟨gb133, 1, none⟩ (.string (x134001_1 ++ (⟨#[48]⟩ : ByteArray)))).heap[gb133]? = some (.cells #[.string (x134000_1 ++ t143), .string (x134001_1 ++ (⟨#[48]⟩ : ByteArray)), .string (x134002_1 ++ x7_1), u134003, .int .i64 a0_4] 28 (0, 0))) := ⟨by (with_reducible repeat (first | refine blk_drewN ?_ _ | refine blk_drew ?_ | refine blk_alloc ?_ _)); refine blk_put (cs := #[.string (x134000_1 ++ t143), .string x134001_1, .string (x134002_1 ++ x7_1), u134003, .int .i64 a0_4]) ?_ 1 _ rfl; (with_reducible repeat (first | refine blk_drewN ?_ _ | refine blk_drew ?_ | refine blk_alloc ?_ _)); refine blk_put (cs := #[.string (x134000_1 ++ t143), .string x134001_1, .string x134002_1, u134003, .int .i64 a0_4]) ?_ 2 _ rfl; (with_reducible repeat (first | refine blk_drewN ?_ _ | refine blk_drew ?_ | refine blk_alloc ?_ _)); refine blk_put (cs := #[.string x134000_1, .string x134001_1, .string x134002_1, u134003, .int .i64 a0_4]) ?_ 0 _ rfl; (with_reducible repeat (first | refine blk_drewN ?_ _ | refine blk_drew ?_ | refine blk_alloc ?_ _)); exact BK133.out⟩
                        have n5_ : Aside0 ((((w22.setCell ⟨gb133, 0, none⟩ (.string (x134000_1 ++ t143))).setCell ⟨gb133, 2, none⟩ (.string (x134002_1 ++ x7_1))).setCell ⟨gb133, 1, none⟩ (.string (x134001_1 ++ (⟨#[48]⟩ : ByteArray)))).heap[gb134]? = some (.cells #[.slice Ao18 x135000_1.length co18, .int .i64 a1_1] 89 (0, 0))) := ⟨by (with_reducible repeat (first | refine blk_drewN ?_ _ | refine blk_drew ?_ | refine blk_alloc ?_ _)); refine blk_far ?_ NB134_133.out _; (with_reducible repeat (first | refine blk_drewN ?_ _ | refine blk_drew ?_ | refine blk_alloc ?_ _)); refine blk_far ?_ NB134_133.out _; (with_reducible repeat (first | refine blk_drewN ?_ _ | refine blk_drew ?_ | refine blk_alloc ?_ _)); refine blk_far ?_ NB134_133.out _; (with_reducible repeat (first | refine blk_drewN ?_ _ | refine blk_drew ?_ | refine blk_alloc ?_ _)); exact BK134.out⟩
                        have n6_ : Aside0 ((((w22.setCell ⟨gb133, 0, none⟩ (.string (x134000_1 ++ t143))).setCell ⟨gb133, 2, none⟩ (.string (x134002_1 ++ x7_1))).setCell ⟨gb133, 1, none⟩ (.string (x134001_1 ++ (⟨#[48]⟩ : ByteArray)))).heap[gb135]? = some (.cells #[.string (⟨#[]⟩ : ByteArray), .string (⟨#[]⟩ : ByteArray), .string (⟨#[]⟩ : ByteArray), .slice none 0 0, .int .i64 0] 28 (0, 0))) := ⟨by (with_reducible repeat (first | refine blk_drewN ?_ _ | refine blk_drew ?_ | refine blk_alloc ?_ _)); refine blk_far ?_ NB135_133.out _; (with_reducible repeat (first | refine blk_drewN ?_ _ | refine blk_drew ?_ | refine blk_alloc ?_ _)); refine blk_far ?_ NB135_133.out _; (with_reducible repeat (first | refine blk_drewN ?_ _ | refine blk_drew ?_ | refine blk_alloc ?_ _)); refine blk_far ?_ NB135_133.out _; (with_reducible repeat (first | refine blk_drewN ?_ _ | refine blk_drew ?_ | refine blk_alloc ?_ _)); exact BK135.out⟩
                        have n7_ : Aside0 (Kept w (((w22.setCell ⟨gb133, 0, none⟩ (.string (x134000_1 ++ t143))).setCell ⟨gb133, 2, none⟩ (.string (x134002_1 ++ x7_1))).setCell ⟨gb133, 1, none⟩ (.string (x134001_1 ++ (⟨#[48]⟩ : ByteArray)))) (fun k_ => P0_3_ k_)) := ⟨by repeat (first | (with_reducible first | exact HK.out | apply Kept.alloc | apply Kept.drewN | apply Kept.drew | refine Kept.setCell ?_ (.inr GW133.out) _ | refine Kept.setCell ?_ (.inr GW134.out) _ | refine Kept.setCell ?_ (.inr GW135.out) _) | exact HK.out)⟩
                        have n8_ : Aside0 (Below w0.heap.size w0 (((w22.setCell ⟨gb133, 0, none⟩ (.string (x134000_1 ++ t143))).setCell ⟨gb133, 2, none⟩ (.string (x134002_1 ++ x7_1))).setCell ⟨gb133, 1, none⟩ (.string (x134001_1 ++ (⟨#[48]⟩ : ByteArray))))) := ⟨by repeat (first | (with_reducible first | exact HB.out | apply below_alloc | apply pw_below_drewN | apply below_drew1 | refine below_set ?_ GE133.out | refine below_set ?_ GE134.out | refine below_set ?_ GE135.out) | exact HB.out)⟩
                        (try clear HO_6)
                        (try clear HO_134003)
                        (try clear HO_135000)
                        (try clear HO141)
                        (try clear BK133)
                        (try clear BK134)
                        (try clear BK135)
                        (try clear HK)
                        (try clear HB)
                        generalize (((w22.setCell ⟨gb133, 0, none⟩ (.string (x134000_1 ++ t143))).setCell ⟨gb133, 2, none⟩ (.string (x134002_1 ++ x7_1))).setCell ⟨gb133, 1, none⟩ (.string (x134001_1 ++ (⟨#[48]⟩ : ByteArray)))) = w47 at n0_ n1_ n2_ n3_ n4_ n5_ n6_ n7_ n8_ ⊢
                        have HO_6 := n0_
                        have HO_134003 := n1_
                        have HO_135000 := n2_
                        have HO141 := n3_
                        have BK133 := n4_
                        have BK134 := n5_
                        have BK135 := n6_
                        have HK := n7_
                        have HB := n8_
                        clear n0_ n1_ n2_ n3_ n4_ n5_ n6_ n7_ n8_
                        have n0_ := Aside0.mk (Kd.N_drew HO_6.out)
                        have n1_ := Aside0.mk (Kd.R_drew HO_134003.out)
                        have n2_ := Aside0.mk (Kd.V_drew HO_135000.out)
                        have n3_ := Aside0.mk (Kd.R_drew HO141.out)
                        have n4_ := Aside0.mk (blk_drew BK133.out)
                        have n5_ := Aside0.mk (blk_drew BK134.out)
                        have n6_ := Aside0.mk (blk_drew BK135.out)
                        have n7_ := Aside0.mk (Kept.drew HK.out)
                        have n8_ := Aside0.mk (below_drew1 HB.out)
                        clear HO_6
                        clear HO_134003
                        clear HO_135000
                        clear HO141
                        clear BK133
                        clear BK134
                        clear BK135
                        clear HK
                        clear HB
                        have HO_6 := n0_
                        have HO_134003 := n1_
                        have HO_135000 := n2_
                        have HO141 := n3_
                        have BK133 := n4_
                        have BK134 := n5_
                        have BK135 := n6_
                        have HK := n7_
                        have HB := n8_
                        clear n0_ n1_ n2_ n3_ n4_ n5_ n6_ n7_ n8_
                        have p152 : 0 ≤ (0 : Int) := (by omega)
                        have q152 : 0 < (t139.length : Int) := zd
                        obtain ⟨ad152, e152, hx152_0⟩ := Kd.at_string (Kd.R_reads' HO141.out).2.2 0 p152 q152
                        obtain rfl : ad142 = ad152 := (by injection e152)
                        have qi152 : (0 < t139.length) = True := eq_true (by omega)
                        (try rw [show ((0 : Int)).toNat = 0 from rfl] at hx152_0)
                        (try rw [Addr.add_zero'] at hx152_0)
                        replace p152 := eq_true p152
                        replace q152 := eq_true q152
                        refine start_ (n := 15) (S := fun w' => w'.cell? ⟨gb133, 0, none⟩ = some (.string (x134000_1 ++ t143)) ∧ w'.cell? ⟨gb133, 1, none⟩ = some (.string (x134001_1 ++ (⟨#[48]⟩ : ByteArray))) ∧ w'.cell? ⟨gb133, 2, none⟩ = some (.string (x134002_1 ++ x7_1)) ∧ w'.cell? ⟨gb133, 3, none⟩ = some (u134003) ∧ w'.cell? ⟨gb133, 4, none⟩ = some (.int .i64 a0_4) ∧ w'.cell? ⟨gb134, 0, none⟩ = some (.slice Ao18 x135000_1.length co18) ∧ w'.cell? ⟨gb134, 1, none⟩ = some (.int .i64 a1_1) ∧ w'.cell? ad142 = some (.string (rdOf ByteArray.empty t139 0))) (ds := [12, 14]) (fb 15 0) (by kernel_rfl) rfl rfl ⟨(blk_cell BK133.out 0).trans rfl, (blk_cell BK133.out 1).trans rfl, (blk_cell BK133.out 2).trans rfl, (blk_cell BK133.out 3).trans rfl, (blk_cell BK133.out 4).trans rfl, (blk_cell BK134.out 0).trans rfl, (blk_cell BK134.out 1).trans rfl, hx152_0⟩ (fun hHeld => ?_); refine with_tabW spec_l3Put.tab13 spec_l3Put.bits13 (fun HT_ HW_ => ?_)
                        generalize w47.drew = w48 at HO_6 HO_134003 HO_135000 HO141 BK133 BK134 BK135 HK HB hx152_0 hHeld ⊢
                        refine pure_ (i := 0) (N := some 52) (v := ?_) (a' := ?_) (fb 15 1) rfl rfl (any_of HT_.out (by kernel_rfl)) (fun _ _ _ h => h) (Or.inl ⟨by rfl, ?_⟩) ?_ ?_
                        rotate_left
                        · intro w'
                          go_simp
                          with_reducible rfl
                        rotate_left
                        · simp only [Act.put, List.setIfInBounds_toArray, List.set_cons_zero, List.set_cons_succ, i64_w, i32_w]
                          rfl
                        refine pure_ (i := 2) (N := some 54) (v := ?_) (a' := ?_) (fb 15 5) rfl rfl (any_of HT_.out (by kernel_rfl)) (fun _ _ _ h => h) (Or.inl ⟨by rfl, ?_⟩) ?_ ?_
                        rotate_left
                        · intro w'
                          go_simp
                          with_reducible rfl
                        rotate_left
                        · simp only [Act.put, List.setIfInBounds_toArray, List.set_cons_zero, List.set_cons_succ, i64_w, i32_w]
                          rfl
                        refine pure_ (i := 3) (N := some 55) (v := ?_) (a' := ?_) (fb 15 13) rfl rfl (any_of HT_.out (by kernel_rfl)) (fun _ _ _ h => h) (Or.inl ⟨by rfl, ?_⟩) ?_ ?_
                        rotate_left
                        · intro w'
                          go_simp
                          with_reducible rfl
                        rotate_left
                        · simp only [Act.put, List.setIfInBounds_toArray, List.set_cons_zero, List.set_cons_succ, i64_w, i32_w]
                          rfl
                        refine pure_ (i := 5) (N := some 57) (v := ?_) (a' := ?_) (fb 15 45) rfl rfl (any_of HT_.out (by kernel_rfl)) (fun _ _ _ h => h) (Or.inl ⟨by rfl, ?_⟩) ?_ ?_
                        rotate_left
                        · intro w'
                          go_simp
                          with_reducible rfl
                        rotate_left
                        · simp only [Act.put, List.setIfInBounds_toArray, List.set_cons_zero, List.set_cons_succ, i64_w, i32_w]
                          rfl
                        refine pure_ (i := 8) (N := some 60) (v := ?_) (a' := ?_) (fb 15 301) rfl rfl (any_of HT_.out (by kernel_rfl)) (fun _ _ _ h => h) (Or.inl ⟨by rfl, ?_⟩) ?_ ?_
                        rotate_left
                        · intro w'
                          go_simp
                          with_reducible rfl
                        rotate_left
                        · simp only [Act.put, List.setIfInBounds_toArray, List.set_cons_zero, List.set_cons_succ, i64_w, i32_w]
                          rfl
                        refine take_ (i := 1) (N := some 53) (v := ?_) (a' := ?_) (fb 15 303) rfl rfl (take_ofW HT_.out HW_.out (by kernel_rfl)) (fun _ _ _ h => h) (Or.inl ⟨by rfl, ?_⟩) hHeld ?_ ?_
                        rotate_left
                        · rintro w' ⟨s0, s1, s2, s3, s4, s5, s6, s7⟩
                          go_simp
                          with_reducible rfl
                        rotate_left
                        · simp only [Act.put, List.setIfInBounds_toArray, List.set_cons_zero, List.set_cons_succ, i64_w, i32_w]
                          rfl
                        refine take_ (i := 4) (N := some 56) (v := ?_) (a' := ?_) (fb 15 319) rfl rfl (take_ofW HT_.out HW_.out (by kernel_rfl)) (fun _ _ _ h => h) (Or.inl ⟨by rfl, ?_⟩) hHeld ?_ ?_
                        rotate_left
                        · rintro w' ⟨s0, s1, s2, s3, s4, s5, s6, s7⟩
                          go_simp
                          with_reducible rfl
                        rotate_left
                        · simp only [Act.put, List.setIfInBounds_toArray, List.set_cons_zero, List.set_cons_succ, i64_w, i32_w]
                          rfl
                        refine take_ (i := 6) (N := some 58) (v := ?_) (a' := ?_) (fb 15 383) rfl rfl (take_ofW HT_.out HW_.out (by kernel_rfl)) (fun _ _ _ h => h) (Or.inl ⟨by rfl, ?_⟩) hHeld ?_ ?_
                        rotate_left
                        · rintro w' ⟨s0, s1, s2, s3, s4, s5, s6, s7⟩
                          go_simp
                          with_reducible rfl
                        rotate_left
                        · simp only [Act.put, List.setIfInBounds_toArray, List.set_cons_zero, List.set_cons_succ, i64_w, i32_w]
                          rfl
                        refine pure_ (i := 7) (N := some 59) (v := ?_) (a' := ?_) (fb 15 511) rfl rfl (any_of HT_.out (by kernel_rfl)) (fun _ _ _ h => h) (Or.inl ⟨by rfl, ?_⟩) ?_ ?_
                        rotate_left
                        · intro w'
                          go_simp
                          with_reducible rfl
                        rotate_left
                        · simp only [Act.put, List.setIfInBounds_toArray, List.set_cons_zero, List.set_cons_succ, i64_w, i32_w]
                          rfl
                        refine take_ (i := 9) (N := some 61) (v := ?_) (a' := ?_) (fb 15 1023) rfl rfl (take_ofW HT_.out HW_.out (by kernel_rfl)) (fun _ _ _ h => h) (Or.inl ⟨by rfl, ?_⟩) hHeld ?_ ?_
                        rotate_left
                        · rintro w' ⟨s0, s1, s2, s3, s4, s5, s6, s7⟩
                          go_simp
                          with_reducible rfl
                        rotate_left
                        · simp only [Act.put, List.setIfInBounds_toArray, List.set_cons_zero, List.set_cons_succ, i64_w, i32_w]
                          rfl
                        refine one_ (i := 10) (N := some 62) (fb 15 2047) rfl rfl (one_of HT_.out (by kernel_rfl)) (by decide) (fun K hK => ?_)
                        refine goes_ Try.func147 (by kernel_rfl) rfl #[.string (rdOf ByteArray.empty t139 0), .int .i64 (wrap64 (a1_1 + 1)), .int .i64 a0_4] (by rfl) rfl rfl (by (try simp only [List.map_toArray, List.map_cons, List.map_nil]); first | done | rfl | (simp only [List.length_drop, List.length_take]; rfl)) ?_
                        with_reducible refine (spec_l3Rest.calls (rdOf ByteArray.empty t139 0) (wrap64 (a1_1 + 1)) a0_4 t153 _ A40.out).mono ?_
                        rintro e w49 ⟨rfl, hb⟩
                        have HS7_ := (hb.cell (World.block_lt_of_cell? _ _ (hHeld.2.2.2.2.2.2.2))).trans (hHeld.2.2.2.2.2.2.2)
                        refine ⟨_, rfl, ?_⟩
                        have n0_ := Aside0.mk (Kd.N_below (by (with_reducible repeat (first | apply Kd.N_alloc | apply Kd.N_drewN | apply Kd.N_drew)); exact HO_6.out) hb)
                        have n1_ := Aside0.mk (Kd.R_below (zr HO_134003.out) hb)
                        have n2_ := Aside0.mk (Kd.V_below (by (with_reducible repeat (first | apply Kd.V_alloc | apply Kd.V_drewN | apply Kd.V_drew)); exact HO_135000.out) hb)
                        have n3_ := Aside0.mk (Kd.R_below (zr HO141.out) hb)
                        have n4_ := Aside0.mk (blk_below (g := gb133) (o := .cells #[.string (x134000_1 ++ t143), .string (x134001_1 ++ (⟨#[48]⟩ : ByteArray)), .string (x134002_1 ++ x7_1), u134003, .int .i64 a0_4] 28 (0, 0)) (by (with_reducible repeat (first | refine blk_drewN ?_ _ | refine blk_drew ?_ | refine blk_alloc ?_ _)); exact BK133.out) hb)
                        have n5_ := Aside0.mk (blk_below (g := gb134) (o := .cells #[.slice Ao18 x135000_1.length co18, .int .i64 a1_1] 89 (0, 0)) (by (with_reducible repeat (first | refine blk_drewN ?_ _ | refine blk_drew ?_ | refine blk_alloc ?_ _)); exact BK134.out) hb)
                        have n6_ := Aside0.mk (blk_below (g := gb135) (o := .cells #[.string (⟨#[]⟩ : ByteArray), .string (⟨#[]⟩ : ByteArray), .string (⟨#[]⟩ : ByteArray), .slice none 0 0, .int .i64 0] 28 (0, 0)) (by (with_reducible repeat (first | refine blk_drewN ?_ _ | refine blk_drew ?_ | refine blk_alloc ?_ _)); exact BK135.out) hb)
                        have n7_ := Aside0.mk (Kept.below (S := (fun k_ => P0_3_ k_)) (by repeat (first | (with_reducible first | exact HK.out | apply Kept.alloc | apply Kept.drewN | apply Kept.drew | refine Kept.setCell ?_ (.inr GW133.out) _ | refine Kept.setCell ?_ (.inr GW134.out) _ | refine Kept.setCell ?_ (.inr GW135.out) _) | exact HK.out)) hb)
                        have n8_ := Aside0.mk (below_step (by repeat (first | (with_reducible first | exact HB.out | apply below_alloc | apply pw_below_drewN | apply below_drew1 | refine below_set ?_ GE133.out | refine below_set ?_ GE134.out | refine below_set ?_ GE135.out) | exact HB.out)) hb)
                        clear HO_6
                        clear HO_134003
                        clear HO_135000
                        clear HO141
                        clear BK133
                        clear BK134
                        clear BK135
                        clear HK
                        clear HB
                        have HO_6 := n0_
                        have HO_134003 := n1_
                        have HO_135000 := n2_
                        have HO141 := n3_
                        have BK133 := n4_
                        have BK134 := n5_
                        have BK135 := n6_
                        have HK := n7_
                        have HB := n8_
                        clear n0_ n1_ n2_ n3_ n4_ n5_ n6_ n7_ n8_
                        (try clear hb)
                        (try clear hb2)
                        (try clear hk)
                        (try clear hi)
                        refine hK.out _ _ ⟨(blk_cell BK133.out 0).trans rfl, (blk_cell BK133.out 1).trans rfl, (blk_cell BK133.out 2).trans rfl, (blk_cell BK133.out 3).trans rfl, (blk_cell BK133.out 4).trans rfl, (blk_cell BK134.out 0).trans rfl, (blk_cell BK134.out 1).trans rfl, HS7_⟩ (fun hHeld => ?_)
                        clear hK K
                        refine norm_ (a' := ?_) ?_ ?_
                        rotate_left
                        · show Act.put _ (some 62) _ = _
                          simp only [Act.put, List.setIfInBounds_toArray, List.set_cons_zero, List.set_cons_succ, i64_w, i32_w]
                          rfl
                        refine one_ (i := 11) (N := some 63) (fb 15 4095) rfl rfl (one_of HT_.out (by kernel_rfl)) (by decide) (fun K hK => ?_)
                        refine value_ (w1 := ?_) (v := ?_) (by rfl) rfl ?_ ?_
                        rotate_left 2
                        · go_simp
                          constructor
                          · rfl
                          · rfl
                        refine hK.out _ _ ⟨(blk_cell (blk_alloc BK133.out _) 0).trans rfl, (blk_cell (blk_alloc BK133.out _) 1).trans rfl, (blk_cell (blk_alloc BK133.out _) 2).trans rfl, (blk_cell (blk_alloc BK133.out _) 3).trans rfl, (blk_cell (blk_alloc BK133.out _) 4).trans rfl, (blk_cell (blk_alloc BK134.out _) 0).trans rfl, (blk_cell (blk_alloc BK134.out _) 1).trans rfl, (World.cell?_alloc_lt _ _ _ (World.block_lt_of_cell? _ _ (hHeld.2.2.2.2.2.2.2))).trans (hHeld.2.2.2.2.2.2.2)⟩ (fun hHeld => ?_)
                        clear hK K
                        refine norm_ (a' := ?_) ?_ ?_
                        rotate_left
                        · show Act.put _ (some 63) _ = _
                          simp only [Act.put, List.setIfInBounds_toArray, List.set_cons_zero, List.set_cons_succ, i64_w, i32_w]
                          rfl
                        refine last_ (i := 12) (N := some 64) (fb 15 8191) rfl rfl (one_of HT_.out (by kernel_rfl)) (by decide) (fun K hK => ?_)
                        refine Kd.R_append_step Kd.string (w0 := w0) w0.heap.size (by rfl) (.tmp 53) (.tmp 63) 26 9 (.string ⟨#[]⟩) 16 rfl Try.underlying26 info9 rfl (by decide) (by omega) u134003 x134003_1 t153 [.string t153] (fun k_ => (P0_3_ k_ ∨ w.heap.size ≤ k_) ∧ some k_ ≠ (.slice (some ad142) t139.length co21 : Value).ownBlock) (fun _ => False) rfl rfl ?aP (fun _ hk => hk.elim) ?aF ?aO ?aB ?aS ?aL ?_
                        (case aP => exact rfl)
                        (case aB => exact (by repeat (first | (with_reducible first | exact HB.out | apply below_alloc | apply pw_below_drewN | apply below_drew1 | refine below_set ?_ GE133.out | refine below_set ?_ GE134.out | refine below_set ?_ GE135.out) | exact HB.out)))
                        (case aF => exact (fun k_ hk => ⟨(.inr (Nat.le_trans (by first | exact HK.out.1 | exact (show Kept w _ (fun k_ => P0_3_ k_) from by repeat (first | (with_reducible first | exact HK.out | apply Kept.alloc | apply Kept.drewN | apply Kept.drew | refine Kept.setCell ?_ (.inr GW133.out) _ | refine Kept.setCell ?_ (.inr GW134.out) _ | refine Kept.setCell ?_ (.inr GW135.out) _) | exact HK.out)).1) hk)), Kd.fresh' (Kd.R_lt (zr HO141.out)) k_ hk⟩))
                        (case aO => exact (zr HO_134003.out))
                        (case aS => exact (below_size (by repeat (first | (with_reducible first | exact HB.out | apply below_alloc | apply pw_below_drewN | apply below_drew1 | refine below_set ?_ GE133.out | refine below_set ?_ GE134.out | refine below_set ?_ GE135.out) | exact HB.out))))
                        (case aL => have := LMc41.out; omega)
                        intro v155 w50 ho hb hg hat
                        rw [← Ny154.out] at ho
                        have n0_ := Aside0.mk (Kd.N_afterv (ok := (fun k_ => ((P0_3_ k_ ∨ P1_0_ k_) ∨ w.heap.size ≤ k_) ∧ some k_ ≠ (.slice (some ad142) t139.length co21 : Value).ownBlock ∧ k_ ≠ gb133 ∧ k_ ≠ gb134 ∧ k_ ≠ gb135)) (by (with_reducible repeat (first | apply Kd.N_alloc | apply Kd.N_drewN | apply Kd.N_drew)); exact Kd.N_mono HO_6.out (fun _ hk => ⟨⟨hk.1, ⟨hk.2.2.1, ⟨hk.2.2.2.1, ⟨hk.2.2.2.2.1, hk.2.2.2.2.2⟩⟩⟩⟩, hk.2.1⟩)) hg hat)
                        have n1_ := Aside0.mk (Kd.V_afterv (ok := (fun k_ => ((P0_3_ k_ ∨ P1_0_ k_) ∨ w.heap.size ≤ k_) ∧ some k_ ≠ (u6 : Value).ownBlock ∧ some k_ ≠ (.slice (some ad142) t139.length co21 : Value).ownBlock ∧ k_ ≠ gb133 ∧ k_ ≠ gb134 ∧ k_ ≠ gb135)) (by (with_reducible repeat (first | apply Kd.V_alloc | apply Kd.V_drewN | apply Kd.V_drew)); exact Kd.V_mono HO_135000.out (fun _ hk => ⟨⟨hk.1, ⟨hk.2.1, ⟨hk.2.2.2.1, ⟨hk.2.2.2.2.1, ⟨hk.2.2.2.2.2.1, hk.2.2.2.2.2.2⟩⟩⟩⟩⟩, hk.2.2.1⟩)) hg hat)
                        have n2_ := Aside0.mk (blk_grown (g := gb133) (o := .cells #[.string (x134000_1 ++ t143), .string (x134001_1 ++ (⟨#[48]⟩ : ByteArray)), .string (x134002_1 ++ x7_1), u134003, .int .i64 a0_4] 28 (0, 0)) (by (with_reducible repeat (first | refine blk_drewN ?_ _ | refine blk_drew ?_ | refine blk_alloc ?_ _)); exact BK133.out) hg (Kd.R_ne HO_134003.out BK133.out (by decide)))
                        have n3_ := Aside0.mk (blk_grown (g := gb134) (o := .cells #[.slice Ao18 x135000_1.length co18, .int .i64 a1_1] 89 (0, 0)) (by (with_reducible repeat (first | refine blk_drewN ?_ _ | refine blk_drew ?_ | refine blk_alloc ?_ _)); exact BK134.out) hg (Kd.R_ne HO_134003.out BK134.out (by decide)))
                        have n4_ := Aside0.mk (blk_grown (g := gb135) (o := .cells #[.string (⟨#[]⟩ : ByteArray), .string (⟨#[]⟩ : ByteArray), .string (⟨#[]⟩ : ByteArray), .slice none 0 0, .int .i64 0] 28 (0, 0)) (by (with_reducible repeat (first | refine blk_drewN ?_ _ | refine blk_drew ?_ | refine blk_alloc ?_ _)); exact BK135.out) hg (Kd.R_ne HO_134003.out BK135.out (by decide)))
                        have n5_ := Aside0.mk (Kd.R_after (ok := (fun k_ => (P0_3_ k_ ∨ w.heap.size ≤ k_))) (zr HO141.out) hg hat)
                        have n6_ := Aside0.mk (hb)
                        have n7_ := Aside0.mk (Kept.of_grown (S := (fun k_ => P0_3_ k_)) hg (by repeat (first | (with_reducible first | exact HK.out | apply Kept.alloc | apply Kept.drewN | apply Kept.drew | refine Kept.setCell ?_ (.inr GW133.out) _ | refine Kept.setCell ?_ (.inr GW134.out) _ | refine Kept.setCell ?_ (.inr GW135.out) _) | exact HK.out)) (fun k_ e_ => (HO_134003.out.1 k_ e_).1))
                        have n8_ := Aside0.mk (ho)
                        clear HO_6
                        clear HO_135000
                        clear BK133
                        clear BK134
                        clear BK135
                        clear HO141
                        clear HB
                        clear HK
                        clear HO_134003
                        have HO_6 := n0_
                        have HO_135000 := n1_
                        have BK133 := n2_
                        have BK134 := n3_
                        have BK135 := n4_
                        have HO141 := n5_
                        have HB := n6_
                        have HK := n7_
                        have HO156 := n8_
                        clear n0_ n1_ n2_ n3_ n4_ n5_ n6_ n7_ n8_
                        clear ho hb hg hat
                        obtain ⟨Ao51, co51, eo51⟩ := Kd.R_slice HO156.out
                        (first | subst eo51 | (injection eo51 with f1_ f2_ f3_; have f4_ := f1_.symm; have f5_ := f3_.symm; clear f1_ f2_ f3_; subst f4_; subst f5_))
                        refine hK.out _ _ ?_
                        clear hK K
                        refine norm_ (a' := ?_) ?_ ?_
                        rotate_left
                        · show Act.put _ (some 64) _ = _
                          simp only [Act.put, List.setIfInBounds_toArray, List.set_cons_zero, List.set_cons_succ, i64_w, i32_w]
                          rfl
                        refine pure_ (i := 13) (N := some 65) (v := ?_) (a' := ?_) (fb 15 16383) rfl rfl (any_of HT_.out (by kernel_rfl)) (fun _ _ _ h => h) (Or.inl ⟨by rfl, ?_⟩) ?_ ?_
                        rotate_left
                        · intro w'
                          go_simp
                          with_reducible rfl
                        rotate_left
                        · simp only [Act.put, List.setIfInBounds_toArray, List.set_cons_zero, List.set_cons_succ, i64_w, i32_w]
                          rfl
                        refine last_ (i := 14) (N := none) (fb 15 32767) rfl rfl (one_of HT_.out (by kernel_rfl)) (by decide) (fun K hK => ?_)
                        have hs52 : w50.cell? ⟨gb133, 3, none⟩ = some (u134003) := (blk_cell BK133.out 3).trans rfl
                        have hfs52 := blk_frozen BK133.out 3
                        have hns52_1 := NB134_133.out
                        have hns52_2 := NB135_133.out
                        have hms52_1 := NB133_134.out
                        have hms52_2 := NB133_135.out
                        refine skip_ (w1 := ?_) (by rfl) rfl ?_ ?_
                        rotate_left
                        · go_simp
                          rfl
                        refine hK.out _ _ ?_
                        clear hK K
                        refine done_ (done_of HT_.out (by kernel_rfl)) ?_
                        have n0_ : Aside0 (Kd.N k89 89 (w50.setCell ⟨gb133, 3, none⟩ (.slice Ao51 y154.length co51)) w.heap.size (fun k_ => ((P0_3_ k_ ∨ P1_0_ k_) ∨ w.heap.size ≤ k_) ∧ some k_ ≠ (.slice (some ad142) t139.length co21 : Value).ownBlock ∧ some k_ ≠ (.slice Ao51 y154.length co51 : Value).ownBlock ∧ k_ ≠ gb133 ∧ k_ ≠ gb134 ∧ k_ ≠ gb135) u6 x6_1) := ⟨by (with_reducible repeat (first | apply Kd.N_alloc | apply Kd.N_drewN | apply Kd.N_drew)); exact Kd.N_mono (Kd.N_far (p := ⟨gb133, 3, none⟩) (Kd.N_mono HO_6.out (fun k_ hk => (⟨hk, hk.1.2.2.1⟩ : _ ∧ k_ ≠ gb133))) (fun _ hk => hk.2) (.slice Ao51 y154.length co51)) (fun _ hk => ⟨hk.1.1.1, ⟨hk.1.1.2.1, ⟨hk.1.2, ⟨hk.1.1.2.2.1, ⟨hk.1.1.2.2.2.1, hk.1.1.2.2.2.2⟩⟩⟩⟩⟩)⟩
                        have n1_ : Aside0 (Kd.V Kd.string 9 (w50.setCell ⟨gb133, 3, none⟩ (.slice Ao51 y154.length co51)) w0.heap.size (fun k_ => ((P0_3_ k_ ∨ P1_0_ k_) ∨ w.heap.size ≤ k_) ∧ some k_ ≠ (u6 : Value).ownBlock ∧ some k_ ≠ (.slice (some ad142) t139.length co21 : Value).ownBlock ∧ some k_ ≠ (.slice Ao51 y154.length co51 : Value).ownBlock ∧ k_ ≠ gb133 ∧ k_ ≠ gb134 ∧ k_ ≠ gb135) (.slice Ao18 x135000_1.length co18) x135000_1) := ⟨by (with_reducible repeat (first | apply Kd.V_alloc | apply Kd.V_drewN | apply Kd.V_drew)); exact Kd.V_mono (Kd.V_far (p := ⟨gb133, 3, none⟩) (Kd.V_mono HO_135000.out (fun k_ hk => (⟨hk, hk.1.2.2.2.1⟩ : _ ∧ k_ ≠ gb133))) (fun _ hk => hk.2) (.slice Ao51 y154.length co51)) (fun _ hk => ⟨hk.1.1.1, ⟨hk.1.1.2.1, ⟨hk.1.1.2.2.1, ⟨hk.1.2, ⟨hk.1.1.2.2.2.1, ⟨hk.1.1.2.2.2.2.1, hk.1.1.2.2.2.2.2⟩⟩⟩⟩⟩⟩)⟩
                        have n2_ : Aside0 (Kd.R Kd.string 9 (w50.setCell ⟨gb133, 3, none⟩ (.slice Ao51 y154.length co51)) w0.heap.size (fun k_ => (P0_3_ k_ ∨ w.heap.size ≤ k_) ∧ some k_ ≠ (.slice Ao51 y154.length co51 : Value).ownBlock) (.slice (some ad142) t139.length co21) t139) := ⟨Kd.R_mono (zr (Kd.R_far (p := ⟨gb133, 3, none⟩) (Kd.R_types HO141.out BK133.out (by decide)) (fun _ hk => hk.2) (.slice Ao51 y154.length co51))) (fun _ hk => ⟨hk.1.1, hk.1.2⟩)⟩
                        have n3_ : Aside0 (Kd.R Kd.string 9 (w50.setCell ⟨gb133, 3, none⟩ (.slice Ao51 y154.length co51)) w0.heap.size (fun k_ => (P0_3_ k_ ∨ w.heap.size ≤ k_) ∧ some k_ ≠ (.slice (some ad142) t139.length co21 : Value).ownBlock) (.slice Ao51 y154.length co51) y154) := ⟨Kd.R_mono (zr (Kd.R_far (p := ⟨gb133, 3, none⟩) (Kd.R_types HO156.out BK133.out (by decide)) (fun _ hk => hk.2) (.slice Ao51 y154.length co51))) (fun _ hk => ⟨hk.1.1, hk.1.2⟩)⟩
                        have n4_ : Aside0 ((w50.setCell ⟨gb133, 3, none⟩ (.slice Ao51 y154.length co51)).heap[gb133]? = some (.cells #[.string (x134000_1 ++ t143), .string (x134001_1 ++ (⟨#[48]⟩ : ByteArray)), .string (x134002_1 ++ x7_1), .slice Ao51 y154.length co51, .int .i64 a0_4] 28 (0, 0))) := ⟨by (with_reducible repeat (first | refine blk_drewN ?_ _ | refine blk_drew ?_ | refine blk_alloc ?_ _)); refine blk_put (cs := #[.string (x134000_1 ++ t143), .string (x134001_1 ++ (⟨#[48]⟩ : ByteArray)), .string (x134002_1 ++ x7_1), u134003, .int .i64 a0_4]) ?_ 3 _ rfl; (with_reducible repeat (first | refine blk_drewN ?_ _ | refine blk_drew ?_ | refine blk_alloc ?_ _)); exact BK133.out⟩
                        have n5_ : Aside0 ((w50.setCell ⟨gb133, 3, none⟩ (.slice Ao51 y154.length co51)).heap[gb134]? = some (.cells #[.slice Ao18 x135000_1.length co18, .int .i64 a1_1] 89 (0, 0))) := ⟨by (with_reducible repeat (first | refine blk_drewN ?_ _ | refine blk_drew ?_ | refine blk_alloc ?_ _)); refine blk_far ?_ NB134_133.out _; (with_reducible repeat (first | refine blk_drewN ?_ _ | refine blk_drew ?_ | refine blk_alloc ?_ _)); exact BK134.out⟩
                        have n6_ : Aside0 ((w50.setCell ⟨gb133, 3, none⟩ (.slice Ao51 y154.length co51)).heap[gb135]? = some (.cells #[.string (⟨#[]⟩ : ByteArray), .string (⟨#[]⟩ : ByteArray), .string (⟨#[]⟩ : ByteArray), .slice none 0 0, .int .i64 0] 28 (0, 0))) := ⟨by (with_reducible repeat (first | refine blk_drewN ?_ _ | refine blk_drew ?_ | refine blk_alloc ?_ _)); refine blk_far ?_ NB135_133.out _; (with_reducible repeat (first | refine blk_drewN ?_ _ | refine blk_drew ?_ | refine blk_alloc ?_ _)); exact BK135.out⟩
                        have n7_ : Aside0 (Kept w (w50.setCell ⟨gb133, 3, none⟩ (.slice Ao51 y154.length co51)) (fun k_ => P0_3_ k_)) := ⟨by repeat (first | (with_reducible first | exact HK.out | apply Kept.alloc | apply Kept.drewN | apply Kept.drew | refine Kept.setCell ?_ (.inr GW133.out) _ | refine Kept.setCell ?_ (.inr GW134.out) _ | refine Kept.setCell ?_ (.inr GW135.out) _) | exact HK.out)⟩
                        have n8_ : Aside0 (Below w0.heap.size w0 (w50.setCell ⟨gb133, 3, none⟩ (.slice Ao51 y154.length co51))) := ⟨by repeat (first | (with_reducible first | exact HB.out | apply below_alloc | apply pw_below_drewN | apply below_drew1 | refine below_set ?_ GE133.out | refine below_set ?_ GE134.out | refine below_set ?_ GE135.out) | exact HB.out)⟩
                        (try clear HO_6)
                        (try clear HO_135000)
                        (try clear HO141)
                        (try clear HO156)
                        (try clear BK133)
                        (try clear BK134)
                        (try clear BK135)
                        (try clear HK)
                        (try clear HB)
                        generalize (w50.setCell ⟨gb133, 3, none⟩ (.slice Ao51 y154.length co51)) = w53 at n0_ n1_ n2_ n3_ n4_ n5_ n6_ n7_ n8_ ⊢
                        have HO_6 := n0_
                        have HO_135000 := n1_
                        have HO141 := n2_
                        have HO156 := n3_
                        have BK133 := n4_
                        have BK134 := n5_
                        have BK135 := n6_
                        have HK := n7_
                        have HB := n8_
                        clear n0_ n1_ n2_ n3_ n4_ n5_ n6_ n7_ n8_
                        have hnb54 := NB134_135.out
                        have hnc54 := NB135_134.out
                        have hcz55_0 : w53.cell? ⟨gb134, 0, none⟩ = some (.slice Ao18 x135000_1.length co18) := (blk_cell BK134.out 0).trans rfl
                        have hcz55_1 : w53.cell? ⟨gb134, 1, none⟩ = some (.int .i64 a1_1) := (blk_cell BK134.out 1).trans rfl
                        have hfz55_0 := blk_frozen BK134.out 0
                        have hfz55_1 := blk_frozen BK134.out 1
                        have q56 : ((t139.length : Int) : Int) ≤ ((x135000_1.length : Int) : Int) := zd
                        obtain ⟨i056, hi056, _, hsz56, _⟩ := info_parts info9
                        have hroom56 : x135000_1.length ≤ co18 := (Kd.V_reads' HO_135000.out).2.1
                        have hC56 : Kd.F Kd.string _ _ Ao18 x135000_1.length x135000_1 := (Kd.V_at (base := w0.heap.size) HO_135000.out).2.2
                        have q056 : (0 : Int) ≤ ((t139.length : Int) : Int) := zd
                        have hcut56 := cut_from (P := Try.prog) 26 9 .i64 Try.underlying26 hi056 1 hsz56 Ao18 x135000_1.length co18 (t139.length : Int) q056 q56
                        have hr56 := Kd.F_cut (m := ((t139.length : Int) : Int).toNat) (c := co18) hC56 (by omega) hroom56
                        obtain ⟨A56, hA56⟩ : ∃ A1, A1 = (if co18 = ((t139.length : Int) : Int).toNat then Ao18 else (Ao18 : Option Addr).map (·.add (((t139.length : Int) : Int).toNat * 1))) := ⟨_, rfl⟩
                        obtain ⟨c56, hc56⟩ : ∃ c1, c1 = co18 - ((t139.length : Int) : Int).toNat := ⟨_, rfl⟩
                        have hy56 : y157.length = x135000_1.length - ((t139.length : Int) : Int).toNat := (by rw [Ny157.out, List.length_drop] <;> omega)
                        rw [show (x135000_1).drop ((t139.length : Int) : Int).toNat = y157 from Ny157.out.symm] at hr56
                        replace hr56 : Kd.F Kd.string _ _ A56 y157.length y157 := (by rw [hA56]; exact hr56)
                        rw [← hy56, ← hA56, ← hc56] at hcut56
                        have HO161 := Aside0.mk (show Kd.V Kd.string 9 _ w0.heap.size _ (.slice A56 y157.length c56) y157 from Kd.V_mk (by rw [hy56, hc56]; exact Nat.sub_le_sub_right hroom56 _) hr56)
                        have HC161 := Aside0.mk (show y157.length ≤ c56 from by rw [hy56, hc56]; exact Nat.sub_le_sub_right hroom56 _)
                        clear hr56 hC56 hroom56 hi056 hsz56 hc56
                        have KY56 := Aside0.mk hy56
                        have KA56 := Aside0.mk hA56
                        clear hy56 hA56
                        replace q56 := eq_true q56
                        try go_wp2
                        go_roundg k1
                        case measure => have := HK1.out; omega
                        case rel => exact ⟨(x6_1), ((⟨#[48]⟩ : ByteArray)), (x134000_1 ++ t143), (x134001_1 ++ (⟨#[48]⟩ : ByteArray)), (x134002_1 ++ x7_1), (y154), (y157), (.slice Ao51 y154.length co51), (.slice A56 y157.length c56), zf, H', ⟨by have := HK1.out; omega⟩, ⟨by (with_reducible repeat (first | apply Kd.N_alloc | apply Kd.N_drewN | apply Kd.N_drew)); exact Kd.N_mono (Kd.N_far (p := ⟨gb134, 0, none⟩) (Kd.N_mono HO_6.out (fun k_ hk => (⟨hk, hk.2.2.2.2.1⟩ : _ ∧ k_ ≠ gb134))) (fun _ hk => hk.2) (.slice A56 y157.length c56)) (fun _ hk => ⟨hk.1.1, ⟨hk.1.2.2.1, ⟨hk.1.2.2.2.1, ⟨hk.1.2.2.2.2.1, hk.1.2.2.2.2.2⟩⟩⟩⟩)⟩, ⟨Kd.R_mono (zr (Kd.R_far (p := ⟨gb134, 0, none⟩) (Kd.R_types HO156.out BK134.out (by decide)) (fun _ hk => hk.2) (.slice A56 y157.length c56))) (fun _ hk => hk.1.1)⟩, ⟨by (with_reducible repeat (first | apply Kd.V_alloc | apply Kd.V_drewN | apply Kd.V_drew)); exact Kd.V_mono (Kd.V_far (p := ⟨gb134, 0, none⟩) (Kd.V_mono HO161.out (fun k_ hk => (⟨hk, hk.2.2.2.2.2.1⟩ : _ ∧ k_ ≠ gb134))) (fun _ hk => hk.2) (.slice A56 y157.length c56)) (fun _ hk => ⟨hk.1.1, ⟨hk.1.2.1, ⟨hk.1.2.2.2.1, ⟨hk.1.2.2.2.2.1, ⟨hk.1.2.2.2.2.2.1, hk.1.2.2.2.2.2.2⟩⟩⟩⟩⟩)⟩, ⟨by (with_reducible repeat (first | refine blk_drewN ?_ _ | refine blk_drew ?_ | refine blk_alloc ?_ _)); refine blk_far ?_ NB133_134.out _; (with_reducible repeat (first | refine blk_drewN ?_ _ | refine blk_drew ?_ | refine blk_alloc ?_ _)); exact BK133.out⟩, ⟨by (with_reducible repeat (first | refine blk_drewN ?_ _ | refine blk_drew ?_ | refine blk_alloc ?_ _)); refine blk_put (cs := #[.slice Ao18 x135000_1.length co18, .int .i64 a1_1]) ?_ 0 _ rfl; (with_reducible repeat (first | refine blk_drewN ?_ _ | refine blk_drew ?_ | refine blk_alloc ?_ _)); exact BK134.out⟩, ⟨by (with_reducible repeat (first | refine blk_drewN ?_ _ | refine blk_drew ?_ | refine blk_alloc ?_ _)); refine blk_far ?_ NB135_134.out _; (with_reducible repeat (first | refine blk_drewN ?_ _ | refine blk_drew ?_ | refine blk_alloc ?_ _)); exact BK135.out⟩, ⟨by repeat (first | (with_reducible first | exact HK.out | apply Kept.alloc | apply Kept.drewN | apply Kept.drew | refine Kept.setCell ?_ (.inr GW133.out) _ | refine Kept.setCell ?_ (.inr GW134.out) _ | refine Kept.setCell ?_ (.inr GW135.out) _) | exact HK.out)⟩, ⟨by repeat (first | (with_reducible first | exact HB.out | apply below_alloc | apply pw_below_drewN | apply below_drew1 | refine below_set ?_ GE133.out | refine below_set ?_ GE134.out | refine below_set ?_ GE135.out) | exact HB.out)⟩⟩
                      · rw [if_neg c43] at H
                        exact absurd H (by simp)
                    · rw [if_neg c42] at H
                      exact absurd H (by simp)
                  · rw [if_neg c41] at H
                    exact absurd H (by simp)
                · rw [if_neg c39] at H
                  exact absurd H (by simp)
            · rw [if_neg c14] at H
              exact absurd H (by simp)
          · rw [if_neg c13] at H
            exact absurd H (by simp)
        · rw [if_neg c11] at H
          exact absurd H (by simp)
      · rw [if_neg c9] at H
        have c9b0 : decide (0 < (x135000_1.length : Int)) = false := decide_eq_false c9
        have c9b1 : decide (0 < x135000_1.length) = false := decide_eq_false (by omega)
        clear c9
        simp only [Option.some.injEq, Prod.mk.injEq] at H
        obtain ⟨rfl, rfl, rfl, rfl, rfl, rfl⟩ := H
        have hnb57 := NB134_133.out
        have hnc57 := NB133_134.out
        have hnb58 := NB134_135.out
        have hnc58 := NB135_134.out
        have hcz59_0 : wr.cell? ⟨gb134, 0, none⟩ = some (u135000) := (blk_cell BK134.out 0).trans rfl
        have hcz59_1 : wr.cell? ⟨gb134, 1, none⟩ = some (.int .i64 a1_1) := (blk_cell BK134.out 1).trans rfl
        have hfz59_0 := blk_frozen BK134.out 0
        have hfz59_1 := blk_frozen BK134.out 1
        obtain ⟨Ao60, co60, eo60⟩ := Kd.V_slice HO_135000.out
        subst eo60
        have hnb61 := NB133_135.out
        have hnc61 := NB135_133.out
        have hcz62_0 : wr.cell? ⟨gb133, 0, none⟩ = some (.string x134000_1) := (blk_cell BK133.out 0).trans rfl
        have hcz62_1 : wr.cell? ⟨gb133, 1, none⟩ = some (.string x134001_1) := (blk_cell BK133.out 1).trans rfl
        have hcz62_2 : wr.cell? ⟨gb133, 2, none⟩ = some (.string x134002_1) := (blk_cell BK133.out 2).trans rfl
        have hcz62_3 : wr.cell? ⟨gb133, 3, none⟩ = some (u134003) := (blk_cell BK133.out 3).trans rfl
        have hcz62_4 : wr.cell? ⟨gb133, 4, none⟩ = some (.int .i64 a0_4) := (blk_cell BK133.out 4).trans rfl
        have hfz62_0 := blk_frozen BK133.out 0
        have hfz62_1 := blk_frozen BK133.out 1
        have hfz62_2 := blk_frozen BK133.out 2
        have hfz62_3 := blk_frozen BK133.out 3
        have hfz62_4 := blk_frozen BK133.out 4
        have hcz63_0 : wr.cell? ⟨gb135, 0, none⟩ = some (.string (⟨#[]⟩ : ByteArray)) := (blk_cell BK135.out 0).trans rfl
        have hcz63_1 : wr.cell? ⟨gb135, 1, none⟩ = some (.string (⟨#[]⟩ : ByteArray)) := (blk_cell BK135.out 1).trans rfl
        have hcz63_2 : wr.cell? ⟨gb135, 2, none⟩ = some (.string (⟨#[]⟩ : ByteArray)) := (blk_cell BK135.out 2).trans rfl
        have hcz63_3 : wr.cell? ⟨gb135, 3, none⟩ = some (.slice none 0 0) := (blk_cell BK135.out 3).trans rfl
        have hcz63_4 : wr.cell? ⟨gb135, 4, none⟩ = some (.int .i64 0) := (blk_cell BK135.out 4).trans rfl
        have hfz63_0 := blk_frozen BK135.out 0
        have hfz63_1 := blk_frozen BK135.out 1
        have hfz63_2 := blk_frozen BK135.out 2
        have hfz63_3 := blk_frozen BK135.out 3
        have hfz63_4 := blk_frozen BK135.out 4
        obtain ⟨Ao64, co64, eo64⟩ := Kd.R_slice HO_134003.out
        subst eo64
        go_wp2
        refine bodyPost_ret (results_ct rfl _ _ gb135 28 #[.string x134000_1, .string x134001_1, .string x134002_1, .slice Ao64 x134003_1.length co64, .int .i64 a0_4] (0, 0) _ rfl (by (with_reducible repeat (first | refine blk_drewN ?_ _ | refine blk_drew ?_ | refine blk_alloc ?_ _)); refine blk_put (cs := #[.string x134000_1, .string x134001_1, .string x134002_1, .slice Ao64 x134003_1.length co64, .int .i64 0]) ?_ 4 _ rfl; (with_reducible repeat (first | refine blk_drewN ?_ _ | refine blk_drew ?_ | refine blk_alloc ?_ _)); refine blk_put (cs := #[.string x134000_1, .string x134001_1, .string x134002_1, .slice none 0 0, .int .i64 0]) ?_ 3 _ rfl; (with_reducible repeat (first | refine blk_drewN ?_ _ | refine blk_drew ?_ | refine blk_alloc ?_ _)); refine blk_put (cs := #[.string x134000_1, .string x134001_1, .string (⟨#[]⟩ : ByteArray), .slice none 0 0, .int .i64 0]) ?_ 2 _ rfl; (with_reducible repeat (first | refine blk_drewN ?_ _ | refine blk_drew ?_ | refine blk_alloc ?_ _)); refine blk_put (cs := #[.string x134000_1, .string (⟨#[]⟩ : ByteArray), .string (⟨#[]⟩ : ByteArray), .slice none 0 0, .int .i64 0]) ?_ 1 _ rfl; (with_reducible repeat (first | refine blk_drewN ?_ _ | refine blk_drew ?_ | refine blk_alloc ?_ _)); refine blk_put (cs := #[.string (⟨#[]⟩ : ByteArray), .string (⟨#[]⟩ : ByteArray), .string (⟨#[]⟩ : ByteArray), .slice none 0 0, .int .i64 0]) ?_ 0 _ rfl; (with_reducible repeat (first | refine blk_drewN ?_ _ | refine blk_drew ?_ | refine blk_alloc ?_ _)); exact BK135.out) Try.underlying28 rfl (by kernel_rfl)) rfl ?_
        exact ⟨_, _, ze, Kd.R_mono (zr (Kd.R_far (p := ⟨gb135, 4, none⟩) (Kd.R_far (p := ⟨gb135, 3, none⟩) (Kd.R_far (p := ⟨gb135, 2, none⟩) (Kd.R_far (p := ⟨gb135, 1, none⟩) (Kd.R_far (p := ⟨gb135, 0, none⟩) (Kd.R_types HO_134003.out BK135.out (by decide)) (fun _ hk => hk.2) (.string x134000_1)) (fun _ hk => hk.2) (.string x134001_1)) (fun _ hk => hk.2) (.string x134002_1)) (fun _ hk => hk.2) (.slice Ao64 x134003_1.length co64)) (fun _ hk => hk.2) (.int .i64 a0_4))) (fun _ hk => hk.1), by (with_reducible repeat (first | apply Kd.N_alloc | apply Kd.N_drewN | apply Kd.N_drew)); exact Kd.N_mono (Kd.N_far (p := ⟨gb135, 4, none⟩) (Kd.N_far (p := ⟨gb135, 3, none⟩) (Kd.N_far (p := ⟨gb135, 2, none⟩) (Kd.N_far (p := ⟨gb135, 1, none⟩) (Kd.N_far (p := ⟨gb135, 0, none⟩) (Kd.N_mono HO_6.out (fun k_ hk => (⟨hk, hk.2.2.2.2⟩ : _ ∧ k_ ≠ gb135))) (fun _ hk => hk.2) (.string x134000_1)) (fun _ hk => hk.2) (.string x134001_1)) (fun _ hk => hk.2) (.string x134002_1)) (fun _ hk => hk.2) (.slice Ao64 x134003_1.length co64)) (fun _ hk => hk.2) (.int .i64 a0_4)) (fun _ hk => ⟨hk.1.1, hk.1.2.1⟩), by repeat (first | (with_reducible first | exact HB.out | apply below_alloc | apply pw_below_drewN | apply below_drew1 | refine below_set ?_ GE133.out | refine below_set ?_ GE134.out | refine below_set ?_ GE135.out) | exact HB.out), by repeat (first | (with_reducible first | exact HK.out | apply Kept.alloc | apply Kept.drewN | apply Kept.drew | refine Kept.setCell ?_ (.inr GW133.out) _ | refine Kept.setCell ?_ (.inr GW134.out) _ | refine Kept.setCell ?_ (.inr GW135.out) _) | exact HK.out)⟩
end Go.Proofs.Ytonagfbadoacjaa.Q
end
section
namespace Go.Proofs.Ytonagfbadoacjaa.Q
open Go.RowKit Go.Proofs.YtonagfbadoacjaaW.PrintWords Go.Proofs.YtonagfbadoacjaaW.PrintLast Go.Proofs.YtonagfbadoacjaaW.PrintMore
attribute [local go_sem] max2_int min2_int max_two min_two max_three min_three max_four min_four   
set_option linter.unusedVariables false
set_option linter.unusedSimpArgs false
theorem spec_SieveOf.mono_l : ∀ k, (∀ y0 y1 y2, LeO (spec_SieveOf.j0 k y0 y1 y2) (spec_SieveOf.j0 (k + 1) y0 y1 y2)) ∧ (∀ y0 y1 y2 y3 y4 y5, LeO (spec_SieveOf.l0 k y0 y1 y2 y3 y4 y5) (spec_SieveOf.l0 (k + 1) y0 y1 y2 y3 y4 y5))
  | 0 => ⟨fun _ _ _ r h => by simp [spec_SieveOf.j0] at h, fun _ _ _ _ _ _ r h => by simp [spec_SieveOf.l0] at h⟩
  | k + 1 => by
    obtain ⟨ih0, ih1⟩ := spec_SieveOf.mono_l k
    refine ⟨?_, ?_⟩
    · intro y0 y1 y2
      unfold spec_SieveOf.j0
      repeat' first
      | (with_reducible exact ih0 _ _ _)
      | (with_reducible exact ih1 _ _ _ _ _ _)
      | (with_reducible exact spec_KeysOk.mono _ _)
      | (with_reducible exact spec_l3Put.mono _ _ _ _ _ _ _ _)
      | (with_reducible exact LeO.refl _)
      | (with_reducible exact LeO.none _)
      | (with_reducible refine LeO.ite ?_ ?_)
      | (with_reducible refine LeO.bind ?_ (fun _ => ?_))
      | exact ih0 _ _ _
      | exact ih1 _ _ _ _ _ _
      | exact spec_KeysOk.mono _ _
      | exact spec_l3Put.mono _ _ _ _ _ _ _ _
      | exact LeO.none _
      | refine LeO.ite ?_ ?_
      | refine LeO.bind ?_ (fun _ => ?_)
    · intro y0 y1 y2 y3 y4 y5
      unfold spec_SieveOf.l0
      repeat' first
      | (with_reducible exact ih0 _ _ _)
      | (with_reducible exact ih1 _ _ _ _ _ _)
      | (with_reducible exact spec_KeysOk.mono _ _)
      | (with_reducible exact spec_l3Put.mono _ _ _ _ _ _ _ _)
      | (with_reducible exact LeO.refl _)
      | (with_reducible exact LeO.none _)
      | (with_reducible refine LeO.ite ?_ ?_)
      | (with_reducible refine LeO.bind ?_ (fun _ => ?_))
      | exact ih0 _ _ _
      | exact ih1 _ _ _ _ _ _
      | exact spec_KeysOk.mono _ _
      | exact spec_l3Put.mono _ _ _ _ _ _ _ _
      | exact LeO.none _
      | refine LeO.ite ?_ ?_
      | refine LeO.bind ?_ (fun _ => ?_)
theorem spec_SieveOf.mono : ∀ a0 a1 k, LeO (spec_SieveOf.f k a0 a1) (spec_SieveOf.f (k + 1) a0 a1) := by
  intro a0 a1 k
  obtain ⟨ih0, ih1⟩ := spec_SieveOf.mono_l k
  unfold spec_SieveOf.f
  repeat' first
      | (with_reducible exact ih0 _ _ _)
      | (with_reducible exact ih1 _ _ _ _ _ _)
      | (with_reducible exact spec_KeysOk.mono _ _)
      | (with_reducible exact spec_l3Put.mono _ _ _ _ _ _ _ _)
      | (with_reducible exact LeO.refl _)
      | (with_reducible exact LeO.none _)
      | (with_reducible refine LeO.ite ?_ ?_)
      | (with_reducible refine LeO.bind ?_ (fun _ => ?_))
      | exact ih0 _ _ _
      | exact ih1 _ _ _ _ _ _
      | exact spec_KeysOk.mono _ _
      | exact spec_l3Put.mono _ _ _ _ _ _ _ _
      | exact LeO.none _
      | refine LeO.ite ?_ ?_
      | refine LeO.bind ?_ (fun _ => ?_)
def spec_SieveOf.T7 : Bool × List (List Nat × List Nat) := (true, [([], []), ([], []), ([1], [1]), ([2], [2]), ([0, 3], [0, 3]), ([4], [4]), ([5], [5]), ([5], [5]), ([6, 4, 0, 1, 2, 3, 4, 5, 6], [6]), ([7, 8, 0, 1, 2, 3, 4, 5, 6, 7, 8], [7])])
def spec_SieveOf.B7 : List Nat := [0, 0, 2, 6, 15, 31, 63, 63, 127, 511]
theorem spec_SieveOf.tab7 : rtab .any (opsOf Try.f59 7) = spec_SieveOf.T7 := by kernel_rfl
theorem spec_SieveOf.bits7 : waitsOk spec_SieveOf.T7.2 spec_SieveOf.B7 = true := by kernel_rfl
set_option maxHeartbeats 8000000 in
set_option maxRecDepth 100000 in
theorem spec_SieveOf.calls (k : Nat) (P0_ : Nat → Prop) (A0 : Option Addr) (c0 : Nat) (l0 : List ByteArray) (a1 : Int) (r1 : ByteArray) (r2 : ByteArray) (r3 : ByteArray) (r4 : List ByteArray) (r5 : Int) (r6 : Bool) (w : World) (hs0 : Kd.V Kd.string 9 w w.heap.size (fun k_ => P0_ k_) (.slice A0 l0.length c0) l0) (h : spec_SieveOf.f k l0 a1 = some (r1, r2, r3, r4, r5, r6)) :
    Calls Try.prog 59 #[.slice A0 l0.length c0, .int .i64 a1] w fun e w' => ∃ v3_ : Value, e = .returned (.tuple #[.agg #[.string r1, .string r2, .string r3, v3_, .int .i64 r5], .bool r6]) ∧ Kd.R Kd.string 9 w' w.heap.size (fun k_ => (w.heap.size ≤ k_)) v3_ r4 ∧ Below w.heap.size w w' := by
  have hu28 := Try.underlying28
  have hu89 := Try.underlying89
  have HO0 := Aside0.mk (show Kd.V Kd.string 9 w w.heap.size (fun k_ => (P0_ k_ ∨ w.heap.size ≤ k_)) (.slice A0 l0.length c0) l0 from Kd.V_mono hs0 (fun k_ hk => .inl hk))
  have HB := Aside0.mk (Below.refl w.heap.size w)
  have H : ((spec_KeysOk.f k l0).bind fun t163 => (if t163 = true then ((spec_l6In.f a1 0 5).bind fun t164 => (spec_SieveOf.j0 k l0 a1 (!t164))) else (spec_SieveOf.j0 k l0 a1 true))) = some (r1, r2, r3, r4, r5, r6) := h
  clear h
  have HC3 := Aside0.mk H
  clear H
  go_enter Try.func59, Try.ntmps59
  go_upto_region 1 with (first | ((with_reducible refine gate_dst (N := 4) rfl ?_); refine box_event ?hg (N := 4) ?hd (cs := #[.string (⟨#[]⟩ : ByteArray), .string (⟨#[]⟩ : ByteArray), .string (⟨#[]⟩ : ByteArray), .slice none 0 0, .int .i64 0]) (t := 28) ?hr ?_; (case hd => rfl); (case hg => rfl); (case hr => first | (go_simp; done) | (go_simp; rfl)); intro gb162 hg w4 hbox hb; have n0_ := Aside0.mk (Kd.V_below (Kd.V_elderB (by (with_reducible repeat (first | apply Kd.V_alloc | apply Kd.V_drewN | apply Kd.V_drew)); exact HO0.out) gb162 (Nat.le_of_eq hg.symm)) hb); have n1_ := Aside0.mk (below_step (zb HB.out) hb); have n2_ := Aside0.mk (hbox); have n3_ := Aside0.mk ((by rw [hg]; exact (below_size (zb HB.out)) : w.heap.size ≤ gb162)); have n4_ := Aside0.mk ((by rw [hg]; exact (below_size (zb HB.out)) : w.heap.size ≤ gb162)); clear HO0; clear HB; have HO0 := n0_; have HB := n1_; have BK162 := n2_; have GW162 := n3_; have GE162 := n4_; clear n0_ n1_ n2_ n3_ n4_; clear hb hbox hg))
  (try simp only [Act.put, List.setIfInBounds_toArray, List.set_cons_zero, List.set_cons_succ])
  go_cut [16] (fun v16 wc => ∃ (kq : Nat) (x16_2 : Bool), v16 = .bool x16_2 ∧ Aside0 (spec_SieveOf.j0 kq l0 a1 x16_2 = some (r1, r2, r3, r4, r5, r6)) ∧ Aside0 (kq ≤ k) ∧ Aside0 (Kd.V Kd.string 9 wc w.heap.size (fun k_ => (P0_ k_ ∨ w.heap.size ≤ k_) ∧ k_ ≠ gb162) (.slice A0 l0.length c0) l0) ∧ Aside0 (wc.heap[gb162]? = some (.cells #[.string (⟨#[]⟩ : ByteArray), .string (⟨#[]⟩ : ByteArray), .string (⟨#[]⟩ : ByteArray), (.slice none 0 0), .int .i64 0] 28 (0, 0))) ∧ Aside0 (Below w.heap.size w wc))
  case first =>
    have H := HC3.out
    clear HC3
    replace H := Option.bind_eq_some_iff.mp H
    obtain ⟨t163, A50, H⟩ := H
    (try dsimp only at H)
    have A5 := Aside0.mk A50
    clear A50
    by_cases c6 : t163 = true
    · subst c6
      have H1 : ((spec_l6In.f a1 0 5).bind fun t164 => (spec_SieveOf.j0 k l0 a1 (!t164))) = some (r1, r2, r3, r4, r5, r6) := by rw [if_pos rfl] at H; exact H
      clear H
      have H := H1
      clear H1
      replace H := Option.bind_eq_some_iff.mp H
      obtain ⟨t164, A70, H⟩ := H
      (try dsimp only at H)
      have A7 := Aside0.mk A70
      clear A70
      have H' := Aside0.mk H
      clear H
      go_wp2_with (first | ((with_reducible refine gate_callee (f := 51) rfl ?_); refine goesL_ (some 10) rfl rfl Try.func51 (by kernel_rfl) rfl #[.slice A0 l0.length c0] rfl (by (try simp only [List.map_toArray, List.map_cons, List.map_nil]); first | done | rfl | (simp only [List.length_drop, List.length_take]; rfl)) ?_; (with_reducible refine (spec_KeysOk.calls k _ _ l0 true _ ?side1 ?side2 A5.out).mono ?_); (case side1 => repeat (first | exact (Kd.V_reads' HO0.out).2.2 | (with_reducible refine Kd.C_alloc ?_ _) | (with_reducible refine Kd.C_drewN ?_ _) | (with_reducible refine Kd.C_drew ?_))); (case side2 => exact (Kd.V_reads' HO0.out).2.1); rintro e w' ⟨rfl, ⟨nd, rfl⟩⟩; refine ⟨_, rfl, ?_⟩) | (go_at_call 98; (with_reducible refine (spec_l6In.calls a1 0 5 t164 _ A7.out).mono ?_); rintro e w' ⟨rfl, ⟨nd, rfl⟩⟩))
      go_meet
      case rel => exact ⟨_, (!t164), zf, H', ⟨by first | omega | exact Nat.le_refl _⟩, ⟨by (with_reducible repeat (first | apply Kd.V_alloc | apply Kd.V_drewN | apply Kd.V_drew)); exact HO0.out⟩, ⟨by (with_reducible repeat (first | refine blk_drewN ?_ _ | refine blk_drew ?_ | refine blk_alloc ?_ _)); exact BK162.out⟩, ⟨by repeat (first | (with_reducible first | exact HB.out | apply below_alloc | apply pw_below_drewN | apply below_drew1 | refine below_set ?_ GE162.out) | exact HB.out)⟩⟩
    · replace c6 := Bool.eq_false_iff.mpr c6
      subst c6
      have H1 : (spec_SieveOf.j0 k l0 a1 true) = some (r1, r2, r3, r4, r5, r6) := by rw [if_neg (show ¬ (false = true) by decide)] at H; exact H
      clear H
      have H := H1
      clear H1
      have H' := Aside0.mk H
      clear H
      go_wp2_with (first | ((with_reducible refine gate_callee (f := 51) rfl ?_); refine goesL_ (some 10) rfl rfl Try.func51 (by kernel_rfl) rfl #[.slice A0 l0.length c0] rfl (by (try simp only [List.map_toArray, List.map_cons, List.map_nil]); first | done | rfl | (simp only [List.length_drop, List.length_take]; rfl)) ?_; (with_reducible refine (spec_KeysOk.calls k _ _ l0 false _ ?side1 ?side2 A5.out).mono ?_); (case side1 => repeat (first | exact (Kd.V_reads' HO0.out).2.2 | (with_reducible refine Kd.C_alloc ?_ _) | (with_reducible refine Kd.C_drewN ?_ _) | (with_reducible refine Kd.C_drew ?_))); (case side2 => exact (Kd.V_reads' HO0.out).2.1); rintro e w' ⟨rfl, ⟨nd, rfl⟩⟩; refine ⟨_, rfl, ?_⟩))
      go_meet
      case rel => exact ⟨_, (true), zf, H', ⟨by first | omega | exact Nat.le_refl _⟩, ⟨by (with_reducible repeat (first | apply Kd.V_alloc | apply Kd.V_drewN | apply Kd.V_drew)); exact HO0.out⟩, ⟨by (with_reducible repeat (first | refine blk_drewN ?_ _ | refine blk_drew ?_ | refine blk_alloc ?_ _)); exact BK162.out⟩, ⟨by repeat (first | (with_reducible first | exact HB.out | apply below_alloc | apply pw_below_drewN | apply below_drew1 | refine below_set ?_ GE162.out) | exact HB.out)⟩⟩
  case rest =>
    clear HC3
    try clear p2
    try clear c5
    try clear c6
    obtain ⟨kq, x16_2, rfl, HA, HJ2, HO_0, BK162, HB⟩ := hcut
    cases kq with
    | zero => exact absurd HA.out (by simp [spec_SieveOf.j0])
    | succ kj2 =>
      have H := HA.out
      clear HA
      simp only [spec_SieveOf.j0] at H
      by_cases c8 : x16_2 = true
      · subst c8
        have H1 : (some ((⟨#[]⟩ : ByteArray), (⟨#[]⟩ : ByteArray), (⟨#[]⟩ : ByteArray), ([] : List ByteArray), 0, false)) = some (r1, r2, r3, r4, r5, r6) := by rw [if_pos rfl] at H; exact H
        clear H
        have H := H1
        clear H1
        simp only [Option.some.injEq, Prod.mk.injEq] at H
        obtain ⟨rfl, rfl, rfl, rfl, rfl, rfl⟩ := H
        have hcz9_0 : wc.cell? ⟨gb162, 0, none⟩ = some (.string (⟨#[]⟩ : ByteArray)) := (blk_cell BK162.out 0).trans rfl
        have hcz9_1 : wc.cell? ⟨gb162, 1, none⟩ = some (.string (⟨#[]⟩ : ByteArray)) := (blk_cell BK162.out 1).trans rfl
        have hcz9_2 : wc.cell? ⟨gb162, 2, none⟩ = some (.string (⟨#[]⟩ : ByteArray)) := (blk_cell BK162.out 2).trans rfl
        have hcz9_3 : wc.cell? ⟨gb162, 3, none⟩ = some (.slice none 0 0) := (blk_cell BK162.out 3).trans rfl
        have hcz9_4 : wc.cell? ⟨gb162, 4, none⟩ = some (.int .i64 0) := (blk_cell BK162.out 4).trans rfl
        have hfz9_0 := blk_frozen BK162.out 0
        have hfz9_1 := blk_frozen BK162.out 1
        have hfz9_2 := blk_frozen BK162.out 2
        have hfz9_3 := blk_frozen BK162.out 3
        have hfz9_4 := blk_frozen BK162.out 4
        go_wp2
        refine bodyPost_ret (results_ct rfl _ _ gb162 28 #[.string (⟨#[]⟩ : ByteArray), .string (⟨#[]⟩ : ByteArray), .string (⟨#[]⟩ : ByteArray), .slice none 0 0, .int .i64 0] (0, 0) _ rfl (by (with_reducible repeat (first | refine blk_drewN ?_ _ | refine blk_drew ?_ | refine blk_alloc ?_ _)); refine blk_put (cs := #[.string (⟨#[]⟩ : ByteArray), .string (⟨#[]⟩ : ByteArray), .string (⟨#[]⟩ : ByteArray), .slice none 0 0, .int .i64 0]) ?_ 4 _ rfl; (with_reducible repeat (first | refine blk_drewN ?_ _ | refine blk_drew ?_ | refine blk_alloc ?_ _)); refine blk_put (cs := #[.string (⟨#[]⟩ : ByteArray), .string (⟨#[]⟩ : ByteArray), .string (⟨#[]⟩ : ByteArray), .slice none 0 0, .int .i64 0]) ?_ 3 _ rfl; (with_reducible repeat (first | refine blk_drewN ?_ _ | refine blk_drew ?_ | refine blk_alloc ?_ _)); refine blk_put (cs := #[.string (⟨#[]⟩ : ByteArray), .string (⟨#[]⟩ : ByteArray), .string (⟨#[]⟩ : ByteArray), .slice none 0 0, .int .i64 0]) ?_ 2 _ rfl; (with_reducible repeat (first | refine blk_drewN ?_ _ | refine blk_drew ?_ | refine blk_alloc ?_ _)); refine blk_put (cs := #[.string (⟨#[]⟩ : ByteArray), .string (⟨#[]⟩ : ByteArray), .string (⟨#[]⟩ : ByteArray), .slice none 0 0, .int .i64 0]) ?_ 1 _ rfl; (with_reducible repeat (first | refine blk_drewN ?_ _ | refine blk_drew ?_ | refine blk_alloc ?_ _)); refine blk_put (cs := #[.string (⟨#[]⟩ : ByteArray), .string (⟨#[]⟩ : ByteArray), .string (⟨#[]⟩ : ByteArray), .slice none 0 0, .int .i64 0]) ?_ 0 _ rfl; (with_reducible repeat (first | refine blk_drewN ?_ _ | refine blk_drew ?_ | refine blk_alloc ?_ _)); exact BK162.out) Try.underlying28 rfl (by kernel_rfl)) rfl ?_
        exact ⟨_, ze, by first | exact Kd.R_nil _ _ _ _ _ | exact Kd.N_nil _ _ _ _ _ | exact Kd.V_nil _ _ _ _ _ | exact Kd.Q_nil _ _ _ _ _ | exact Kd.S_nil _ _ _ _ _, by repeat (first | (with_reducible first | exact HB.out | apply below_alloc | apply pw_below_drewN | apply below_drew1 | refine below_set ?_ GE162.out) | exact HB.out)⟩
      · replace c8 := Bool.eq_false_iff.mpr c8
        subst c8
        have H1 : (spec_SieveOf.l0 kj2 (([(⟨l0, 0⟩ : S89)] : List (S89))) (⟨#[]⟩ : ByteArray) (⟨#[]⟩ : ByteArray) (⟨#[]⟩ : ByteArray) (([] : List ByteArray)) a1) = some (r1, r2, r3, r4, r5, r6) := by rw [if_neg (show ¬ (false = true) by decide)] at H; exact H
        clear H
        have H := H1
        clear H1
        obtain ⟨y165, hy165⟩ : ∃ y_ : List ByteArray, y_ = (([] : List ByteArray)) := ⟨_, rfl⟩
        replace H : (spec_SieveOf.l0 kj2 (([(⟨l0, 0⟩ : S89)] : List (S89))) (⟨#[]⟩ : ByteArray) (⟨#[]⟩ : ByteArray) (⟨#[]⟩ : ByteArray) y165 a1) = some (r1, r2, r3, r4, r5, r6) := by first | (rw [hy165]; with_reducible exact H) | (have H2_ := (Option.bind_some _ _).symm.trans H; rw [hy165]; with_reducible exact H2_) | (have H2_ := (Option.bind_some _ _).symm.trans H; with_reducible exact H2_) | with_reducible exact H | (rw [hy165]; exact H) | exact H
        have Ny165 := Aside0.mk hy165
        clear hy165
        obtain ⟨y169, hy169⟩ : ∃ y_ : List (S89), y_ = (([(⟨l0, 0⟩ : S89)] : List (S89))) := ⟨_, rfl⟩
        replace H : (spec_SieveOf.l0 kj2 y169 (⟨#[]⟩ : ByteArray) (⟨#[]⟩ : ByteArray) (⟨#[]⟩ : ByteArray) y165 a1) = some (r1, r2, r3, r4, r5, r6) := by first | (rw [hy169]; with_reducible exact H) | (have H2_ := (Option.bind_some _ _).symm.trans H; rw [hy169]; with_reducible exact H2_) | (have H2_ := (Option.bind_some _ _).symm.trans H; with_reducible exact H2_) | with_reducible exact H | (rw [hy169]; exact H) | exact H
        have Ny169 := Aside0.mk hy169
        clear hy169
        have H' := Aside0.mk H
        clear H
        go_wp2_with (first | ((with_reducible refine gate_dst (N := 18) rfl ?_); refine Kd.R_lit Kd.string _ 9 ?hg (N := 18) ?hd (xs := ([] : List ByteArray)) (inner := []) (ok := fun _ => True) (okp := fun _ => True) ?hr ?hp (fun _ hk => hk) trivial (Below.refl _ _) (Nat.le_refl _) (by simp) ?_; (case hd => rfl); (case hg => rfl); (case hr => first | (go_simp; done) | (go_simp; rfl)); (case hp => exact (Reps.none _ _)); intro v166 w10 ho11 hb hg_ hnew_; clear hg_ hnew_; (first | rw [← Ny165.out] at ho11 | (simp only [Int.reduceToNat] at ho11; rw [← Ny165.out] at ho11)); have n0_ := Aside0.mk (Kd.V_elder' (by (with_reducible repeat (first | apply Kd.V_alloc | apply Kd.V_drewN | apply Kd.V_drew)); exact HO_0.out) (Kd.R_base ho11) hb); have n1_ := Aside0.mk (Kd.R_lower (Kd.R_newM (M := fun k_ => (w.heap.size ≤ k_)) ho11 (below_size (by repeat (first | (with_reducible first | exact HB.out | apply below_alloc | apply pw_below_drewN | apply below_drew1 | refine below_set ?_ GE162.out) | exact HB.out))) (fun k_ h_ => h_)) (below_size (by repeat (first | (with_reducible first | exact HB.out | apply below_alloc | apply pw_below_drewN | apply below_drew1 | refine below_set ?_ GE162.out) | exact HB.out)))); have n2_ := Aside0.mk (blk_below (g := gb162) (o := .cells #[.string (⟨#[]⟩ : ByteArray), .string (⟨#[]⟩ : ByteArray), .string (⟨#[]⟩ : ByteArray), .slice none 0 0, .int .i64 0] 28 (0, 0)) (by (with_reducible repeat (first | refine blk_drewN ?_ _ | refine blk_drew ?_ | refine blk_alloc ?_ _)); exact BK162.out) hb); have n3_ := Aside0.mk (below_step (by repeat (first | (with_reducible first | exact HB.out | apply below_alloc | apply pw_below_drewN | apply below_drew1 | refine below_set ?_ GE162.out) | exact HB.out)) hb); clear HO_0; clear BK162; clear HB; have HO_0 := n0_; have HO167 := n1_; have BK162 := n2_; have HB := n3_; clear n0_ n1_ n2_ n3_; clear hb ho11; obtain ⟨Ao12, co12, eo12⟩ := Kd.R_slice HO167.out; subst eo12) | ((with_reducible refine gate_dst (N := 6) rfl ?_); refine box_event ?hg (N := 6) ?hd (cs := #[.string (⟨#[]⟩ : ByteArray), .string (⟨#[]⟩ : ByteArray), .string (⟨#[]⟩ : ByteArray), .slice none 0 0, .int .i64 0]) (t := 28) ?hr ?_; (case hd => rfl); (case hg => rfl); (case hr => first | (go_simp; done) | (go_simp; rfl)); intro gb168 hg w13 hbox hb; have n0_ := Aside0.mk (Kd.V_below (Kd.V_elderB (by (with_reducible repeat (first | apply Kd.V_alloc | apply Kd.V_drewN | apply Kd.V_drew)); exact HO_0.out) gb168 (Nat.le_of_eq hg.symm)) hb); have n1_ := Aside0.mk (Kd.R_below (zr HO167.out) hb); have n2_ := Aside0.mk (blk_below (g := gb162) (o := .cells #[.string (⟨#[]⟩ : ByteArray), .string (⟨#[]⟩ : ByteArray), .string (⟨#[]⟩ : ByteArray), .slice none 0 0, .int .i64 0] 28 (0, 0)) (by (with_reducible repeat (first | refine blk_drewN ?_ _ | refine blk_drew ?_ | refine blk_alloc ?_ _)); exact BK162.out) hb); have n3_ := Aside0.mk (below_step (by repeat (first | (with_reducible first | exact HB.out | apply below_alloc | apply pw_below_drewN | apply below_drew1 | refine below_set ?_ GE162.out) | exact HB.out)) hb); have n4_ := Aside0.mk (hbox); have n5_ := Aside0.mk ((by rw [hg]; exact (below_size (by repeat (first | (with_reducible first | exact HB.out | apply below_alloc | apply pw_below_drewN | apply below_drew1 | refine below_set ?_ GE162.out) | exact HB.out))) : w.heap.size ≤ gb168)); have n6_ := Aside0.mk ((by rw [hg]; exact (below_size (by repeat (first | (with_reducible first | exact HB.out | apply below_alloc | apply pw_below_drewN | apply below_drew1 | refine below_set ?_ GE162.out) | exact HB.out))) : w.heap.size ≤ gb168)); have n7_ := Aside0.mk ((by rw [hg]; exact Nat.ne_of_lt (blk_lt (g := gb162) (o := .cells #[.string (⟨#[]⟩ : ByteArray), .string (⟨#[]⟩ : ByteArray), .string (⟨#[]⟩ : ByteArray), .slice none 0 0, .int .i64 0] 28 (0, 0)) (by (with_reducible repeat (first | refine blk_drewN ?_ _ | refine blk_drew ?_ | refine blk_alloc ?_ _)); exact BK162.out)) : gb162 ≠ gb168)); have n8_ := Aside0.mk ((by rw [hg]; exact Nat.ne_of_gt (blk_lt (g := gb162) (o := .cells #[.string (⟨#[]⟩ : ByteArray), .string (⟨#[]⟩ : ByteArray), .string (⟨#[]⟩ : ByteArray), .slice none 0 0, .int .i64 0] 28 (0, 0)) (by (with_reducible repeat (first | refine blk_drewN ?_ _ | refine blk_drew ?_ | refine blk_alloc ?_ _)); exact BK162.out)) : gb168 ≠ gb162)); clear HO_0; clear HO167; clear BK162; clear HB; have HO_0 := n0_; have HO167 := n1_; have BK162 := n2_; have HB := n3_; have BK168 := n4_; have GW168 := n5_; have GE168 := n6_; have NB162_168 := n7_; have NB168_162 := n8_; clear n0_ n1_ n2_ n3_ n4_ n5_ n6_ n7_ n8_; clear hb hbox hg; have hnb14 := NB168_162.out; have hnc14 := NB162_168.out; have hcz15_0 : w13.cell? ⟨gb168, 0, none⟩ = some (.string (⟨#[]⟩ : ByteArray)) := (blk_cell BK168.out 0).trans rfl; have hcz15_1 : w13.cell? ⟨gb168, 1, none⟩ = some (.string (⟨#[]⟩ : ByteArray)) := (blk_cell BK168.out 1).trans rfl; have hcz15_2 : w13.cell? ⟨gb168, 2, none⟩ = some (.string (⟨#[]⟩ : ByteArray)) := (blk_cell BK168.out 2).trans rfl; have hcz15_3 : w13.cell? ⟨gb168, 3, none⟩ = some (.slice none 0 0) := (blk_cell BK168.out 3).trans rfl; have hcz15_4 : w13.cell? ⟨gb168, 4, none⟩ = some (.int .i64 0) := (blk_cell BK168.out 4).trans rfl; have hfz15_0 := blk_frozen BK168.out 0; have hfz15_1 := blk_frozen BK168.out 1; have hfz15_2 := blk_frozen BK168.out 2; have hfz15_3 := blk_frozen BK168.out 3; have hfz15_4 := blk_frozen BK168.out 4) | ((with_reducible refine gate_dst (N := 23) rfl ?_); refine Kd.N_lit k89 _ 89 ?hg (N' := 23) ?hd (xs := ([(⟨l0, 0⟩ : S89)] : List (S89))) (inner := [.slice A0 l0.length c0, .int .i64 0]) (ok := (fun k_ => (P0_ k_ ∨ w.heap.size ≤ k_) ∧ some k_ ≠ (.slice Ao12 y165.length co12 : Value).ownBlock ∧ k_ ≠ gb162 ∧ k_ ≠ gb168)) (okp := (fun k_ => (P0_ k_ ∨ w.heap.size ≤ k_) ∧ some k_ ≠ (.slice Ao12 y165.length co12 : Value).ownBlock ∧ k_ ≠ gb162 ∧ k_ ≠ gb168)) ?hr ?hp (fun _ hk => hk) ((show ∀ k_, (((((w13.setCell ⟨gb168, 0, none⟩ (.string (⟨#[]⟩ : ByteArray))).setCell ⟨gb168, 1, none⟩ (.string (⟨#[]⟩ : ByteArray))).setCell ⟨gb168, 2, none⟩ (.string (⟨#[]⟩ : ByteArray))).setCell ⟨gb168, 3, none⟩ (.slice Ao12 y165.length co12)).setCell ⟨gb168, 4, none⟩ (.int .i64 a1)).heap.size ≤ k_ → (fun k_ => (P0_ k_ ∨ w.heap.size ≤ k_) ∧ some k_ ≠ (.slice Ao12 y165.length co12 : Value).ownBlock ∧ k_ ≠ gb162 ∧ k_ ≠ gb168) k_ from fun k_ hk => ⟨(.inr (Nat.le_trans (below_size (by repeat (first | (with_reducible first | exact HB.out | apply below_alloc | apply pw_below_drewN | apply below_drew1 | refine below_set ?_ GE162.out | refine below_set ?_ GE168.out) | exact HB.out))) hk)), Kd.fresh' (Kd.R_lt (zr (Kd.R_mono (Kd.R_far (p := ⟨gb168, 4, none⟩) (Kd.R_far (p := ⟨gb168, 3, none⟩) (Kd.R_far (p := ⟨gb168, 2, none⟩) (Kd.R_far (p := ⟨gb168, 1, none⟩) (Kd.R_far (p := ⟨gb168, 0, none⟩) (Kd.R_types HO167.out BK168.out (by decide)) (fun _ hk => hk.2) (.string (⟨#[]⟩ : ByteArray))) (fun _ hk => hk.2) (.string (⟨#[]⟩ : ByteArray))) (fun _ hk => hk.2) (.string (⟨#[]⟩ : ByteArray))) (fun _ hk => hk.2) (.slice Ao12 y165.length co12)) (fun _ hk => hk.2) (.int .i64 a1)) (fun _ h_ => h_.1)))) k_ hk, Kd.freshB (g := gb162) (o := .cells #[.string (⟨#[]⟩ : ByteArray), .string (⟨#[]⟩ : ByteArray), .string (⟨#[]⟩ : ByteArray), .slice none 0 0, .int .i64 0] 28 (0, 0)) (by (with_reducible repeat (first | refine blk_drewN ?_ _ | refine blk_drew ?_ | refine blk_alloc ?_ _)); refine blk_far ?_ NB162_168.out _; (with_reducible repeat (first | refine blk_drewN ?_ _ | refine blk_drew ?_ | refine blk_alloc ?_ _)); refine blk_far ?_ NB162_168.out _; (with_reducible repeat (first | refine blk_drewN ?_ _ | refine blk_drew ?_ | refine blk_alloc ?_ _)); refine blk_far ?_ NB162_168.out _; (with_reducible repeat (first | refine blk_drewN ?_ _ | refine blk_drew ?_ | refine blk_alloc ?_ _)); refine blk_far ?_ NB162_168.out _; (with_reducible repeat (first | refine blk_drewN ?_ _ | refine blk_drew ?_ | refine blk_alloc ?_ _)); refine blk_far ?_ NB162_168.out _; (with_reducible repeat (first | refine blk_drewN ?_ _ | refine blk_drew ?_ | refine blk_alloc ?_ _)); exact BK162.out) k_ hk, Kd.freshB (g := gb168) (o := .cells #[.string (⟨#[]⟩ : ByteArray), .string (⟨#[]⟩ : ByteArray), .string (⟨#[]⟩ : ByteArray), .slice Ao12 y165.length co12, .int .i64 a1] 28 (0, 0)) (by (with_reducible repeat (first | refine blk_drewN ?_ _ | refine blk_drew ?_ | refine blk_alloc ?_ _)); refine blk_put (cs := #[.string (⟨#[]⟩ : ByteArray), .string (⟨#[]⟩ : ByteArray), .string (⟨#[]⟩ : ByteArray), .slice Ao12 y165.length co12, .int .i64 0]) ?_ 4 _ rfl; (with_reducible repeat (first | refine blk_drewN ?_ _ | refine blk_drew ?_ | refine blk_alloc ?_ _)); refine blk_put (cs := #[.string (⟨#[]⟩ : ByteArray), .string (⟨#[]⟩ : ByteArray), .string (⟨#[]⟩ : ByteArray), .slice none 0 0, .int .i64 0]) ?_ 3 _ rfl; (with_reducible repeat (first | refine blk_drewN ?_ _ | refine blk_drew ?_ | refine blk_alloc ?_ _)); refine blk_put (cs := #[.string (⟨#[]⟩ : ByteArray), .string (⟨#[]⟩ : ByteArray), .string (⟨#[]⟩ : ByteArray), .slice none 0 0, .int .i64 0]) ?_ 2 _ rfl; (with_reducible repeat (first | refine blk_drewN ?_ _ | refine blk_drew ?_ | refine blk_alloc ?_ _)); refine blk_put (cs := #[.string (⟨#[]⟩ : ByteArray), .string (⟨#[]⟩ : ByteArray), .string (⟨#[]⟩ : ByteArray), .slice none 0 0, .int .i64 0]) ?_ 1 _ rfl; (with_reducible repeat (first | refine blk_drewN ?_ _ | refine blk_drew ?_ | refine blk_alloc ?_ _)); refine blk_put (cs := #[.string (⟨#[]⟩ : ByteArray), .string (⟨#[]⟩ : ByteArray), .string (⟨#[]⟩ : ByteArray), .slice none 0 0, .int .i64 0]) ?_ 0 _ rfl; (with_reducible repeat (first | refine blk_drewN ?_ _ | refine blk_drew ?_ | refine blk_alloc ?_ _)); exact BK168.out) k_ hk⟩) _ (Nat.le_refl _)) (Below.refl _ _) (Nat.le_refl _) (by simp) ?_; (case hd => rfl); (case hg => rfl); (case hr => first | (go_simp; done) | (go_simp; rfl)); (case hp => exact (Reps.c2 (show Kd.FK k89 _ _ (⟨l0, 0⟩ : S89) [.slice A0 l0.length c0, .int .i64 0] from (k89_mkF _ _ (⟨l0, 0⟩ : S89) (Kd.V_reads' (Kd.V_mono (ok' := (fun k_ => (P0_ k_ ∨ w.heap.size ≤ k_) ∧ some k_ ≠ (.slice Ao12 y165.length co12 : Value).ownBlock ∧ k_ ≠ gb162 ∧ k_ ≠ gb168)) (Kd.V_mono (Kd.V_far (p := ⟨gb168, 4, none⟩) (Kd.V_far (p := ⟨gb168, 3, none⟩) (Kd.V_far (p := ⟨gb168, 2, none⟩) (Kd.V_far (p := ⟨gb168, 1, none⟩) (Kd.V_far (p := ⟨gb168, 0, none⟩) (Kd.V_mono HO_0.out (fun k_ hk => (⟨hk, hk.2⟩ : _ ∧ k_ ≠ gb168))) (fun _ hk => hk.2) (.string (⟨#[]⟩ : ByteArray))) (fun _ hk => hk.2) (.string (⟨#[]⟩ : ByteArray))) (fun _ hk => hk.2) (.string (⟨#[]⟩ : ByteArray))) (fun _ hk => hk.2) (.slice Ao12 y165.length co12)) (fun _ hk => hk.2) (.int .i64 a1)) (fun _ h_ => h_.1)) (fun k_ hk => ⟨hk.1.1.1, ⟨hk.1.2, ⟨hk.1.1.2, hk.2⟩⟩⟩))).2.1 (Kd.V_F (Kd.V_mono (ok' := (fun k_ => (P0_ k_ ∨ w.heap.size ≤ k_) ∧ some k_ ≠ (.slice Ao12 y165.length co12 : Value).ownBlock ∧ k_ ≠ gb162 ∧ k_ ≠ gb168)) (Kd.V_mono (Kd.V_far (p := ⟨gb168, 4, none⟩) (Kd.V_far (p := ⟨gb168, 3, none⟩) (Kd.V_far (p := ⟨gb168, 2, none⟩) (Kd.V_far (p := ⟨gb168, 1, none⟩) (Kd.V_far (p := ⟨gb168, 0, none⟩) (Kd.V_mono HO_0.out (fun k_ hk => (⟨hk, hk.2⟩ : _ ∧ k_ ≠ gb168))) (fun _ hk => hk.2) (.string (⟨#[]⟩ : ByteArray))) (fun _ hk => hk.2) (.string (⟨#[]⟩ : ByteArray))) (fun _ hk => hk.2) (.string (⟨#[]⟩ : ByteArray))) (fun _ hk => hk.2) (.slice Ao12 y165.length co12)) (fun _ hk => hk.2) (.int .i64 a1)) (fun _ h_ => h_.1)) (fun k_ hk => ⟨hk.1.1.1, ⟨hk.1.2, ⟨hk.1.1.2, hk.2⟩⟩⟩))))) (Reps.none _ _))); intro v170 w16 ho17 hb hg_ hnew_; clear hg_ hnew_; (first | rw [← Ny169.out] at ho17 | (simp only [Int.reduceToNat] at ho17; rw [← Ny169.out] at ho17)); have n0_ := Aside0.mk (Kd.V_elder' (by (with_reducible repeat (first | apply Kd.V_alloc | apply Kd.V_drewN | apply Kd.V_drew)); exact (Kd.V_mono (Kd.V_far (p := ⟨gb168, 4, none⟩) (Kd.V_far (p := ⟨gb168, 3, none⟩) (Kd.V_far (p := ⟨gb168, 2, none⟩) (Kd.V_far (p := ⟨gb168, 1, none⟩) (Kd.V_far (p := ⟨gb168, 0, none⟩) (Kd.V_mono HO_0.out (fun k_ hk => (⟨hk, hk.2⟩ : _ ∧ k_ ≠ gb168))) (fun _ hk => hk.2) (.string (⟨#[]⟩ : ByteArray))) (fun _ hk => hk.2) (.string (⟨#[]⟩ : ByteArray))) (fun _ hk => hk.2) (.string (⟨#[]⟩ : ByteArray))) (fun _ hk => hk.2) (.slice Ao12 y165.length co12)) (fun _ hk => hk.2) (.int .i64 a1)) (fun _ h_ => h_.1))) (Kd.N_base ho17) hb); have n1_ := Aside0.mk (Kd.R_below (zr (Kd.R_mono (Kd.R_far (p := ⟨gb168, 4, none⟩) (Kd.R_far (p := ⟨gb168, 3, none⟩) (Kd.R_far (p := ⟨gb168, 2, none⟩) (Kd.R_far (p := ⟨gb168, 1, none⟩) (Kd.R_far (p := ⟨gb168, 0, none⟩) (Kd.R_types HO167.out BK168.out (by decide)) (fun _ hk => hk.2) (.string (⟨#[]⟩ : ByteArray))) (fun _ hk => hk.2) (.string (⟨#[]⟩ : ByteArray))) (fun _ hk => hk.2) (.string (⟨#[]⟩ : ByteArray))) (fun _ hk => hk.2) (.slice Ao12 y165.length co12)) (fun _ hk => hk.2) (.int .i64 a1)) (fun _ h_ => h_.1))) hb); have n2_ := Aside0.mk (Kd.N_lower ho17 (below_size (by repeat (first | (with_reducible first | exact HB.out | apply below_alloc | apply pw_below_drewN | apply below_drew1 | refine below_set ?_ GE162.out | refine below_set ?_ GE168.out) | exact HB.out)))); have n3_ := Aside0.mk (blk_below (g := gb162) (o := .cells #[.string (⟨#[]⟩ : ByteArray), .string (⟨#[]⟩ : ByteArray), .string (⟨#[]⟩ : ByteArray), .slice none 0 0, .int .i64 0] 28 (0, 0)) (by (with_reducible repeat (first | refine blk_drewN ?_ _ | refine blk_drew ?_ | refine blk_alloc ?_ _)); refine blk_far ?_ NB162_168.out _; (with_reducible repeat (first | refine blk_drewN ?_ _ | refine blk_drew ?_ | refine blk_alloc ?_ _)); refine blk_far ?_ NB162_168.out _; (with_reducible repeat (first | refine blk_drewN ?_ _ | refine blk_drew ?_ | refine blk_alloc ?_ _)); refine blk_far ?_ NB162_168.out _; (with_reducible repeat (first | refine blk_drewN ?_ _ | refine blk_drew ?_ | refine blk_alloc ?_ _)); refine blk_far ?_ NB162_168.out _; (with_reducible repeat (first | refine blk_drewN ?_ _ | refine blk_drew ?_ | refine blk_alloc ?_ _)); refine blk_far ?_ NB162_168.out _; (with_reducible repeat (first | refine blk_drewN ?_ _ | refine blk_drew ?_ | refine blk_alloc ?_ _)); exact BK162.out) hb); have n4_ := Aside0.mk (blk_below (g := gb168) (o := .cells #[.string (⟨#[]⟩ : ByteArray), .string (⟨#[]⟩ : ByteArray), .string (⟨#[]⟩ : ByteArray), .slice Ao12 y165.length co12, .int .i64 a1] 28 (0, 0)) (by (with_reducible repeat (first | refine blk_drewN ?_ _ | refine blk_drew ?_ | refine blk_alloc ?_ _)); refine blk_put (cs := #[.string (⟨#[]⟩ : ByteArray), .string (⟨#[]⟩ : ByteArray), .string (⟨#[]⟩ : ByteArray), .slice Ao12 y165.length co12, .int .i64 0]) ?_ 4 _ rfl; (with_reducible repeat (first | refine blk_drewN ?_ _ | refine blk_drew ?_ | refine blk_alloc ?_ _)); refine blk_put (cs := #[.string (⟨#[]⟩ : ByteArray), .string (⟨#[]⟩ : ByteArray), .string (⟨#[]⟩ : ByteArray), .slice none 0 0, .int .i64 0]) ?_ 3 _ rfl; (with_reducible repeat (first | refine blk_drewN ?_ _ | refine blk_drew ?_ | refine blk_alloc ?_ _)); refine blk_put (cs := #[.string (⟨#[]⟩ : ByteArray), .string (⟨#[]⟩ : ByteArray), .string (⟨#[]⟩ : ByteArray), .slice none 0 0, .int .i64 0]) ?_ 2 _ rfl; (with_reducible repeat (first | refine blk_drewN ?_ _ | refine blk_drew ?_ | refine blk_alloc ?_ _)); refine blk_put (cs := #[.string (⟨#[]⟩ : ByteArray), .string (⟨#[]⟩ : ByteArray), .string (⟨#[]⟩ : ByteArray), .slice none 0 0, .int .i64 0]) ?_ 1 _ rfl; (with_reducible repeat (first | refine blk_drewN ?_ _ | refine blk_drew ?_ | refine blk_alloc ?_ _)); refine blk_put (cs := #[.string (⟨#[]⟩ : ByteArray), .string (⟨#[]⟩ : ByteArray), .string (⟨#[]⟩ : ByteArray), .slice none 0 0, .int .i64 0]) ?_ 0 _ rfl; (with_reducible repeat (first | refine blk_drewN ?_ _ | refine blk_drew ?_ | refine blk_alloc ?_ _)); exact BK168.out) hb); have n5_ := Aside0.mk (below_step (by repeat (first | (with_reducible first | exact HB.out | apply below_alloc | apply pw_below_drewN | apply below_drew1 | refine below_set ?_ GE162.out | refine below_set ?_ GE168.out) | exact HB.out)) hb); clear HO_0; clear HO167; clear BK162; clear BK168; clear HB; have HO_0 := n0_; have HO167 := n1_; have HO171 := n2_; have BK162 := n3_; have BK168 := n4_; have HB := n5_; clear n0_ n1_ n2_ n3_ n4_ n5_; clear hb ho17))
        go_loopg [7] kj2 (fun kq v7 w' => ∃ (x7_2 : List (S89)) (x169000_2 : ByteArray) (x169001_2 : ByteArray) (x169002_2 : ByteArray) (x169003_2 : List ByteArray) (x169004_2 : Int) (u169003 : Value), Aside0 (spec_SieveOf.l0 kq x7_2 x169000_2 x169001_2 x169002_2 x169003_2 x169004_2 = some (r1, r2, r3, r4, r5, r6)) ∧ Aside0 (kq ≤ kj2) ∧ Aside0 (Kd.N k89 89 w' w.heap.size (fun k_ => (P0_ k_ ∨ w.heap.size ≤ k_) ∧ some k_ ≠ (u169003 : Value).ownBlock ∧ k_ ≠ gb162 ∧ k_ ≠ gb168) v7 x7_2) ∧ Aside0 (Kd.R Kd.string 9 w' w.heap.size (fun k_ => (w.heap.size ≤ k_)) u169003 x169003_2) ∧ Aside0 (w'.heap[gb162]? = some (.cells #[.string (⟨#[]⟩ : ByteArray), .string (⟨#[]⟩ : ByteArray), .string (⟨#[]⟩ : ByteArray), (.slice none 0 0), .int .i64 0] 28 (0, 0))) ∧ Aside0 (w'.heap[gb168]? = some (.cells #[.string x169000_2, .string x169001_2, .string x169002_2, u169003, .int .i64 x169004_2] 28 (0, 0))) ∧ Aside0 (Below w.heap.size w w'))
        case atStart => exact ⟨(y169), ((⟨#[]⟩ : ByteArray)), ((⟨#[]⟩ : ByteArray)), ((⟨#[]⟩ : ByteArray)), (y165), (a1), (.slice Ao12 y165.length co12), H', ⟨Nat.le_refl _⟩, ⟨by (with_reducible repeat (first | apply Kd.N_alloc | apply Kd.N_drewN | apply Kd.N_drew)); exact HO171.out⟩, ⟨Kd.R_mono (zr HO167.out) (fun _ hk => hk.1)⟩, ⟨by (with_reducible repeat (first | refine blk_drewN ?_ _ | refine blk_drew ?_ | refine blk_alloc ?_ _)); exact BK162.out⟩, ⟨by (with_reducible repeat (first | refine blk_drewN ?_ _ | refine blk_drew ?_ | refine blk_alloc ?_ _)); exact BK168.out⟩, ⟨by repeat (first | (with_reducible first | exact HB.out | apply below_alloc | apply pw_below_drewN | apply below_drew1 | refine below_set ?_ GE162.out | refine below_set ?_ GE168.out) | exact HB.out)⟩⟩
        case round =>
          clear H'
          try clear c1
          try clear c2
          try clear p2
          try clear c5
          try clear c6
          try clear c8
          try clear c14
          try clear hcz15_0
          try clear hcz15_1
          try clear hcz15_2
          try clear hcz15_3
          try clear hcz15_4
          try clear hcz9_0
          try clear hcz9_1
          try clear hcz9_2
          try clear hcz9_3
          try clear hcz9_4
          try clear hfz15_0
          try clear hfz15_1
          try clear hfz15_2
          try clear hfz15_3
          try clear hfz15_4
          try clear hfz9_0
          try clear hfz9_1
          try clear hfz9_2
          try clear hfz9_3
          try clear hfz9_4
          try clear p2
          obtain ⟨x7_2, x169000_2, x169001_2, x169002_2, x169003_2, x169004_2, u169003, HA, HK2, HO_7, HO_169003, BK162, BK168, HB⟩ := hrel
          cases gk with
          | zero => exact absurd HA.out (by simp [spec_SieveOf.l0])
          | succ k2 =>
            have H := HA.out
            clear HA
            simp only [spec_SieveOf.l0] at H
            by_cases c18 : (x7_2.length : Int) > 0
            · rw [if_pos c18] at H
              have c18b0 : decide (0 < (x7_2.length : Int)) = true := decide_eq_true c18
              have c18b1 : decide (0 < x7_2.length) = true := decide_eq_true (by omega)
              clear c18
              obtain ⟨y172, hy172⟩ : ∃ y_ : List (S89), y_ = (([] : List (S89))) := ⟨_, rfl⟩
              replace H : (if 0 < (x7_2.length : Int) then ((spec_l3Put.f k2 x169000_2 x169001_2 x169002_2 x169003_2 x169004_2 ((rd_T89 x7_2 0).f0) ((rd_T89 x7_2 0).f1)).bind fun bt176 => ((some (([] : List (S89)) : List (S89))).bind fun y186 => (if 1 ≤ (x7_2.length : Int) then ((some (x7_2.drop 1 : List (S89))).bind fun y189 => (if y186.length + y189.length < 4398046511104 then ((some (y186 ++ y189 : List (S89))).bind fun y194 => (if y194.length + bt176.2.2.2.2.2.length < 4398046511104 then (spec_SieveOf.l0 k2 (y194 ++ bt176.2.2.2.2.2) bt176.1 bt176.2.1 bt176.2.2.1 bt176.2.2.2.1 bt176.2.2.2.2.1) else (none))) else (none))) else (none)))) else (none)) = some (r1, r2, r3, r4, r5, r6) := by first | (rw [hy172]; with_reducible exact H) | (have H2_ := (Option.bind_some _ _).symm.trans H; rw [hy172]; with_reducible exact H2_) | (have H2_ := (Option.bind_some _ _).symm.trans H; with_reducible exact H2_) | with_reducible exact H | (rw [hy172]; exact H) | exact H
              have Ny172 := Aside0.mk hy172
              clear hy172
              by_cases c19 : 0 < (x7_2.length : Int)
              · rw [if_pos c19] at H
                have c19b0 : decide (0 < (x7_2.length : Int)) = true := decide_eq_true c19
                have c19b1 : decide (0 < x7_2.length) = true := decide_eq_true (by omega)
                clear c19
                replace H := Option.bind_eq_some_iff.mp H
                obtain ⟨⟨t176, t177, t178, t179, t182, t183⟩, A200, H⟩ := H
                (try dsimp only at H)
                have A20 := Aside0.mk A200
                clear A200
                obtain ⟨y186, hy186⟩ : ∃ y_ : List (S89), y_ = (([] : List (S89))) := ⟨_, rfl⟩
                replace H : (if 1 ≤ (x7_2.length : Int) then ((some (x7_2.drop 1 : List (S89))).bind fun y189 => (if y186.length + y189.length < 4398046511104 then ((some (y186 ++ y189 : List (S89))).bind fun y194 => (if y194.length + t183.length < 4398046511104 then (spec_SieveOf.l0 k2 (y194 ++ t183) t176 t177 t178 t179 t182) else (none))) else (none))) else (none)) = some (r1, r2, r3, r4, r5, r6) := by first | (rw [hy186]; with_reducible exact H) | (have H2_ := (Option.bind_some _ _).symm.trans H; rw [hy186]; with_reducible exact H2_) | (have H2_ := (Option.bind_some _ _).symm.trans H; with_reducible exact H2_) | with_reducible exact H | (rw [hy186]; exact H) | exact H
                have Ny186 := Aside0.mk hy186
                clear hy186
                by_cases c21 : 1 ≤ (x7_2.length : Int)
                · rw [if_pos c21] at H
                  have c21b0 := eq_true c21
                  have c21b1 : decide (1 ≤ (x7_2.length : Int)) = true := decide_eq_true c21
                  clear c21
                  obtain ⟨y189, hy189⟩ : ∃ y_ : List (S89), y_ = (x7_2.drop 1) := ⟨_, rfl⟩
                  replace H : (if y186.length + y189.length < 4398046511104 then ((some (y186 ++ y189 : List (S89))).bind fun y194 => (if y194.length + t183.length < 4398046511104 then (spec_SieveOf.l0 k2 (y194 ++ t183) t176 t177 t178 t179 t182) else (none))) else (none)) = some (r1, r2, r3, r4, r5, r6) := by first | (rw [hy189]; with_reducible exact H) | (have H2_ := (Option.bind_some _ _).symm.trans H; rw [hy189]; with_reducible exact H2_) | (have H2_ := (Option.bind_some _ _).symm.trans H; with_reducible exact H2_) | with_reducible exact H | (rw [hy189]; exact H) | exact H
                  have Ny189 := Aside0.mk hy189
                  clear hy189
                  by_cases c22 : y186.length + y189.length < 4398046511104
                  · rw [if_pos c22] at H
                    have LMc22 := Aside0.mk c22
                    clear c22
                    obtain ⟨y194, hy194⟩ : ∃ y_ : List (S89), y_ = (y186 ++ y189) := ⟨_, rfl⟩
                    replace H : (if y194.length + t183.length < 4398046511104 then (spec_SieveOf.l0 k2 (y194 ++ t183) t176 t177 t178 t179 t182) else (none)) = some (r1, r2, r3, r4, r5, r6) := by first | (rw [hy194]; with_reducible exact H) | (have H2_ := (Option.bind_some _ _).symm.trans H; rw [hy194]; with_reducible exact H2_) | (have H2_ := (Option.bind_some _ _).symm.trans H; with_reducible exact H2_) | with_reducible exact H | (rw [hy194]; exact H) | exact H
                    have Ny194 := Aside0.mk hy194
                    clear hy194
                    by_cases c23 : y194.length + t183.length < 4398046511104
                    · rw [if_pos c23] at H
                      have LMc23 := Aside0.mk c23
                      clear c23
                      obtain ⟨y197, hy197⟩ : ∃ y_ : List (S89), y_ = (y194 ++ t183) := ⟨_, rfl⟩
                      replace H : (spec_SieveOf.l0 k2 y197 t176 t177 t178 t179 t182) = some (r1, r2, r3, r4, r5, r6) := by first | (rw [hy197]; with_reducible exact H) | (have H2_ := (Option.bind_some _ _).symm.trans H; rw [hy197]; with_reducible exact H2_) | (have H2_ := (Option.bind_some _ _).symm.trans H; with_reducible exact H2_) | with_reducible exact H | (rw [hy197]; exact H) | exact H
                      have Ny197 := Aside0.mk hy197
                      clear hy197
                      have H' := Aside0.mk H
                      clear H
                      obtain ⟨Ao24, co24, eo24⟩ := Kd.N_slice HO_7.out
                      subst eo24
                      try go_wp2_with (first | ((with_reducible refine gate_dst (N := 27) rfl ?_); refine Kd.N_lit k89 _ 89 ?hg (N' := 27) ?hd (xs := ([] : List (S89))) (inner := []) (ok := (fun k_ => (P0_ k_ ∨ w.heap.size ≤ k_) ∧ some k_ ≠ (.slice Ao24 x7_2.length co24 : Value).ownBlock ∧ some k_ ≠ (u169003 : Value).ownBlock ∧ k_ ≠ gb162 ∧ k_ ≠ gb168)) (okp := (fun k_ => (P0_ k_ ∨ w.heap.size ≤ k_) ∧ some k_ ≠ (.slice Ao24 x7_2.length co24 : Value).ownBlock ∧ some k_ ≠ (u169003 : Value).ownBlock ∧ k_ ≠ gb162 ∧ k_ ≠ gb168)) ?hr ?hp (fun _ hk => hk) ((show ∀ k_, wr.heap.size ≤ k_ → (fun k_ => (P0_ k_ ∨ w.heap.size ≤ k_) ∧ some k_ ≠ (.slice Ao24 x7_2.length co24 : Value).ownBlock ∧ some k_ ≠ (u169003 : Value).ownBlock ∧ k_ ≠ gb162 ∧ k_ ≠ gb168) k_ from fun k_ hk => ⟨(.inr (Nat.le_trans (below_size (by repeat (first | (with_reducible first | exact HB.out | apply below_alloc | apply pw_below_drewN | apply below_drew1 | refine below_set ?_ GE162.out | refine below_set ?_ GE168.out) | exact HB.out))) hk)), Kd.fresh' (Kd.N_lt (by (with_reducible repeat (first | apply Kd.N_alloc | apply Kd.N_drewN | apply Kd.N_drew)); exact HO_7.out)) k_ hk, Kd.fresh' (Kd.R_lt (zr HO_169003.out)) k_ hk, Kd.freshB (g := gb162) (o := .cells #[.string (⟨#[]⟩ : ByteArray), .string (⟨#[]⟩ : ByteArray), .string (⟨#[]⟩ : ByteArray), .slice none 0 0, .int .i64 0] 28 (0, 0)) (by (with_reducible repeat (first | refine blk_drewN ?_ _ | refine blk_drew ?_ | refine blk_alloc ?_ _)); exact BK162.out) k_ hk, Kd.freshB (g := gb168) (o := .cells #[.string x169000_2, .string x169001_2, .string x169002_2, u169003, .int .i64 x169004_2] 28 (0, 0)) (by (with_reducible repeat (first | refine blk_drewN ?_ _ | refine blk_drew ?_ | refine blk_alloc ?_ _)); exact BK168.out) k_ hk⟩) _ (Nat.le_refl _)) (Below.refl _ _) (Nat.le_refl _) (by simp) ?_; (case hd => rfl); (case hg => rfl); (case hr => first | (go_simp; done) | (go_simp; rfl)); (case hp => exact (Reps.none _ _)); intro v173 w25 ho26 hb hg_ hnew_; clear hg_ hnew_; (first | rw [← Ny172.out] at ho26 | (simp only [Int.reduceToNat] at ho26; rw [← Ny172.out] at ho26)); have n0_ := Aside0.mk (Kd.N_elder' (by (with_reducible repeat (first | apply Kd.N_alloc | apply Kd.N_drewN | apply Kd.N_drew)); exact HO_7.out) (Kd.N_base ho26) hb); have n1_ := Aside0.mk (Kd.R_below (zr HO_169003.out) hb); have n2_ := Aside0.mk (Kd.N_lower ho26 (below_size (by repeat (first | (with_reducible first | exact HB.out | apply below_alloc | apply pw_below_drewN | apply below_drew1 | refine below_set ?_ GE162.out | refine below_set ?_ GE168.out) | exact HB.out)))); have n3_ := Aside0.mk (blk_below (g := gb162) (o := .cells #[.string (⟨#[]⟩ : ByteArray), .string (⟨#[]⟩ : ByteArray), .string (⟨#[]⟩ : ByteArray), .slice none 0 0, .int .i64 0] 28 (0, 0)) (by (with_reducible repeat (first | refine blk_drewN ?_ _ | refine blk_drew ?_ | refine blk_alloc ?_ _)); exact BK162.out) hb); have n4_ := Aside0.mk (blk_below (g := gb168) (o := .cells #[.string x169000_2, .string x169001_2, .string x169002_2, u169003, .int .i64 x169004_2] 28 (0, 0)) (by (with_reducible repeat (first | refine blk_drewN ?_ _ | refine blk_drew ?_ | refine blk_alloc ?_ _)); exact BK168.out) hb); have n5_ := Aside0.mk (below_step (by repeat (first | (with_reducible first | exact HB.out | apply below_alloc | apply pw_below_drewN | apply below_drew1 | refine below_set ?_ GE162.out | refine below_set ?_ GE168.out) | exact HB.out)) hb); clear HO_7; clear HO_169003; clear BK162; clear BK168; clear HB; have HO_7 := n0_; have HO_169003 := n1_; have HO174 := n2_; have BK162 := n3_; have BK168 := n4_; have HB := n5_; clear n0_ n1_ n2_ n3_ n4_ n5_; clear hb ho26))
                      have n0_ := Aside0.mk (Kd.N_drew HO_7.out)
                      have n1_ := Aside0.mk (Kd.R_drew HO_169003.out)
                      have n2_ := Aside0.mk (Kd.N_drew HO174.out)
                      have n3_ := Aside0.mk (blk_drew BK162.out)
                      have n4_ := Aside0.mk (blk_drew BK168.out)
                      have n5_ := Aside0.mk (below_drew1 HB.out)
                      clear HO_7
                      clear HO_169003
                      clear HO174
                      clear BK162
                      clear BK168
                      clear HB
                      have HO_7 := n0_
                      have HO_169003 := n1_
                      have HO174 := n2_
                      have BK162 := n3_
                      have BK168 := n4_
                      have HB := n5_
                      clear n0_ n1_ n2_ n3_ n4_ n5_
                      have p175 : 0 ≤ (0 : Int) := (by omega)
                      have q175 : 0 < (x7_2.length : Int) := zd
                      obtain ⟨ad175, A175_0, c175_0, e175, hx175_0, hx175_1, hl175_0, hi175_0⟩ := at_T89 (Kd.N_reads' HO_7.out).2.2 0 p175 q175
                      cases e175
                      obtain ⟨ce175, hce175, hMe175, hcc175⟩ := Kd.N_get HO_7.out z89 0 p175 (by first | exact q175 | exact zd | (have e_ := (Kd.N_reads' HO_7.out).1; omega))
                      obtain ⟨ua175_0, uc175_0, rfl, ul175_0, ge175_0⟩ := k89_openF hMe175
                      have hv175_0 := hcc175 0 _ rfl
                      rw [Nat.add_zero] at hv175_0
                      replace hv175_0 := Option.some.inj (hv175_0.symm.trans hx175_0)
                      injection hv175_0 with hva_ hvn_ hvc_
                      rw [hva_] at ge175_0
                      rw [hvc_] at ul175_0
                      have HL175_0 := Aside0.mk (show Kd.V Kd.string 9 _ w.heap.size _ _ ((rd_T89 x7_2 0).f0) from Kd.V_mk ul175_0 ge175_0)
                      clear hva_ hvn_ hvc_ ge175_0 ul175_0
                      clear hcc175 hce175
                      have qi175 : (0 < x7_2.length) = True := eq_true (by omega)
                      (try rw [show ((0 : Int)).toNat = 0 from rfl] at hx175_0)
                      (try rw [show 0 * 2 = 0 from rfl] at hx175_0)
                      (try rw [Addr.add_zero'] at hx175_0)
                      (try rw [show ((0 : Int)).toNat = 0 from rfl] at hx175_1)
                      (try rw [show 0 * 2 = 0 from rfl] at hx175_1)
                      (try rw [Addr.add_zero'] at hx175_1)
                      have HR175_0 := Aside0.mk hi175_0
                      have HC175_0 := Aside0.mk hl175_0
                      clear hi175_0 hl175_0
                      replace p175 := eq_true p175
                      replace q175 := eq_true q175
                      obtain ⟨Ao28, co28, eo28⟩ := Kd.R_slice HO_169003.out
                      (first | subst eo28 | (injection eo28 with f1_ f2_ f3_; have f4_ := f1_.symm; have f5_ := f3_.symm; clear f1_ f2_ f3_; subst f4_; subst f5_))
                      refine start_ (n := 10) (S := fun w' => w'.cell? ⟨gb168, 0, none⟩ = some (.string x169000_2) ∧ w'.cell? ⟨gb168, 1, none⟩ = some (.string x169001_2) ∧ w'.cell? ⟨gb168, 2, none⟩ = some (.string x169002_2) ∧ w'.cell? ⟨gb168, 3, none⟩ = some (.slice Ao28 x169003_2.length co28) ∧ w'.cell? ⟨gb168, 4, none⟩ = some (.int .i64 x169004_2) ∧ w'.cell? ad175 = some (.slice A175_0 ((rd_T89 x7_2 0).f0).length c175_0) ∧ w'.cell? ⟨ad175.block, ad175.off + 1, none⟩ = some (.int .i64 ((rd_T89 x7_2 0).f1))) (ds := [8]) (fb 10 0) (by kernel_rfl) rfl rfl ⟨(blk_cell BK168.out 0).trans rfl, (blk_cell BK168.out 1).trans rfl, (blk_cell BK168.out 2).trans rfl, (blk_cell BK168.out 3).trans rfl, (blk_cell BK168.out 4).trans rfl, hx175_0, hx175_1⟩ (fun hHeld => ?_); refine with_tabW spec_SieveOf.tab7 spec_SieveOf.bits7 (fun HT_ HW_ => ?_)
                      generalize w25.drew = w27 at HO_7 HO_169003 HO174 BK162 BK168 HB HL175_0 HR175_0 hx175_0 hx175_1 hHeld ⊢
                      refine pure_ (i := 1) (N := some 30) (v := ?_) (a' := ?_) (fb 10 2) rfl rfl (any_of HT_.out (by kernel_rfl)) (fun _ _ _ h => h) (Or.inl ⟨by rfl, ?_⟩) ?_ ?_
                      rotate_left
                      · intro w'
                        go_simp
                        with_reducible rfl
                      rotate_left
                      · simp only [Act.put, List.setIfInBounds_toArray, List.set_cons_zero, List.set_cons_succ, i64_w, i32_w]
                        rfl
                      refine pure_ (i := 2) (N := some 31) (v := ?_) (a' := ?_) (fb 10 6) rfl rfl (any_of HT_.out (by kernel_rfl)) (fun _ _ _ h => h) (Or.inl ⟨by rfl, ?_⟩) ?_ ?_
                      rotate_left
                      · intro w'
                        go_simp
                        with_reducible rfl
                      rotate_left
                      · simp only [Act.put, List.setIfInBounds_toArray, List.set_cons_zero, List.set_cons_succ, i64_w, i32_w]
                        rfl
                      refine take_ (i := 0) (N := some 29) (v := ?_) (a' := ?_) (fb 10 7) rfl rfl (take_ofW HT_.out HW_.out (by kernel_rfl)) (fun _ _ _ h => h) (Or.inl ⟨by rfl, ?_⟩) hHeld ?_ ?_
                      rotate_left
                      · rintro w' ⟨s0, s1, s2, s3, s4, s5, s6⟩
                        go_simp
                        with_reducible rfl
                      rotate_left
                      · simp only [Act.put, List.setIfInBounds_toArray, List.set_cons_zero, List.set_cons_succ, i64_w, i32_w]
                        rfl
                      refine take_ (i := 3) (N := some 32) (v := ?_) (a' := ?_) (fb 10 15) rfl rfl (take_ofW HT_.out HW_.out (by kernel_rfl)) (fun _ _ _ h => h) (Or.inl ⟨by rfl, ?_⟩) hHeld ?_ ?_
                      rotate_left
                      · rintro w' ⟨s0, s1, s2, s3, s4, s5, s6⟩
                        go_simp
                        with_reducible rfl
                      rotate_left
                      · simp only [Act.put, List.setIfInBounds_toArray, List.set_cons_zero, List.set_cons_succ, i64_w, i32_w]
                        rfl
                      refine one_ (i := 4) (N := some 33) (fb 10 31) rfl rfl (one_of HT_.out (by kernel_rfl)) (by decide) (fun K hK => ?_)
                      refine goes_ Try.func115 (by kernel_rfl) rfl #[.agg #[.string x169000_2, .string x169001_2, .string x169002_2, .slice Ao28 x169003_2.length co28, .int .i64 x169004_2], .agg #[.slice A175_0 ((rd_T89 x7_2 0).f0).length c175_0, .int .i64 ((rd_T89 x7_2 0).f1)]] (by rfl) rfl rfl (by (try simp only [List.map_toArray, List.map_cons, List.map_nil]); first | done | rfl | (simp only [List.length_drop, List.length_take]; rfl)) ?_
                      with_reducible refine (spec_l3Put.calls k2 x169000_2 x169001_2 x169002_2 (fun k_ => some k_ = (.slice Ao28 x169003_2.length co28 : Value).ownBlock) (.slice Ao28 x169003_2.length co28) x169003_2 x169004_2 (fun k_ => ((((P0_ k_ ∨ w.heap.size ≤ k_) ∧ (some k_ ≠ (.slice Ao28 x169003_2.length co28 : Value).ownBlock ∧ (k_ ≠ gb162 ∧ k_ ≠ gb168))) ∧ some k_ ≠ (v173 : Value).ownBlock) ∧ some k_ ≠ (.slice (some ad175) x7_2.length co24 : Value).ownBlock)) _ _ ((rd_T89 x7_2 0).f0) ((rd_T89 x7_2 0).f1) t176 t177 t178 t179 t182 t183 w _ ?side1 ?side2 ?side3 A20.out).mono ?_
                      (case side1 => repeat (first | (with_reducible first | exact HB.out | apply below_alloc | apply pw_below_drewN | apply below_drew1 | refine below_set ?_ GE162.out | refine below_set ?_ GE168.out) | exact HB.out))
                      (case side2 => exact Kd.R_tight rfl HO_169003.out)
                      (case side3 => exact Kd.V_mono (HL175_0.out) (fun k_ hk_ => ⟨hk_, hk_.1.1.2.1⟩))
                      rintro e w29 ⟨v180, v184, rfl, ho0, ho1, hb, hkp⟩
                      have HS5_ := cell_kept (hHeld.2.2.2.2.2.1) hkp (by first | (rw [add_block]; exact (fun hs_ => (((HO_7.out).1 _ rfl).1.2.1) hs_)) | (show ¬ _; simp only [add_block]; exact (fun hs_ => (((HO_7.out).1 _ rfl).1.2.1) hs_)) | exact (fun hs_ => (((HO_7.out).1 _ rfl).1.2.1) hs_))
                      have HS6_ := cell_kept (hHeld.2.2.2.2.2.2) hkp (by first | (rw [add_block]; exact (fun hs_ => (((HO_7.out).1 _ rfl).1.2.1) hs_)) | (show ¬ _; simp only [add_block]; exact (fun hs_ => (((HO_7.out).1 _ rfl).1.2.1) hs_)) | exact (fun hs_ => (((HO_7.out).1 _ rfl).1.2.1) hs_))
                      refine ⟨_, rfl, ?_⟩
                      have n0_ := Aside0.mk (Kd.N_mono (ok' := fun k_ => (P0_ k_ ∨ w.heap.size ≤ k_) ∧ some k_ ≠ (v173 : Value).ownBlock ∧ k_ ≠ gb162 ∧ k_ ≠ gb168 ∧ some k_ ≠ (v180 : Value).ownBlock ∧ some k_ ≠ (v184 : Value).ownBlock) (Kd.N_keptB (HO_7.out) hkp (fun k_ hk_ hs_ => (hk_.1.2.1) hs_)) (fun k_ hk_ => ⟨hk_.1.1.1, hk_.1.2, hk_.1.1.2.2.1, hk_.1.1.2.2.2, fun e_ => Or.elim (ho0.1 k_ e_.symm) (fun hs_ => hk_.2.1 hs_) (fun hn_ => Nat.not_le.2 hk_.2.2 hn_), fun e_ => Nat.not_le.2 hk_.2.2 (Kd.N_base ho1 k_ e_.symm)⟩))
                      have n1_ := Aside0.mk (blk_kept (by (with_reducible repeat (first | refine blk_drewN ?_ _ | refine blk_drew ?_ | refine blk_alloc ?_ _)); exact BK162.out) hkp (fun hs_ => (fun e_ => (Kd.R_ne HO_169003.out BK162.out (by decide)) e_) hs_))
                      have n2_ := Aside0.mk (blk_kept (by (with_reducible repeat (first | refine blk_drewN ?_ _ | refine blk_drew ?_ | refine blk_alloc ?_ _)); exact BK168.out) hkp (fun hs_ => (fun e_ => (Kd.R_ne HO_169003.out BK168.out (by decide)) e_) hs_))
                      have n3_ := Aside0.mk (Kd.N_mono (ok' := fun k_ => (P0_ k_ ∨ w.heap.size ≤ k_) ∧ some k_ ≠ (.slice (some ad175) x7_2.length co24 : Value).ownBlock ∧ k_ ≠ gb162 ∧ k_ ≠ gb168 ∧ some k_ ≠ (v180 : Value).ownBlock ∧ some k_ ≠ (v184 : Value).ownBlock) (Kd.N_keptB (HO174.out) hkp (fun k_ hk_ hs_ => (hk_.2.2.1) hs_)) (fun k_ hk_ => ⟨hk_.1.1, hk_.1.2.1, hk_.1.2.2.2.1, hk_.1.2.2.2.2, fun e_ => Or.elim (ho0.1 k_ e_.symm) (fun hs_ => hk_.2.1 hs_) (fun hn_ => Nat.not_le.2 hk_.2.2 hn_), fun e_ => Nat.not_le.2 hk_.2.2 (Kd.N_base ho1 k_ e_.symm)⟩))
                      have n4_ := Aside0.mk (Kd.R_mono (ok' := fun k_ => (w.heap.size ≤ k_)) ho0 (fun k_ hk_ => Or.elim hk_ (fun hs_ => (HO_169003.out.1 k_ (hs_).symm)) (fun hn_ => (Nat.le_trans (below_size (by repeat (first | (with_reducible first | exact HB.out | apply below_alloc | apply pw_below_drewN | apply below_drew1 | refine below_set ?_ GE162.out | refine below_set ?_ GE168.out) | exact HB.out))) hn_))))
                      have n5_ := Aside0.mk (Kd.N_lower (Kd.N_mono (ok' := fun k_ => (P0_ k_ ∨ w.heap.size ≤ k_) ∧ some k_ ≠ (v180 : Value).ownBlock ∧ some k_ ≠ (.slice (some ad175) x7_2.length co24 : Value).ownBlock ∧ some k_ ≠ (v173 : Value).ownBlock ∧ k_ ≠ gb162 ∧ k_ ≠ gb168) ho1 (fun k_ hk_ => ⟨Or.elim hk_.1 (fun hs_ => Or.elim hs_ (fun hs_ => (.inr ((HO_169003.out.1 k_ (hs_).symm)))) (fun hs_ => hs_.1.1.1)) (fun hn_ => (.inr (Nat.le_trans (below_size (by repeat (first | (with_reducible first | exact HB.out | apply below_alloc | apply pw_below_drewN | apply below_drew1 | refine below_set ?_ GE162.out | refine below_set ?_ GE168.out) | exact HB.out))) hn_))), hk_.2, Or.elim hk_.1 (fun hs_ => Or.elim hs_ (fun hs_ => fun e_ => (((HO_7.out).1 k_ e_.symm).1.2.1) hs_) (fun hs_ => hs_.2)) (fun hn_ => (Kd.fresh' (Kd.N_lt (by (with_reducible repeat (first | apply Kd.N_alloc | apply Kd.N_drewN | apply Kd.N_drew)); exact HO_7.out)) k_ hn_)), Or.elim hk_.1 (fun hs_ => Or.elim hs_ (fun hs_ => fun e_ => (((HO174.out).1 k_ e_.symm).2.2.1) hs_) (fun hs_ => hs_.1.2)) (fun hn_ => (Kd.fresh' (Kd.N_lt (by (with_reducible repeat (first | apply Kd.N_alloc | apply Kd.N_drewN | apply Kd.N_drew)); exact HO174.out)) k_ hn_)), Or.elim hk_.1 (fun hs_ => Or.elim hs_ (fun hs_ => fun e_ => (Kd.R_ne HO_169003.out BK162.out (by decide)) (by rw [← e_]; exact hs_)) (fun hs_ => hs_.1.1.2.2.1)) (fun hn_ => (Kd.freshB (g := gb162) (o := .cells #[.string (⟨#[]⟩ : ByteArray), .string (⟨#[]⟩ : ByteArray), .string (⟨#[]⟩ : ByteArray), .slice none 0 0, .int .i64 0] 28 (0, 0)) (by (with_reducible repeat (first | refine blk_drewN ?_ _ | refine blk_drew ?_ | refine blk_alloc ?_ _)); exact BK162.out) k_ hn_)), Or.elim hk_.1 (fun hs_ => Or.elim hs_ (fun hs_ => fun e_ => (Kd.R_ne HO_169003.out BK168.out (by decide)) (by rw [← e_]; exact hs_)) (fun hs_ => hs_.1.1.2.2.2)) (fun hn_ => (Kd.freshB (g := gb168) (o := .cells #[.string x169000_2, .string x169001_2, .string x169002_2, .slice Ao28 x169003_2.length co28, .int .i64 x169004_2] 28 (0, 0)) (by (with_reducible repeat (first | refine blk_drewN ?_ _ | refine blk_drew ?_ | refine blk_alloc ?_ _)); exact BK168.out) k_ hn_))⟩)) (below_size (by repeat (first | (with_reducible first | exact HB.out | apply below_alloc | apply pw_below_drewN | apply below_drew1 | refine below_set ?_ GE162.out | refine below_set ?_ GE168.out) | exact HB.out))))
                      have n6_ := Aside0.mk (hb)
                      clear HO_7
                      clear BK162
                      clear BK168
                      clear HO174
                      clear HB
                      clear HO_169003
                      clear HL175_0
                      have HO_7 := n0_
                      have BK162 := n1_
                      have BK168 := n2_
                      have HO174 := n3_
                      have HO181 := n4_
                      have HO185 := n5_
                      have HB := n6_
                      clear n0_ n1_ n2_ n3_ n4_ n5_ n6_
                      (try clear hb)
                      (try clear hkp)
                      (try clear ho0)
                      (try clear ho1)
                      obtain ⟨Ao33, co33, eo33⟩ := Kd.R_slice HO181.out
                      (first | subst eo33 | (injection eo33 with f1_ f2_ f3_; have f4_ := f1_.symm; have f5_ := f3_.symm; clear f1_ f2_ f3_; subst f4_; subst f5_))
                      refine hK.out _ _ ⟨(blk_cell BK168.out 0).trans rfl, (blk_cell BK168.out 1).trans rfl, (blk_cell BK168.out 2).trans rfl, (blk_cell BK168.out 3).trans rfl, (blk_cell BK168.out 4).trans rfl, HS5_, HS6_⟩ (fun hHeld => ?_)
                      clear hK K
                      refine norm_ (a' := ?_) ?_ ?_
                      rotate_left
                      · show Act.put _ (some 33) _ = _
                        simp only [Act.put, List.setIfInBounds_toArray, List.set_cons_zero, List.set_cons_succ, i64_w, i32_w]
                        rfl
                      refine pure_ (i := 5) (N := some 28) (v := ?_) (a' := ?_) (fb 10 63) rfl rfl (any_of HT_.out (by kernel_rfl)) (fun _ _ _ h => h) (Or.inl ⟨by rfl, ?_⟩) ?_ ?_
                      rotate_left
                      · intro w'
                        go_simp
                        with_reducible rfl
                      rotate_left
                      · simp only [Act.put, List.setIfInBounds_toArray, List.set_cons_zero, List.set_cons_succ, i64_w, i32_w]
                        rfl
                      refine pure_ (i := 6) (N := some 34) (v := ?_) (a' := ?_) (fb 10 127) rfl rfl (any_of HT_.out (by kernel_rfl)) (fun _ _ _ h => h) (Or.inl ⟨by rfl, ?_⟩) ?_ ?_
                      rotate_left
                      · intro w'
                        go_simp
                        with_reducible rfl
                      rotate_left
                      · simp only [Act.put, List.setIfInBounds_toArray, List.set_cons_zero, List.set_cons_succ, i64_w, i32_w]
                        rfl
                      refine pure_ (i := 7) (N := some 35) (v := ?_) (a' := ?_) (fb 10 255) rfl rfl (any_of HT_.out (by kernel_rfl)) (fun _ _ _ h => h) (Or.inl ⟨by rfl, ?_⟩) ?_ ?_
                      rotate_left
                      · intro w'
                        go_simp
                        with_reducible rfl
                      rotate_left
                      · simp only [Act.put, List.setIfInBounds_toArray, List.set_cons_zero, List.set_cons_succ, i64_w, i32_w]
                        rfl
                      refine last_ (i := 8) (N := none) (fb 10 511) rfl rfl (one_of HT_.out (by kernel_rfl)) (by decide) (fun K hK => ?_)
                      have hs30 : w29.cell? ⟨gb168, 0, none⟩ = some (.string x169000_2) := (blk_cell BK168.out 0).trans rfl
                      have hfs30 := blk_frozen BK168.out 0
                      have hns30_0 := NB162_168.out
                      have hms30_0 := NB168_162.out
                      have hs31 : w29.cell? ⟨gb168, 1, none⟩ = some (.string x169001_2) := (blk_cell BK168.out 1).trans rfl
                      have hfs31 := blk_frozen BK168.out 1
                      have hns31_0 := NB162_168.out
                      have hms31_0 := NB168_162.out
                      have hs32 : w29.cell? ⟨gb168, 2, none⟩ = some (.string x169002_2) := (blk_cell BK168.out 2).trans rfl
                      have hfs32 := blk_frozen BK168.out 2
                      have hns32_0 := NB162_168.out
                      have hms32_0 := NB168_162.out
                      have hs34 : w29.cell? ⟨gb168, 3, none⟩ = some (.slice Ao28 x169003_2.length co28) := (blk_cell BK168.out 3).trans rfl
                      have hfs34 := blk_frozen BK168.out 3
                      have hns34_0 := NB162_168.out
                      have hms34_0 := NB168_162.out
                      have hs35 : w29.cell? ⟨gb168, 4, none⟩ = some (.int .i64 x169004_2) := (blk_cell BK168.out 4).trans rfl
                      have hfs35 := blk_frozen BK168.out 4
                      have hns35_0 := NB162_168.out
                      have hms35_0 := NB168_162.out
                      refine skip_ (w1 := ?_) (by rfl) rfl ?_ ?_
                      rotate_left
                      · go_simp
                        rfl
                      refine hK.out _ _ ?_
                      clear hK K
                      refine pure_ (i := 9) (N := some 8) (v := ?_) (a' := ?_) (fb 10 1023) rfl rfl (any_of HT_.out (by kernel_rfl)) (fun _ _ _ h => h) (Or.inl ⟨by rfl, ?_⟩) ?_ ?_
                      rotate_left
                      · intro w'
                        go_simp
                        with_reducible rfl
                      rotate_left
                      · simp only [Act.put, List.setIfInBounds_toArray, List.set_cons_zero, List.set_cons_succ, i64_w, i32_w]
                        rfl
                      refine done_ (done_of HT_.out (by kernel_rfl)) ?_
                      try go_wp2_with (first | ((with_reducible refine gate_dst (N := 36) rfl ?_); refine Kd.N_lit k89 _ 89 ?hg (N' := 36) ?hd (xs := ([] : List (S89))) (inner := []) (ok := (fun k_ => (P0_ k_ ∨ w.heap.size ≤ k_) ∧ some k_ ≠ (.slice (some ad175) x7_2.length co24 : Value).ownBlock ∧ some k_ ≠ (v173 : Value).ownBlock ∧ some k_ ≠ (.slice Ao33 t179.length co33 : Value).ownBlock ∧ some k_ ≠ (v184 : Value).ownBlock ∧ k_ ≠ gb162 ∧ k_ ≠ gb168)) (okp := (fun k_ => (P0_ k_ ∨ w.heap.size ≤ k_) ∧ some k_ ≠ (.slice (some ad175) x7_2.length co24 : Value).ownBlock ∧ some k_ ≠ (v173 : Value).ownBlock ∧ some k_ ≠ (.slice Ao33 t179.length co33 : Value).ownBlock ∧ some k_ ≠ (v184 : Value).ownBlock ∧ k_ ≠ gb162 ∧ k_ ≠ gb168)) ?hr ?hp (fun _ hk => hk) ((show ∀ k_, (((((w29.setCell ⟨gb168, 0, none⟩ (.string t176)).setCell ⟨gb168, 1, none⟩ (.string t177)).setCell ⟨gb168, 2, none⟩ (.string t178)).setCell ⟨gb168, 3, none⟩ (.slice Ao33 t179.length co33)).setCell ⟨gb168, 4, none⟩ (.int .i64 t182)).heap.size ≤ k_ → (fun k_ => (P0_ k_ ∨ w.heap.size ≤ k_) ∧ some k_ ≠ (.slice (some ad175) x7_2.length co24 : Value).ownBlock ∧ some k_ ≠ (v173 : Value).ownBlock ∧ some k_ ≠ (.slice Ao33 t179.length co33 : Value).ownBlock ∧ some k_ ≠ (v184 : Value).ownBlock ∧ k_ ≠ gb162 ∧ k_ ≠ gb168) k_ from fun k_ hk => ⟨(.inr (Nat.le_trans (below_size (by repeat (first | (with_reducible first | exact HB.out | apply below_alloc | apply pw_below_drewN | apply below_drew1 | refine below_set ?_ GE162.out | refine below_set ?_ GE168.out) | exact HB.out))) hk)), Kd.fresh' (Kd.N_lt (by (with_reducible repeat (first | apply Kd.N_alloc | apply Kd.N_drewN | apply Kd.N_drew)); exact (Kd.N_mono (Kd.N_far (p := ⟨gb168, 4, none⟩) (Kd.N_far (p := ⟨gb168, 3, none⟩) (Kd.N_far (p := ⟨gb168, 2, none⟩) (Kd.N_far (p := ⟨gb168, 1, none⟩) (Kd.N_far (p := ⟨gb168, 0, none⟩) (Kd.N_mono HO_7.out (fun k_ hk => (⟨hk, hk.2.2.2.1⟩ : _ ∧ k_ ≠ gb168))) (fun _ hk => hk.2) (.string t176)) (fun _ hk => hk.2) (.string t177)) (fun _ hk => hk.2) (.string t178)) (fun _ hk => hk.2) (.slice Ao33 t179.length co33)) (fun _ hk => hk.2) (.int .i64 t182)) (fun _ h_ => h_.1)))) k_ hk, Kd.fresh' (Kd.N_lt (by (with_reducible repeat (first | apply Kd.N_alloc | apply Kd.N_drewN | apply Kd.N_drew)); exact (Kd.N_mono (Kd.N_far (p := ⟨gb168, 4, none⟩) (Kd.N_far (p := ⟨gb168, 3, none⟩) (Kd.N_far (p := ⟨gb168, 2, none⟩) (Kd.N_far (p := ⟨gb168, 1, none⟩) (Kd.N_far (p := ⟨gb168, 0, none⟩) (Kd.N_mono HO174.out (fun k_ hk => (⟨hk, hk.2.2.2.1⟩ : _ ∧ k_ ≠ gb168))) (fun _ hk => hk.2) (.string t176)) (fun _ hk => hk.2) (.string t177)) (fun _ hk => hk.2) (.string t178)) (fun _ hk => hk.2) (.slice Ao33 t179.length co33)) (fun _ hk => hk.2) (.int .i64 t182)) (fun _ h_ => h_.1)))) k_ hk, Kd.fresh' (Kd.R_lt (zr (Kd.R_mono (Kd.R_far (p := ⟨gb168, 4, none⟩) (Kd.R_far (p := ⟨gb168, 3, none⟩) (Kd.R_far (p := ⟨gb168, 2, none⟩) (Kd.R_far (p := ⟨gb168, 1, none⟩) (Kd.R_far (p := ⟨gb168, 0, none⟩) (Kd.R_types HO181.out BK168.out (by decide)) (fun _ hk => hk.2) (.string t176)) (fun _ hk => hk.2) (.string t177)) (fun _ hk => hk.2) (.string t178)) (fun _ hk => hk.2) (.slice Ao33 t179.length co33)) (fun _ hk => hk.2) (.int .i64 t182)) (fun _ h_ => h_.1)))) k_ hk, Kd.fresh' (Kd.N_lt (by (with_reducible repeat (first | apply Kd.N_alloc | apply Kd.N_drewN | apply Kd.N_drew)); exact (Kd.N_mono (Kd.N_far (p := ⟨gb168, 4, none⟩) (Kd.N_far (p := ⟨gb168, 3, none⟩) (Kd.N_far (p := ⟨gb168, 2, none⟩) (Kd.N_far (p := ⟨gb168, 1, none⟩) (Kd.N_far (p := ⟨gb168, 0, none⟩) (Kd.N_mono HO185.out (fun k_ hk => (⟨hk, hk.2.2.2.2.2⟩ : _ ∧ k_ ≠ gb168))) (fun _ hk => hk.2) (.string t176)) (fun _ hk => hk.2) (.string t177)) (fun _ hk => hk.2) (.string t178)) (fun _ hk => hk.2) (.slice Ao33 t179.length co33)) (fun _ hk => hk.2) (.int .i64 t182)) (fun _ h_ => h_.1)))) k_ hk, Kd.freshB (g := gb162) (o := .cells #[.string (⟨#[]⟩ : ByteArray), .string (⟨#[]⟩ : ByteArray), .string (⟨#[]⟩ : ByteArray), .slice none 0 0, .int .i64 0] 28 (0, 0)) (by (with_reducible repeat (first | refine blk_drewN ?_ _ | refine blk_drew ?_ | refine blk_alloc ?_ _)); refine blk_far ?_ NB162_168.out _; (with_reducible repeat (first | refine blk_drewN ?_ _ | refine blk_drew ?_ | refine blk_alloc ?_ _)); refine blk_far ?_ NB162_168.out _; (with_reducible repeat (first | refine blk_drewN ?_ _ | refine blk_drew ?_ | refine blk_alloc ?_ _)); refine blk_far ?_ NB162_168.out _; (with_reducible repeat (first | refine blk_drewN ?_ _ | refine blk_drew ?_ | refine blk_alloc ?_ _)); refine blk_far ?_ NB162_168.out _; (with_reducible repeat (first | refine blk_drewN ?_ _ | refine blk_drew ?_ | refine blk_alloc ?_ _)); refine blk_far ?_ NB162_168.out _; (with_reducible repeat (first | refine blk_drewN ?_ _ | refine blk_drew ?_ | refine blk_alloc ?_ _)); exact BK162.out) k_ hk, Kd.freshB (g := gb168) (o := .cells #[.string t176, .string t177, .string t178, .slice Ao33 t179.length co33, .int .i64 t182] 28 (0, 0)) (by (with_reducible repeat (first | refine blk_drewN ?_ _ | refine blk_drew ?_ | refine blk_alloc ?_ _)); refine blk_put (cs := #[.string t176, .string t177, .string t178, .slice Ao33 t179.length co33, .int .i64 x169004_2]) ?_ 4 _ rfl; (with_reducible repeat (first | refine blk_drewN ?_ _ | refine blk_drew ?_ | refine blk_alloc ?_ _)); refine blk_put (cs := #[.string t176, .string t177, .string t178, .slice Ao28 x169003_2.length co28, .int .i64 x169004_2]) ?_ 3 _ rfl; (with_reducible repeat (first | refine blk_drewN ?_ _ | refine blk_drew ?_ | refine blk_alloc ?_ _)); refine blk_put (cs := #[.string t176, .string t177, .string x169002_2, .slice Ao28 x169003_2.length co28, .int .i64 x169004_2]) ?_ 2 _ rfl; (with_reducible repeat (first | refine blk_drewN ?_ _ | refine blk_drew ?_ | refine blk_alloc ?_ _)); refine blk_put (cs := #[.string t176, .string x169001_2, .string x169002_2, .slice Ao28 x169003_2.length co28, .int .i64 x169004_2]) ?_ 1 _ rfl; (with_reducible repeat (first | refine blk_drewN ?_ _ | refine blk_drew ?_ | refine blk_alloc ?_ _)); refine blk_put (cs := #[.string x169000_2, .string x169001_2, .string x169002_2, .slice Ao28 x169003_2.length co28, .int .i64 x169004_2]) ?_ 0 _ rfl; (with_reducible repeat (first | refine blk_drewN ?_ _ | refine blk_drew ?_ | refine blk_alloc ?_ _)); exact BK168.out) k_ hk⟩) _ (Nat.le_refl _)) (Below.refl _ _) (Nat.le_refl _) (by simp) ?_; (case hd => rfl); (case hg => rfl); (case hr => first | (go_simp; done) | (go_simp; rfl)); (case hp => exact (Reps.none _ _)); intro v187 w36 ho37 hb hg_ hnew_; clear hg_ hnew_; (first | rw [← Ny186.out] at ho37 | (simp only [Int.reduceToNat] at ho37; rw [← Ny186.out] at ho37)); have n0_ := Aside0.mk (Kd.N_elder' (by (with_reducible repeat (first | apply Kd.N_alloc | apply Kd.N_drewN | apply Kd.N_drew)); exact (Kd.N_mono (Kd.N_far (p := ⟨gb168, 4, none⟩) (Kd.N_far (p := ⟨gb168, 3, none⟩) (Kd.N_far (p := ⟨gb168, 2, none⟩) (Kd.N_far (p := ⟨gb168, 1, none⟩) (Kd.N_far (p := ⟨gb168, 0, none⟩) (Kd.N_mono HO_7.out (fun k_ hk => (⟨hk, hk.2.2.2.1⟩ : _ ∧ k_ ≠ gb168))) (fun _ hk => hk.2) (.string t176)) (fun _ hk => hk.2) (.string t177)) (fun _ hk => hk.2) (.string t178)) (fun _ hk => hk.2) (.slice Ao33 t179.length co33)) (fun _ hk => hk.2) (.int .i64 t182)) (fun _ h_ => h_.1))) (Kd.N_base ho37) hb); have n1_ := Aside0.mk (Kd.N_elder' (by (with_reducible repeat (first | apply Kd.N_alloc | apply Kd.N_drewN | apply Kd.N_drew)); exact (Kd.N_mono (Kd.N_far (p := ⟨gb168, 4, none⟩) (Kd.N_far (p := ⟨gb168, 3, none⟩) (Kd.N_far (p := ⟨gb168, 2, none⟩) (Kd.N_far (p := ⟨gb168, 1, none⟩) (Kd.N_far (p := ⟨gb168, 0, none⟩) (Kd.N_mono HO174.out (fun k_ hk => (⟨hk, hk.2.2.2.1⟩ : _ ∧ k_ ≠ gb168))) (fun _ hk => hk.2) (.string t176)) (fun _ hk => hk.2) (.string t177)) (fun _ hk => hk.2) (.string t178)) (fun _ hk => hk.2) (.slice Ao33 t179.length co33)) (fun _ hk => hk.2) (.int .i64 t182)) (fun _ h_ => h_.1))) (Kd.N_base ho37) hb); have n2_ := Aside0.mk (Kd.R_below (zr (Kd.R_mono (Kd.R_far (p := ⟨gb168, 4, none⟩) (Kd.R_far (p := ⟨gb168, 3, none⟩) (Kd.R_far (p := ⟨gb168, 2, none⟩) (Kd.R_far (p := ⟨gb168, 1, none⟩) (Kd.R_far (p := ⟨gb168, 0, none⟩) (Kd.R_types HO181.out BK168.out (by decide)) (fun _ hk => hk.2) (.string t176)) (fun _ hk => hk.2) (.string t177)) (fun _ hk => hk.2) (.string t178)) (fun _ hk => hk.2) (.slice Ao33 t179.length co33)) (fun _ hk => hk.2) (.int .i64 t182)) (fun _ h_ => h_.1))) hb); have n3_ := Aside0.mk (Kd.N_elder' (by (with_reducible repeat (first | apply Kd.N_alloc | apply Kd.N_drewN | apply Kd.N_drew)); exact (Kd.N_mono (Kd.N_far (p := ⟨gb168, 4, none⟩) (Kd.N_far (p := ⟨gb168, 3, none⟩) (Kd.N_far (p := ⟨gb168, 2, none⟩) (Kd.N_far (p := ⟨gb168, 1, none⟩) (Kd.N_far (p := ⟨gb168, 0, none⟩) (Kd.N_mono HO185.out (fun k_ hk => (⟨hk, hk.2.2.2.2.2⟩ : _ ∧ k_ ≠ gb168))) (fun _ hk => hk.2) (.string t176)) (fun _ hk => hk.2) (.string t177)) (fun _ hk => hk.2) (.string t178)) (fun _ hk => hk.2) (.slice Ao33 t179.length co33)) (fun _ hk => hk.2) (.int .i64 t182)) (fun _ h_ => h_.1))) (Kd.N_base ho37) hb); have n4_ := Aside0.mk (Kd.N_lower ho37 (below_size (by repeat (first | (with_reducible first | exact HB.out | apply below_alloc | apply pw_below_drewN | apply below_drew1 | refine below_set ?_ GE162.out | refine below_set ?_ GE168.out) | exact HB.out)))); have n5_ := Aside0.mk (blk_below (g := gb162) (o := .cells #[.string (⟨#[]⟩ : ByteArray), .string (⟨#[]⟩ : ByteArray), .string (⟨#[]⟩ : ByteArray), .slice none 0 0, .int .i64 0] 28 (0, 0)) (by (with_reducible repeat (first | refine blk_drewN ?_ _ | refine blk_drew ?_ | refine blk_alloc ?_ _)); refine blk_far ?_ NB162_168.out _; (with_reducible repeat (first | refine blk_drewN ?_ _ | refine blk_drew ?_ | refine blk_alloc ?_ _)); refine blk_far ?_ NB162_168.out _; (with_reducible repeat (first | refine blk_drewN ?_ _ | refine blk_drew ?_ | refine blk_alloc ?_ _)); refine blk_far ?_ NB162_168.out _; (with_reducible repeat (first | refine blk_drewN ?_ _ | refine blk_drew ?_ | refine blk_alloc ?_ _)); refine blk_far ?_ NB162_168.out _; (with_reducible repeat (first | refine blk_drewN ?_ _ | refine blk_drew ?_ | refine blk_alloc ?_ _)); refine blk_far ?_ NB162_168.out _; (with_reducible repeat (first | refine blk_drewN ?_ _ | refine blk_drew ?_ | refine blk_alloc ?_ _)); exact BK162.out) hb); have n6_ := Aside0.mk (blk_below (g := gb168) (o := .cells #[.string t176, .string t177, .string t178, .slice Ao33 t179.length co33, .int .i64 t182] 28 (0, 0)) (by (with_reducible repeat (first | refine blk_drewN ?_ _ | refine blk_drew ?_ | refine blk_alloc ?_ _)); refine blk_put (cs := #[.string t176, .string t177, .string t178, .slice Ao33 t179.length co33, .int .i64 x169004_2]) ?_ 4 _ rfl; (with_reducible repeat (first | refine blk_drewN ?_ _ | refine blk_drew ?_ | refine blk_alloc ?_ _)); refine blk_put (cs := #[.string t176, .string t177, .string t178, .slice Ao28 x169003_2.length co28, .int .i64 x169004_2]) ?_ 3 _ rfl; (with_reducible repeat (first | refine blk_drewN ?_ _ | refine blk_drew ?_ | refine blk_alloc ?_ _)); refine blk_put (cs := #[.string t176, .string t177, .string x169002_2, .slice Ao28 x169003_2.length co28, .int .i64 x169004_2]) ?_ 2 _ rfl; (with_reducible repeat (first | refine blk_drewN ?_ _ | refine blk_drew ?_ | refine blk_alloc ?_ _)); refine blk_put (cs := #[.string t176, .string x169001_2, .string x169002_2, .slice Ao28 x169003_2.length co28, .int .i64 x169004_2]) ?_ 1 _ rfl; (with_reducible repeat (first | refine blk_drewN ?_ _ | refine blk_drew ?_ | refine blk_alloc ?_ _)); refine blk_put (cs := #[.string x169000_2, .string x169001_2, .string x169002_2, .slice Ao28 x169003_2.length co28, .int .i64 x169004_2]) ?_ 0 _ rfl; (with_reducible repeat (first | refine blk_drewN ?_ _ | refine blk_drew ?_ | refine blk_alloc ?_ _)); exact BK168.out) hb); have n7_ := Aside0.mk (below_step (by repeat (first | (with_reducible first | exact HB.out | apply below_alloc | apply pw_below_drewN | apply below_drew1 | refine below_set ?_ GE162.out | refine below_set ?_ GE168.out) | exact HB.out)) hb); clear HO_7; clear HO174; clear HO181; clear HO185; clear BK162; clear BK168; clear HB; have HO_7 := n0_; have HO174 := n1_; have HO181 := n2_; have HO185 := n3_; have HO188 := n4_; have BK162 := n5_; have BK168 := n6_; have HB := n7_; clear n0_ n1_ n2_ n3_ n4_ n5_ n6_ n7_; clear hb ho37; have q38 : (1 : Int) ≤ ((x7_2.length : Int) : Int) := zd; obtain ⟨i038, hi038, _, hsz38, _⟩ := info_parts info89; have hroom38 : x7_2.length ≤ co24 := (Kd.N_reads' HO_7.out).2.1; have hC38 : Kd.F k89 _ _ (some ad175) x7_2.length x7_2 := (Kd.V_at (base := w.heap.size) (Kd.N_V HO_7.out)).2.2; have hcut38 := cut_from (P := Try.prog) 90 89 .i64 Try.underlying90 hi038 2 hsz38 (some ad175) x7_2.length co24 1 (by omega) q38; have hr38 := Kd.F_cut (m := (1 : Int).toNat) (c := co24) hC38 (by omega) hroom38; obtain ⟨A38, hA38⟩ : ∃ A1, A1 = (if co24 = (1 : Int).toNat then (some ad175) else ((some ad175) : Option Addr).map (·.add ((1 : Int).toNat * 2))) := ⟨_, rfl⟩; obtain ⟨c38, hc38⟩ : ∃ c1, c1 = co24 - (1 : Int).toNat := ⟨_, rfl⟩; have hy38 : y189.length = x7_2.length - (1 : Int).toNat := (by rw [Ny189.out, List.length_drop] <;> omega); rw [show (x7_2).drop (1 : Int).toNat = y189 from Ny189.out.symm] at hr38; replace hr38 : Kd.F k89 _ _ A38 y189.length y189 := (by rw [hA38]; exact hr38); rw [← hy38, ← hA38, ← hc38] at hcut38; have HO193 := Aside0.mk (show Kd.V k89 89 _ w.heap.size _ (.slice A38 y189.length c38) y189 from Kd.V_mk (by rw [hy38, hc38]; exact Nat.sub_le_sub_right hroom38 _) hr38); have HC193 := Aside0.mk (show y189.length ≤ c38 from by rw [hy38, hc38]; exact Nat.sub_le_sub_right hroom38 _); clear hr38 hC38 hroom38 hi038 hsz38 hc38; have KY38 := Aside0.mk hy38; have KA38 := Aside0.mk hA38; clear hy38 hA38; replace q38 := eq_true q38) | ((with_reducible refine gate_builtin (b := .append) (xs := #[.tmp 36, .tmp 38]) rfl ?_); at_builtin; refine Kd.N_append_rows k89 (w0 := w) w.heap.size rfl (.tmp 36) (.tmp 38) 90 89 (.agg #[(.slice none 0 0), (.int .i64 0)]) 32 rfl Try.underlying90 info89 rfl (by decide) (by omega) v187 y186 y189 _ _ _ (fun k_ => (P0_ k_ ∨ w.heap.size ≤ k_) ∧ some k_ ≠ (v173 : Value).ownBlock ∧ some k_ ≠ (.slice Ao33 t179.length co33 : Value).ownBlock ∧ some k_ ≠ (v184 : Value).ownBlock ∧ k_ ≠ gb162 ∧ k_ ≠ gb168) (fun k_ => ((fun k_ => (P0_ k_ ∨ w.heap.size ≤ k_) ∧ some k_ ≠ (v173 : Value).ownBlock ∧ some k_ ≠ (.slice Ao33 t179.length co33 : Value).ownBlock ∧ some k_ ≠ (v184 : Value).ownBlock ∧ k_ ≠ gb162 ∧ k_ ≠ gb168)) k_ ∧ some k_ ≠ (v187 : Value).ownBlock) rfl rfl ?aO ?aR (fun _ hk => hk) ?aF ?aB ?aS ?aL ?_; (case aR => exact (by skip; exact Kd.V_F (Kd.V_mono (ok' := (fun k_ => ((fun k_ => (P0_ k_ ∨ w.heap.size ≤ k_) ∧ some k_ ≠ (v173 : Value).ownBlock ∧ some k_ ≠ (.slice Ao33 t179.length co33 : Value).ownBlock ∧ some k_ ≠ (v184 : Value).ownBlock ∧ k_ ≠ gb162 ∧ k_ ≠ gb168)) k_ ∧ some k_ ≠ (v187 : Value).ownBlock)) (HO193.out) (fun k_ hk => ⟨⟨hk.1.1, ⟨hk.1.2.1, ⟨hk.1.2.2.2.2.1, ⟨hk.1.2.2.2.2.2, ⟨hk.1.2.2.1, hk.1.2.2.2.1⟩⟩⟩⟩⟩, hk.2⟩)))); (case aB => exact (by repeat (first | (with_reducible first | exact HB.out | apply below_alloc | apply pw_below_drewN | apply below_drew1 | refine below_set ?_ GE162.out | refine below_set ?_ GE168.out) | exact HB.out))); (case aF => exact (fun k_ hk => ⟨(.inr (Nat.le_trans (below_size (by repeat (first | (with_reducible first | exact HB.out | apply below_alloc | apply pw_below_drewN | apply below_drew1 | refine below_set ?_ GE162.out | refine below_set ?_ GE168.out) | exact HB.out))) hk)), Kd.fresh' (Kd.N_lt (by (with_reducible repeat (first | apply Kd.N_alloc | apply Kd.N_drewN | apply Kd.N_drew)); exact HO174.out)) k_ hk, Kd.fresh' (Kd.R_lt (zr HO181.out)) k_ hk, Kd.fresh' (Kd.N_lt (by (with_reducible repeat (first | apply Kd.N_alloc | apply Kd.N_drewN | apply Kd.N_drew)); exact HO185.out)) k_ hk, Kd.freshB (g := gb162) (o := .cells #[.string (⟨#[]⟩ : ByteArray), .string (⟨#[]⟩ : ByteArray), .string (⟨#[]⟩ : ByteArray), .slice none 0 0, .int .i64 0] 28 (0, 0)) (by (with_reducible repeat (first | refine blk_drewN ?_ _ | refine blk_drew ?_ | refine blk_alloc ?_ _)); exact BK162.out) k_ hk, Kd.freshB (g := gb168) (o := .cells #[.string t176, .string t177, .string t178, .slice Ao33 t179.length co33, .int .i64 t182] 28 (0, 0)) (by (with_reducible repeat (first | refine blk_drewN ?_ _ | refine blk_drew ?_ | refine blk_alloc ?_ _)); exact BK168.out) k_ hk⟩)); (case aO => exact (by (with_reducible repeat (first | apply Kd.N_alloc | apply Kd.N_drewN | apply Kd.N_drew)); exact Kd.N_mono HO188.out (fun _ hk => ⟨hk.1, ⟨hk.2.2.1, ⟨hk.2.2.2.1, ⟨hk.2.2.2.2.1, ⟨hk.2.2.2.2.2.1, hk.2.2.2.2.2.2⟩⟩⟩⟩⟩))); (case aS => exact (below_size (by repeat (first | (with_reducible first | exact HB.out | apply below_alloc | apply pw_below_drewN | apply below_drew1 | refine below_set ?_ GE162.out | refine below_set ?_ GE168.out) | exact HB.out)))); (case aL => have := LMc22.out; omega); intro v195 w39 ho hb hg hat; rw [← Ny194.out] at ho; have n0_ := Aside0.mk (Kd.N_afterv (ok := (fun k_ => (P0_ k_ ∨ w.heap.size ≤ k_) ∧ some k_ ≠ (v173 : Value).ownBlock ∧ some k_ ≠ (.slice Ao33 t179.length co33 : Value).ownBlock ∧ some k_ ≠ (v184 : Value).ownBlock ∧ k_ ≠ gb162 ∧ k_ ≠ gb168)) (by (with_reducible repeat (first | apply Kd.N_alloc | apply Kd.N_drewN | apply Kd.N_drew)); exact Kd.N_mono HO_7.out (fun _ hk => ⟨⟨hk.1.1, ⟨hk.1.2.1, ⟨hk.1.2.2.2.2.1, ⟨hk.1.2.2.2.2.2, ⟨hk.1.2.2.1, hk.1.2.2.2.1⟩⟩⟩⟩⟩, hk.2⟩)) hg hat); have n1_ := Aside0.mk (blk_grown (g := gb162) (o := .cells #[.string (⟨#[]⟩ : ByteArray), .string (⟨#[]⟩ : ByteArray), .string (⟨#[]⟩ : ByteArray), .slice none 0 0, .int .i64 0] 28 (0, 0)) (by (with_reducible repeat (first | refine blk_drewN ?_ _ | refine blk_drew ?_ | refine blk_alloc ?_ _)); exact BK162.out) hg (Kd.N_ne HO188.out BK162.out (by decide))); have n2_ := Aside0.mk (blk_grown (g := gb168) (o := .cells #[.string t176, .string t177, .string t178, .slice Ao33 t179.length co33, .int .i64 t182] 28 (0, 0)) (by (with_reducible repeat (first | refine blk_drewN ?_ _ | refine blk_drew ?_ | refine blk_alloc ?_ _)); exact BK168.out) hg (Kd.N_ne HO188.out BK168.out (by decide))); have n3_ := Aside0.mk (Kd.N_afterv (ok := (fun k_ => (P0_ k_ ∨ w.heap.size ≤ k_) ∧ some k_ ≠ (.slice (some ad175) x7_2.length co24 : Value).ownBlock ∧ some k_ ≠ (.slice Ao33 t179.length co33 : Value).ownBlock ∧ some k_ ≠ (v184 : Value).ownBlock ∧ k_ ≠ gb162 ∧ k_ ≠ gb168)) (by (with_reducible repeat (first | apply Kd.N_alloc | apply Kd.N_drewN | apply Kd.N_drew)); exact Kd.N_mono HO174.out (fun _ hk => ⟨⟨hk.1.1, ⟨hk.1.2.1, ⟨hk.1.2.2.2.2.1, ⟨hk.1.2.2.2.2.2, ⟨hk.1.2.2.1, hk.1.2.2.2.1⟩⟩⟩⟩⟩, hk.2⟩)) hg hat); have n4_ := Aside0.mk (Kd.R_over' (zr HO181.out) (Kd.N_typed (by (with_reducible repeat (first | apply Kd.N_alloc | apply Kd.N_drewN | apply Kd.N_drew)); exact HO188.out)) (by decide) hg); have n5_ := Aside0.mk (Kd.N_afterv (ok := (fun k_ => (P0_ k_ ∨ w.heap.size ≤ k_) ∧ some k_ ≠ (.slice (some ad175) x7_2.length co24 : Value).ownBlock ∧ some k_ ≠ (v173 : Value).ownBlock ∧ some k_ ≠ (.slice Ao33 t179.length co33 : Value).ownBlock ∧ k_ ≠ gb162 ∧ k_ ≠ gb168)) (by (with_reducible repeat (first | apply Kd.N_alloc | apply Kd.N_drewN | apply Kd.N_drew)); exact Kd.N_mono HO185.out (fun _ hk => ⟨⟨hk.1.1, ⟨hk.1.2.2.1, ⟨hk.1.2.2.2.1, ⟨hk.1.2.1, ⟨hk.1.2.2.2.2.1, hk.1.2.2.2.2.2⟩⟩⟩⟩⟩, hk.2⟩)) hg hat); have n6_ := Aside0.mk (Kd.V_afterv (ok := (fun k_ => (P0_ k_ ∨ w.heap.size ≤ k_) ∧ some k_ ≠ (v173 : Value).ownBlock ∧ some k_ ≠ (.slice Ao33 t179.length co33 : Value).ownBlock ∧ some k_ ≠ (v184 : Value).ownBlock ∧ k_ ≠ gb162 ∧ k_ ≠ gb168)) (by (with_reducible repeat (first | apply Kd.V_alloc | apply Kd.V_drewN | apply Kd.V_drew)); exact Kd.V_mono HO193.out (fun _ hk => ⟨⟨hk.1.1, ⟨hk.1.2.1, ⟨hk.1.2.2.2.2.1, ⟨hk.1.2.2.2.2.2, ⟨hk.1.2.2.1, hk.1.2.2.2.1⟩⟩⟩⟩⟩, hk.2⟩)) hg hat); have n7_ := Aside0.mk (hb); have n8_ := Aside0.mk (ho); clear HO_7; clear BK162; clear BK168; clear HO174; clear HO181; clear HO185; clear HO193; clear HB; clear HO188; have HO_7 := n0_; have BK162 := n1_; have BK168 := n2_; have HO174 := n3_; have HO181 := n4_; have HO185 := n5_; have HO193 := n6_; have HB := n7_; have HO196 := n8_; clear n0_ n1_ n2_ n3_ n4_ n5_ n6_ n7_ n8_; clear ho hb hg hat; obtain ⟨Ao41, co41, eo41⟩ := Kd.N_slice HO185.out; subst eo41) | ((with_reducible refine gate_builtin (b := .append) (xs := #[.tmp 39, .tmp 40]) rfl ?_); at_builtin; refine Kd.N_append_rows k89 (w0 := w) w.heap.size rfl (.tmp 39) (.tmp 40) 90 89 (.agg #[(.slice none 0 0), (.int .i64 0)]) 32 rfl Try.underlying90 info89 rfl (by decide) (by omega) v195 y194 t183 _ _ _ (fun k_ => (P0_ k_ ∨ w.heap.size ≤ k_) ∧ some k_ ≠ (v173 : Value).ownBlock ∧ some k_ ≠ (.slice Ao33 t179.length co33 : Value).ownBlock ∧ k_ ≠ gb162 ∧ k_ ≠ gb168) (fun k_ => ((fun k_ => (P0_ k_ ∨ w.heap.size ≤ k_) ∧ some k_ ≠ (v173 : Value).ownBlock ∧ some k_ ≠ (.slice Ao33 t179.length co33 : Value).ownBlock ∧ k_ ≠ gb162 ∧ k_ ≠ gb168)) k_ ∧ some k_ ≠ (v195 : Value).ownBlock) rfl rfl ?aO ?aR (fun _ hk => hk) ?aF ?aB ?aS ?aL ?_; (case aR => exact (by skip; exact Kd.N_F (Kd.N_mono (ok' := (fun k_ => ((fun k_ => (P0_ k_ ∨ w.heap.size ≤ k_) ∧ some k_ ≠ (v173 : Value).ownBlock ∧ some k_ ≠ (.slice Ao33 t179.length co33 : Value).ownBlock ∧ k_ ≠ gb162 ∧ k_ ≠ gb168)) k_ ∧ some k_ ≠ (v195 : Value).ownBlock)) (HO185.out) (fun k_ hk => ⟨⟨hk.1.1, ⟨hk.1.2.2.1, ⟨hk.1.2.2.2.1, ⟨hk.1.2.2.2.2.1, hk.1.2.2.2.2.2⟩⟩⟩⟩, hk.2⟩)))); (case aB => exact (by repeat (first | (with_reducible first | exact HB.out | apply below_alloc | apply pw_below_drewN | apply below_drew1 | refine below_set ?_ GE162.out | refine below_set ?_ GE168.out) | exact HB.out))); (case aF => exact (fun k_ hk => ⟨(.inr (Nat.le_trans (below_size (by repeat (first | (with_reducible first | exact HB.out | apply below_alloc | apply pw_below_drewN | apply below_drew1 | refine below_set ?_ GE162.out | refine below_set ?_ GE168.out) | exact HB.out))) hk)), Kd.fresh' (Kd.N_lt (by (with_reducible repeat (first | apply Kd.N_alloc | apply Kd.N_drewN | apply Kd.N_drew)); exact HO174.out)) k_ hk, Kd.fresh' (Kd.R_lt (zr HO181.out)) k_ hk, Kd.freshB (g := gb162) (o := .cells #[.string (⟨#[]⟩ : ByteArray), .string (⟨#[]⟩ : ByteArray), .string (⟨#[]⟩ : ByteArray), .slice none 0 0, .int .i64 0] 28 (0, 0)) (by (with_reducible repeat (first | refine blk_drewN ?_ _ | refine blk_drew ?_ | refine blk_alloc ?_ _)); exact BK162.out) k_ hk, Kd.freshB (g := gb168) (o := .cells #[.string t176, .string t177, .string t178, .slice Ao33 t179.length co33, .int .i64 t182] 28 (0, 0)) (by (with_reducible repeat (first | refine blk_drewN ?_ _ | refine blk_drew ?_ | refine blk_alloc ?_ _)); exact BK168.out) k_ hk⟩)); (case aO => exact (by (with_reducible repeat (first | apply Kd.N_alloc | apply Kd.N_drewN | apply Kd.N_drew)); exact Kd.N_mono HO196.out (fun _ hk => ⟨hk.1, ⟨hk.2.1, ⟨hk.2.2.1, ⟨hk.2.2.2.2.1, hk.2.2.2.2.2⟩⟩⟩⟩))); (case aS => exact (below_size (by repeat (first | (with_reducible first | exact HB.out | apply below_alloc | apply pw_below_drewN | apply below_drew1 | refine below_set ?_ GE162.out | refine below_set ?_ GE168.out) | exact HB.out)))); (case aL => have := LMc23.out; omega); intro v198 w40 ho hb hg hat; rw [← Ny197.out] at ho; have n0_ := Aside0.mk (Kd.N_afterv (ok := (fun k_ => (P0_ k_ ∨ w.heap.size ≤ k_) ∧ some k_ ≠ (v173 : Value).ownBlock ∧ some k_ ≠ (.slice Ao33 t179.length co33 : Value).ownBlock ∧ some k_ ≠ (.slice Ao41 t183.length co41 : Value).ownBlock ∧ k_ ≠ gb162 ∧ k_ ≠ gb168)) (by (with_reducible repeat (first | apply Kd.N_alloc | apply Kd.N_drewN | apply Kd.N_drew)); exact HO_7.out) hg hat); have n1_ := Aside0.mk (blk_grown (g := gb162) (o := .cells #[.string (⟨#[]⟩ : ByteArray), .string (⟨#[]⟩ : ByteArray), .string (⟨#[]⟩ : ByteArray), .slice none 0 0, .int .i64 0] 28 (0, 0)) (by (with_reducible repeat (first | refine blk_drewN ?_ _ | refine blk_drew ?_ | refine blk_alloc ?_ _)); exact BK162.out) hg (Kd.N_ne HO196.out BK162.out (by decide))); have n2_ := Aside0.mk (blk_grown (g := gb168) (o := .cells #[.string t176, .string t177, .string t178, .slice Ao33 t179.length co33, .int .i64 t182] 28 (0, 0)) (by (with_reducible repeat (first | refine blk_drewN ?_ _ | refine blk_drew ?_ | refine blk_alloc ?_ _)); exact BK168.out) hg (Kd.N_ne HO196.out BK168.out (by decide))); have n3_ := Aside0.mk (Kd.N_afterv (ok := (fun k_ => (P0_ k_ ∨ w.heap.size ≤ k_) ∧ some k_ ≠ (.slice (some ad175) x7_2.length co24 : Value).ownBlock ∧ some k_ ≠ (.slice Ao33 t179.length co33 : Value).ownBlock ∧ some k_ ≠ (.slice Ao41 t183.length co41 : Value).ownBlock ∧ k_ ≠ gb162 ∧ k_ ≠ gb168)) (by (with_reducible repeat (first | apply Kd.N_alloc | apply Kd.N_drewN | apply Kd.N_drew)); exact HO174.out) hg hat); have n4_ := Aside0.mk (Kd.R_over' (zr HO181.out) (Kd.N_typed (by (with_reducible repeat (first | apply Kd.N_alloc | apply Kd.N_drewN | apply Kd.N_drew)); exact HO196.out)) (by decide) hg); have n5_ := Aside0.mk (Kd.N_afterv (ok := (fun k_ => (P0_ k_ ∨ w.heap.size ≤ k_) ∧ some k_ ≠ (.slice (some ad175) x7_2.length co24 : Value).ownBlock ∧ some k_ ≠ (v173 : Value).ownBlock ∧ some k_ ≠ (.slice Ao33 t179.length co33 : Value).ownBlock ∧ k_ ≠ gb162 ∧ k_ ≠ gb168)) (by (with_reducible repeat (first | apply Kd.N_alloc | apply Kd.N_drewN | apply Kd.N_drew)); exact HO185.out) hg hat); have n6_ := Aside0.mk (Kd.V_afterv (ok := (fun k_ => (P0_ k_ ∨ w.heap.size ≤ k_) ∧ some k_ ≠ (v173 : Value).ownBlock ∧ some k_ ≠ (.slice Ao33 t179.length co33 : Value).ownBlock ∧ some k_ ≠ (.slice Ao41 t183.length co41 : Value).ownBlock ∧ k_ ≠ gb162 ∧ k_ ≠ gb168)) (by (with_reducible repeat (first | apply Kd.V_alloc | apply Kd.V_drewN | apply Kd.V_drew)); exact HO193.out) hg hat); have n7_ := Aside0.mk (hb); have n8_ := Aside0.mk (ho); clear HO_7; clear BK162; clear BK168; clear HO174; clear HO181; clear HO185; clear HO193; clear HB; clear HO196; have HO_7 := n0_; have BK162 := n1_; have BK168 := n2_; have HO174 := n3_; have HO181 := n4_; have HO185 := n5_; have HO193 := n6_; have HB := n7_; have HO199 := n8_; clear n0_ n1_ n2_ n3_ n4_ n5_ n6_ n7_ n8_; clear ho hb hg hat))
                      go_roundg k2
                      case measure => have := HJ2.out; have := HK2.out; omega
                      case rel => exact ⟨(y197), (t176), (t177), (t178), (t179), (t182), (.slice Ao33 t179.length co33), H', ⟨by have := HJ2.out; have := HK2.out; omega⟩, ⟨by (with_reducible repeat (first | apply Kd.N_alloc | apply Kd.N_drewN | apply Kd.N_drew)); exact Kd.N_mono HO199.out (fun _ hk => ⟨hk.1, ⟨hk.2.2.1, ⟨hk.2.2.2.1, hk.2.2.2.2⟩⟩⟩)⟩, ⟨zr HO181.out⟩, ⟨by (with_reducible repeat (first | refine blk_drewN ?_ _ | refine blk_drew ?_ | refine blk_alloc ?_ _)); exact BK162.out⟩, ⟨by (with_reducible repeat (first | refine blk_drewN ?_ _ | refine blk_drew ?_ | refine blk_alloc ?_ _)); exact BK168.out⟩, ⟨by repeat (first | (with_reducible first | exact HB.out | apply below_alloc | apply pw_below_drewN | apply below_drew1 | refine below_set ?_ GE162.out | refine below_set ?_ GE168.out) | exact HB.out)⟩⟩
                    · rw [if_neg c23] at H
                      exact absurd H (by simp)
                  · rw [if_neg c22] at H
                    exact absurd H (by simp)
                · rw [if_neg c21] at H
                  exact absurd H (by simp)
              · rw [if_neg c19] at H
                exact absurd H (by simp)
            · rw [if_neg c18] at H
              have c18b0 : decide (0 < (x7_2.length : Int)) = false := decide_eq_false c18
              have c18b1 : decide (0 < x7_2.length) = false := decide_eq_false (by omega)
              clear c18
              simp only [Option.some.injEq, Prod.mk.injEq] at H
              obtain ⟨rfl, rfl, rfl, rfl, rfl, rfl⟩ := H
              obtain ⟨Ao42, co42, eo42⟩ := Kd.N_slice HO_7.out
              subst eo42
              have hnb43 := NB168_162.out
              have hnc43 := NB162_168.out
              have hcz44_0 : wr.cell? ⟨gb168, 0, none⟩ = some (.string x169000_2) := (blk_cell BK168.out 0).trans rfl
              have hcz44_1 : wr.cell? ⟨gb168, 1, none⟩ = some (.string x169001_2) := (blk_cell BK168.out 1).trans rfl
              have hcz44_2 : wr.cell? ⟨gb168, 2, none⟩ = some (.string x169002_2) := (blk_cell BK168.out 2).trans rfl
              have hcz44_3 : wr.cell? ⟨gb168, 3, none⟩ = some (u169003) := (blk_cell BK168.out 3).trans rfl
              have hcz44_4 : wr.cell? ⟨gb168, 4, none⟩ = some (.int .i64 x169004_2) := (blk_cell BK168.out 4).trans rfl
              have hfz44_0 := blk_frozen BK168.out 0
              have hfz44_1 := blk_frozen BK168.out 1
              have hfz44_2 := blk_frozen BK168.out 2
              have hfz44_3 := blk_frozen BK168.out 3
              have hfz44_4 := blk_frozen BK168.out 4
              have hcz45_0 : wr.cell? ⟨gb162, 0, none⟩ = some (.string (⟨#[]⟩ : ByteArray)) := (blk_cell BK162.out 0).trans rfl
              have hcz45_1 : wr.cell? ⟨gb162, 1, none⟩ = some (.string (⟨#[]⟩ : ByteArray)) := (blk_cell BK162.out 1).trans rfl
              have hcz45_2 : wr.cell? ⟨gb162, 2, none⟩ = some (.string (⟨#[]⟩ : ByteArray)) := (blk_cell BK162.out 2).trans rfl
              have hcz45_3 : wr.cell? ⟨gb162, 3, none⟩ = some (.slice none 0 0) := (blk_cell BK162.out 3).trans rfl
              have hcz45_4 : wr.cell? ⟨gb162, 4, none⟩ = some (.int .i64 0) := (blk_cell BK162.out 4).trans rfl
              have hfz45_0 := blk_frozen BK162.out 0
              have hfz45_1 := blk_frozen BK162.out 1
              have hfz45_2 := blk_frozen BK162.out 2
              have hfz45_3 := blk_frozen BK162.out 3
              have hfz45_4 := blk_frozen BK162.out 4
              obtain ⟨Ao46, co46, eo46⟩ := Kd.R_slice HO_169003.out
              subst eo46
              go_wp2
              refine bodyPost_ret (results_ct rfl _ _ gb162 28 #[.string x169000_2, .string x169001_2, .string x169002_2, .slice Ao46 x169003_2.length co46, .int .i64 x169004_2] (0, 0) _ rfl (by (with_reducible repeat (first | refine blk_drewN ?_ _ | refine blk_drew ?_ | refine blk_alloc ?_ _)); refine blk_put (cs := #[.string x169000_2, .string x169001_2, .string x169002_2, .slice Ao46 x169003_2.length co46, .int .i64 0]) ?_ 4 _ rfl; (with_reducible repeat (first | refine blk_drewN ?_ _ | refine blk_drew ?_ | refine blk_alloc ?_ _)); refine blk_put (cs := #[.string x169000_2, .string x169001_2, .string x169002_2, .slice none 0 0, .int .i64 0]) ?_ 3 _ rfl; (with_reducible repeat (first | refine blk_drewN ?_ _ | refine blk_drew ?_ | refine blk_alloc ?_ _)); refine blk_put (cs := #[.string x169000_2, .string x169001_2, .string (⟨#[]⟩ : ByteArray), .slice none 0 0, .int .i64 0]) ?_ 2 _ rfl; (with_reducible repeat (first | refine blk_drewN ?_ _ | refine blk_drew ?_ | refine blk_alloc ?_ _)); refine blk_put (cs := #[.string x169000_2, .string (⟨#[]⟩ : ByteArray), .string (⟨#[]⟩ : ByteArray), .slice none 0 0, .int .i64 0]) ?_ 1 _ rfl; (with_reducible repeat (first | refine blk_drewN ?_ _ | refine blk_drew ?_ | refine blk_alloc ?_ _)); refine blk_put (cs := #[.string (⟨#[]⟩ : ByteArray), .string (⟨#[]⟩ : ByteArray), .string (⟨#[]⟩ : ByteArray), .slice none 0 0, .int .i64 0]) ?_ 0 _ rfl; (with_reducible repeat (first | refine blk_drewN ?_ _ | refine blk_drew ?_ | refine blk_alloc ?_ _)); exact BK162.out) Try.underlying28 rfl (by kernel_rfl)) rfl ?_
              exact ⟨_, ze, Kd.R_mono (zr (Kd.R_far (p := ⟨gb162, 4, none⟩) (Kd.R_far (p := ⟨gb162, 3, none⟩) (Kd.R_far (p := ⟨gb162, 2, none⟩) (Kd.R_far (p := ⟨gb162, 1, none⟩) (Kd.R_far (p := ⟨gb162, 0, none⟩) (Kd.R_types HO_169003.out BK162.out (by decide)) (fun _ hk => hk.2) (.string x169000_2)) (fun _ hk => hk.2) (.string x169001_2)) (fun _ hk => hk.2) (.string x169002_2)) (fun _ hk => hk.2) (.slice Ao46 x169003_2.length co46)) (fun _ hk => hk.2) (.int .i64 x169004_2))) (fun _ hk => hk.1), by repeat (first | (with_reducible first | exact HB.out | apply below_alloc | apply pw_below_drewN | apply below_drew1 | refine below_set ?_ GE162.out | refine below_set ?_ GE168.out) | exact HB.out)⟩
end Go.Proofs.Ytonagfbadoacjaa.Q
end
section
namespace Go.Proofs.Ytonagfbadoacjaa.Q
open Go.RowKit Go.Proofs.YtonagfbadoacjaaW.PrintWords Go.Proofs.YtonagfbadoacjaaW.PrintLast Go.Proofs.YtonagfbadoacjaaW.PrintMore
attribute [local go_sem] max2_int min2_int max_two min_two max_three min_three max_four min_four   
set_option linter.unusedVariables false
set_option linter.unusedSimpArgs false
theorem impl_KeyOk.mono_l : ∀ k, (∀ y0 y1 y2, LeO (impl_KeyOk.l0 k y0 y1 y2) (impl_KeyOk.l0 (k + 1) y0 y1 y2))
  | 0 => fun _ _ _ r h => by simp [impl_KeyOk.l0] at h
  | k + 1 => by
    have ih0 := impl_KeyOk.mono_l k
    · intro y0 y1 y2
      unfold impl_KeyOk.l0
      repeat' first
      | (with_reducible exact ih0 _ _ _)
      | (with_reducible exact LeO.refl _)
      | (with_reducible exact LeO.none _)
      | (with_reducible refine LeO.ite ?_ ?_)
      | (with_reducible refine LeO.bind ?_ (fun _ => ?_))
      | exact ih0 _ _ _
      | exact LeO.none _
      | refine LeO.ite ?_ ?_
      | refine LeO.bind ?_ (fun _ => ?_)
theorem impl_KeyOk.mono : ∀ a0 k, LeO (impl_KeyOk.f k a0) (impl_KeyOk.f (k + 1) a0) := by
  intro a0 k
  have ih0 := impl_KeyOk.mono_l k
  unfold impl_KeyOk.f
  repeat' first
      | (with_reducible exact ih0 _ _ _)
      | (with_reducible exact LeO.refl _)
      | (with_reducible exact LeO.none _)
      | (with_reducible refine LeO.ite ?_ ?_)
      | (with_reducible refine LeO.bind ?_ (fun _ => ?_))
      | exact ih0 _ _ _
      | exact LeO.none _
      | refine LeO.ite ?_ ?_
      | refine LeO.bind ?_ (fun _ => ?_)
set_option maxHeartbeats 8000000 in
set_option maxRecDepth 100000 in
theorem impl_KeyOk.calls (k : Nat) (a0 : ByteArray) (r : Bool) (w : World) (h : impl_KeyOk.f k a0 = some r) :
    Calls Try.prog 85 #[.string a0] w fun e w' => e = .returned (.bool r) ∧ Drawn0 w w' := by
  have H : (impl_KeyOk.l0 k a0 (a0.size : Int) 0) = some r := h
  clear h
  have H' := Aside0.mk H
  clear H
  go_enter Try.func85, Try.ntmps85
  go_wp2
  go_loopg [6] k (fun kq v6 w' => ∃ (x6_1 : Int), v6 = .int .i64 x6_1 ∧ Aside0 (impl_KeyOk.l0 kq a0 (a0.size : Int) x6_1 = some r) ∧ Aside0 (kq ≤ k) ∧ Drawn0 w w')
  case atStart => exact ⟨(0), zf, H', ⟨Nat.le_refl _⟩, by repeat (first | exact Drawn0.refl _ | apply Drawn0.step)⟩
  case round =>
    clear H'
    obtain ⟨x6_1, rfl, HA, HK1, ⟨m1, rfl⟩⟩ := hrel
    cases gk with
    | zero => exact absurd HA.out (by simp [impl_KeyOk.l0])
    | succ k1 =>
      have H := HA.out
      clear HA
      simp only [impl_KeyOk.l0] at H
      by_cases c2 : x6_1 < (a0.size : Int)
      · rw [if_pos c2] at H
        have c2b0 : decide (x6_1 < (a0.size : Int)) = true := decide_eq_true c2
        clear c2
        by_cases c3 : 0 ≤ x6_1
        · rw [if_pos c3] at H
          have c3b0 : decide (0 ≤ x6_1) = true := decide_eq_true c3
          clear c3
          by_cases c4 : x6_1 < (a0.size : Int)
          · rw [if_pos c4] at H
            have c4b0 : decide (x6_1 < (a0.size : Int)) = true := decide_eq_true c4
            clear c4
            by_cases c6 : (bt a0 x6_1) < 97
            · rw [if_pos c6] at H
              have c6b0 : decide ((bt a0 x6_1) < 97) = true := decide_eq_true c6
              clear c6
              obtain rfl := Option.some.inj H
              have p5 : 0 ≤ (x6_1 : Int) := zd
              have q5 : x6_1 < (a0.size : Int) := zd
              have hx5 := bt_at a0 x6_1
              replace p5 := eq_true p5
              replace q5 := eq_true q5
              go_wp2
              go_ret
              exact ⟨zf, by repeat (first | exact Drawn0.refl _ | apply Drawn0.step)⟩
            · rw [if_neg c6] at H
              have c6b0 : decide ((bt a0 x6_1) < 97) = false := decide_eq_false c6
              clear c6
              by_cases c8 : (bt a0 x6_1) > 100
              · rw [if_pos c8] at H
                have c8b0 : decide (100 < (bt a0 x6_1)) = true := decide_eq_true c8
                clear c8
                obtain rfl := Option.some.inj H
                have p5 : 0 ≤ (x6_1 : Int) := zd
                have q5 : x6_1 < (a0.size : Int) := zd
                have hx5 := bt_at a0 x6_1
                replace p5 := eq_true p5
                replace q5 := eq_true q5
                have p7 : 0 ≤ (x6_1 : Int) := zd
                have q7 : x6_1 < (a0.size : Int) := zd
                have hx7 := bt_at a0 x6_1
                replace p7 := eq_true p7
                replace q7 := eq_true q7
                go_wp2
                go_ret
                exact ⟨zf, by repeat (first | exact Drawn0.refl _ | apply Drawn0.step)⟩
              · rw [if_neg c8] at H
                have c8b0 : decide (100 < (bt a0 x6_1)) = false := decide_eq_false c8
                clear c8
                have H' := Aside0.mk H
                clear H
                have p5 : 0 ≤ (x6_1 : Int) := zd
                have q5 : x6_1 < (a0.size : Int) := zd
                have hx5 := bt_at a0 x6_1
                replace p5 := eq_true p5
                replace q5 := eq_true q5
                have p7 : 0 ≤ (x6_1 : Int) := zd
                have q7 : x6_1 < (a0.size : Int) := zd
                have hx7 := bt_at a0 x6_1
                replace p7 := eq_true p7
                replace q7 := eq_true q7
                go_wp2
                go_roundg k1
                case measure => have := HK1.out; omega
                case rel => exact ⟨(wrap64 (x6_1 + 1)), zf, H', ⟨by have := HK1.out; omega⟩, by repeat (first | exact Drawn0.refl _ | apply Drawn0.step)⟩
          · rw [if_neg c4] at H
            exact absurd H (by simp)
        · rw [if_neg c3] at H
          exact absurd H (by simp)
      · rw [if_neg c2] at H
        have c2b0 : decide (x6_1 < (a0.size : Int)) = false := decide_eq_false c2
        clear c2
        obtain rfl := Option.some.inj H
        go_wp2
        go_ret
        exact ⟨zf, by repeat (first | exact Drawn0.refl _ | apply Drawn0.step)⟩
end Go.Proofs.Ytonagfbadoacjaa.Q
end
section
namespace Go.Proofs.Ytonagfbadoacjaa.Q
open Go.RowKit Go.Proofs.YtonagfbadoacjaaW.PrintWords Go.Proofs.YtonagfbadoacjaaW.PrintLast Go.Proofs.YtonagfbadoacjaaW.PrintMore
attribute [local go_sem] max2_int min2_int max_two min_two max_three min_three max_four min_four   
set_option linter.unusedVariables false
set_option linter.unusedSimpArgs false
theorem impl_KeysOk.mono_l : ∀ k, (∀ y0 y1 y2 y3, LeO (impl_KeysOk.l0 k y0 y1 y2 y3) (impl_KeysOk.l0 (k + 1) y0 y1 y2 y3))
  | 0 => fun _ _ _ _ r h => by simp [impl_KeysOk.l0] at h
  | k + 1 => by
    have ih0 := impl_KeysOk.mono_l k
    · intro y0 y1 y2 y3
      unfold impl_KeysOk.l0
      repeat' first
      | (with_reducible exact ih0 _ _ _ _)
      | (with_reducible exact impl_KeyOk.mono _ _)
      | (with_reducible exact LeO.refl _)
      | (with_reducible exact LeO.none _)
      | (with_reducible refine LeO.ite ?_ ?_)
      | (with_reducible refine LeO.bind ?_ (fun _ => ?_))
      | exact ih0 _ _ _ _
      | exact impl_KeyOk.mono _ _
      | exact LeO.none _
      | refine LeO.ite ?_ ?_
      | refine LeO.bind ?_ (fun _ => ?_)
theorem impl_KeysOk.mono : ∀ a0 k, LeO (impl_KeysOk.f k a0) (impl_KeysOk.f (k + 1) a0) := by
  intro a0 k
  have ih0 := impl_KeysOk.mono_l k
  unfold impl_KeysOk.f
  repeat' first
      | (with_reducible exact ih0 _ _ _ _)
      | (with_reducible exact impl_KeyOk.mono _ _)
      | (with_reducible exact LeO.refl _)
      | (with_reducible exact LeO.none _)
      | (with_reducible refine LeO.ite ?_ ?_)
      | (with_reducible refine LeO.bind ?_ (fun _ => ?_))
      | exact ih0 _ _ _ _
      | exact impl_KeyOk.mono _ _
      | exact LeO.none _
      | refine LeO.ite ?_ ?_
      | refine LeO.bind ?_ (fun _ => ?_)
set_option maxHeartbeats 8000000 in
set_option maxRecDepth 100000 in
theorem impl_KeysOk.calls (k : Nat) (A0 : Option Addr) (c0 : Nat) (l0 : List ByteArray) (r : Bool) (w : World) (hr0 : Kd.C Kd.string w A0 l0.length l0) (hc0 : l0.length ≤ c0) (h : impl_KeysOk.f k l0 = some r) :
    Calls Try.prog 53 #[.slice A0 l0.length c0] w fun e w' => e = .returned (.bool r) ∧ Drawn0 w w' := by
  have HR0 := Aside0.mk hr0
  have HC0 := Aside0.mk hc0
  clear hr0 hc0
  have H : (impl_KeysOk.l0 k l0 l0 (l0.length : Int) 0) = some r := h
  clear h
  have H' := Aside0.mk H
  clear H
  go_enter Try.func53, Try.ntmps53
  go_wp2
  go_loopg [7] k (fun kq v7 w' => ∃ (x7_1 : Int), v7 = .int .i64 x7_1 ∧ Aside0 (impl_KeysOk.l0 kq l0 l0 (l0.length : Int) x7_1 = some r) ∧ Aside0 (kq ≤ k) ∧ Drawn0 w w')
  case atStart => exact ⟨(0), zf, H', ⟨Nat.le_refl _⟩, by repeat (first | exact Drawn0.refl _ | apply Drawn0.step)⟩
  case round =>
    clear H'
    obtain ⟨x7_1, rfl, HA, HK1, ⟨m1, rfl⟩⟩ := hrel
    cases gk with
    | zero => exact absurd HA.out (by simp [impl_KeysOk.l0])
    | succ k1 =>
      have H := HA.out
      clear HA
      simp only [impl_KeysOk.l0] at H
      by_cases c2 : x7_1 < (l0.length : Int)
      · rw [if_pos c2] at H
        have c2b0 : decide (x7_1 < (l0.length : Int)) = true := decide_eq_true c2
        clear c2
        by_cases c3 : 0 ≤ x7_1
        · rw [if_pos c3] at H
          have c3b0 : decide (0 ≤ x7_1) = true := decide_eq_true c3
          clear c3
          by_cases c4 : x7_1 < (l0.length : Int)
          · rw [if_pos c4] at H
            have c4b0 : decide (x7_1 < (l0.length : Int)) = true := decide_eq_true c4
            clear c4
            replace H := Option.bind_eq_some_iff.mp H
            obtain ⟨t326, A50, H⟩ := H
            (try dsimp only at H)
            have A5 := Aside0.mk A50
            clear A50
            by_cases c6 : t326 = true
            · subst c6
              have H1 : (if x7_1 > 0 then (if 0 ≤ (wrap64 (x7_1 - 1)) then (if (wrap64 (x7_1 - 1)) < (l0.length : Int) then (if ((Op.bytesLess ((rdOf ByteArray.empty l0 (wrap64 (x7_1 - 1))).toList) ((rdOf ByteArray.empty l0 x7_1).toList)) = true) then (impl_KeysOk.l0 k1 l0 l0 (l0.length : Int) (wrap64 (x7_1 + 1))) else (some false)) else (none)) else (none)) else (impl_KeysOk.l0 k1 l0 l0 (l0.length : Int) (wrap64 (x7_1 + 1)))) = some r := by rw [if_pos rfl] at H; exact H
              clear H
              have H := H1
              clear H1
              by_cases c7 : x7_1 > 0
              · rw [if_pos c7] at H
                have c7b0 : decide (0 < x7_1) = true := decide_eq_true c7
                clear c7
                obtain ⟨ji8, hji8⟩ : ∃ j_ : Int, (wrap64 (x7_1 - 1)) = j_ := ⟨_, rfl⟩
                replace H : (if 0 ≤ (ji8) then (if (ji8) < (l0.length : Int) then (if ((Op.bytesLess ((rdOf ByteArray.empty l0 (ji8)).toList) ((rdOf ByteArray.empty l0 x7_1).toList)) = true) then (impl_KeysOk.l0 k1 l0 l0 (l0.length : Int) (wrap64 (x7_1 + 1))) else (some false)) else (none)) else (none)) = some r := by first | (rw [hji8] at H; exact H) | (simp only [hji8] at H ⊢; exact H)
                (try rw [hji8] at A5)
                have hji8w : (IntKind.i64.wrap (x7_1 - 1)) = ji8 := (i64_w _).trans hji8
                by_cases c9 : 0 ≤ (ji8)
                · rw [if_pos c9] at H
                  have c9b0 : decide (0 ≤ (ji8)) = true := decide_eq_true c9
                  clear c9
                  by_cases c10 : (ji8) < (l0.length : Int)
                  · rw [if_pos c10] at H
                    have c10b0 : decide ((ji8) < (l0.length : Int)) = true := decide_eq_true c10
                    clear c10
                    have p325 : 0 ≤ (x7_1 : Int) := zd
                    have q325 : x7_1 < (l0.length : Int) := zd
                    obtain ⟨ad325, e325, hx325_0⟩ := Kd.at_string HR0.out x7_1 p325 q325
                    cases e325
                    replace p325 := eq_true p325
                    replace q325 := eq_true q325
                    go_upto_if 27 with (first | ((with_reducible refine gate_callee (f := 85) rfl ?_); refine goesL_ (some 13) rfl rfl Try.func85 (by kernel_rfl) rfl #[.string (rdOf ByteArray.empty l0 x7_1)] rfl (by (try simp only [List.map_toArray, List.map_cons, List.map_nil]); first | done | rfl | (simp only [List.length_drop, List.length_take]; rfl)) ?_; (with_reducible refine (impl_KeyOk.calls k1 (rdOf ByteArray.empty l0 x7_1) true _ A5.out).mono ?_); rintro e w' ⟨rfl, ⟨nd, rfl⟩⟩; refine ⟨_, rfl, ?_⟩; have p327 : 0 ≤ ((ji8) : Int) := zd; have q327 : (ji8) < (l0.length : Int) := zd; obtain ⟨ad327, e327, hx327_0⟩ := Kd.at_string HR0.out (ji8) p327 q327; obtain rfl : ad325 = ad327 := (by injection e327); replace p327 := eq_true p327; replace q327 := eq_true q327))
                    by_cases c11 : ((Op.bytesLess ((rdOf ByteArray.empty l0 (ji8)).toList) ((rdOf ByteArray.empty l0 x7_1).toList)) = true)
                    · rw [if_pos c11] at H
                      have c11b0 : (Op.bytesLess ((rdOf ByteArray.empty l0 (ji8)).toList) ((rdOf ByteArray.empty l0 x7_1).toList)) = true := c11
                      clear c11
                      (first | rw [c11b0] | (simp only [i64_w, i32_w]; rw [c11b0]) | simp only [*, Bool.not_true, Bool.not_false] | skip)
                      have H' := Aside0.mk H
                      clear H
                      go_wp2
                      go_roundg k1
                      case measure => have := HK1.out; omega
                      case rel => exact ⟨(wrap64 (x7_1 + 1)), zf, H', ⟨by have := HK1.out; omega⟩, by repeat (first | exact Drawn0.refl _ | apply Drawn0.step)⟩
                    · rw [if_neg c11] at H
                      have c11b0 : (Op.bytesLess ((rdOf ByteArray.empty l0 (ji8)).toList) ((rdOf ByteArray.empty l0 x7_1).toList)) = false := by simpa using c11
                      clear c11
                      (first | rw [c11b0] | (simp only [i64_w, i32_w]; rw [c11b0]) | simp only [*, Bool.not_true, Bool.not_false] | skip)
                      obtain rfl := Option.some.inj H
                      go_wp2
                      go_ret
                      exact ⟨by first | rfl | (simp; done) | (simp only [← hji8] <;> (first | rfl | simp)) | (simp [*]; done), by repeat (first | exact Drawn0.refl _ | apply Drawn0.step)⟩
                  · rw [if_neg c10] at H
                    exact absurd H (by simp)
                · rw [if_neg c9] at H
                  exact absurd H (by simp)
              · rw [if_neg c7] at H
                have c7b0 : decide (0 < x7_1) = false := decide_eq_false c7
                clear c7
                have H' := Aside0.mk H
                clear H
                have p325 : 0 ≤ (x7_1 : Int) := zd
                have q325 : x7_1 < (l0.length : Int) := zd
                obtain ⟨ad325, e325, hx325_0⟩ := Kd.at_string HR0.out x7_1 p325 q325
                cases e325
                replace p325 := eq_true p325
                replace q325 := eq_true q325
                go_wp2_with (first | ((with_reducible refine gate_callee (f := 85) rfl ?_); refine goesL_ (some 13) rfl rfl Try.func85 (by kernel_rfl) rfl #[.string (rdOf ByteArray.empty l0 x7_1)] rfl (by (try simp only [List.map_toArray, List.map_cons, List.map_nil]); first | done | rfl | (simp only [List.length_drop, List.length_take]; rfl)) ?_; (with_reducible refine (impl_KeyOk.calls k1 (rdOf ByteArray.empty l0 x7_1) true _ A5.out).mono ?_); rintro e w' ⟨rfl, ⟨nd, rfl⟩⟩; refine ⟨_, rfl, ?_⟩))
                go_roundg k1
                case measure => have := HK1.out; omega
                case rel => exact ⟨(wrap64 (x7_1 + 1)), zf, H', ⟨by have := HK1.out; omega⟩, by repeat (first | exact Drawn0.refl _ | apply Drawn0.step)⟩
            · replace c6 := Bool.eq_false_iff.mpr c6
              subst c6
              have H1 : (some false) = some r := by rw [if_neg (show ¬ (false = true) by decide)] at H; exact H
              clear H
              have H := H1
              clear H1
              obtain rfl := Option.some.inj H
              have p325 : 0 ≤ (x7_1 : Int) := zd
              have q325 : x7_1 < (l0.length : Int) := zd
              obtain ⟨ad325, e325, hx325_0⟩ := Kd.at_string HR0.out x7_1 p325 q325
              cases e325
              replace p325 := eq_true p325
              replace q325 := eq_true q325
              go_wp2_with (first | ((with_reducible refine gate_callee (f := 85) rfl ?_); refine goesL_ (some 13) rfl rfl Try.func85 (by kernel_rfl) rfl #[.string (rdOf ByteArray.empty l0 x7_1)] rfl (by (try simp only [List.map_toArray, List.map_cons, List.map_nil]); first | done | rfl | (simp only [List.length_drop, List.length_take]; rfl)) ?_; (with_reducible refine (impl_KeyOk.calls k1 (rdOf ByteArray.empty l0 x7_1) false _ A5.out).mono ?_); rintro e w' ⟨rfl, ⟨nd, rfl⟩⟩; refine ⟨_, rfl, ?_⟩))
              go_ret
              exact ⟨zf, by repeat (first | exact Drawn0.refl _ | apply Drawn0.step)⟩
          · rw [if_neg c4] at H
            exact absurd H (by simp)
        · rw [if_neg c3] at H
          exact absurd H (by simp)
      · rw [if_neg c2] at H
        have c2b0 : decide (x7_1 < (l0.length : Int)) = false := decide_eq_false c2
        clear c2
        obtain rfl := Option.some.inj H
        go_wp2
        go_ret
        exact ⟨zf, by repeat (first | exact Drawn0.refl _ | apply Drawn0.step)⟩
end Go.Proofs.Ytonagfbadoacjaa.Q
end
section
namespace Go.Proofs.Ytonagfbadoacjaa.Q
open Go.RowKit Go.Proofs.YtonagfbadoacjaaW.PrintWords Go.Proofs.YtonagfbadoacjaaW.PrintLast Go.Proofs.YtonagfbadoacjaaW.PrintMore
attribute [local go_sem] max2_int min2_int max_two min_two max_three min_three max_four min_four   
set_option linter.unusedVariables false
set_option linter.unusedSimpArgs false
set_option maxHeartbeats 8000000 in
set_option maxRecDepth 100000 in
theorem impl_in.calls (a0 : Int) (a1 : Int) (a2 : Int) (r : Bool) (w : World) (h : impl_in.f a0 a1 a2 = some r) :
    Calls Try.prog 100 #[.int .i64 a0, .int .i64 a1, .int .i64 a2] w fun e w' => e = .returned (.bool r) ∧ Drawn0 w w' := by
  have H : (if a1 ≤ a0 then (some (decide (a0 ≤ a2))) else (some false)) = some r := h
  clear h
  by_cases c4 : a1 ≤ a0
  · rw [if_pos c4] at H
    have c4b0 : decide (a1 ≤ a0) = true := decide_eq_true c4
    clear c4
    obtain rfl := Option.some.inj H
    go_enter Try.func100, Try.ntmps100
    go_wp2
    go_ret
    exact ⟨zf, by repeat (first | exact Drawn0.refl _ | apply Drawn0.step)⟩
  · rw [if_neg c4] at H
    have c4b0 : decide (a1 ≤ a0) = false := decide_eq_false c4
    clear c4
    obtain rfl := Option.some.inj H
    go_enter Try.func100, Try.ntmps100
    go_wp2
    go_ret
    exact ⟨zf, by repeat (first | exact Drawn0.refl _ | apply Drawn0.step)⟩
end Go.Proofs.Ytonagfbadoacjaa.Q
end
section
namespace Go.Proofs.Ytonagfbadoacjaa.Q
open Go.RowKit Go.Proofs.YtonagfbadoacjaaW.PrintWords Go.Proofs.YtonagfbadoacjaaW.PrintLast Go.Proofs.YtonagfbadoacjaaW.PrintMore
attribute [local go_sem] max2_int min2_int max_two min_two max_three min_three max_four min_four   
set_option linter.unusedVariables false
set_option linter.unusedSimpArgs false
set_option maxHeartbeats 8000000 in
set_option maxRecDepth 100000 in
theorem impl_isKeep.calls (a0 : Int) (r : Bool) (w : World) (h : impl_isKeep.f a0 = some r) :
    Calls Try.prog 110 #[.int .i64 a0] w fun e w' => e = .returned (.bool r) ∧ Drawn0 w w' := by
  have H : ((impl_in.f a0 0 5).bind fun t328 => (some t328)) = some r := h
  clear h
  replace H := Option.bind_eq_some_iff.mp H
  obtain ⟨t328, A20, H⟩ := H
  (try dsimp only at H)
  have A2 := Aside0.mk A20
  clear A20
  obtain rfl := Option.some.inj H
  go_enter Try.func110, Try.ntmps110
  go_wp2_with (first | ((with_reducible refine gate_callee (f := 100) rfl ?_); refine goesL_ (some 4) rfl rfl Try.func100 (by kernel_rfl) rfl #[.int .i64 a0, .int .i64 0, .int .i64 5] rfl (by (try simp only [List.map_toArray, List.map_cons, List.map_nil]); first | done | rfl | (simp only [List.length_drop, List.length_take]; rfl)) ?_; (with_reducible refine (impl_in.calls a0 0 5 t328 _ A2.out).mono ?_); rintro e w' ⟨rfl, ⟨nd, rfl⟩⟩; refine ⟨_, rfl, ?_⟩))
  go_ret
  exact ⟨zf, by repeat (first | exact Drawn0.refl _ | apply Drawn0.step)⟩
end Go.Proofs.Ytonagfbadoacjaa.Q
end
section
namespace Go.Proofs.Ytonagfbadoacjaa.Q
open Go.RowKit Go.Proofs.YtonagfbadoacjaaW.PrintWords Go.Proofs.YtonagfbadoacjaaW.PrintLast Go.Proofs.YtonagfbadoacjaaW.PrintMore
attribute [local go_sem] max2_int min2_int max_two min_two max_three min_three max_four min_four   
set_option linter.unusedVariables false
set_option linter.unusedSimpArgs false
set_option maxHeartbeats 8000000 in
set_option maxRecDepth 100000 in
theorem impl_label.calls (a0 : ByteArray) (a1 : Int) (r : Int) (w : World) (h : impl_label.f a0 a1 = some r) :
    Calls Try.prog 137 #[.string a0, .int .i64 a1] w fun e w' => e = .returned (.int .u8 r) ∧ Drawn0 w w' := by
  have H : (if (a0.size : Int) = a1 then (some 45) else (if 0 ≤ a1 then (if a1 < (a0.size : Int) then (some (bt a0 a1)) else (none)) else (none))) = some r := h
  clear h
  by_cases c3 : (a0.size : Int) = a1
  · rw [if_pos c3] at H
    have c3b0 : ((a0.size : Int) == a1) = true := beq_iff_eq.mpr c3
    have c3b1 : ((a0.size : Int) != a1) = false := bne_eq_false_iff_eq.mpr c3
    clear c3
    obtain rfl := Option.some.inj H
    go_enter Try.func137, Try.ntmps137
    go_wp2
    go_ret
    exact ⟨zf, by repeat (first | exact Drawn0.refl _ | apply Drawn0.step)⟩
  · rw [if_neg c3] at H
    have c3b0 : ((a0.size : Int) == a1) = false := beq_eq_false_iff_ne.mpr c3
    have c3b1 : ((a0.size : Int) != a1) = true := bne_iff_ne.mpr c3
    by_cases c4 : 0 ≤ a1
    · rw [if_pos c4] at H
      have c4b0 : decide (0 ≤ a1) = true := decide_eq_true c4
      clear c4
      by_cases c5 : a1 < (a0.size : Int)
      · rw [if_pos c5] at H
        have c5b0 : decide (a1 < (a0.size : Int)) = true := decide_eq_true c5
        clear c5
        obtain rfl := Option.some.inj H
        have p6 : 0 ≤ (a1 : Int) := zd
        have q6 : a1 < (a0.size : Int) := zd
        have hx6 := bt_at a0 a1
        replace p6 := eq_true p6
        replace q6 := eq_true q6
        go_enter Try.func137, Try.ntmps137
        go_wp2
        go_ret
        exact ⟨zf, by repeat (first | exact Drawn0.refl _ | apply Drawn0.step)⟩
      · rw [if_neg c5] at H
        exact absurd H (by simp)
    · rw [if_neg c4] at H
      exact absurd H (by simp)
end Go.Proofs.Ytonagfbadoacjaa.Q
end
section
namespace Go.Proofs.Ytonagfbadoacjaa.Hand
open Go Go.RowKit Go.Proofs.Ytonagfbadoacjaa.Q Go.Proofs.YtonagfbadoacjaaW.PrintWords Go.Proofs.YtonagfbadoacjaaW.PrintLast Go.Proofs.YtonagfbadoacjaaW.PrintMore
set_option linter.unusedVariables false
set_option linter.unusedSimpArgs false
theorem sizeBuilder : (Try.prog.info? 117).map (·.size) = some 2 := by kernel_rfl
theorem liesBuilder : liesAt Try.prog Try.prog.depth 117 (2 / Try.prog.cellsOf 117) 0 117 1 = true := by kernel_rfl
set_option maxHeartbeats 1000000 in
set_option maxRecDepth 100000 in
theorem copyCheck_used (b : Nat) (w : World) (h0 : w.cell? ⟨b, 0, none⟩ = some (.pointer (some ⟨b, 0, none⟩))) :
    Calls Try.prog 158 #[.pointer (some ⟨b, 0, none⟩)] w fun e w' => e = .returned (.tuple #[]) ∧ w' = w := by
  obtain ⟨j, hj, _⟩ := Option.map_eq_some_iff.1 sizeBuilder
  go_enter Try.func158, Try.ntmps158
  go_wp2
  rw [Lib.run_neq_ptr_same w _ Try.underlying115 hj]
  go_wp2
  go_end0
  exact ⟨rfl, rfl⟩
set_option maxHeartbeats 1000000 in
set_option maxRecDepth 100000 in
theorem copyCheck_fresh (b : Nat) (w : World) (h0 : w.cell? ⟨b, 0, none⟩ = some (.pointer none)) (hsh : w.shape? b = some (117, 2)) (hfz : w.frozen? ⟨b, 0, none⟩ = false) :
    Calls Try.prog 158 #[.pointer (some ⟨b, 0, none⟩)] w fun e w' => e = .returned (.tuple #[]) ∧ w' = w.setCell ⟨b, 0, none⟩ (.pointer (some ⟨b, 0, none⟩)) := by
  obtain ⟨j, hj, hjs⟩ := Option.map_eq_some_iff.1 sizeBuilder
  go_enter Try.func158, Try.ntmps158
  go_wp2
  rw [Lib.run_to_unsafe w ⟨b, 0, none⟩ Try.underlying115 Try.underlying145 hj (by rw [hjs]; decide) hsh (Nat.zero_lt_succ 1)]
  simp only [Result.andThen]
  rw [Oper.upon_value]
  go_wp2
  rw [run_callFunc_extern Try.func172 (by kernel_rfl) (by kernel_rfl) (by kernel_rfl) (e := Extern.AbiNoEscape.same) (by kernel_rfl)]
  rw [Lib.run_noEscape]
  simp only [Result.andThen]
  rw [Oper.upon_value]
  go_wp2
  rw [Lib.run_from_unsafe w ⟨b, 0, none⟩ Try.underlying145 Try.underlying115 hj hsh liesBuilder]
  simp only [Result.andThen]
  rw [Oper.upon_value]
  go_wp2
  go_end0
  exact ⟨rfl, rfl⟩
structure Bld (w : World) (base b : Nat) (p v : Value) (l : List Int) : Prop where
  self : p = .pointer none ∨ p = .pointer (some ⟨b, 0, none⟩)
  box : w.heap[b]? = some (.cells #[p, v] 117 (0, 0))
  row : Kd.R (Kd.int .u8) 5 w base (fun k => some k = v.ownBlock) v l
  low : base ≤ b
set_option maxHeartbeats 1000000 in
theorem copyCheck {w : World} {base b : Nat} {p v : Value} {l : List Int} (h : Bld w base b p v l) :
    Calls Try.prog 158 #[.pointer (some ⟨b, 0, none⟩)] w fun e w' => e = .returned (.tuple #[]) ∧ Aside0 (Bld w' base b (.pointer (some ⟨b, 0, none⟩)) v l ∧ Kept w w' (fun k => k = b) ∧ w'.heap.size = w.heap.size ∧ Below base w w') := by
  have hne : ∀ k, some k = v.ownBlock → ¬ k = b := by
    rintro k hk rfl
    exact Kd.R_ne h.row h.box (by decide) hk
  rcases h.self with rfl | rfl
  · refine (copyCheck_fresh b w (by simp [World.cell?, h.box]) (by simp [World.shape?, h.box]) (by simp [World.frozen?, h.box])).mono ?_
    rintro e w' ⟨rfl, rfl⟩
    have hk : Kept w (w.setCell ⟨b, 0, none⟩ (.pointer (some ⟨b, 0, none⟩))) (fun k => k = b) := Kept.setCell (p := ⟨b, 0, none⟩) (Kept.refl w (fun k => k = b)) (.inl rfl) _
    refine ⟨rfl, Aside0.mk ⟨⟨.inr rfl, ?_, Kd.R_kept h.row hk hne, h.low⟩, hk, by simp [World.setCell], (Below.refl base w).setCell (p := ⟨b, 0, none⟩) h.low _⟩⟩
    exact blk_set h.box 0 _
  · refine (copyCheck_used b w (by simp [World.cell?, h.box])).mono ?_
    rintro e w' ⟨rfl, rfl⟩
    exact ⟨rfl, Aside0.mk ⟨h, Kept.refl _ _, rfl, Below.refl _ _⟩⟩
set_option maxHeartbeats 2000000 in
set_option maxRecDepth 100000 in
theorem writeByte {w : World} {base b : Nat} {p v : Value} {l : List Int} (c : Int) (h : Bld w base b p v l) (hbase : base ≤ w.heap.size) (hl : (l.length + 1) * 1 ≤ 140737488355328) :
    Calls Try.prog 143 #[.pointer (some ⟨b, 0, none⟩), .int .u8 c] w fun e w' => e = .returned .nilIface ∧ ∃ v', Bld w' base b (.pointer (some ⟨b, 0, none⟩)) v' (l ++ [c]) ∧
      (v'.ownBlock = v.ownBlock ∨ ∃ k, v'.ownBlock = some k ∧ w.heap.size ≤ k) ∧ Kept w w' (fun k => k = b ∨ some k = v.ownBlock) ∧ Below base w w' := by
  go_enter Try.func143, Try.ntmps143
  have A0 := Aside0.mk h
  clear h
  go_wp2_with (first | ((with_reducible refine gate_callee (f := 158) rfl ?_); refine goesL_ (some 6) rfl rfl Try.func158 (by kernel_rfl) rfl #[.pointer (some ⟨b, 0, none⟩)] rfl (by (try simp only [List.map_toArray, List.map_cons, List.map_nil]); first | done | rfl) ?_; (with_reducible refine (copyCheck A0.out).mono ?_); rintro e w1 ⟨rfl, A1⟩; refine ⟨_, rfl, ?_⟩; have c0 : w1.cell? ⟨b, 0, none⟩ = some (.pointer (some ⟨b, 0, none⟩)) := (by rw [Lib.cell_of_heap A1.out.1.box]; rfl); have c1 : w1.cell? ⟨b, 1, none⟩ = some v := (by rw [Lib.cell_of_heap A1.out.1.box]; rfl)) | ((with_reducible refine gate_builtin (b := .append) (xs := #[.tmp 11, .tmp 13]) rfl ?_); at_builtin; refine Kd.R_append (Kd.int .u8) (w0 := w1) base rfl (.tmp 11) (.tmp 13) 25 5 (.int .u8 0) 1 rfl Try.underlying25 info5 rfl (by decide) (by omega) v l c [.int .u8 c] (fun _ => True) (fun _ => False) rfl rfl rfl (fun _ h => h.elim) (fun _ _ => trivial) ?aO (Below.refl _ _) ?aB hl ?_))
  case aO => exact Kd.R_mono A1.out.1.row (fun _ _ => trivial)
  case aB => have := A1.out.2.2.1; omega
  intro v' w2 hown' hbel hgrow hat
  obtain ⟨h1, k1, s1, b1⟩ := A1.out
  have hb1 := h1.box
  have hneb : some b ≠ v.ownBlock := Kd.R_ne h1.row hb1 (by decide)
  have hb2 : w2.heap[b]? = some (.cells #[.pointer (some ⟨b, 0, none⟩), v] 117 (0, 0)) := (hgrow.block b (blk_lt hb1) hneb).trans hb1
  have d0 : w2.cell? ⟨b, 0, none⟩ = some (.pointer (some ⟨b, 0, none⟩)) := by simp [World.cell?, hb2]
  have d1 : w2.cell? ⟨b, 1, none⟩ = some v := by simp [World.cell?, hb2]
  have f1 : w2.frozen? ⟨b, 1, none⟩ = false := by simp [World.frozen?, hb2]
  obtain ⟨ao, n', cap, rfl⟩ : ∃ ao n' cap, v' = .slice ao n' cap := by
    obtain ⟨A, c, hv, _⟩ := hown'.2.slice_
    exact ⟨_, _, _, hv⟩
  go_wp2
  go_ret
  have hne2 : ∀ k, some k = (Value.slice ao n' cap).ownBlock → ¬ k = b := by
    rintro k hk rfl
    exact Kd.R_ne hown' hb2 (by decide) hk
  have hk2 : Kept w2 (w2.setCell ⟨b, 1, none⟩ (.slice ao n' cap)) (fun k => k = b) := Kept.setCell (p := ⟨b, 1, none⟩) (Kept.refl w2 (fun k => k = b)) (.inl rfl) _
  have hg : Kept w1 w2 (fun k => some k = v.ownBlock) := ⟨hgrow.size, fun i hi hn => hgrow.block i hi hn⟩
  refine ⟨rfl, _, ⟨.inr rfl, blk_set hb2 1 _, ?_, h1.low⟩, ?_, ?_, ?_⟩
  · exact Kd.R_kept (Kd.R_tight rfl hown') hk2 hne2
  · rcases hat with e | ⟨k, e, hk⟩
    · exact .inl e
    · exact .inr ⟨k, e, by omega⟩
  · have hA : Kept w w1 (fun k => k = b ∨ some k = v.ownBlock) := k1.mono (fun k hk => .inl hk)
    have hB : Kept w1 w2 (fun k => k = b ∨ some k = v.ownBlock) := hg.mono (fun k hk => .inr hk)
    exact (hA.then_ hB (fun k hk => .inl hk)).then_ hk2 (fun k hk => .inl (.inl hk))
  · exact (b1.trans hbel).setCell (p := ⟨b, 1, none⟩) h1.low _
def nums (l : List UInt8) : List Int := l.map fun b => (b.toNat : Int)
theorem nums_cells (l : List UInt8) : encs (Value.int .u8) (nums l) = Lib.byteCells l := by simp [encs, nums, Lib.byteCells]
theorem nums_length (l : List UInt8) : (nums l).length = l.length := by simp [nums]
theorem cellsByte : Try.prog.cellsOf 5 = 1 := by kernel_rfl
set_option maxHeartbeats 2000000 in
set_option maxRecDepth 100000 in
theorem string_some {w : World} {base b : Nat} {p v : Value} {l : List UInt8} (h : Bld w base b p v (nums l)) (h0 : l ≠ []) :
    Calls Try.prog 144 #[.pointer (some ⟨b, 0, none⟩)] w fun e w' => e = .returned (.string ⟨l.toArray⟩) ∧ Kept w w' (fun k => some k = v.ownBlock) ∧ Below base w w' := by
  have hl0 : l.length ≠ 0 := by simpa using h0
  have hbk := h.box
  have hown := Kd.own_of_R h.row
  rw [nums_cells, nums_length] at hown
  obtain ⟨g, cap, cur, rfl, hbg, hg, hnc, hcm, hcs, htake⟩ : ∃ g cap cur, v = .slice (some ⟨g, 0, none⟩) l.length cap ∧ base ≤ g ∧ w.heap[g]? = some (.cells cur 5 (0, 0)) ∧ l.length ≤ cap ∧ cap ≤ maxLen ∧ cur.size = cap * 1 ∧ cur.toList.take (l.length * 1) = Lib.byteCells l := by
    rcases hown.2 with ⟨_, hz⟩ | ⟨g, cap, cur, hv, r⟩
    · exact absurd hz hl0
    · exact ⟨g, cap, cur, hv, r⟩
  have c1 : w.drew.cell? ⟨b, 1, none⟩ = some (.slice (some ⟨g, 0, none⟩) l.length cap) := by
    have : w.drew.heap[b]? = some (.cells #[p, .slice (some ⟨g, 0, none⟩) l.length cap] 117 (0, 0)) := hbk
    rw [Lib.cell_of_heap this]; rfl
  have hSD : (Builtin.unsafeSliceData_ #[25] 133 #[.slice (some ⟨g, 0, none⟩) l.length cap]).run Try.prog w.drew = .ok (.pointer (some ⟨g, 0, none⟩)) w.drew :=
    Lib.run_unsafeSliceData_row _ _ _ _ _ _ (by omega)
  have hUS : (Builtin.unsafeString_ #[133, 3] 9 #[.pointer (some ⟨g, 0, none⟩), .int .i64 l.length]).run Try.prog w.drew = .ok (.string ⟨l.toArray⟩) (w.drew.freeze ⟨g, 0, none⟩ l.length) := by
    refine Lib.run_unsafeString_row w.drew 133 3 9 5 Try.underlying133 cellsByte g cur.size (by have hg' : w.drew.heap[g]? = some (.cells cur 5 (0, 0)) := hg; simp [World.shape?, hg']) l h0 (by omega) (by unfold maxLen at hcm; omega) ?_
    intro j x hx
    have := hown.cells (g := g) rfl j (.int .u8 x.toNat) (by simp [Lib.byteCells, hx])
    exact this
  have HK : Kept w (w.drew.freeze ⟨g, 0, none⟩ l.length) (fun k => some k = (Value.slice (some ⟨g, 0, none⟩) l.length cap).ownBlock) := by
    have hf : ∀ k, k ≠ g → (w.drew.freeze ⟨g, 0, none⟩ l.length).heap[k]? = w.heap[k]? := by
      intro k hk
      have hk' : g ≠ k := fun e => hk e.symm
      have e1 : w.drew.heap = w.heap := rfl
      rw [← e1]
      simp only [World.freeze, if_neg hl0, Array.getElem?_modify, if_neg hk']
    have hz : (w.drew.freeze ⟨g, 0, none⟩ l.length).heap.size = w.heap.size := by
      have e1 : w.drew.heap = w.heap := rfl
      rw [← e1]
      simp only [World.freeze, if_neg hl0, Array.size_modify]
    refine ⟨by omega, fun i hi hn => hf i (fun e => hn (by rw [e]; rfl))⟩
  have HB := Lib.below_freeze (Below.drew (Below.refl base w)) (p := ⟨g, 0, none⟩) hbg l.length
  have A0 := Aside0.mk (And.intro HK HB)
  clear HK HB hown htake hcs hcm hnc hg h
  go_enter Try.func144, Try.ntmps144
  go_wp2
  go_region
  all_goals (go_wp2; go_ret; exact ⟨rfl, A0.out⟩)
set_option maxHeartbeats 2000000 in
set_option maxRecDepth 100000 in
theorem string_none {w : World} (base b : Nat) (p : Value) (hbk : w.heap[b]? = some (.cells #[p, .slice none 0 0] 117 (0, 0))) :
    Calls Try.prog 144 #[.pointer (some ⟨b, 0, none⟩)] w fun e w' => e = .returned (.string ⟨#[]⟩) ∧ Kept w w' (fun _ => False) ∧ Below base w w' := by
  have hUS : ∀ (W : World) (q : Option Addr), (Builtin.unsafeString_ #[133, 3] 9 #[.pointer q, .int .i64 0]).run Try.prog W = .ok (.string .empty) W := fun W q => Lib.run_unsafeString_none W _ _ _ q
  have c1 : w.drew.cell? ⟨b, 1, none⟩ = some (.slice none 0 0) := by
    have : w.drew.heap[b]? = some (.cells #[p, .slice none 0 0] 117 (0, 0)) := hbk
    rw [Lib.cell_of_heap this]; rfl
  have hSD : (Builtin.unsafeSliceData_ #[25] 133 #[.slice none 0 0]).run Try.prog w.drew = .ok (.pointer none) w.drew := rfl
  go_enter Try.func144, Try.ntmps144
  go_wp2
  go_region
  all_goals (go_wp2; go_ret; exact ⟨rfl, Kept.drew (Kept.refl _ _), Below.drew (Below.refl base w)⟩)
end Go.Proofs.Ytonagfbadoacjaa.Hand
end
section
namespace Go.Proofs.Ytonagfbadoacjaa.Hand
open Go Go.RowKit Go.Proofs.Ytonagfbadoacjaa.Q Go.Proofs.YtonagfbadoacjaaW.PrintWords Go.Proofs.YtonagfbadoacjaaW.PrintLast Go.Proofs.YtonagfbadoacjaaW.PrintMore
set_option linter.unusedVariables false
set_option linter.unusedSimpArgs false
theorem info119 : (Try.prog.info? 119).map (fun i => (i.zero, i.size, i.bytes)) = some (some (.agg #[(.slice none 0 0), (.int .i64 0)]), 2, 32) := by kernel_rfl
theorem Bld.kept {w w' : World} {base b : Nat} {p v : Value} {l : List Int} {S : Nat → Prop} (h : Bld w base b p v l) (hk : Kept w w' S) (hb : ¬ S b) (hv : ∀ k, some k = v.ownBlock → ¬ S k) : Bld w' base b p v l :=
  ⟨h.self, blk_kept h.box hk hb, Kd.R_kept h.row hk hv, h.low⟩
def tri (L M F : List Int) : Nat → List Int
  | 0 => L
  | 1 => M
  | _ => F
abbrev kq (w0 : World) : Kd S119 := Kd.fixed k119 w0
def boxS (vR : Value) (keep : Int) : Obj := .cells #[.string ⟨#[]⟩, .string ⟨#[]⟩, .string ⟨#[]⟩, vR, .int .i64 keep] 28 (0, 0)
def boxZ : Obj := .cells #[.string ⟨#[]⟩, .string ⟨#[]⟩, .string ⟨#[]⟩, .slice none 0 0, .int .i64 0] 28 (0, 0)
structure Sv (w0 W : World) (vQ vR : Value) (T : Nat → List Int) (R : List ByteArray) (Q : List S119) (keep : Int) : Prop where
  below : Below w0.heap.size w0 W
  ex : ∃ p v : Nat → Value, (∀ j, j < 3 → Bld W w0.heap.size (w0.heap.size + 1 + j) (p j) (v j) (T j)) ∧ (∀ i j, i < 3 → j < 3 → i ≠ j → NeRow (v i) (v j)) ∧ ∀ j, j < 3 → T j = [] → v j = .slice none 0 0
  res : W.heap[w0.heap.size]? = some boxZ
  box : W.heap[w0.heap.size + 1 + 3]? = some (boxS vR keep)
  rR : Kd.R Kd.string 9 W w0.heap.size (fun k => some k = vR.ownBlock) vR R
  rQ : Kd.R (kq w0) 119 W w0.heap.size (fun k => some k = vQ.ownBlock) vQ Q
section
variable {w0 W W1 : World} {vQ vR : Value} {T : Nat → List Int} {R : List ByteArray} {Q : List S119} {keep : Int}
theorem Sv.drewN (h : Sv w0 W vQ vR T R Q keep) (n : Nat) : Sv w0 (W.drewN n) vQ vR T R Q keep := by
  obtain ⟨p, v, hb, hn, hz⟩ := h.ex
  exact ⟨pw_below_drewN h.below n, ⟨p, v, fun j hj => ⟨(hb j hj).self, (hb j hj).box, Kd.R_drewN (hb j hj).row n, (hb j hj).low⟩, hn, hz⟩, h.res, h.box, Kd.R_drewN h.rR n, Kd.R_drewN h.rQ n⟩
theorem Sv.drew (h : Sv w0 W vQ vR T R Q keep) : Sv w0 W.drew vQ vR T R Q keep := h.drewN 1
theorem ne_ty {α β : Type} {d : Kd α} {d' : Kd β} {e e' base base' : Nat} {ok ok' : Nat → Prop} {v v' : Value} {xs : List α} {ys : List β} (h : d.R e W base ok v xs) (h' : d'.R e' W base' ok' v' ys) (ht : e ≠ e') : ∀ k, some k = v.ownBlock → ¬ some k = v'.ownBlock := by
  obtain ⟨i1, o1⟩ := Kd.R_own h
  obtain ⟨i2, o2⟩ := Kd.R_own h'
  intro k hk hk'
  rcases own_type_ne o1 o2 ht with q | q
  · rw [q] at hk; cases hk
  · exact q (hk.symm.trans hk')
theorem Sv.write (h : Sv w0 W vQ vR T R Q keep) {j : Nat} (hj : j < 3) (c : Int) (hl : (T j).length + 1 ≤ 140737488355328) :
    Calls Try.prog 143 #[.pointer (some ⟨w0.heap.size + 1 + j, 0, none⟩), .int .u8 c] W fun e w' => e = .returned .nilIface ∧ Aside0 (Sv w0 w' vQ vR (fun i => if i = j then T i ++ [c] else T i) R Q keep) := by
  obtain ⟨p, v, hb, hn, hz⟩ := h.ex
  have hs := h.below.size
  refine (writeByte c (hb j hj) hs (by omega)).mono ?_
  rintro e w' ⟨rfl, v', hb', hat, hk, hbel⟩
  refine ⟨rfl, ⟨h.below.trans hbel, ⟨fun i => if i = j then .pointer (some ⟨w0.heap.size + 1 + j, 0, none⟩) else p i, fun i => if i = j then v' else v i, fun i hi => ?_, fun i i' hi hi' hne => ?_, fun i hi hT => ?_⟩, ?_, ?_, ?_, ?_⟩⟩
  · by_cases q : i = j
    · subst q
      simp only [if_true]
      exact hb'
    · simp only [if_neg q]
      refine (hb i hi).kept hk ?_ ?_
      · rintro (e | e)
        · exact q (by omega)
        · exact Kd.R_ne (hb j hj).row (hb i hi).box (by decide) e
      · rintro k hk2 (e | e)
        · subst e
          exact Kd.R_ne (hb i hi).row (hb j hj).box (by decide) hk2
        · exact hn i j hi hj q k hk2.symm e.symm
  · have old : ∀ i, i < 3 → i ≠ j → NeRow (v i) v' := by
      intro i hi q k hk2 hk3
      rcases hat with e | ⟨g, e, hg⟩
      · rw [e] at hk3
        exact hn i j hi hj q k hk2 hk3
      · rw [e] at hk3
        injection hk3 with hk3
        have := Kd.R_lt (hb i hi).row k hk2
        omega
    by_cases q : i = j
    · subst q
      simp only [if_true, if_neg (Ne.symm hne)]
      exact ne_symm (old i' hi' (Ne.symm hne))
    · by_cases q' : i' = j
      · subst q'
        simp only [if_true, if_neg q]
        exact old i hi q
      · simp only [if_neg q, if_neg q']
        exact hn i i' hi hi' hne
  · by_cases q : i = j
    · subst q
      simp at hT
    · simp only [if_neg q] at hT ⊢
      exact hz i hi hT
  · refine blk_kept h.res hk ?_
    rintro (e | e)
    · omega
    · exact Kd.R_ne (hb j hj).row (show W.heap[w0.heap.size]? = some (.cells _ 28 (0, 0)) from h.res) (by decide) e
  · refine blk_kept h.box hk ?_
    rintro (e | e)
    · omega
    · exact Kd.R_ne (hb j hj).row (show W.heap[w0.heap.size + 1 + 3]? = some (.cells _ 28 (0, 0)) from h.box) (by decide) e
  · refine Kd.R_kept h.rR hk ?_
    rintro k hk2 (e | e)
    · subst e
      exact Kd.R_ne h.rR (hb j hj).box (by decide) hk2
    · exact ne_ty h.rR (hb j hj).row (by decide) k hk2 e
  · refine Kd.R_kept h.rQ hk ?_
    rintro k hk2 (e | e)
    · subst e
      exact Kd.R_ne h.rQ (hb j hj).box (by decide) hk2
    · exact ne_ty h.rQ (hb j hj).row (by decide) k hk2 e
theorem Sv.pushQ (h : Sv w0 W vQ vR T R Q keep) {vQ' : Value} {Q' : List S119} (hg : W.grownBy W1 vQ.ownBlock) (hbel : Below w0.heap.size w0 W1) (hQ : Kd.R (kq w0) 119 W1 w0.heap.size (fun _ => True) vQ' Q') : Sv w0 W1 vQ' vR T R Q' keep := by
  obtain ⟨p, v, hb, hn, hz⟩ := h.ex
  have hk : Kept W W1 (fun k => some k = vQ.ownBlock) := ⟨hg.size, fun i hi hne => hg.block i hi hne⟩
  refine ⟨hbel, ⟨p, v, fun j hj => (hb j hj).kept hk (fun e => Kd.R_ne h.rQ (hb j hj).box (by decide) e) (fun k hk2 e => ne_ty (hb j hj).row h.rQ (by decide) k hk2 e), hn, hz⟩, ?_, ?_, ?_, Kd.R_tight rfl hQ⟩
  · exact blk_kept h.res hk (fun e => Kd.R_ne h.rQ (show W.heap[w0.heap.size]? = some (.cells _ 28 (0, 0)) from h.res) (by decide) e)
  · exact blk_kept h.box hk (fun e => Kd.R_ne h.rQ (show W.heap[w0.heap.size + 1 + 3]? = some (.cells _ 28 (0, 0)) from h.box) (by decide) e)
  · exact Kd.R_kept h.rR hk (fun k hk2 e => ne_ty h.rR h.rQ (by decide) k hk2 e)
theorem Sv.pushR (h : Sv w0 W vQ vR T R Q keep) {vR' : Value} {R' : List ByteArray} (hg : W.grownBy W1 vR.ownBlock) (hbel : Below w0.heap.size w0 W1) (hR : Kd.R Kd.string 9 W1 w0.heap.size (fun _ => True) vR' R') : Sv w0 (W1.setCell ⟨w0.heap.size + 1 + 3, 3, none⟩ vR') vQ vR' T R' Q keep := by
  obtain ⟨p, v, hb, hn, hz⟩ := h.ex
  have hk1 : Kept W W1 (fun k => some k = vR.ownBlock) := ⟨hg.size, fun i hi hne => hg.block i hi hne⟩
  have hk : Kept W (W1.setCell ⟨w0.heap.size + 1 + 3, 3, none⟩ vR') (fun k => some k = vR.ownBlock ∨ k = w0.heap.size + 1 + 3) :=
    (hk1.mono (fun k e => .inl e)).setCell (p := ⟨w0.heap.size + 1 + 3, 3, none⟩) (.inl (.inr rfl)) _
  have hbox1 : W1.heap[w0.heap.size + 1 + 3]? = some (boxS vR keep) := blk_kept h.box hk1 (fun e => Kd.R_ne h.rR (show W.heap[w0.heap.size + 1 + 3]? = some (.cells _ 28 (0, 0)) from h.box) (by decide) e)
  have hbx : W.heap[w0.heap.size + 1 + 3]? = some (.cells _ 28 (0, 0)) := h.box
  refine ⟨hbel.setCell (p := ⟨w0.heap.size + 1 + 3, 3, none⟩) (show w0.heap.size ≤ w0.heap.size + 1 + 3 by omega) _, ⟨p, v, fun j hj => (hb j hj).kept hk ?_ ?_, hn, hz⟩, ?_, ?_, ?_, ?_⟩
  · rintro (e | e)
    · exact Kd.R_ne h.rR (hb j hj).box (by decide) e
    · omega
  · rintro k hk2 (e | e)
    · exact ne_ty (hb j hj).row h.rR (by decide) k hk2 e
    · subst e
      exact Kd.R_ne (hb j hj).row hbx (by decide) hk2
  · refine blk_kept h.res hk ?_
    rintro (e | e)
    · exact Kd.R_ne h.rR (show W.heap[w0.heap.size]? = some (.cells _ 28 (0, 0)) from h.res) (by decide) e
    · omega
  · exact blk_set (show W1.heap[w0.heap.size + 1 + 3]? = some (.cells _ 28 (0, 0)) from hbox1) 3 vR'
  · refine Kd.R_tight rfl (Kd.R_far (p := ⟨w0.heap.size + 1 + 3, 3, none⟩) (Kd.R_tight rfl hR) ?_ vR')
    rintro k hk2 rfl
    exact Kd.R_ne hR (show W1.heap[w0.heap.size + 1 + 3]? = some (.cells _ 28 (0, 0)) from hbox1) (by decide) hk2
  · refine Kd.R_kept h.rQ hk ?_
    rintro k hk2 (e | e)
    · exact ne_ty h.rQ h.rR (by decide) k hk2 e
    · subst e
      exact Kd.R_ne h.rQ hbx (by decide) hk2
structure Sw (w0 W : World) (vR : Value) (J : Nat → Prop) (T : Nat → List Int) (R : List ByteArray) (keep : Int) : Prop where
  below : Below w0.heap.size w0 W
  ex : ∃ p v : Nat → Value, (∀ j, j < 3 → J j → Bld W w0.heap.size (w0.heap.size + 1 + j) (p j) (v j) (T j)) ∧ (∀ i j, i < 3 → j < 3 → i ≠ j → NeRow (v i) (v j)) ∧ ∀ j, j < 3 → T j = [] → v j = .slice none 0 0
  res : W.heap[w0.heap.size]? = some boxZ
  box : W.heap[w0.heap.size + 1 + 3]? = some (boxS vR keep)
  rR : Kd.R Kd.string 9 W w0.heap.size (fun k => some k = vR.ownBlock) vR R
theorem Sv.sw (h : Sv w0 W vQ vR T R Q keep) : Sw w0 W vR (fun _ => True) T R keep := by
  obtain ⟨p, v, hb, hn, hz⟩ := h.ex
  exact ⟨h.below, ⟨p, v, fun j hj _ => hb j hj, hn, hz⟩, h.res, h.box, h.rR⟩
theorem Sw.string {J : Nat → Prop} (h : Sw w0 W vR J T R keep) {j : Nat} (hj : j < 3) (hJ : J j) {l : List UInt8} (hl : T j = nums l) :
    Calls Try.prog 144 #[.pointer (some ⟨w0.heap.size + 1 + j, 0, none⟩)] W fun e w' => e = .returned (.string ⟨l.toArray⟩) ∧ Aside0 (Sw w0 w' vR (fun i => J i ∧ i ≠ j) T R keep) := by
  obtain ⟨p, v, hb, hn, hz⟩ := h.ex
  have hbj := hb j hj hJ
  have go : ∀ w', Kept W w' (fun k => some k = (v j).ownBlock) → Below w0.heap.size W w' → Sw w0 w' vR (fun i => J i ∧ i ≠ j) T R keep := by
    intro w' hk hbel
    refine ⟨h.below.trans hbel, ⟨p, v, fun i hi hJi => (hb i hi hJi.1).kept hk (fun e => Kd.R_ne hbj.row (hb i hi hJi.1).box (by decide) e) (fun k hk2 e => hn i j hi hj hJi.2 k hk2.symm e.symm), hn, hz⟩, ?_, ?_, ?_⟩
    · exact blk_kept h.res hk (fun e => Kd.R_ne hbj.row (show W.heap[w0.heap.size]? = some (.cells _ 28 (0, 0)) from h.res) (by decide) e)
    · exact blk_kept h.box hk (fun e => Kd.R_ne hbj.row (show W.heap[w0.heap.size + 1 + 3]? = some (.cells _ 28 (0, 0)) from h.box) (by decide) e)
    · exact Kd.R_kept h.rR hk (fun k hk2 e => ne_ty h.rR hbj.row (by decide) k hk2 e)
  by_cases q : l = []
  · subst q
    have hv := hz j hj (by rw [hl]; rfl)
    have hbx := hbj.box
    rw [hv] at hbx
    refine (string_none w0.heap.size _ _ hbx).mono ?_
    rintro e w' ⟨rfl, hk, hbel⟩
    exact ⟨rfl, ⟨go w' (hk.mono (fun _ h => h.elim)) hbel⟩⟩
  · rw [hl] at hbj
    refine (string_some hbj q).mono ?_
    rintro e w' ⟨rfl, hk, hbel⟩
    exact ⟨rfl, ⟨go w' hk hbel⟩⟩
end
end Go.Proofs.Ytonagfbadoacjaa.Hand
end
section
namespace Go.Proofs.Ytonagfbadoacjaa.Hand
open Go Go.RowKit Go.Proofs.Ytonagfbadoacjaa.Q Go.Proofs.YtonagfbadoacjaaW.PrintWords Go.Proofs.YtonagfbadoacjaaW.PrintLast Go.Proofs.YtonagfbadoacjaaW.PrintMore
set_option linter.unusedVariables false
set_option linter.unusedSimpArgs false
def oB : Obj := .cells #[.pointer none, .slice none 0 0] 117
theorem Sv.start (w : World) {A0 : Option Addr} {c0 : Nat} {l0 : List ByteArray} (a1 : Int) (hr0 : Kd.C Kd.string w A0 l0.length l0) (hc0 : l0.length ≤ c0) :
    Sv w ((((((w.alloc (.cells #[.string ⟨#[]⟩, .string ⟨#[]⟩, .string ⟨#[]⟩, .slice none 0 0, .int .i64 0] 28)).alloc (.cells #[.pointer none, .slice none 0 0] 117)).alloc (.cells #[.pointer none, .slice none 0 0] 117)).alloc (.cells #[.pointer none, .slice none 0 0] 117)).alloc
      (.cells #[.string ⟨#[]⟩, .string ⟨#[]⟩, .string ⟨#[]⟩, .slice none 0 0, .int .i64 a1] 28)).alloc (.cells #[.slice A0 l0.length c0, .int .i64 0] 119))
      (.slice (some ⟨w.heap.size + 1 + 1 + 1 + 1 + 1, 0, none⟩) 1 1) (.slice none 0 0) (fun _ => []) [] [⟨l0, 0⟩] a1 := by
  have hz : ∀ (w : World) (o : Obj), (w.alloc o).heap.size = w.heap.size + 1 := fun w o => by simp only [World.alloc, Array.size_push]
  have e0 := blk_new w (.cells #[.string ⟨#[]⟩, .string ⟨#[]⟩, .string ⟨#[]⟩, .slice none 0 0, .int .i64 0] 28)
  generalize hw1 : w.alloc (.cells #[.string ⟨#[]⟩, .string ⟨#[]⟩, .string ⟨#[]⟩, .slice none 0 0, .int .i64 0] 28) = w1 at e0 ⊢
  have z1 : w1.heap.size = w.heap.size + 1 := by rw [← hw1, hz]
  have b1 : Below w.heap.size w w1 := by rw [← hw1]; exact below_alloc (Below.refl _ _) _
  have e1 := blk_new w1 (.cells #[.pointer none, .slice none 0 0] 117)
  have e2 := blk_new (w1.alloc (.cells #[.pointer none, .slice none 0 0] 117)) (.cells #[.pointer none, .slice none 0 0] 117)
  have e3 := blk_new ((w1.alloc (.cells #[.pointer none, .slice none 0 0] 117)).alloc (.cells #[.pointer none, .slice none 0 0] 117)) (.cells #[.pointer none, .slice none 0 0] 117)
  rw [hz, z1] at e2
  rw [hz, hz, z1] at e3
  rw [z1] at e1
  generalize hw2 : ((w1.alloc (.cells #[.pointer none, .slice none 0 0] 117)).alloc (.cells #[.pointer none, .slice none 0 0] 117)).alloc (.cells #[.pointer none, .slice none 0 0] 117) = w2 at e3 ⊢
  have e1' : w2.heap[w.heap.size + 1]? = some (.cells #[.pointer none, .slice none 0 0] 117) := by rw [← hw2]; exact blk_alloc (blk_alloc e1 _) _
  have e2' : w2.heap[w.heap.size + 1 + 1]? = some (.cells #[.pointer none, .slice none 0 0] 117) := by rw [← hw2]; exact blk_alloc e2 _
  have e0' : w2.heap[w.heap.size]? = some (.cells #[.string ⟨#[]⟩, .string ⟨#[]⟩, .string ⟨#[]⟩, .slice none 0 0, .int .i64 0] 28) := by rw [← hw2]; exact blk_alloc (blk_alloc (blk_alloc e0 _) _) _
  have z2 : w2.heap.size = w.heap.size + 1 + 1 + 1 + 1 := by rw [← hw2, hz, hz, hz, z1]
  have b2 : Below w.heap.size w w2 := by rw [← hw2]; exact below_alloc (below_alloc (below_alloc b1 _) _) _
  have e4 := blk_new w2 (.cells #[.string ⟨#[]⟩, .string ⟨#[]⟩, .string ⟨#[]⟩, .slice none 0 0, .int .i64 a1] 28)
  have e5 := blk_new (w2.alloc (.cells #[.string ⟨#[]⟩, .string ⟨#[]⟩, .string ⟨#[]⟩, .slice none 0 0, .int .i64 a1] 28)) (.cells #[.slice A0 l0.length c0, .int .i64 0] 119)
  rw [hz, z2] at e5
  rw [z2] at e4
  refine ⟨below_alloc (below_alloc b2 _) _, ⟨fun _ => .pointer none, fun _ => .slice none 0 0, fun j hj => ⟨.inl rfl, ?_, Kd.R_nil _ _ _ _ _, by omega⟩, fun i j _ _ _ => ne_nil _, fun _ _ _ => rfl⟩, blk_alloc (blk_alloc e0' _) _, blk_alloc e4 _, Kd.R_nil _ _ _ _ _, ?_⟩
  · match j, hj with
    | 0, _ => exact blk_alloc (blk_alloc e1' _) _
    | 1, _ => exact blk_alloc (blk_alloc e2' _) _
    | 2, _ => exact blk_alloc (blk_alloc e3 _) _
  · refine ⟨fun k hk => hk.symm, [.slice A0 l0.length c0, .int .i64 0], ⟨rfl, .inr ⟨_, 1, #[.slice A0 l0.length c0, .int .i64 0], rfl, by omega, e5, Nat.le_refl _, by unfold maxLen; omega, rfl, rfl⟩⟩, ⟨rfl, fun j p hj => ?_⟩⟩
    match j with
    | 0 =>
      have : p = (⟨l0, 0⟩ : S119) := by simpa using hj.symm
      subst this
      exact k119_mk w ⟨l0, 0⟩ hc0 hr0
    | j + 1 => simp at hj
section
variable {w0 W W1 : World} {vQ vR : Value} {T : Nat → List Int} {R : List ByteArray} {Q : List S119} {keep : Int}
theorem Sv.slice (h : Sv w0 W vQ vR T R Q keep) : ∃ A c, vQ = .slice A Q.length c := Kd.R_slice h.rQ
theorem Sv.at {A : Option Addr} {c : Nat} (h : Sv w0 W (.slice A Q.length c) vR T R Q keep) (i : Int) (h0 : 0 ≤ i) (h1 : i < Q.length) :
    ∃ ad A1 c1, A = some ad ∧ W.cell? (ad.add (i.toNat * 2)) = some (.slice A1 (rd_T119 Q i).f0.length c1) ∧ W.cell? ⟨(ad.add (i.toNat * 2)).block, (ad.add (i.toNat * 2)).off + 1, none⟩ = some (.int .i64 (rd_T119 Q i).f1) ∧ (rd_T119 Q i).f0.length ≤ c1 ∧ Kd.string.C w0 A1 (rd_T119 Q i).f0.length (rd_T119 Q i).f0 := by
  obtain ⟨ad, c, e, _, hK, hc0⟩ := Kd.C_get (Kd.R_reads' h.rQ).2.2 z119 i h0 h1
  have hc : ∀ j u, c[j]? = some u → W.cell? (ad.add (i.toNat * 2 + j)) = some u := hc0
  obtain ⟨A0, c0, rfl, l0, g0⟩ := k119_open hK
  exact ⟨ad, A0, c0, e, hc 0 _ rfl, by rw [← add_field _ _ 1 (by omega)]; exact hc 1 _ rfl, l0, g0⟩
theorem Sv.key {A : Option Addr} {l : List ByteArray} (h : Sv w0 W vQ vR T R Q keep) (hc : Kd.string.C w0 A l.length l) (i : Int) (h0 : 0 ≤ i) (h1 : i < l.length) : ∃ ad, A = some ad ∧ W.cell? (ad.add i.toNat) = some (.string (rdOf ByteArray.empty l i)) :=
  Kd.at_string (Kd.C_below hc h.below) i h0 h1
theorem Sv.boxc (h : Sv w0 W vQ vR T R Q keep) : W.cell? ⟨w0.heap.size + 1 + 1 + 1 + 1, 3, none⟩ = some vR ∧ W.frozen? ⟨w0.heap.size + 1 + 1 + 1 + 1, 3, none⟩ = false :=
  ⟨by rw [Lib.cell_of_heap (show W.heap[w0.heap.size + 1 + 1 + 1 + 1]? = some (.cells _ 28 (0, 0)) from h.box)]; rfl, blk_frozen (show W.heap[w0.heap.size + 1 + 1 + 1 + 1]? = some (.cells _ 28 (0, 0)) from h.box) 3⟩
theorem Sv.boxg (h : Sv w0 W vQ vR T R Q keep) (hg : W.grownBy W1 vR.ownBlock) : W1.cell? ⟨w0.heap.size + 1 + 1 + 1 + 1, 3, none⟩ = some vR ∧ W1.frozen? ⟨w0.heap.size + 1 + 1 + 1 + 1, 3, none⟩ = false := by
  have hb : W1.heap[w0.heap.size + 1 + 1 + 1 + 1]? = some (boxS vR keep) := blk_kept h.box (S := fun k => some k = vR.ownBlock) ⟨hg.size, fun i hi hne => hg.block i hi hne⟩ (fun e => Kd.R_ne h.rR (show W.heap[w0.heap.size + 1 + 3]? = some (.cells _ 28 (0, 0)) from h.box) (by decide) e)
  exact ⟨by rw [Lib.cell_of_heap (show W1.heap[w0.heap.size + 1 + 1 + 1 + 1]? = some (.cells _ 28 (0, 0)) from hb)]; rfl, blk_frozen (show W1.heap[w0.heap.size + 1 + 1 + 1 + 1]? = some (.cells _ 28 (0, 0)) from hb) 3⟩
theorem Sv.congr {T' : Nat → List Int} (h : Sv w0 W vQ vR T R Q keep) (hT : ∀ j, j < 3 → T j = T' j) : Sv w0 W vQ vR T' R Q keep := by
  obtain ⟨p, v, hb, hn, hz⟩ := h.ex
  exact ⟨h.below, ⟨p, v, fun j hj => hT j hj ▸ hb j hj, hn, fun j hj e => hz j hj ((hT j hj).trans e)⟩, h.res, h.box, h.rR, h.rQ⟩
def bs (s : ByteArray) : List Int := nums s.data.toList
theorem bs_push (s : ByteArray) (c : UInt8) : bs (s.push c) = bs s ++ [(c.toNat : Int)] := by simp [bs, nums]
theorem bs_length (s : ByteArray) : (bs s).length = s.size := by simp [bs, nums]
def three (a b c : ByteArray) : Nat → List Int := tri (bs a) (bs b) (bs c)
theorem Sv.wL {a b c : ByteArray} (h : Sv w0 W vQ vR (three a b c) R Q keep) (x : UInt8) (hl : a.size + 1 ≤ 140737488355328) :
    Calls Try.prog 143 #[.pointer (some ⟨w0.heap.size + 1, 0, none⟩), .int .u8 (x.toNat : Int)] W fun e w' => e = .returned .nilIface ∧ Aside0 (Sv w0 w' vQ vR (three (a.push x) b c) R Q keep) := by
  refine (h.write (j := 0) (by omega) (x.toNat : Int) (by show (bs a).length + 1 ≤ _; rw [bs_length]; exact hl)).mono ?_
  rintro e w' ⟨rfl, hs⟩
  refine ⟨rfl, ⟨hs.out.congr (fun j hj => ?_)⟩⟩
  match j, hj with
  | 0, _ => exact (bs_push a x).symm
  | 1, _ => rfl
  | 2, _ => rfl
theorem Sv.wM {a b c : ByteArray} (h : Sv w0 W vQ vR (three a b c) R Q keep) (x : UInt8) (hl : b.size + 1 ≤ 140737488355328) :
    Calls Try.prog 143 #[.pointer (some ⟨w0.heap.size + 1 + 1, 0, none⟩), .int .u8 (x.toNat : Int)] W fun e w' => e = .returned .nilIface ∧ Aside0 (Sv w0 w' vQ vR (three a (b.push x) c) R Q keep) := by
  refine (h.write (j := 1) (by omega) (x.toNat : Int) (by show (bs b).length + 1 ≤ _; rw [bs_length]; exact hl)).mono ?_
  rintro e w' ⟨rfl, hs⟩
  refine ⟨rfl, ⟨hs.out.congr (fun j hj => ?_)⟩⟩
  match j, hj with
  | 0, _ => rfl
  | 1, _ => exact (bs_push b x).symm
  | 2, _ => rfl
theorem Sv.wF {a b c : ByteArray} (h : Sv w0 W vQ vR (three a b c) R Q keep) (x : UInt8) (hl : c.size + 1 ≤ 140737488355328) :
    Calls Try.prog 143 #[.pointer (some ⟨w0.heap.size + 1 + 1 + 1, 0, none⟩), .int .u8 (x.toNat : Int)] W fun e w' => e = .returned .nilIface ∧ Aside0 (Sv w0 w' vQ vR (three a b (c.push x)) R Q keep) := by
  refine (h.write (j := 2) (by omega) (x.toNat : Int) (by show (bs c).length + 1 ≤ _; rw [bs_length]; exact hl)).mono ?_
  rintro e w' ⟨rfl, hs⟩
  refine ⟨rfl, ⟨hs.out.congr (fun j hj => ?_)⟩⟩
  match j, hj with
  | 0, _ => rfl
  | 1, _ => rfl
  | 2, _ => exact (bs_push c x).symm
theorem Sw.sL {a b c : ByteArray} (h : Sw w0 W vR (fun _ => True) (three a b c) R keep) :
    Calls Try.prog 144 #[.pointer (some ⟨w0.heap.size + 1, 0, none⟩)] W fun e w' => e = .returned (.string a) ∧ Aside0 (Sw w0 w' vR (fun i => i ≠ 0) (three a b c) R keep) := by
  refine (h.string (j := 0) (l := a.data.toList) (by omega) trivial rfl).mono ?_
  rintro e w' ⟨rfl, hs⟩
  exact ⟨rfl, ⟨hs.out.below, (by obtain ⟨p, v, hb, hn⟩ := hs.out.ex; exact ⟨p, v, fun j hj hJ => hb j hj ⟨trivial, hJ⟩, hn⟩), hs.out.res, hs.out.box, hs.out.rR⟩⟩
theorem Sw.sM {a b c : ByteArray} (h : Sw w0 W vR (fun i => i ≠ 0) (three a b c) R keep) :
    Calls Try.prog 144 #[.pointer (some ⟨w0.heap.size + 1 + 1, 0, none⟩)] W fun e w' => e = .returned (.string b) ∧ Aside0 (Sw w0 w' vR (fun i => i = 2) (three a b c) R keep) := by
  refine (h.string (j := 1) (l := b.data.toList) (by omega) (by omega) rfl).mono ?_
  rintro e w' ⟨rfl, hs⟩
  exact ⟨rfl, ⟨hs.out.below, (by obtain ⟨p, v, hb, hn⟩ := hs.out.ex; exact ⟨p, v, fun j hj hJ => hb j hj ⟨by omega, by omega⟩, hn⟩), hs.out.res, hs.out.box, hs.out.rR⟩⟩
theorem Sw.sF {a b c : ByteArray} (h : Sw w0 W vR (fun i => i = 2) (three a b c) R keep) :
    Calls Try.prog 144 #[.pointer (some ⟨w0.heap.size + 1 + 1 + 1, 0, none⟩)] W fun e w' => e = .returned (.string c) ∧ Aside0 (Below w0.heap.size w0 w' ∧ w'.heap[w0.heap.size]? = some boxZ ∧ w'.heap[w0.heap.size + 1 + 1 + 1 + 1]? = some (boxS vR keep) ∧ Kd.R Kd.string 9 w' w0.heap.size (fun k => some k = vR.ownBlock) vR R) := by
  refine (h.string (j := 2) (l := c.data.toList) (by omega) rfl rfl).mono ?_
  rintro e w' ⟨rfl, hs⟩
  exact ⟨rfl, ⟨hs.out.below, hs.out.res, hs.out.box, hs.out.rR⟩⟩
theorem fin1 {vR : Value} {a b c : ByteArray} (h : Below w0.heap.size w0 W ∧ W.heap[w0.heap.size]? = some boxZ ∧ W.heap[w0.heap.size + 1 + 1 + 1 + 1]? = some (boxS vR keep) ∧ Kd.R Kd.string 9 W w0.heap.size (fun k => some k = vR.ownBlock) vR R) :
    Aside0 (Below w0.heap.size w0 (((W.setCell ⟨w0.heap.size + 1 + 1 + 1 + 1, 0, none⟩ (.string a)).setCell ⟨w0.heap.size + 1 + 1 + 1 + 1, 1, none⟩ (.string b)).setCell ⟨w0.heap.size + 1 + 1 + 1 + 1, 2, none⟩ (.string c)) ∧
      (((W.setCell ⟨w0.heap.size + 1 + 1 + 1 + 1, 0, none⟩ (.string a)).setCell ⟨w0.heap.size + 1 + 1 + 1 + 1, 1, none⟩ (.string b)).setCell ⟨w0.heap.size + 1 + 1 + 1 + 1, 2, none⟩ (.string c)).heap[w0.heap.size]? = some boxZ ∧
      (((W.setCell ⟨w0.heap.size + 1 + 1 + 1 + 1, 0, none⟩ (.string a)).setCell ⟨w0.heap.size + 1 + 1 + 1 + 1, 1, none⟩ (.string b)).setCell ⟨w0.heap.size + 1 + 1 + 1 + 1, 2, none⟩ (.string c)).heap[w0.heap.size + 1 + 1 + 1 + 1]? = some (.cells #[.string a, .string b, .string c, vR, .int .i64 keep] 28 (0, 0)) ∧
      Kd.R Kd.string 9 (((W.setCell ⟨w0.heap.size + 1 + 1 + 1 + 1, 0, none⟩ (.string a)).setCell ⟨w0.heap.size + 1 + 1 + 1 + 1, 1, none⟩ (.string b)).setCell ⟨w0.heap.size + 1 + 1 + 1 + 1, 2, none⟩ (.string c)) w0.heap.size (fun k => some k = vR.ownBlock) vR R) := by
  obtain ⟨h1, h2, h3, h4⟩ := h
  have hne : ∀ k, some k = vR.ownBlock → k ≠ w0.heap.size + 1 + 1 + 1 + 1 := by
    rintro k hk rfl
    exact Kd.R_ne h4 (show W.heap[w0.heap.size + 1 + 1 + 1 + 1]? = some (.cells _ 28 (0, 0)) from h3) (by decide) hk
  have hb : ∀ i : Nat, w0.heap.size ≤ (⟨w0.heap.size + 1 + 1 + 1 + 1, i, none⟩ : Addr).block := fun i => by show w0.heap.size ≤ w0.heap.size + 1 + 1 + 1 + 1; omega
  refine ⟨⟨((h1.setCell (hb 0) _).setCell (hb 1) _).setCell (hb 2) _, ?_, ?_, ?_⟩⟩
  · refine (Below.heap_setCell _ _ _ _ (by show w0.heap.size ≠ w0.heap.size + 1 + 1 + 1 + 1; omega)).trans ((Below.heap_setCell _ _ _ _ (by show w0.heap.size ≠ w0.heap.size + 1 + 1 + 1 + 1; omega)).trans ((Below.heap_setCell _ _ _ _ (by show w0.heap.size ≠ w0.heap.size + 1 + 1 + 1 + 1; omega)).trans h2))
  · exact blk_put (blk_put (blk_put (show W.heap[w0.heap.size + 1 + 1 + 1 + 1]? = some (.cells _ 28 (0, 0)) from h3) 0 _ rfl) 1 _ rfl) 2 _ rfl
  · exact Kd.R_far (p := ⟨w0.heap.size + 1 + 1 + 1 + 1, 2, none⟩) (Kd.R_far (p := ⟨w0.heap.size + 1 + 1 + 1 + 1, 1, none⟩) (Kd.R_far (p := ⟨w0.heap.size + 1 + 1 + 1 + 1, 0, none⟩) h4 hne _) hne _) hne _
theorem fin2 {vR : Value} {a b c : ByteArray} (h : Below w0.heap.size w0 W ∧ W.heap[w0.heap.size]? = some boxZ ∧ W.heap[w0.heap.size + 1 + 1 + 1 + 1]? = some (.cells #[.string a, .string b, .string c, vR, .int .i64 keep] 28 (0, 0)) ∧ Kd.R Kd.string 9 W w0.heap.size (fun k => some k = vR.ownBlock) vR R) :
    Aside0 (Below w0.heap.size w0 (((((W.setCell ⟨w0.heap.size, 0, none⟩ (.string a)).setCell ⟨w0.heap.size, 1, none⟩ (.string b)).setCell ⟨w0.heap.size, 2, none⟩ (.string c)).setCell ⟨w0.heap.size, 3, none⟩ vR).setCell ⟨w0.heap.size, 4, none⟩ (.int .i64 keep)) ∧
      (((((W.setCell ⟨w0.heap.size, 0, none⟩ (.string a)).setCell ⟨w0.heap.size, 1, none⟩ (.string b)).setCell ⟨w0.heap.size, 2, none⟩ (.string c)).setCell ⟨w0.heap.size, 3, none⟩ vR).setCell ⟨w0.heap.size, 4, none⟩ (.int .i64 keep)).heap[w0.heap.size]? = some (.cells #[.string a, .string b, .string c, vR, .int .i64 keep] 28 (0, 0)) ∧
      Kd.R Kd.string 9 (((((W.setCell ⟨w0.heap.size, 0, none⟩ (.string a)).setCell ⟨w0.heap.size, 1, none⟩ (.string b)).setCell ⟨w0.heap.size, 2, none⟩ (.string c)).setCell ⟨w0.heap.size, 3, none⟩ vR).setCell ⟨w0.heap.size, 4, none⟩ (.int .i64 keep)) w0.heap.size (fun _ => True) vR R) := by
  obtain ⟨h1, h2, h3, h4⟩ := h
  have hne : ∀ k, some k = vR.ownBlock → k ≠ w0.heap.size := by
    rintro k hk rfl
    exact Kd.R_ne h4 (show W.heap[w0.heap.size]? = some (.cells _ 28 (0, 0)) from h2) (by decide) hk
  have hb : ∀ i : Nat, w0.heap.size ≤ (⟨w0.heap.size, i, none⟩ : Addr).block := fun i => Nat.le_refl _
  refine ⟨⟨((((h1.setCell (hb 0) _).setCell (hb 1) _).setCell (hb 2) _).setCell (hb 3) _).setCell (hb 4) _, ?_, ?_⟩⟩
  · exact blk_put (blk_put (blk_put (blk_put (blk_put (show W.heap[w0.heap.size]? = some (.cells _ 28 (0, 0)) from h2) 0 _ rfl) 1 _ rfl) 2 _ rfl) 3 _ rfl) 4 _ rfl
  · exact Kd.R_mono (Kd.R_far (p := ⟨w0.heap.size, 4, none⟩) (Kd.R_far (p := ⟨w0.heap.size, 3, none⟩) (Kd.R_far (p := ⟨w0.heap.size, 2, none⟩) (Kd.R_far (p := ⟨w0.heap.size, 1, none⟩) (Kd.R_far (p := ⟨w0.heap.size, 0, none⟩) h4 hne _) hne _) hne _) hne _) hne _) (fun _ _ => trivial)
theorem byte_of {c : Int} (h0 : 0 ≤ c) (h1 : c ≤ 255) : ((c.toNat.toUInt8).toNat : Int) = c := by
  have : (c.toNat.toUInt8).toNat = c.toNat % 256 := by simp [Nat.toUInt8]
  rw [this]; omega
theorem Sv.bL {a b c : ByteArray} (h : Sv w0 W vQ vR (three a b c) R Q keep) (x : Int) (hx : 0 ≤ x ∧ x ≤ 255) (hl : a.size + 1 ≤ 140737488355328) :
    Calls Try.prog 143 #[.pointer (some ⟨w0.heap.size + 1, 0, none⟩), .int .u8 x] W fun e w' => e = .returned .nilIface ∧ Aside0 (Sv w0 w' vQ vR (three (a.push x.toNat.toUInt8) b c) R Q keep) := by
  have := h.wL x.toNat.toUInt8 hl
  rwa [byte_of hx.1 hx.2] at this
theorem Sv.bM {a b c : ByteArray} (h : Sv w0 W vQ vR (three a b c) R Q keep) (x : Int) (hx : 0 ≤ x ∧ x ≤ 255) (hl : b.size + 1 ≤ 140737488355328) :
    Calls Try.prog 143 #[.pointer (some ⟨w0.heap.size + 1 + 1, 0, none⟩), .int .u8 x] W fun e w' => e = .returned .nilIface ∧ Aside0 (Sv w0 w' vQ vR (three a (b.push x.toNat.toUInt8) c) R Q keep) := by
  have := h.wM x.toNat.toUInt8 hl
  rwa [byte_of hx.1 hx.2] at this
theorem Sv.bF {a b c : ByteArray} (h : Sv w0 W vQ vR (three a b c) R Q keep) (x : Int) (hx : 0 ≤ x ∧ x ≤ 255) (hl : c.size + 1 ≤ 140737488355328) :
    Calls Try.prog 143 #[.pointer (some ⟨w0.heap.size + 1 + 1 + 1, 0, none⟩), .int .u8 x] W fun e w' => e = .returned .nilIface ∧ Aside0 (Sv w0 w' vQ vR (three a b (c.push x.toNat.toUInt8)) R Q keep) := by
  have := h.wF x.toNat.toUInt8 hl
  rwa [byte_of hx.1 hx.2] at this
end
end Go.Proofs.Ytonagfbadoacjaa.Hand
end
