/- What the law FnExactSieveOf needs, part 5: the kit's printed words, the printed functions with their proofs, and plain facts on them. -/
import Derived.Shelf.Slices.CompactS
import Derived.Test.YtonagfbadoacjaaProg
import Derived.Shelf.Sort.Plain
import Derived.Shelf.Slices.In.SortNone
import Derived.Sort.OwnSorted
import Derived.Test.YtonagfbadoacjaaBFnExactSieveOfd
section
namespace Go.Proofs.Ytonagfbadoacjaa.Q
open Go.RowKit Go.Proofs.YtonagfbadoacjaaW.PrintWords Go.Proofs.YtonagfbadoacjaaW.PrintLast Go.Proofs.YtonagfbadoacjaaW.PrintMore
attribute [local go_sem] max2_int min2_int max_two min_two max_three min_three max_four min_four   
set_option linter.unusedVariables false
set_option linter.unusedSimpArgs false
theorem laws_FnExactSieveOf.mono_l : ∀ k, (∀ y0 y1 y2 y3 y4 y5 y6 y7 y8 y9 y10 y11 y12 y13 y14 y15, LeO (laws_FnExactSieveOf.j0 k y0 y1 y2 y3 y4 y5 y6 y7 y8 y9 y10 y11 y12 y13 y14 y15) (laws_FnExactSieveOf.j0 (k + 1) y0 y1 y2 y3 y4 y5 y6 y7 y8 y9 y10 y11 y12 y13 y14 y15)) ∧ (∀ y0 y1 y2 y3 y4 y5 y6 y7 y8 y9 y10 y11 y12 y13, LeO (laws_FnExactSieveOf.j1 k y0 y1 y2 y3 y4 y5 y6 y7 y8 y9 y10 y11 y12 y13) (laws_FnExactSieveOf.j1 (k + 1) y0 y1 y2 y3 y4 y5 y6 y7 y8 y9 y10 y11 y12 y13)) ∧ (∀ y0 y1 y2 y3 y4 y5 y6, LeO (laws_FnExactSieveOf.j2 k y0 y1 y2 y3 y4 y5 y6) (laws_FnExactSieveOf.j2 (k + 1) y0 y1 y2 y3 y4 y5 y6))
  | 0 => ⟨fun _ _ _ _ _ _ _ _ _ _ _ _ _ _ _ _ r h => by simp [laws_FnExactSieveOf.j0] at h, fun _ _ _ _ _ _ _ _ _ _ _ _ _ _ r h => by simp [laws_FnExactSieveOf.j1] at h, fun _ _ _ _ _ _ _ r h => by simp [laws_FnExactSieveOf.j2] at h⟩
  | k + 1 => by
    obtain ⟨ih0, ih1, ih2⟩ := laws_FnExactSieveOf.mono_l k
    refine ⟨?_, ?_, ?_⟩
    · intro y0 y1 y2 y3 y4 y5 y6 y7 y8 y9 y10 y11 y12 y13 y14 y15
      unfold laws_FnExactSieveOf.j0
      repeat' first
      | (with_reducible exact ih0 _ _ _ _ _ _ _ _ _ _ _ _ _ _ _ _)
      | (with_reducible exact ih1 _ _ _ _ _ _ _ _ _ _ _ _ _ _)
      | (with_reducible exact ih2 _ _ _ _ _ _ _)
      | (with_reducible exact impl_SieveOf.mono _ _ _)
      | (with_reducible exact laws_eqSieve.mono _ _ _ _ _ _ _ _ _ _ _)
      | (with_reducible exact laws_eqStringS.mono _ _ _)
      | (with_reducible exact laws_heldSieve.mono _ _ _ _ _ _ _)
      | (with_reducible exact laws_markSieve.mono _ _ _ _ _ _ _)
      | (with_reducible exact laws_markStringS.mono _ _ _)
      | (with_reducible exact laws_szStringS.mono _ _ _)
      | (with_reducible exact laws_toStringS.mono _ _)
      | (with_reducible exact spec_SieveOf.mono _ _ _)
      | (with_reducible exact LeO.refl _)
      | (with_reducible exact LeO.none _)
      | (with_reducible refine LeO.ite ?_ ?_)
      | (with_reducible refine LeO.bind ?_ (fun _ => ?_))
      | exact ih0 _ _ _ _ _ _ _ _ _ _ _ _ _ _ _ _
      | exact ih1 _ _ _ _ _ _ _ _ _ _ _ _ _ _
      | exact ih2 _ _ _ _ _ _ _
      | exact impl_SieveOf.mono _ _ _
      | exact laws_eqSieve.mono _ _ _ _ _ _ _ _ _ _ _
      | exact laws_eqStringS.mono _ _ _
      | exact laws_heldSieve.mono _ _ _ _ _ _ _
      | exact laws_markSieve.mono _ _ _ _ _ _ _
      | exact laws_markStringS.mono _ _ _
      | exact laws_szStringS.mono _ _ _
      | exact laws_toStringS.mono _ _
      | exact spec_SieveOf.mono _ _ _
      | exact LeO.none _
      | refine LeO.ite ?_ ?_
      | refine LeO.bind ?_ (fun _ => ?_)
    · intro y0 y1 y2 y3 y4 y5 y6 y7 y8 y9 y10 y11 y12 y13
      unfold laws_FnExactSieveOf.j1
      repeat' first
      | (with_reducible exact ih0 _ _ _ _ _ _ _ _ _ _ _ _ _ _ _ _)
      | (with_reducible exact ih1 _ _ _ _ _ _ _ _ _ _ _ _ _ _)
      | (with_reducible exact ih2 _ _ _ _ _ _ _)
      | (with_reducible exact impl_SieveOf.mono _ _ _)
      | (with_reducible exact laws_eqSieve.mono _ _ _ _ _ _ _ _ _ _ _)
      | (with_reducible exact laws_eqStringS.mono _ _ _)
      | (with_reducible exact laws_heldSieve.mono _ _ _ _ _ _ _)
      | (with_reducible exact laws_markSieve.mono _ _ _ _ _ _ _)
      | (with_reducible exact laws_markStringS.mono _ _ _)
      | (with_reducible exact laws_szStringS.mono _ _ _)
      | (with_reducible exact laws_toStringS.mono _ _)
      | (with_reducible exact spec_SieveOf.mono _ _ _)
      | (with_reducible exact LeO.refl _)
      | (with_reducible exact LeO.none _)
      | (with_reducible refine LeO.ite ?_ ?_)
      | (with_reducible refine LeO.bind ?_ (fun _ => ?_))
      | exact ih0 _ _ _ _ _ _ _ _ _ _ _ _ _ _ _ _
      | exact ih1 _ _ _ _ _ _ _ _ _ _ _ _ _ _
      | exact ih2 _ _ _ _ _ _ _
      | exact impl_SieveOf.mono _ _ _
      | exact laws_eqSieve.mono _ _ _ _ _ _ _ _ _ _ _
      | exact laws_eqStringS.mono _ _ _
      | exact laws_heldSieve.mono _ _ _ _ _ _ _
      | exact laws_markSieve.mono _ _ _ _ _ _ _
      | exact laws_markStringS.mono _ _ _
      | exact laws_szStringS.mono _ _ _
      | exact laws_toStringS.mono _ _
      | exact spec_SieveOf.mono _ _ _
      | exact LeO.none _
      | refine LeO.ite ?_ ?_
      | refine LeO.bind ?_ (fun _ => ?_)
    · intro y0 y1 y2 y3 y4 y5 y6
      unfold laws_FnExactSieveOf.j2
      repeat' first
      | (with_reducible exact ih0 _ _ _ _ _ _ _ _ _ _ _ _ _ _ _ _)
      | (with_reducible exact ih1 _ _ _ _ _ _ _ _ _ _ _ _ _ _)
      | (with_reducible exact ih2 _ _ _ _ _ _ _)
      | (with_reducible exact impl_SieveOf.mono _ _ _)
      | (with_reducible exact laws_eqSieve.mono _ _ _ _ _ _ _ _ _ _ _)
      | (with_reducible exact laws_eqStringS.mono _ _ _)
      | (with_reducible exact laws_heldSieve.mono _ _ _ _ _ _ _)
      | (with_reducible exact laws_markSieve.mono _ _ _ _ _ _ _)
      | (with_reducible exact laws_markStringS.mono _ _ _)
      | (with_reducible exact laws_szStringS.mono _ _ _)
      | (with_reducible exact laws_toStringS.mono _ _)
      | (with_reducible exact spec_SieveOf.mono _ _ _)
      | (with_reducible exact LeO.refl _)
      | (with_reducible exact LeO.none _)
      | (with_reducible refine LeO.ite ?_ ?_)
      | (with_reducible refine LeO.bind ?_ (fun _ => ?_))
      | exact ih0 _ _ _ _ _ _ _ _ _ _ _ _ _ _ _ _
      | exact ih1 _ _ _ _ _ _ _ _ _ _ _ _ _ _
      | exact ih2 _ _ _ _ _ _ _
      | exact impl_SieveOf.mono _ _ _
      | exact laws_eqSieve.mono _ _ _ _ _ _ _ _ _ _ _
      | exact laws_eqStringS.mono _ _ _
      | exact laws_heldSieve.mono _ _ _ _ _ _ _
      | exact laws_markSieve.mono _ _ _ _ _ _ _
      | exact laws_markStringS.mono _ _ _
      | exact laws_szStringS.mono _ _ _
      | exact laws_toStringS.mono _ _
      | exact spec_SieveOf.mono _ _ _
      | exact LeO.none _
      | refine LeO.ite ?_ ?_
      | refine LeO.bind ?_ (fun _ => ?_)
theorem laws_FnExactSieveOf.mono : ∀ a0 a1 k, LeO (laws_FnExactSieveOf.f k a0 a1) (laws_FnExactSieveOf.f (k + 1) a0 a1) := by
  intro a0 a1 k
  obtain ⟨ih0, ih1, ih2⟩ := laws_FnExactSieveOf.mono_l k
  unfold laws_FnExactSieveOf.f
  repeat' first
      | (with_reducible exact ih0 _ _ _ _ _ _ _ _ _ _ _ _ _ _ _ _)
      | (with_reducible exact ih1 _ _ _ _ _ _ _ _ _ _ _ _ _ _)
      | (with_reducible exact ih2 _ _ _ _ _ _ _)
      | (with_reducible exact impl_SieveOf.mono _ _ _)
      | (with_reducible exact laws_eqSieve.mono _ _ _ _ _ _ _ _ _ _ _)
      | (with_reducible exact laws_eqStringS.mono _ _ _)
      | (with_reducible exact laws_heldSieve.mono _ _ _ _ _ _ _)
      | (with_reducible exact laws_markSieve.mono _ _ _ _ _ _ _)
      | (with_reducible exact laws_markStringS.mono _ _ _)
      | (with_reducible exact laws_szStringS.mono _ _ _)
      | (with_reducible exact laws_toStringS.mono _ _)
      | (with_reducible exact spec_SieveOf.mono _ _ _)
      | (with_reducible exact LeO.refl _)
      | (with_reducible exact LeO.none _)
      | (with_reducible refine LeO.ite ?_ ?_)
      | (with_reducible refine LeO.bind ?_ (fun _ => ?_))
      | exact ih0 _ _ _ _ _ _ _ _ _ _ _ _ _ _ _ _
      | exact ih1 _ _ _ _ _ _ _ _ _ _ _ _ _ _
      | exact ih2 _ _ _ _ _ _ _
      | exact impl_SieveOf.mono _ _ _
      | exact laws_eqSieve.mono _ _ _ _ _ _ _ _ _ _ _
      | exact laws_eqStringS.mono _ _ _
      | exact laws_heldSieve.mono _ _ _ _ _ _ _
      | exact laws_markSieve.mono _ _ _ _ _ _ _
      | exact laws_markStringS.mono _ _ _
      | exact laws_szStringS.mono _ _ _
      | exact laws_toStringS.mono _ _
      | exact spec_SieveOf.mono _ _ _
      | exact LeO.none _
      | refine LeO.ite ?_ ?_
      | refine LeO.bind ?_ (fun _ => ?_)
set_option maxHeartbeats 8000000 in
set_option maxRecDepth 100000 in
theorem laws_FnExactSieveOf.calls (k : Nat) (A0 : Option Addr) (c0 : Nat) (l0 : List ByteArray) (a1 : Int) (r : Bool) (w : World) (hr0 : Kd.C Kd.string w A0 l0.length l0) (hc0 : l0.length ≤ c0) (h : laws_FnExactSieveOf.f k l0 a1 = some r) :
    Calls Try.prog 15 #[.slice A0 l0.length c0, .int .i64 a1] w fun e w' => e = .returned (.bool r) ∧ Below w.heap.size w w' := by
  have hu28 := Try.underlying28
  have HR0 := Aside0.mk hr0
  have HC0 := Aside0.mk hc0
  clear hr0 hc0
  have HB := Aside0.mk (Below.refl w.heap.size w)
  have H : ((laws_szStringS.f k l0 1048576).bind fun t1052 => (if t1052 < 0 then (some true) else ((laws_toStringS.f k l0).bind fun t1053 => ((spec_SieveOf.f k t1053 a1).bind fun bt1056 => ((laws_toStringS.f k l0).bind fun t1065 => ((impl_SieveOf.f k t1065 a1).bind fun bt1068 => ((laws_eqSieve.f k bt1068.1 bt1068.2.1 bt1068.2.2.1 bt1068.2.2.2.1 bt1068.2.2.2.2.1 bt1056.1 bt1056.2.1 bt1056.2.2.1 bt1056.2.2.2.1 bt1056.2.2.2.2.1).bind fun t1077 => (if t1077 = true then (laws_FnExactSieveOf.j0 k l0 a1 bt1056.2.2.2.2.2 t1065 bt1068.2.2.2.2.2 (bt1068.2.2.2.2.2 != bt1056.2.2.2.2.2) bt1056.1 bt1056.2.1 bt1056.2.2.1 bt1056.2.2.2.1 bt1056.2.2.2.2.1 bt1068.1 bt1068.2.1 bt1068.2.2.1 bt1068.2.2.2.1 bt1068.2.2.2.2.1) else (laws_FnExactSieveOf.j0 k l0 a1 bt1056.2.2.2.2.2 t1065 bt1068.2.2.2.2.2 true bt1056.1 bt1056.2.1 bt1056.2.2.1 bt1056.2.2.2.1 bt1056.2.2.2.2.1 bt1068.1 bt1068.2.1 bt1068.2.2.1 bt1068.2.2.2.1 bt1068.2.2.2.2.1))))))))) = some r := h
  clear h
  replace H := Option.bind_eq_some_iff.mp H
  obtain ⟨t1052, A30, H⟩ := H
  (try dsimp only at H)
  have A3 := Aside0.mk A30
  clear A30
  go_enter Try.func15, Try.ntmps15
  go_upto_if 20 with (first | ((with_reducible refine gate_callee (f := 50) rfl ?_); refine goesL_ (some 18) rfl rfl Try.func50 (by kernel_rfl) rfl #[.slice A0 l0.length c0, .int .i64 1048576] rfl (by (try simp only [List.map_toArray, List.map_cons, List.map_nil]); first | done | rfl | (simp only [List.length_drop, List.length_take]; rfl)) ?_; (with_reducible refine (laws_szStringS.calls k _ _ l0 1048576 t1052 _ ?side1 ?side2 A3.out).mono ?_); (case side1 => repeat (first | exact HR0.out | (with_reducible refine Kd.C_alloc ?_ _) | (with_reducible refine Kd.C_drewN ?_ _) | (with_reducible refine Kd.C_drew ?_))); (case side2 => exact HC0.out); rintro e w' ⟨rfl, ⟨nd, rfl⟩⟩; refine ⟨_, rfl, ?_⟩))
  by_cases c4 : t1052 < 0
  · rw [if_pos c4] at H
    have c4b0 : decide (t1052 < 0) = true := decide_eq_true c4
    clear c4
    (first | rw [c4b0] | (simp only [i64_w, i32_w]; rw [c4b0]) | simp only [*, Bool.not_true, Bool.not_false] | skip)
    obtain rfl := Option.some.inj H
    go_wp2
    go_ret
    exact ⟨ze, zb HB.out⟩
  · rw [if_neg c4] at H
    have c4b0 : decide (t1052 < 0) = false := decide_eq_false c4
    clear c4
    (first | rw [c4b0] | (simp only [i64_w, i32_w]; rw [c4b0]) | simp only [*, Bool.not_true, Bool.not_false] | skip)
    replace H := Option.bind_eq_some_iff.mp H
    obtain ⟨t1053, A50, H⟩ := H
    (try dsimp only at H)
    have A5 := Aside0.mk A50
    clear A50
    replace H := Option.bind_eq_some_iff.mp H
    obtain ⟨⟨t1056, t1057, t1058, t1059, t1062, t1063⟩, A60, H⟩ := H
    (try dsimp only at H)
    have A6 := Aside0.mk A60
    clear A60
    replace H := Option.bind_eq_some_iff.mp H
    obtain ⟨t1065, A70, H⟩ := H
    (try dsimp only at H)
    have A7 := Aside0.mk A70
    clear A70
    replace H := Option.bind_eq_some_iff.mp H
    obtain ⟨⟨t1068, t1069, t1070, t1071, t1074, t1075⟩, A80, H⟩ := H
    (try dsimp only at H)
    have A8 := Aside0.mk A80
    clear A80
    have HC9 := Aside0.mk H
    clear H
    go_upto_region 8 with (first | ((with_reducible refine gate_callee (f := 52) rfl ?_); refine goesL_ (some 23) rfl rfl Try.func52 (by kernel_rfl) rfl #[.slice A0 l0.length c0] rfl (by (try simp only [List.map_toArray, List.map_cons, List.map_nil]); first | done | rfl | (simp only [List.length_drop, List.length_take]; rfl)) ?_; (with_reducible refine (laws_toStringS.calls k _ _ l0 t1053 _ ?side1 ?side2 A5.out).mono ?_); (case side1 => repeat (first | exact (Kd.C_below HR0.out HB.out) | (with_reducible refine Kd.C_alloc ?_ _) | (with_reducible refine Kd.C_drewN ?_ _) | (with_reducible refine Kd.C_drew ?_))); (case side2 => exact HC0.out); rintro e w10 ⟨v1054, rfl, ho0, hb⟩; refine ⟨_, rfl, ?_⟩; have n0_ := Aside0.mk (Kd.R_lower ho0 (below_size (zb HB.out))); have n1_ := Aside0.mk (below_step (zb HB.out) hb); clear HB; have HO1055 := n0_; have HB := n1_; clear n0_ n1_; (try clear hb); (try clear hb2); (try clear hk); (try clear hi); (try clear ho0); obtain ⟨Ao11, co11, eo11⟩ := Kd.R_slice HO1055.out; subst eo11) | ((with_reducible refine gate_callee (f := 59) rfl ?_); refine goesL_ (some 25) rfl rfl Try.func59 (by kernel_rfl) rfl #[.slice Ao11 t1053.length co11, .int .i64 a1] rfl (by (try simp only [List.map_toArray, List.map_cons, List.map_nil]); first | done | rfl | (simp only [List.length_drop, List.length_take]; rfl)) ?_; (with_reducible refine (spec_SieveOf.calls k (fun k_ => some k_ = (.slice Ao11 t1053.length co11 : Value).ownBlock) _ _ t1053 a1 t1056 t1057 t1058 t1059 t1062 t1063 _ ?side1 A6.out).mono ?_); (case side1 => exact Kd.R_V (Kd.R_tight rfl (HO1055.out))); rintro e w12 ⟨v1060, rfl, ho0, hb⟩; refine ⟨_, rfl, ?_⟩; have n0_ := Aside0.mk (Kd.R_elder' (zr HO1055.out) (Kd.R_base ho0) hb); have n1_ := Aside0.mk (Kd.R_lower (Kd.R_new' (Kd.R_mono (ok' := fun k_ => True) ho0 (fun _ hk_ => trivial)) (Kd.R_lt (zr HO1055.out))) (below_size (zb HB.out))); have n2_ := Aside0.mk (below_step (zb HB.out) hb); clear HO1055; clear HB; have HO1055 := n0_; have HO1061 := n1_; have HB := n2_; clear n0_ n1_ n2_; (try clear hb); (try clear hb2); (try clear hk); (try clear hi); (try clear ho0)) | ((with_reducible refine gate_dst (N := 6) rfl ?_); refine box_event ?hg (N := 6) ?hd (cs := #[.string (⟨#[]⟩ : ByteArray), .string (⟨#[]⟩ : ByteArray), .string (⟨#[]⟩ : ByteArray), .slice none 0 0, .int .i64 0]) (t := 28) ?hr ?_; (case hd => rfl); (case hg => rfl); (case hr => first | (go_simp; done) | (go_simp; rfl)); intro gb1064 hg w13 hbox hb; have n0_ := Aside0.mk (Kd.R_below (zr HO1055.out) hb); have n1_ := Aside0.mk (Kd.R_below (zr HO1061.out) hb); have n2_ := Aside0.mk (below_step (zb HB.out) hb); have n3_ := Aside0.mk (hbox); have n4_ := Aside0.mk ((by rw [hg]; exact (below_size (zb HB.out)) : w.heap.size ≤ gb1064)); have n5_ := Aside0.mk ((by rw [hg]; exact (below_size (zb HB.out)) : w.heap.size ≤ gb1064)); clear HO1055; clear HO1061; clear HB; have HO1055 := n0_; have HO1061 := n1_; have HB := n2_; have BK1064 := n3_; have GW1064 := n4_; have GE1064 := n5_; clear n0_ n1_ n2_ n3_ n4_ n5_; clear hb hbox hg; have hcz14_0 : w13.cell? ⟨gb1064, 0, none⟩ = some (.string (⟨#[]⟩ : ByteArray)) := (blk_cell BK1064.out 0).trans rfl; have hcz14_1 : w13.cell? ⟨gb1064, 1, none⟩ = some (.string (⟨#[]⟩ : ByteArray)) := (blk_cell BK1064.out 1).trans rfl; have hcz14_2 : w13.cell? ⟨gb1064, 2, none⟩ = some (.string (⟨#[]⟩ : ByteArray)) := (blk_cell BK1064.out 2).trans rfl; have hcz14_3 : w13.cell? ⟨gb1064, 3, none⟩ = some (.slice none 0 0) := (blk_cell BK1064.out 3).trans rfl; have hcz14_4 : w13.cell? ⟨gb1064, 4, none⟩ = some (.int .i64 0) := (blk_cell BK1064.out 4).trans rfl; have hfz14_0 := blk_frozen BK1064.out 0; have hfz14_1 := blk_frozen BK1064.out 1; have hfz14_2 := blk_frozen BK1064.out 2; have hfz14_3 := blk_frozen BK1064.out 3; have hfz14_4 := blk_frozen BK1064.out 4; obtain ⟨Ao15, co15, eo15⟩ := Kd.R_slice HO1061.out; subst eo15) | ((with_reducible refine gate_callee (f := 52) rfl ?_); refine goesL_ (some 29) rfl rfl Try.func52 (by kernel_rfl) rfl #[.slice A0 l0.length c0] rfl (by (try simp only [List.map_toArray, List.map_cons, List.map_nil]); first | done | rfl | (simp only [List.length_drop, List.length_take]; rfl)) ?_; (with_reducible refine (laws_toStringS.calls k _ _ l0 t1065 _ ?side1 ?side2 A7.out).mono ?_); (case side1 => exact Kd.C_below HR0.out (by repeat (first | (with_reducible first | exact HB.out | apply below_alloc | apply pw_below_drewN | apply below_drew1 | refine below_set ?_ GE1064.out) | exact HB.out))); (case side2 => exact HC0.out); rintro e w16 ⟨v1066, rfl, ho0, hb⟩; refine ⟨_, rfl, ?_⟩; have n0_ := Aside0.mk (Kd.R_elder' (zr (Kd.R_mono (Kd.R_far (p := ⟨gb1064, 4, none⟩) (Kd.R_far (p := ⟨gb1064, 3, none⟩) (Kd.R_far (p := ⟨gb1064, 2, none⟩) (Kd.R_far (p := ⟨gb1064, 1, none⟩) (Kd.R_far (p := ⟨gb1064, 0, none⟩) (Kd.R_types HO1055.out BK1064.out (by decide)) (fun _ hk => hk.2) (.string t1056)) (fun _ hk => hk.2) (.string t1057)) (fun _ hk => hk.2) (.string t1058)) (fun _ hk => hk.2) (.slice Ao15 t1059.length co15)) (fun _ hk => hk.2) (.int .i64 t1062)) (fun _ h_ => h_.1))) (Kd.R_base ho0) hb); have n1_ := Aside0.mk (Kd.R_elder' (zr (Kd.R_mono (Kd.R_far (p := ⟨gb1064, 4, none⟩) (Kd.R_far (p := ⟨gb1064, 3, none⟩) (Kd.R_far (p := ⟨gb1064, 2, none⟩) (Kd.R_far (p := ⟨gb1064, 1, none⟩) (Kd.R_far (p := ⟨gb1064, 0, none⟩) (Kd.R_types HO1061.out BK1064.out (by decide)) (fun _ hk => hk.2) (.string t1056)) (fun _ hk => hk.2) (.string t1057)) (fun _ hk => hk.2) (.string t1058)) (fun _ hk => hk.2) (.slice Ao15 t1059.length co15)) (fun _ hk => hk.2) (.int .i64 t1062)) (fun _ h_ => h_.1))) (Kd.R_base ho0) hb); have n2_ := Aside0.mk (Kd.R_lower (Kd.R_new' (Kd.R_new' ho0 (Kd.R_lt (zr (Kd.R_mono (Kd.R_far (p := ⟨gb1064, 4, none⟩) (Kd.R_far (p := ⟨gb1064, 3, none⟩) (Kd.R_far (p := ⟨gb1064, 2, none⟩) (Kd.R_far (p := ⟨gb1064, 1, none⟩) (Kd.R_far (p := ⟨gb1064, 0, none⟩) (Kd.R_types HO1055.out BK1064.out (by decide)) (fun _ hk => hk.2) (.string t1056)) (fun _ hk => hk.2) (.string t1057)) (fun _ hk => hk.2) (.string t1058)) (fun _ hk => hk.2) (.slice Ao15 t1059.length co15)) (fun _ hk => hk.2) (.int .i64 t1062)) (fun _ h_ => h_.1))))) (Kd.R_lt (zr (Kd.R_mono (Kd.R_far (p := ⟨gb1064, 4, none⟩) (Kd.R_far (p := ⟨gb1064, 3, none⟩) (Kd.R_far (p := ⟨gb1064, 2, none⟩) (Kd.R_far (p := ⟨gb1064, 1, none⟩) (Kd.R_far (p := ⟨gb1064, 0, none⟩) (Kd.R_types HO1061.out BK1064.out (by decide)) (fun _ hk => hk.2) (.string t1056)) (fun _ hk => hk.2) (.string t1057)) (fun _ hk => hk.2) (.string t1058)) (fun _ hk => hk.2) (.slice Ao15 t1059.length co15)) (fun _ hk => hk.2) (.int .i64 t1062)) (fun _ h_ => h_.1))))) (below_size (by repeat (first | (with_reducible first | exact HB.out | apply below_alloc | apply pw_below_drewN | apply below_drew1 | refine below_set ?_ GE1064.out) | exact HB.out)))); have n3_ := Aside0.mk (blk_below (g := gb1064) (o := .cells #[.string t1056, .string t1057, .string t1058, .slice Ao15 t1059.length co15, .int .i64 t1062] 28 (0, 0)) (by (with_reducible repeat (first | refine blk_drewN ?_ _ | refine blk_drew ?_ | refine blk_alloc ?_ _)); refine blk_put (cs := #[.string t1056, .string t1057, .string t1058, .slice Ao15 t1059.length co15, .int .i64 0]) ?_ 4 _ rfl; (with_reducible repeat (first | refine blk_drewN ?_ _ | refine blk_drew ?_ | refine blk_alloc ?_ _)); refine blk_put (cs := #[.string t1056, .string t1057, .string t1058, .slice none 0 0, .int .i64 0]) ?_ 3 _ rfl; (with_reducible repeat (first | refine blk_drewN ?_ _ | refine blk_drew ?_ | refine blk_alloc ?_ _)); refine blk_put (cs := #[.string t1056, .string t1057, .string (⟨#[]⟩ : ByteArray), .slice none 0 0, .int .i64 0]) ?_ 2 _ rfl; (with_reducible repeat (first | refine blk_drewN ?_ _ | refine blk_drew ?_ | refine blk_alloc ?_ _)); refine blk_put (cs := #[.string t1056, .string (⟨#[]⟩ : ByteArray), .string (⟨#[]⟩ : ByteArray), .slice none 0 0, .int .i64 0]) ?_ 1 _ rfl; (with_reducible repeat (first | refine blk_drewN ?_ _ | refine blk_drew ?_ | refine blk_alloc ?_ _)); refine blk_put (cs := #[.string (⟨#[]⟩ : ByteArray), .string (⟨#[]⟩ : ByteArray), .string (⟨#[]⟩ : ByteArray), .slice none 0 0, .int .i64 0]) ?_ 0 _ rfl; (with_reducible repeat (first | refine blk_drewN ?_ _ | refine blk_drew ?_ | refine blk_alloc ?_ _)); exact BK1064.out) hb); have n4_ := Aside0.mk (below_step (by repeat (first | (with_reducible first | exact HB.out | apply below_alloc | apply pw_below_drewN | apply below_drew1 | refine below_set ?_ GE1064.out) | exact HB.out)) hb); clear HO1055; clear HO1061; clear BK1064; clear HB; have HO1055 := n0_; have HO1061 := n1_; have HO1067 := n2_; have BK1064 := n3_; have HB := n4_; clear n0_ n1_ n2_ n3_ n4_; (try clear hb); (try clear hb2); (try clear hk); (try clear hi); (try clear ho0); obtain ⟨Ao17, co17, eo17⟩ := Kd.R_slice HO1067.out; subst eo17) | ((with_reducible refine gate_callee (f := 46) rfl ?_); refine goesL_ (some 33) rfl rfl Try.func46 (by kernel_rfl) rfl #[.slice Ao17 t1065.length co17, .int .i64 a1] rfl (by (try simp only [List.map_toArray, List.map_cons, List.map_nil]); first | done | rfl | (simp only [List.length_drop, List.length_take]; rfl)) ?_; (with_reducible refine (impl_SieveOf.calls k _ _ t1065 a1 t1068 t1069 t1070 t1071 t1074 t1075 _ ?side1 ?side2 A8.out).mono ?_); (case side1 => repeat (first | exact (Kd.R_reads' HO1067.out).2.2 | (with_reducible refine Kd.C_alloc ?_ _) | (with_reducible refine Kd.C_drewN ?_ _) | (with_reducible refine Kd.C_drew ?_))); (case side2 => exact (Kd.R_reads' HO1067.out).2.1); rintro e w18 ⟨v1072, rfl, ho0, hb⟩; refine ⟨_, rfl, ?_⟩; have n0_ := Aside0.mk (Kd.R_elder' (zr HO1055.out) (Kd.R_base ho0) hb); have n1_ := Aside0.mk (Kd.R_elder' (zr HO1061.out) (Kd.R_base ho0) hb); have n2_ := Aside0.mk (Kd.R_elder' (zr HO1067.out) (Kd.R_base ho0) hb); have n3_ := Aside0.mk (Kd.R_lower (Kd.R_new' (Kd.R_new' (Kd.R_new' ho0 (Kd.R_lt (zr HO1055.out))) (Kd.R_lt (zr HO1061.out))) (Kd.R_lt (zr HO1067.out))) (below_size (by repeat (first | (with_reducible first | exact HB.out | apply below_alloc | apply pw_below_drewN | apply below_drew1 | refine below_set ?_ GE1064.out) | exact HB.out)))); have n4_ := Aside0.mk (blk_below (g := gb1064) (o := .cells #[.string t1056, .string t1057, .string t1058, .slice Ao15 t1059.length co15, .int .i64 t1062] 28 (0, 0)) (by (with_reducible repeat (first | refine blk_drewN ?_ _ | refine blk_drew ?_ | refine blk_alloc ?_ _)); exact BK1064.out) hb); have n5_ := Aside0.mk (below_step (by repeat (first | (with_reducible first | exact HB.out | apply below_alloc | apply pw_below_drewN | apply below_drew1 | refine below_set ?_ GE1064.out) | exact HB.out)) hb); clear HO1055; clear HO1061; clear HO1067; clear BK1064; clear HB; have HO1055 := n0_; have HO1061 := n1_; have HO1067 := n2_; have HO1073 := n3_; have BK1064 := n4_; have HB := n5_; clear n0_ n1_ n2_ n3_ n4_ n5_; (try clear hb); (try clear hb2); (try clear hk); (try clear hi); (try clear ho0)) | ((with_reducible refine gate_dst (N := 9) rfl ?_); refine box_event ?hg (N := 9) ?hd (cs := #[.string (⟨#[]⟩ : ByteArray), .string (⟨#[]⟩ : ByteArray), .string (⟨#[]⟩ : ByteArray), .slice none 0 0, .int .i64 0]) (t := 28) ?hr ?_; (case hd => rfl); (case hg => rfl); (case hr => first | (go_simp; done) | (go_simp; rfl)); intro gb1076 hg w19 hbox hb; have n0_ := Aside0.mk (Kd.R_below (zr HO1055.out) hb); have n1_ := Aside0.mk (Kd.R_below (zr HO1061.out) hb); have n2_ := Aside0.mk (Kd.R_below (zr HO1067.out) hb); have n3_ := Aside0.mk (Kd.R_below (zr HO1073.out) hb); have n4_ := Aside0.mk (blk_below (g := gb1064) (o := .cells #[.string t1056, .string t1057, .string t1058, .slice Ao15 t1059.length co15, .int .i64 t1062] 28 (0, 0)) (by (with_reducible repeat (first | refine blk_drewN ?_ _ | refine blk_drew ?_ | refine blk_alloc ?_ _)); exact BK1064.out) hb); have n5_ := Aside0.mk (below_step (by repeat (first | (with_reducible first | exact HB.out | apply below_alloc | apply pw_below_drewN | apply below_drew1 | refine below_set ?_ GE1064.out) | exact HB.out)) hb); have n6_ := Aside0.mk (hbox); have n7_ := Aside0.mk ((by rw [hg]; exact (below_size (by repeat (first | (with_reducible first | exact HB.out | apply below_alloc | apply pw_below_drewN | apply below_drew1 | refine below_set ?_ GE1064.out) | exact HB.out))) : w.heap.size ≤ gb1076)); have n8_ := Aside0.mk ((by rw [hg]; exact (below_size (by repeat (first | (with_reducible first | exact HB.out | apply below_alloc | apply pw_below_drewN | apply below_drew1 | refine below_set ?_ GE1064.out) | exact HB.out))) : w.heap.size ≤ gb1076)); have n9_ := Aside0.mk ((by rw [hg]; exact Nat.ne_of_lt (blk_lt (g := gb1064) (o := .cells #[.string t1056, .string t1057, .string t1058, .slice Ao15 t1059.length co15, .int .i64 t1062] 28 (0, 0)) (by (with_reducible repeat (first | refine blk_drewN ?_ _ | refine blk_drew ?_ | refine blk_alloc ?_ _)); exact BK1064.out)) : gb1064 ≠ gb1076)); have n10_ := Aside0.mk ((by rw [hg]; exact Nat.ne_of_gt (blk_lt (g := gb1064) (o := .cells #[.string t1056, .string t1057, .string t1058, .slice Ao15 t1059.length co15, .int .i64 t1062] 28 (0, 0)) (by (with_reducible repeat (first | refine blk_drewN ?_ _ | refine blk_drew ?_ | refine blk_alloc ?_ _)); exact BK1064.out)) : gb1076 ≠ gb1064)); clear HO1055; clear HO1061; clear HO1067; clear HO1073; clear BK1064; clear HB; have HO1055 := n0_; have HO1061 := n1_; have HO1067 := n2_; have HO1073 := n3_; have BK1064 := n4_; have HB := n5_; have BK1076 := n6_; have GW1076 := n7_; have GE1076 := n8_; have NB1064_1076 := n9_; have NB1076_1064 := n10_; clear n0_ n1_ n2_ n3_ n4_ n5_ n6_ n7_ n8_ n9_ n10_; clear hb hbox hg; have hnb20 := NB1076_1064.out; have hnc20 := NB1064_1076.out; have hcz21_0 : w19.cell? ⟨gb1076, 0, none⟩ = some (.string (⟨#[]⟩ : ByteArray)) := (blk_cell BK1076.out 0).trans rfl; have hcz21_1 : w19.cell? ⟨gb1076, 1, none⟩ = some (.string (⟨#[]⟩ : ByteArray)) := (blk_cell BK1076.out 1).trans rfl; have hcz21_2 : w19.cell? ⟨gb1076, 2, none⟩ = some (.string (⟨#[]⟩ : ByteArray)) := (blk_cell BK1076.out 2).trans rfl; have hcz21_3 : w19.cell? ⟨gb1076, 3, none⟩ = some (.slice none 0 0) := (blk_cell BK1076.out 3).trans rfl; have hcz21_4 : w19.cell? ⟨gb1076, 4, none⟩ = some (.int .i64 0) := (blk_cell BK1076.out 4).trans rfl; have hfz21_0 := blk_frozen BK1076.out 0; have hfz21_1 := blk_frozen BK1076.out 1; have hfz21_2 := blk_frozen BK1076.out 2; have hfz21_3 := blk_frozen BK1076.out 3; have hfz21_4 := blk_frozen BK1076.out 4; obtain ⟨Ao22, co22, eo22⟩ := Kd.R_slice HO1073.out; subst eo22))
    (try simp only [Act.put, List.setIfInBounds_toArray, List.set_cons_zero, List.set_cons_succ])
    go_cut [44] (fun v44 wc => ∃ (kq : Nat) (x44_8 : Bool), v44 = .bool x44_8 ∧ Aside0 (laws_FnExactSieveOf.j0 kq l0 a1 t1063 t1065 t1075 x44_8 t1056 t1057 t1058 t1059 t1062 t1068 t1069 t1070 t1071 t1074 = some r) ∧ Aside0 (kq ≤ k) ∧ Aside0 (Kd.R Kd.string 9 wc w.heap.size (fun k_ => some k_ ≠ ((.slice Ao15 t1059.length co15) : Value).ownBlock ∧ some k_ ≠ ((.slice Ao22 t1071.length co22) : Value).ownBlock) (.slice Ao17 t1065.length co17) t1065) ∧ Aside0 (Kd.R Kd.string 9 wc w.heap.size (fun k_ => some k_ ≠ ((.slice Ao17 t1065.length co17) : Value).ownBlock ∧ some k_ ≠ ((.slice Ao22 t1071.length co22) : Value).ownBlock) (.slice Ao15 t1059.length co15) t1059) ∧ Aside0 (Kd.R Kd.string 9 wc w.heap.size (fun k_ => some k_ ≠ ((.slice Ao17 t1065.length co17) : Value).ownBlock ∧ some k_ ≠ ((.slice Ao15 t1059.length co15) : Value).ownBlock) (.slice Ao22 t1071.length co22) t1071) ∧ Aside0 (wc.heap[gb1064]? = some (.cells #[.string t1056, .string t1057, .string t1058, (.slice Ao15 t1059.length co15), .int .i64 t1062] 28 (0, 0))) ∧ Aside0 (wc.heap[gb1076]? = some (.cells #[.string t1068, .string t1069, .string t1070, (.slice Ao22 t1071.length co22), .int .i64 t1074] 28 (0, 0))) ∧ Aside0 (Below w.heap.size w wc))
    case first =>
      have H := HC9.out
      clear HC9
      replace H := Option.bind_eq_some_iff.mp H
      obtain ⟨t1077, A230, H⟩ := H
      (try dsimp only at H)
      have A23 := Aside0.mk A230
      clear A230
      by_cases c24 : t1077 = true
      · subst c24
        have H1 : (laws_FnExactSieveOf.j0 k l0 a1 t1063 t1065 t1075 (t1075 != t1063) t1056 t1057 t1058 t1059 t1062 t1068 t1069 t1070 t1071 t1074) = some r := by rw [if_pos rfl] at H; exact H
        clear H
        have H := H1
        clear H1
        have H' := Aside0.mk H
        clear H
        have hnb25 := NB1076_1064.out
        have hnc25 := NB1064_1076.out
        have hcz26_0 : w19.cell? ⟨gb1076, 0, none⟩ = some (.string (⟨#[]⟩ : ByteArray)) := (blk_cell BK1076.out 0).trans rfl
        have hcz26_1 : w19.cell? ⟨gb1076, 1, none⟩ = some (.string (⟨#[]⟩ : ByteArray)) := (blk_cell BK1076.out 1).trans rfl
        have hcz26_2 : w19.cell? ⟨gb1076, 2, none⟩ = some (.string (⟨#[]⟩ : ByteArray)) := (blk_cell BK1076.out 2).trans rfl
        have hcz26_3 : w19.cell? ⟨gb1076, 3, none⟩ = some (.slice none 0 0) := (blk_cell BK1076.out 3).trans rfl
        have hcz26_4 : w19.cell? ⟨gb1076, 4, none⟩ = some (.int .i64 0) := (blk_cell BK1076.out 4).trans rfl
        have hfz26_0 := blk_frozen BK1076.out 0
        have hfz26_1 := blk_frozen BK1076.out 1
        have hfz26_2 := blk_frozen BK1076.out 2
        have hfz26_3 := blk_frozen BK1076.out 3
        have hfz26_4 := blk_frozen BK1076.out 4
        have hcz27_0 : w19.cell? ⟨gb1064, 0, none⟩ = some (.string t1056) := (blk_cell BK1064.out 0).trans rfl
        have hcz27_1 : w19.cell? ⟨gb1064, 1, none⟩ = some (.string t1057) := (blk_cell BK1064.out 1).trans rfl
        have hcz27_2 : w19.cell? ⟨gb1064, 2, none⟩ = some (.string t1058) := (blk_cell BK1064.out 2).trans rfl
        have hcz27_3 : w19.cell? ⟨gb1064, 3, none⟩ = some (.slice Ao15 t1059.length co15) := (blk_cell BK1064.out 3).trans rfl
        have hcz27_4 : w19.cell? ⟨gb1064, 4, none⟩ = some (.int .i64 t1062) := (blk_cell BK1064.out 4).trans rfl
        have hfz27_0 := blk_frozen BK1064.out 0
        have hfz27_1 := blk_frozen BK1064.out 1
        have hfz27_2 := blk_frozen BK1064.out 2
        have hfz27_3 := blk_frozen BK1064.out 3
        have hfz27_4 := blk_frozen BK1064.out 4
        go_wp2_with (first | ((with_reducible refine gate_callee (f := 74) rfl ?_); refine goesL_ (some 38) rfl rfl Try.func74 (by kernel_rfl) rfl #[.agg #[.string t1068, .string t1069, .string t1070, .slice Ao22 t1071.length co22, .int .i64 t1074], .agg #[.string t1056, .string t1057, .string t1058, .slice Ao15 t1059.length co15, .int .i64 t1062]] rfl (by (try simp only [List.map_toArray, List.map_cons, List.map_nil]); first | done | rfl | (simp only [List.length_drop, List.length_take]; rfl)) ?_; (with_reducible refine (laws_eqSieve.calls k t1068 t1069 t1070 _ _ t1071 t1074 t1056 t1057 t1058 _ _ t1059 t1062 true _ ?side1 ?side2 ?side3 ?side4 A23.out).mono ?_); (case side1 => refine (Kd.R_reads' (e := 9) (base := w.heap.size) (ok := fun k_ => (((True ∧ some k_ ≠ (.slice Ao11 t1053.length co11 : Value).ownBlock) ∧ some k_ ≠ (.slice Ao15 t1059.length co15 : Value).ownBlock) ∧ some k_ ≠ (.slice Ao17 t1065.length co17 : Value).ownBlock)) (n := t1071.length) (c := co22) ?_).2.2; exact (zr (Kd.R_mono (Kd.R_far (p := ⟨gb1076, 4, none⟩) (Kd.R_far (p := ⟨gb1076, 3, none⟩) (Kd.R_far (p := ⟨gb1076, 2, none⟩) (Kd.R_far (p := ⟨gb1076, 1, none⟩) (Kd.R_far (p := ⟨gb1076, 0, none⟩) (Kd.R_types HO1073.out BK1076.out (by decide)) (fun _ hk => hk.2) (.string t1068)) (fun _ hk => hk.2) (.string t1069)) (fun _ hk => hk.2) (.string t1070)) (fun _ hk => hk.2) (.slice Ao22 t1071.length co22)) (fun _ hk => hk.2) (.int .i64 t1074)) (fun _ h_ => h_.1)))); (case side2 => exact (Kd.R_reads' HO1073.out).2.1); (case side3 => refine (Kd.R_reads' (e := 9) (base := w.heap.size) (ok := fun k_ => (((True ∧ some k_ ≠ (.slice Ao11 t1053.length co11 : Value).ownBlock) ∧ some k_ ≠ (.slice Ao17 t1065.length co17 : Value).ownBlock) ∧ some k_ ≠ (.slice Ao22 t1071.length co22 : Value).ownBlock)) (n := t1059.length) (c := co15) ?_).2.2; exact (zr (Kd.R_mono (Kd.R_far (p := ⟨gb1076, 4, none⟩) (Kd.R_far (p := ⟨gb1076, 3, none⟩) (Kd.R_far (p := ⟨gb1076, 2, none⟩) (Kd.R_far (p := ⟨gb1076, 1, none⟩) (Kd.R_far (p := ⟨gb1076, 0, none⟩) (Kd.R_types HO1061.out BK1076.out (by decide)) (fun _ hk => hk.2) (.string t1068)) (fun _ hk => hk.2) (.string t1069)) (fun _ hk => hk.2) (.string t1070)) (fun _ hk => hk.2) (.slice Ao22 t1071.length co22)) (fun _ hk => hk.2) (.int .i64 t1074)) (fun _ h_ => h_.1)))); (case side4 => exact (Kd.R_reads' HO1061.out).2.1); rintro e w28 ⟨rfl, hb⟩; refine ⟨_, rfl, ?_⟩; have n0_ := Aside0.mk (Kd.R_below (zr (Kd.R_mono (Kd.R_far (p := ⟨gb1076, 4, none⟩) (Kd.R_far (p := ⟨gb1076, 3, none⟩) (Kd.R_far (p := ⟨gb1076, 2, none⟩) (Kd.R_far (p := ⟨gb1076, 1, none⟩) (Kd.R_far (p := ⟨gb1076, 0, none⟩) (Kd.R_types HO1055.out BK1076.out (by decide)) (fun _ hk => hk.2) (.string t1068)) (fun _ hk => hk.2) (.string t1069)) (fun _ hk => hk.2) (.string t1070)) (fun _ hk => hk.2) (.slice Ao22 t1071.length co22)) (fun _ hk => hk.2) (.int .i64 t1074)) (fun _ h_ => h_.1))) hb); have n1_ := Aside0.mk (Kd.R_below (zr (Kd.R_mono (Kd.R_far (p := ⟨gb1076, 4, none⟩) (Kd.R_far (p := ⟨gb1076, 3, none⟩) (Kd.R_far (p := ⟨gb1076, 2, none⟩) (Kd.R_far (p := ⟨gb1076, 1, none⟩) (Kd.R_far (p := ⟨gb1076, 0, none⟩) (Kd.R_types HO1061.out BK1076.out (by decide)) (fun _ hk => hk.2) (.string t1068)) (fun _ hk => hk.2) (.string t1069)) (fun _ hk => hk.2) (.string t1070)) (fun _ hk => hk.2) (.slice Ao22 t1071.length co22)) (fun _ hk => hk.2) (.int .i64 t1074)) (fun _ h_ => h_.1))) hb); have n2_ := Aside0.mk (Kd.R_below (zr (Kd.R_mono (Kd.R_far (p := ⟨gb1076, 4, none⟩) (Kd.R_far (p := ⟨gb1076, 3, none⟩) (Kd.R_far (p := ⟨gb1076, 2, none⟩) (Kd.R_far (p := ⟨gb1076, 1, none⟩) (Kd.R_far (p := ⟨gb1076, 0, none⟩) (Kd.R_types HO1067.out BK1076.out (by decide)) (fun _ hk => hk.2) (.string t1068)) (fun _ hk => hk.2) (.string t1069)) (fun _ hk => hk.2) (.string t1070)) (fun _ hk => hk.2) (.slice Ao22 t1071.length co22)) (fun _ hk => hk.2) (.int .i64 t1074)) (fun _ h_ => h_.1))) hb); have n3_ := Aside0.mk (Kd.R_below (zr (Kd.R_mono (Kd.R_far (p := ⟨gb1076, 4, none⟩) (Kd.R_far (p := ⟨gb1076, 3, none⟩) (Kd.R_far (p := ⟨gb1076, 2, none⟩) (Kd.R_far (p := ⟨gb1076, 1, none⟩) (Kd.R_far (p := ⟨gb1076, 0, none⟩) (Kd.R_types HO1073.out BK1076.out (by decide)) (fun _ hk => hk.2) (.string t1068)) (fun _ hk => hk.2) (.string t1069)) (fun _ hk => hk.2) (.string t1070)) (fun _ hk => hk.2) (.slice Ao22 t1071.length co22)) (fun _ hk => hk.2) (.int .i64 t1074)) (fun _ h_ => h_.1))) hb); have n4_ := Aside0.mk (blk_below (g := gb1064) (o := .cells #[.string t1056, .string t1057, .string t1058, .slice Ao15 t1059.length co15, .int .i64 t1062] 28 (0, 0)) (by (with_reducible repeat (first | refine blk_drewN ?_ _ | refine blk_drew ?_ | refine blk_alloc ?_ _)); refine blk_far ?_ NB1064_1076.out _; (with_reducible repeat (first | refine blk_drewN ?_ _ | refine blk_drew ?_ | refine blk_alloc ?_ _)); refine blk_far ?_ NB1064_1076.out _; (with_reducible repeat (first | refine blk_drewN ?_ _ | refine blk_drew ?_ | refine blk_alloc ?_ _)); refine blk_far ?_ NB1064_1076.out _; (with_reducible repeat (first | refine blk_drewN ?_ _ | refine blk_drew ?_ | refine blk_alloc ?_ _)); refine blk_far ?_ NB1064_1076.out _; (with_reducible repeat (first | refine blk_drewN ?_ _ | refine blk_drew ?_ | refine blk_alloc ?_ _)); refine blk_far ?_ NB1064_1076.out _; (with_reducible repeat (first | refine blk_drewN ?_ _ | refine blk_drew ?_ | refine blk_alloc ?_ _)); exact BK1064.out) hb); have n5_ := Aside0.mk (blk_below (g := gb1076) (o := .cells #[.string t1068, .string t1069, .string t1070, .slice Ao22 t1071.length co22, .int .i64 t1074] 28 (0, 0)) (by (with_reducible repeat (first | refine blk_drewN ?_ _ | refine blk_drew ?_ | refine blk_alloc ?_ _)); refine blk_put (cs := #[.string t1068, .string t1069, .string t1070, .slice Ao22 t1071.length co22, .int .i64 0]) ?_ 4 _ rfl; (with_reducible repeat (first | refine blk_drewN ?_ _ | refine blk_drew ?_ | refine blk_alloc ?_ _)); refine blk_put (cs := #[.string t1068, .string t1069, .string t1070, .slice none 0 0, .int .i64 0]) ?_ 3 _ rfl; (with_reducible repeat (first | refine blk_drewN ?_ _ | refine blk_drew ?_ | refine blk_alloc ?_ _)); refine blk_put (cs := #[.string t1068, .string t1069, .string (⟨#[]⟩ : ByteArray), .slice none 0 0, .int .i64 0]) ?_ 2 _ rfl; (with_reducible repeat (first | refine blk_drewN ?_ _ | refine blk_drew ?_ | refine blk_alloc ?_ _)); refine blk_put (cs := #[.string t1068, .string (⟨#[]⟩ : ByteArray), .string (⟨#[]⟩ : ByteArray), .slice none 0 0, .int .i64 0]) ?_ 1 _ rfl; (with_reducible repeat (first | refine blk_drewN ?_ _ | refine blk_drew ?_ | refine blk_alloc ?_ _)); refine blk_put (cs := #[.string (⟨#[]⟩ : ByteArray), .string (⟨#[]⟩ : ByteArray), .string (⟨#[]⟩ : ByteArray), .slice none 0 0, .int .i64 0]) ?_ 0 _ rfl; (with_reducible repeat (first | refine blk_drewN ?_ _ | refine blk_drew ?_ | refine blk_alloc ?_ _)); exact BK1076.out) hb); have n6_ := Aside0.mk (below_step (by repeat (first | (with_reducible first | exact HB.out | apply below_alloc | apply pw_below_drewN | apply below_drew1 | refine below_set ?_ GE1064.out | refine below_set ?_ GE1076.out) | exact HB.out)) hb); clear HO1055; clear HO1061; clear HO1067; clear HO1073; clear BK1064; clear BK1076; clear HB; have HO1055 := n0_; have HO1061 := n1_; have HO1067 := n2_; have HO1073 := n3_; have BK1064 := n4_; have BK1076 := n5_; have HB := n6_; clear n0_ n1_ n2_ n3_ n4_ n5_ n6_; (try clear hb); (try clear hb2); (try clear hk); (try clear hi)))
        go_meet
        case rel => exact ⟨_, ((t1075 != t1063)), zf, H', ⟨by first | omega | exact Nat.le_refl _⟩, ⟨Kd.R_mono (zr HO1067.out) (fun _ hk => ⟨hk.1.2, hk.2⟩)⟩, ⟨Kd.R_mono (zr HO1061.out) (fun _ hk => ⟨hk.1.2, hk.2⟩)⟩, ⟨Kd.R_mono (zr HO1073.out) (fun _ hk => ⟨hk.2, hk.1.2⟩)⟩, ⟨by (with_reducible repeat (first | refine blk_drewN ?_ _ | refine blk_drew ?_ | refine blk_alloc ?_ _)); exact BK1064.out⟩, ⟨by (with_reducible repeat (first | refine blk_drewN ?_ _ | refine blk_drew ?_ | refine blk_alloc ?_ _)); exact BK1076.out⟩, ⟨by repeat (first | (with_reducible first | exact HB.out | apply below_alloc | apply pw_below_drewN | apply below_drew1 | refine below_set ?_ GE1064.out | refine below_set ?_ GE1076.out) | exact HB.out)⟩⟩
      · replace c24 := Bool.eq_false_iff.mpr c24
        subst c24
        have H1 : (laws_FnExactSieveOf.j0 k l0 a1 t1063 t1065 t1075 true t1056 t1057 t1058 t1059 t1062 t1068 t1069 t1070 t1071 t1074) = some r := by rw [if_neg (show ¬ (false = true) by decide)] at H; exact H
        clear H
        have H := H1
        clear H1
        have H' := Aside0.mk H
        clear H
        have hnb29 := NB1076_1064.out
        have hnc29 := NB1064_1076.out
        have hcz30_0 : w19.cell? ⟨gb1076, 0, none⟩ = some (.string (⟨#[]⟩ : ByteArray)) := (blk_cell BK1076.out 0).trans rfl
        have hcz30_1 : w19.cell? ⟨gb1076, 1, none⟩ = some (.string (⟨#[]⟩ : ByteArray)) := (blk_cell BK1076.out 1).trans rfl
        have hcz30_2 : w19.cell? ⟨gb1076, 2, none⟩ = some (.string (⟨#[]⟩ : ByteArray)) := (blk_cell BK1076.out 2).trans rfl
        have hcz30_3 : w19.cell? ⟨gb1076, 3, none⟩ = some (.slice none 0 0) := (blk_cell BK1076.out 3).trans rfl
        have hcz30_4 : w19.cell? ⟨gb1076, 4, none⟩ = some (.int .i64 0) := (blk_cell BK1076.out 4).trans rfl
        have hfz30_0 := blk_frozen BK1076.out 0
        have hfz30_1 := blk_frozen BK1076.out 1
        have hfz30_2 := blk_frozen BK1076.out 2
        have hfz30_3 := blk_frozen BK1076.out 3
        have hfz30_4 := blk_frozen BK1076.out 4
        have hcz31_0 : w19.cell? ⟨gb1064, 0, none⟩ = some (.string t1056) := (blk_cell BK1064.out 0).trans rfl
        have hcz31_1 : w19.cell? ⟨gb1064, 1, none⟩ = some (.string t1057) := (blk_cell BK1064.out 1).trans rfl
        have hcz31_2 : w19.cell? ⟨gb1064, 2, none⟩ = some (.string t1058) := (blk_cell BK1064.out 2).trans rfl
        have hcz31_3 : w19.cell? ⟨gb1064, 3, none⟩ = some (.slice Ao15 t1059.length co15) := (blk_cell BK1064.out 3).trans rfl
        have hcz31_4 : w19.cell? ⟨gb1064, 4, none⟩ = some (.int .i64 t1062) := (blk_cell BK1064.out 4).trans rfl
        have hfz31_0 := blk_frozen BK1064.out 0
        have hfz31_1 := blk_frozen BK1064.out 1
        have hfz31_2 := blk_frozen BK1064.out 2
        have hfz31_3 := blk_frozen BK1064.out 3
        have hfz31_4 := blk_frozen BK1064.out 4
        go_wp2_with (first | ((with_reducible refine gate_callee (f := 74) rfl ?_); refine goesL_ (some 38) rfl rfl Try.func74 (by kernel_rfl) rfl #[.agg #[.string t1068, .string t1069, .string t1070, .slice Ao22 t1071.length co22, .int .i64 t1074], .agg #[.string t1056, .string t1057, .string t1058, .slice Ao15 t1059.length co15, .int .i64 t1062]] rfl (by (try simp only [List.map_toArray, List.map_cons, List.map_nil]); first | done | rfl | (simp only [List.length_drop, List.length_take]; rfl)) ?_; (with_reducible refine (laws_eqSieve.calls k t1068 t1069 t1070 _ _ t1071 t1074 t1056 t1057 t1058 _ _ t1059 t1062 false _ ?side1 ?side2 ?side3 ?side4 A23.out).mono ?_); (case side1 => refine (Kd.R_reads' (e := 9) (base := w.heap.size) (ok := fun k_ => (((True ∧ some k_ ≠ (.slice Ao11 t1053.length co11 : Value).ownBlock) ∧ some k_ ≠ (.slice Ao15 t1059.length co15 : Value).ownBlock) ∧ some k_ ≠ (.slice Ao17 t1065.length co17 : Value).ownBlock)) (n := t1071.length) (c := co22) ?_).2.2; exact (zr (Kd.R_mono (Kd.R_far (p := ⟨gb1076, 4, none⟩) (Kd.R_far (p := ⟨gb1076, 3, none⟩) (Kd.R_far (p := ⟨gb1076, 2, none⟩) (Kd.R_far (p := ⟨gb1076, 1, none⟩) (Kd.R_far (p := ⟨gb1076, 0, none⟩) (Kd.R_types HO1073.out BK1076.out (by decide)) (fun _ hk => hk.2) (.string t1068)) (fun _ hk => hk.2) (.string t1069)) (fun _ hk => hk.2) (.string t1070)) (fun _ hk => hk.2) (.slice Ao22 t1071.length co22)) (fun _ hk => hk.2) (.int .i64 t1074)) (fun _ h_ => h_.1)))); (case side2 => exact (Kd.R_reads' HO1073.out).2.1); (case side3 => refine (Kd.R_reads' (e := 9) (base := w.heap.size) (ok := fun k_ => (((True ∧ some k_ ≠ (.slice Ao11 t1053.length co11 : Value).ownBlock) ∧ some k_ ≠ (.slice Ao17 t1065.length co17 : Value).ownBlock) ∧ some k_ ≠ (.slice Ao22 t1071.length co22 : Value).ownBlock)) (n := t1059.length) (c := co15) ?_).2.2; exact (zr (Kd.R_mono (Kd.R_far (p := ⟨gb1076, 4, none⟩) (Kd.R_far (p := ⟨gb1076, 3, none⟩) (Kd.R_far (p := ⟨gb1076, 2, none⟩) (Kd.R_far (p := ⟨gb1076, 1, none⟩) (Kd.R_far (p := ⟨gb1076, 0, none⟩) (Kd.R_types HO1061.out BK1076.out (by decide)) (fun _ hk => hk.2) (.string t1068)) (fun _ hk => hk.2) (.string t1069)) (fun _ hk => hk.2) (.string t1070)) (fun _ hk => hk.2) (.slice Ao22 t1071.length co22)) (fun _ hk => hk.2) (.int .i64 t1074)) (fun _ h_ => h_.1)))); (case side4 => exact (Kd.R_reads' HO1061.out).2.1); rintro e w32 ⟨rfl, hb⟩; refine ⟨_, rfl, ?_⟩; have n0_ := Aside0.mk (Kd.R_below (zr (Kd.R_mono (Kd.R_far (p := ⟨gb1076, 4, none⟩) (Kd.R_far (p := ⟨gb1076, 3, none⟩) (Kd.R_far (p := ⟨gb1076, 2, none⟩) (Kd.R_far (p := ⟨gb1076, 1, none⟩) (Kd.R_far (p := ⟨gb1076, 0, none⟩) (Kd.R_types HO1055.out BK1076.out (by decide)) (fun _ hk => hk.2) (.string t1068)) (fun _ hk => hk.2) (.string t1069)) (fun _ hk => hk.2) (.string t1070)) (fun _ hk => hk.2) (.slice Ao22 t1071.length co22)) (fun _ hk => hk.2) (.int .i64 t1074)) (fun _ h_ => h_.1))) hb); have n1_ := Aside0.mk (Kd.R_below (zr (Kd.R_mono (Kd.R_far (p := ⟨gb1076, 4, none⟩) (Kd.R_far (p := ⟨gb1076, 3, none⟩) (Kd.R_far (p := ⟨gb1076, 2, none⟩) (Kd.R_far (p := ⟨gb1076, 1, none⟩) (Kd.R_far (p := ⟨gb1076, 0, none⟩) (Kd.R_types HO1061.out BK1076.out (by decide)) (fun _ hk => hk.2) (.string t1068)) (fun _ hk => hk.2) (.string t1069)) (fun _ hk => hk.2) (.string t1070)) (fun _ hk => hk.2) (.slice Ao22 t1071.length co22)) (fun _ hk => hk.2) (.int .i64 t1074)) (fun _ h_ => h_.1))) hb); have n2_ := Aside0.mk (Kd.R_below (zr (Kd.R_mono (Kd.R_far (p := ⟨gb1076, 4, none⟩) (Kd.R_far (p := ⟨gb1076, 3, none⟩) (Kd.R_far (p := ⟨gb1076, 2, none⟩) (Kd.R_far (p := ⟨gb1076, 1, none⟩) (Kd.R_far (p := ⟨gb1076, 0, none⟩) (Kd.R_types HO1067.out BK1076.out (by decide)) (fun _ hk => hk.2) (.string t1068)) (fun _ hk => hk.2) (.string t1069)) (fun _ hk => hk.2) (.string t1070)) (fun _ hk => hk.2) (.slice Ao22 t1071.length co22)) (fun _ hk => hk.2) (.int .i64 t1074)) (fun _ h_ => h_.1))) hb); have n3_ := Aside0.mk (Kd.R_below (zr (Kd.R_mono (Kd.R_far (p := ⟨gb1076, 4, none⟩) (Kd.R_far (p := ⟨gb1076, 3, none⟩) (Kd.R_far (p := ⟨gb1076, 2, none⟩) (Kd.R_far (p := ⟨gb1076, 1, none⟩) (Kd.R_far (p := ⟨gb1076, 0, none⟩) (Kd.R_types HO1073.out BK1076.out (by decide)) (fun _ hk => hk.2) (.string t1068)) (fun _ hk => hk.2) (.string t1069)) (fun _ hk => hk.2) (.string t1070)) (fun _ hk => hk.2) (.slice Ao22 t1071.length co22)) (fun _ hk => hk.2) (.int .i64 t1074)) (fun _ h_ => h_.1))) hb); have n4_ := Aside0.mk (blk_below (g := gb1064) (o := .cells #[.string t1056, .string t1057, .string t1058, .slice Ao15 t1059.length co15, .int .i64 t1062] 28 (0, 0)) (by (with_reducible repeat (first | refine blk_drewN ?_ _ | refine blk_drew ?_ | refine blk_alloc ?_ _)); refine blk_far ?_ NB1064_1076.out _; (with_reducible repeat (first | refine blk_drewN ?_ _ | refine blk_drew ?_ | refine blk_alloc ?_ _)); refine blk_far ?_ NB1064_1076.out _; (with_reducible repeat (first | refine blk_drewN ?_ _ | refine blk_drew ?_ | refine blk_alloc ?_ _)); refine blk_far ?_ NB1064_1076.out _; (with_reducible repeat (first | refine blk_drewN ?_ _ | refine blk_drew ?_ | refine blk_alloc ?_ _)); refine blk_far ?_ NB1064_1076.out _; (with_reducible repeat (first | refine blk_drewN ?_ _ | refine blk_drew ?_ | refine blk_alloc ?_ _)); refine blk_far ?_ NB1064_1076.out _; (with_reducible repeat (first | refine blk_drewN ?_ _ | refine blk_drew ?_ | refine blk_alloc ?_ _)); exact BK1064.out) hb); have n5_ := Aside0.mk (blk_below (g := gb1076) (o := .cells #[.string t1068, .string t1069, .string t1070, .slice Ao22 t1071.length co22, .int .i64 t1074] 28 (0, 0)) (by (with_reducible repeat (first | refine blk_drewN ?_ _ | refine blk_drew ?_ | refine blk_alloc ?_ _)); refine blk_put (cs := #[.string t1068, .string t1069, .string t1070, .slice Ao22 t1071.length co22, .int .i64 0]) ?_ 4 _ rfl; (with_reducible repeat (first | refine blk_drewN ?_ _ | refine blk_drew ?_ | refine blk_alloc ?_ _)); refine blk_put (cs := #[.string t1068, .string t1069, .string t1070, .slice none 0 0, .int .i64 0]) ?_ 3 _ rfl; (with_reducible repeat (first | refine blk_drewN ?_ _ | refine blk_drew ?_ | refine blk_alloc ?_ _)); refine blk_put (cs := #[.string t1068, .string t1069, .string (⟨#[]⟩ : ByteArray), .slice none 0 0, .int .i64 0]) ?_ 2 _ rfl; (with_reducible repeat (first | refine blk_drewN ?_ _ | refine blk_drew ?_ | refine blk_alloc ?_ _)); refine blk_put (cs := #[.string t1068, .string (⟨#[]⟩ : ByteArray), .string (⟨#[]⟩ : ByteArray), .slice none 0 0, .int .i64 0]) ?_ 1 _ rfl; (with_reducible repeat (first | refine blk_drewN ?_ _ | refine blk_drew ?_ | refine blk_alloc ?_ _)); refine blk_put (cs := #[.string (⟨#[]⟩ : ByteArray), .string (⟨#[]⟩ : ByteArray), .string (⟨#[]⟩ : ByteArray), .slice none 0 0, .int .i64 0]) ?_ 0 _ rfl; (with_reducible repeat (first | refine blk_drewN ?_ _ | refine blk_drew ?_ | refine blk_alloc ?_ _)); exact BK1076.out) hb); have n6_ := Aside0.mk (below_step (by repeat (first | (with_reducible first | exact HB.out | apply below_alloc | apply pw_below_drewN | apply below_drew1 | refine below_set ?_ GE1064.out | refine below_set ?_ GE1076.out) | exact HB.out)) hb); clear HO1055; clear HO1061; clear HO1067; clear HO1073; clear BK1064; clear BK1076; clear HB; have HO1055 := n0_; have HO1061 := n1_; have HO1067 := n2_; have HO1073 := n3_; have BK1064 := n4_; have BK1076 := n5_; have HB := n6_; clear n0_ n1_ n2_ n3_ n4_ n5_ n6_; (try clear hb); (try clear hb2); (try clear hk); (try clear hi)))
        go_meet
        case rel => exact ⟨_, (true), zf, H', ⟨by first | omega | exact Nat.le_refl _⟩, ⟨Kd.R_mono (zr HO1067.out) (fun _ hk => ⟨hk.1.2, hk.2⟩)⟩, ⟨Kd.R_mono (zr HO1061.out) (fun _ hk => ⟨hk.1.2, hk.2⟩)⟩, ⟨Kd.R_mono (zr HO1073.out) (fun _ hk => ⟨hk.2, hk.1.2⟩)⟩, ⟨by (with_reducible repeat (first | refine blk_drewN ?_ _ | refine blk_drew ?_ | refine blk_alloc ?_ _)); exact BK1064.out⟩, ⟨by (with_reducible repeat (first | refine blk_drewN ?_ _ | refine blk_drew ?_ | refine blk_alloc ?_ _)); exact BK1076.out⟩, ⟨by repeat (first | (with_reducible first | exact HB.out | apply below_alloc | apply pw_below_drewN | apply below_drew1 | refine below_set ?_ GE1064.out | refine below_set ?_ GE1076.out) | exact HB.out)⟩⟩
    case rest =>
      clear HC9
      try clear c1
      try clear c2
      try clear p2
      try clear c4
      try clear c4b0
      try clear c5
      try clear c7
      try clear c15
      try clear c20
      try clear c24
      try clear c25
      try clear c29
      try clear hcz14_0
      try clear hcz14_1
      try clear hcz14_2
      try clear hcz14_3
      try clear hcz14_4
      try clear hcz21_0
      try clear hcz21_1
      try clear hcz21_2
      try clear hcz21_3
      try clear hcz21_4
      try clear hcz26_0
      try clear hcz26_1
      try clear hcz26_2
      try clear hcz26_3
      try clear hcz26_4
      try clear hcz27_0
      try clear hcz27_1
      try clear hcz27_2
      try clear hcz27_3
      try clear hcz27_4
      try clear hcz30_0
      try clear hcz30_1
      try clear hcz30_2
      try clear hcz30_3
      try clear hcz30_4
      try clear hcz31_0
      try clear hcz31_1
      try clear hcz31_2
      try clear hcz31_3
      try clear hcz31_4
      try clear hfz14_0
      try clear hfz14_1
      try clear hfz14_2
      try clear hfz14_3
      try clear hfz14_4
      try clear hfz21_0
      try clear hfz21_1
      try clear hfz21_2
      try clear hfz21_3
      try clear hfz21_4
      try clear hfz26_0
      try clear hfz26_1
      try clear hfz26_2
      try clear hfz26_3
      try clear hfz26_4
      try clear hfz27_0
      try clear hfz27_1
      try clear hfz27_2
      try clear hfz27_3
      try clear hfz27_4
      try clear hfz30_0
      try clear hfz30_1
      try clear hfz30_2
      try clear hfz30_3
      try clear hfz30_4
      try clear hfz31_0
      try clear hfz31_1
      try clear hfz31_2
      try clear hfz31_3
      try clear hfz31_4
      obtain ⟨kq, x44_8, rfl, HA, HJ8, HO_8, HO_1065003, HO_1077003, BK1064, BK1076, HB⟩ := hcut
      cases kq with
      | zero => exact absurd HA.out (by simp [laws_FnExactSieveOf.j0])
      | succ kj8 =>
        have H := HA.out
        clear HA
        simp only [laws_FnExactSieveOf.j0] at H
        by_cases c33 : x44_8 = true
        · subst c33
          have H1 : (some false) = some r := by rw [if_pos rfl] at H; exact H
          clear H
          have H := H1
          clear H1
          obtain rfl := Option.some.inj H
          go_wp2
          go_ret
          exact ⟨ze, by repeat (first | (with_reducible first | exact HB.out | apply below_alloc | apply pw_below_drewN | apply below_drew1 | refine below_set ?_ GE1064.out | refine below_set ?_ GE1076.out) | exact HB.out)⟩
        · replace c33 := Bool.eq_false_iff.mpr c33
          subst c33
          have H1 : ((laws_toStringS.f kj8 l0).bind fun t1078 => ((laws_eqStringS.f kj8 t1065 t1078).bind fun t1081 => (if t1081 = true then ((laws_markStringS.f kj8 t1065 1).bind fun bt1082 => (if bt1082.1 < 0 then (laws_FnExactSieveOf.j1 kj8 l0 a1 t1063 true t1056 t1057 t1058 t1059 t1062 t1068 t1069 t1070 t1071 t1074) else ((laws_eqSieve.f kj8 t1068 t1069 t1070 t1071 t1074 t1056 t1057 t1058 t1059 t1062).bind fun t1084 => (if t1084 = true then (laws_FnExactSieveOf.j1 kj8 l0 a1 t1063 (t1075 != t1063) t1056 t1057 t1058 t1059 t1062 t1068 t1069 t1070 t1071 t1074) else (laws_FnExactSieveOf.j1 kj8 l0 a1 t1063 true t1056 t1057 t1058 t1059 t1062 t1068 t1069 t1070 t1071 t1074))))) else (some false)))) = some r := by rw [if_neg (show ¬ (false = true) by decide)] at H; exact H
          clear H
          have H := H1
          clear H1
          replace H := Option.bind_eq_some_iff.mp H
          obtain ⟨t1078, A340, H⟩ := H
          (try dsimp only at H)
          have A34 := Aside0.mk A340
          clear A340
          replace H := Option.bind_eq_some_iff.mp H
          obtain ⟨t1081, A350, H⟩ := H
          (try dsimp only at H)
          have A35 := Aside0.mk A350
          clear A350
          by_cases c36 : t1081 = true
          · subst c36
            have H1 : ((laws_markStringS.f kj8 t1065 1).bind fun bt1082 => (if bt1082.1 < 0 then (laws_FnExactSieveOf.j1 kj8 l0 a1 t1063 true t1056 t1057 t1058 t1059 t1062 t1068 t1069 t1070 t1071 t1074) else ((laws_eqSieve.f kj8 t1068 t1069 t1070 t1071 t1074 t1056 t1057 t1058 t1059 t1062).bind fun t1084 => (if t1084 = true then (laws_FnExactSieveOf.j1 kj8 l0 a1 t1063 (t1075 != t1063) t1056 t1057 t1058 t1059 t1062 t1068 t1069 t1070 t1071 t1074) else (laws_FnExactSieveOf.j1 kj8 l0 a1 t1063 true t1056 t1057 t1058 t1059 t1062 t1068 t1069 t1070 t1071 t1074))))) = some r := by rw [if_pos rfl] at H; exact H
            clear H
            have H := H1
            clear H1
            replace H := Option.bind_eq_some_iff.mp H
            obtain ⟨⟨t1082, t1083⟩, A370, H⟩ := H
            (try dsimp only at H)
            have A37 := Aside0.mk A370
            clear A370
            have HC38 := Aside0.mk H
            clear H
            go_upto_region 14 with (first | ((with_reducible refine gate_callee (f := 52) rfl ?_); refine goesL_ (some 47) rfl rfl Try.func52 (by kernel_rfl) rfl #[.slice A0 l0.length c0] rfl (by (try simp only [List.map_toArray, List.map_cons, List.map_nil]); first | done | rfl | (simp only [List.length_drop, List.length_take]; rfl)) ?_; (with_reducible refine (laws_toStringS.calls kj8 _ _ l0 t1078 _ ?side1 ?side2 A34.out).mono ?_); (case side1 => repeat (first | exact (Kd.C_below HR0.out HB.out) | (with_reducible refine Kd.C_alloc ?_ _) | (with_reducible refine Kd.C_drewN ?_ _) | (with_reducible refine Kd.C_drew ?_))); (case side2 => exact HC0.out); rintro e w39 ⟨v1079, rfl, ho0, hb⟩; refine ⟨_, rfl, ?_⟩; have n0_ := Aside0.mk (Kd.R_elder' (zr HO_8.out) (Kd.R_base ho0) hb); have n1_ := Aside0.mk (Kd.R_elder' (zr HO_1065003.out) (Kd.R_base ho0) hb); have n2_ := Aside0.mk (Kd.R_elder' (zr HO_1077003.out) (Kd.R_base ho0) hb); have n3_ := Aside0.mk (Kd.R_lower (Kd.R_new' (Kd.R_new' (Kd.R_new' ho0 (Kd.R_lt (zr HO_8.out))) (Kd.R_lt (zr HO_1065003.out))) (Kd.R_lt (zr HO_1077003.out))) (below_size (by repeat (first | (with_reducible first | exact HB.out | apply below_alloc | apply pw_below_drewN | apply below_drew1 | refine below_set ?_ GE1064.out | refine below_set ?_ GE1076.out) | exact HB.out)))); have n4_ := Aside0.mk (blk_below (g := gb1064) (o := .cells #[.string t1056, .string t1057, .string t1058, .slice Ao15 t1059.length co15, .int .i64 t1062] 28 (0, 0)) (by (with_reducible repeat (first | refine blk_drewN ?_ _ | refine blk_drew ?_ | refine blk_alloc ?_ _)); exact BK1064.out) hb); have n5_ := Aside0.mk (blk_below (g := gb1076) (o := .cells #[.string t1068, .string t1069, .string t1070, .slice Ao22 t1071.length co22, .int .i64 t1074] 28 (0, 0)) (by (with_reducible repeat (first | refine blk_drewN ?_ _ | refine blk_drew ?_ | refine blk_alloc ?_ _)); exact BK1076.out) hb); have n6_ := Aside0.mk (below_step (by repeat (first | (with_reducible first | exact HB.out | apply below_alloc | apply pw_below_drewN | apply below_drew1 | refine below_set ?_ GE1064.out | refine below_set ?_ GE1076.out) | exact HB.out)) hb); clear HO_8; clear HO_1065003; clear HO_1077003; clear BK1064; clear BK1076; clear HB; have HO_8 := n0_; have HO_1065003 := n1_; have HO_1077003 := n2_; have HO1080 := n3_; have BK1064 := n4_; have BK1076 := n5_; have HB := n6_; clear n0_ n1_ n2_ n3_ n4_ n5_ n6_; (try clear hb); (try clear hb2); (try clear hk); (try clear hi); (try clear ho0); obtain ⟨Ao40, co40, eo40⟩ := Kd.R_slice HO1080.out; subst eo40) | ((with_reducible refine gate_callee (f := 54) rfl ?_); refine goesL_ (some 48) rfl rfl Try.func54 (by kernel_rfl) rfl #[.slice Ao17 t1065.length co17, .slice Ao40 t1078.length co40] rfl (by (try simp only [List.map_toArray, List.map_cons, List.map_nil]); first | done | rfl | (simp only [List.length_drop, List.length_take]; rfl)) ?_; (with_reducible refine (laws_eqStringS.calls kj8 _ _ t1065 _ _ t1078 true _ ?side1 ?side2 ?side3 ?side4 A35.out).mono ?_); (case side1 => repeat (first | exact (Kd.R_reads' HO_8.out).2.2 | (with_reducible refine Kd.C_alloc ?_ _) | (with_reducible refine Kd.C_drewN ?_ _) | (with_reducible refine Kd.C_drew ?_))); (case side2 => exact (Kd.R_reads' HO_8.out).2.1); (case side3 => repeat (first | exact (Kd.R_reads' HO1080.out).2.2 | (with_reducible refine Kd.C_alloc ?_ _) | (with_reducible refine Kd.C_drewN ?_ _) | (with_reducible refine Kd.C_drew ?_))); (case side4 => exact (Kd.R_reads' HO1080.out).2.1); rintro e w' ⟨rfl, ⟨nd, rfl⟩⟩; refine ⟨_, rfl, ?_⟩) | ((with_reducible refine gate_callee (f := 75) rfl ?_); refine goesL_ (some 52) rfl rfl Try.func75 (by kernel_rfl) rfl #[.slice Ao17 t1065.length co17, .int .i64 1] rfl (by (try simp only [List.map_toArray, List.map_cons, List.map_nil]); first | done | rfl | (simp only [List.length_drop, List.length_take]; rfl)) ?_; (with_reducible refine (laws_markStringS.calls kj8 (fun k_ => some k_ = (.slice Ao17 t1065.length co17 : Value).ownBlock) (.slice Ao17 t1065.length co17) t1065 1 t1082 t1083 w _ ?side1 ?side2 A37.out).mono ?_); (case side1 => repeat (first | (with_reducible first | exact HB.out | apply below_alloc | apply pw_below_drewN | apply below_drew1 | refine below_set ?_ GE1064.out | refine below_set ?_ GE1076.out) | exact HB.out)); (case side2 => exact Kd.R_tight rfl HO_8.out); rintro e w41 ⟨rfl, hy0, hb, hkp⟩; refine ⟨_, rfl, ?_⟩; have n0_ := Aside0.mk (Kd.R_reok rfl hy0 (fun k_ e_ => HO_8.out.1 k_ e_)); have n1_ := Aside0.mk (Kd.R_mono (ok' := fun k_ => some k_ ≠ (.slice Ao17 t1065.length co17 : Value).ownBlock ∧ some k_ ≠ (.slice Ao22 t1071.length co22 : Value).ownBlock ∧ some k_ ≠ (.slice Ao40 t1078.length co40 : Value).ownBlock) (Kd.R_keptB (HO_1065003.out) hkp (fun k_ hk_ hs_ => (hk_.1.1) hs_)) (fun k_ hk_ => ⟨hk_.1.1.1, hk_.1.1.2, hk_.1.2⟩)); have n2_ := Aside0.mk (Kd.R_mono (ok' := fun k_ => some k_ ≠ (.slice Ao17 t1065.length co17 : Value).ownBlock ∧ some k_ ≠ (.slice Ao15 t1059.length co15 : Value).ownBlock ∧ some k_ ≠ (.slice Ao40 t1078.length co40 : Value).ownBlock) (Kd.R_keptB (HO_1077003.out) hkp (fun k_ hk_ hs_ => (hk_.1.1) hs_)) (fun k_ hk_ => ⟨hk_.1.1.1, hk_.1.1.2, hk_.1.2⟩)); have n3_ := Aside0.mk (blk_kept (by (with_reducible repeat (first | refine blk_drewN ?_ _ | refine blk_drew ?_ | refine blk_alloc ?_ _)); exact BK1064.out) hkp (fun hs_ => (fun e_ => (Kd.R_ne HO_8.out BK1064.out (by decide)) e_) hs_)); have n4_ := Aside0.mk (blk_kept (by (with_reducible repeat (first | refine blk_drewN ?_ _ | refine blk_drew ?_ | refine blk_alloc ?_ _)); exact BK1076.out) hkp (fun hs_ => (fun e_ => (Kd.R_ne HO_8.out BK1076.out (by decide)) e_) hs_)); have n5_ := Aside0.mk (Kd.R_mono (ok' := fun k_ => some k_ ≠ (.slice Ao17 t1065.length co17 : Value).ownBlock ∧ some k_ ≠ (.slice Ao15 t1059.length co15 : Value).ownBlock ∧ some k_ ≠ (.slice Ao22 t1071.length co22 : Value).ownBlock) (Kd.R_keptB (HO1080.out) hkp (fun k_ hk_ hs_ => (hk_.1.1.2) hs_)) (fun k_ hk_ => ⟨hk_.1.1.1.2, hk_.1.1.2, hk_.1.2⟩)); have n6_ := Aside0.mk (hb); clear HO_8; clear HO_1065003; clear HO_1077003; clear BK1064; clear BK1076; clear HO1080; clear HB; have HO_8 := n0_; have HO_1065003 := n1_; have HO_1077003 := n2_; have BK1064 := n3_; have BK1076 := n4_; have HO1080 := n5_; have HB := n6_; clear n0_ n1_ n2_ n3_ n4_ n5_ n6_; (try clear hb); (try clear hkp); (try clear hy0)))
            (try simp only [Act.put, List.setIfInBounds_toArray, List.set_cons_zero, List.set_cons_succ])
            go_cut [65] (fun v65 wc => ∃ (kq : Nat) (x65_37 : Bool), v65 = .bool x65_37 ∧ Aside0 (laws_FnExactSieveOf.j1 kq l0 a1 t1063 x65_37 t1056 t1057 t1058 t1059 t1062 t1068 t1069 t1070 t1071 t1074 = some r) ∧ Aside0 (kq ≤ kj8) ∧ Aside0 (Kd.R Kd.string 9 wc w.heap.size (fun k_ => some k_ ≠ ((.slice Ao22 t1071.length co22) : Value).ownBlock) (.slice Ao15 t1059.length co15) t1059) ∧ Aside0 (Kd.R Kd.string 9 wc w.heap.size (fun k_ => some k_ ≠ ((.slice Ao15 t1059.length co15) : Value).ownBlock) (.slice Ao22 t1071.length co22) t1071) ∧ Aside0 (wc.heap[gb1064]? = some (.cells #[.string t1056, .string t1057, .string t1058, (.slice Ao15 t1059.length co15), .int .i64 t1062] 28 (0, 0))) ∧ Aside0 (wc.heap[gb1076]? = some (.cells #[.string t1068, .string t1069, .string t1070, (.slice Ao22 t1071.length co22), .int .i64 t1074] 28 (0, 0))) ∧ Aside0 (Below w.heap.size w wc))
            case first =>
              have H := HC38.out
              clear HC38
              by_cases c42 : t1082 < 0
              · rw [if_pos c42] at H
                have c42b0 : decide (t1082 < 0) = true := decide_eq_true c42
                clear c42
                (first | rw [c42b0] | (simp only [i64_w, i32_w]; rw [c42b0]) | simp only [*, Bool.not_true, Bool.not_false] | skip)
                have H' := Aside0.mk H
                clear H
                go_wp2
                go_meet
                case rel => exact ⟨_, (true), zf, H', ⟨by have := HJ8.out; first | omega | exact Nat.le_refl _⟩, ⟨Kd.R_mono (zr HO_1065003.out) (fun _ hk => hk.2.1)⟩, ⟨Kd.R_mono (zr HO_1077003.out) (fun _ hk => hk.2.1)⟩, ⟨by (with_reducible repeat (first | refine blk_drewN ?_ _ | refine blk_drew ?_ | refine blk_alloc ?_ _)); exact BK1064.out⟩, ⟨by (with_reducible repeat (first | refine blk_drewN ?_ _ | refine blk_drew ?_ | refine blk_alloc ?_ _)); exact BK1076.out⟩, ⟨by repeat (first | (with_reducible first | exact HB.out | apply below_alloc | apply pw_below_drewN | apply below_drew1 | refine below_set ?_ GE1064.out | refine below_set ?_ GE1076.out) | exact HB.out)⟩⟩
              · rw [if_neg c42] at H
                have c42b0 : decide (t1082 < 0) = false := decide_eq_false c42
                clear c42
                (first | rw [c42b0] | (simp only [i64_w, i32_w]; rw [c42b0]) | simp only [*, Bool.not_true, Bool.not_false] | skip)
                replace H := Option.bind_eq_some_iff.mp H
                obtain ⟨t1084, A430, H⟩ := H
                (try dsimp only at H)
                have A43 := Aside0.mk A430
                clear A430
                by_cases c44 : t1084 = true
                · subst c44
                  have H1 : (laws_FnExactSieveOf.j1 kj8 l0 a1 t1063 (t1075 != t1063) t1056 t1057 t1058 t1059 t1062 t1068 t1069 t1070 t1071 t1074) = some r := by rw [if_pos rfl] at H; exact H
                  clear H
                  have H := H1
                  clear H1
                  have H' := Aside0.mk H
                  clear H
                  have hnb45 := NB1076_1064.out
                  have hnc45 := NB1064_1076.out
                  have hcz46_0 : w41.cell? ⟨gb1076, 0, none⟩ = some (.string t1068) := (blk_cell BK1076.out 0).trans rfl
                  have hcz46_1 : w41.cell? ⟨gb1076, 1, none⟩ = some (.string t1069) := (blk_cell BK1076.out 1).trans rfl
                  have hcz46_2 : w41.cell? ⟨gb1076, 2, none⟩ = some (.string t1070) := (blk_cell BK1076.out 2).trans rfl
                  have hcz46_3 : w41.cell? ⟨gb1076, 3, none⟩ = some (.slice Ao22 t1071.length co22) := (blk_cell BK1076.out 3).trans rfl
                  have hcz46_4 : w41.cell? ⟨gb1076, 4, none⟩ = some (.int .i64 t1074) := (blk_cell BK1076.out 4).trans rfl
                  have hfz46_0 := blk_frozen BK1076.out 0
                  have hfz46_1 := blk_frozen BK1076.out 1
                  have hfz46_2 := blk_frozen BK1076.out 2
                  have hfz46_3 := blk_frozen BK1076.out 3
                  have hfz46_4 := blk_frozen BK1076.out 4
                  have hcz47_0 : w41.cell? ⟨gb1064, 0, none⟩ = some (.string t1056) := (blk_cell BK1064.out 0).trans rfl
                  have hcz47_1 : w41.cell? ⟨gb1064, 1, none⟩ = some (.string t1057) := (blk_cell BK1064.out 1).trans rfl
                  have hcz47_2 : w41.cell? ⟨gb1064, 2, none⟩ = some (.string t1058) := (blk_cell BK1064.out 2).trans rfl
                  have hcz47_3 : w41.cell? ⟨gb1064, 3, none⟩ = some (.slice Ao15 t1059.length co15) := (blk_cell BK1064.out 3).trans rfl
                  have hcz47_4 : w41.cell? ⟨gb1064, 4, none⟩ = some (.int .i64 t1062) := (blk_cell BK1064.out 4).trans rfl
                  have hfz47_0 := blk_frozen BK1064.out 0
                  have hfz47_1 := blk_frozen BK1064.out 1
                  have hfz47_2 := blk_frozen BK1064.out 2
                  have hfz47_3 := blk_frozen BK1064.out 3
                  have hfz47_4 := blk_frozen BK1064.out 4
                  go_wp2_with (first | (go_at_call 74; (with_reducible refine (laws_eqSieve.calls kj8 t1068 t1069 t1070 _ _ t1071 t1074 t1056 t1057 t1058 _ _ t1059 t1062 true _ ?side1 ?side2 ?side3 ?side4 A43.out).mono ?_); (case side1 => repeat (first | exact (Kd.R_reads' HO_1077003.out).2.2 | (with_reducible refine Kd.C_alloc ?_ _) | (with_reducible refine Kd.C_drewN ?_ _) | (with_reducible refine Kd.C_drew ?_))); (case side2 => exact (Kd.R_reads' HO_1077003.out).2.1); (case side3 => repeat (first | exact (Kd.R_reads' HO_1065003.out).2.2 | (with_reducible refine Kd.C_alloc ?_ _) | (with_reducible refine Kd.C_drewN ?_ _) | (with_reducible refine Kd.C_drew ?_))); (case side4 => exact (Kd.R_reads' HO_1065003.out).2.1); rintro e w48 ⟨rfl, hb⟩; have n0_ := Aside0.mk (Kd.R_below (zr HO_8.out) hb); have n1_ := Aside0.mk (Kd.R_below (zr HO_1065003.out) hb); have n2_ := Aside0.mk (Kd.R_below (zr HO_1077003.out) hb); have n3_ := Aside0.mk (Kd.R_below (zr HO1080.out) hb); have n4_ := Aside0.mk (blk_below (g := gb1064) (o := .cells #[.string t1056, .string t1057, .string t1058, .slice Ao15 t1059.length co15, .int .i64 t1062] 28 (0, 0)) (by (with_reducible repeat (first | refine blk_drewN ?_ _ | refine blk_drew ?_ | refine blk_alloc ?_ _)); exact BK1064.out) hb); have n5_ := Aside0.mk (blk_below (g := gb1076) (o := .cells #[.string t1068, .string t1069, .string t1070, .slice Ao22 t1071.length co22, .int .i64 t1074] 28 (0, 0)) (by (with_reducible repeat (first | refine blk_drewN ?_ _ | refine blk_drew ?_ | refine blk_alloc ?_ _)); exact BK1076.out) hb); have n6_ := Aside0.mk (below_step (by repeat (first | (with_reducible first | exact HB.out | apply below_alloc | apply pw_below_drewN | apply below_drew1 | refine below_set ?_ GE1064.out | refine below_set ?_ GE1076.out) | exact HB.out)) hb); clear HO_8; clear HO_1065003; clear HO_1077003; clear HO1080; clear BK1064; clear BK1076; clear HB; have HO_8 := n0_; have HO_1065003 := n1_; have HO_1077003 := n2_; have HO1080 := n3_; have BK1064 := n4_; have BK1076 := n5_; have HB := n6_; clear n0_ n1_ n2_ n3_ n4_ n5_ n6_; (try clear hb); (try clear hb2); (try clear hk); (try clear hi)))
                  go_meet
                  case rel => exact ⟨_, ((t1075 != t1063)), zf, H', ⟨by have := HJ8.out; first | omega | exact Nat.le_refl _⟩, ⟨Kd.R_mono (zr HO_1065003.out) (fun _ hk => hk.2.1)⟩, ⟨Kd.R_mono (zr HO_1077003.out) (fun _ hk => hk.2.1)⟩, ⟨by (with_reducible repeat (first | refine blk_drewN ?_ _ | refine blk_drew ?_ | refine blk_alloc ?_ _)); exact BK1064.out⟩, ⟨by (with_reducible repeat (first | refine blk_drewN ?_ _ | refine blk_drew ?_ | refine blk_alloc ?_ _)); exact BK1076.out⟩, ⟨by repeat (first | (with_reducible first | exact HB.out | apply below_alloc | apply pw_below_drewN | apply below_drew1 | refine below_set ?_ GE1064.out | refine below_set ?_ GE1076.out) | exact HB.out)⟩⟩
                · replace c44 := Bool.eq_false_iff.mpr c44
                  subst c44
                  have H1 : (laws_FnExactSieveOf.j1 kj8 l0 a1 t1063 true t1056 t1057 t1058 t1059 t1062 t1068 t1069 t1070 t1071 t1074) = some r := by rw [if_neg (show ¬ (false = true) by decide)] at H; exact H
                  clear H
                  have H := H1
                  clear H1
                  have H' := Aside0.mk H
                  clear H
                  have hnb49 := NB1076_1064.out
                  have hnc49 := NB1064_1076.out
                  have hcz50_0 : w41.cell? ⟨gb1076, 0, none⟩ = some (.string t1068) := (blk_cell BK1076.out 0).trans rfl
                  have hcz50_1 : w41.cell? ⟨gb1076, 1, none⟩ = some (.string t1069) := (blk_cell BK1076.out 1).trans rfl
                  have hcz50_2 : w41.cell? ⟨gb1076, 2, none⟩ = some (.string t1070) := (blk_cell BK1076.out 2).trans rfl
                  have hcz50_3 : w41.cell? ⟨gb1076, 3, none⟩ = some (.slice Ao22 t1071.length co22) := (blk_cell BK1076.out 3).trans rfl
                  have hcz50_4 : w41.cell? ⟨gb1076, 4, none⟩ = some (.int .i64 t1074) := (blk_cell BK1076.out 4).trans rfl
                  have hfz50_0 := blk_frozen BK1076.out 0
                  have hfz50_1 := blk_frozen BK1076.out 1
                  have hfz50_2 := blk_frozen BK1076.out 2
                  have hfz50_3 := blk_frozen BK1076.out 3
                  have hfz50_4 := blk_frozen BK1076.out 4
                  have hcz51_0 : w41.cell? ⟨gb1064, 0, none⟩ = some (.string t1056) := (blk_cell BK1064.out 0).trans rfl
                  have hcz51_1 : w41.cell? ⟨gb1064, 1, none⟩ = some (.string t1057) := (blk_cell BK1064.out 1).trans rfl
                  have hcz51_2 : w41.cell? ⟨gb1064, 2, none⟩ = some (.string t1058) := (blk_cell BK1064.out 2).trans rfl
                  have hcz51_3 : w41.cell? ⟨gb1064, 3, none⟩ = some (.slice Ao15 t1059.length co15) := (blk_cell BK1064.out 3).trans rfl
                  have hcz51_4 : w41.cell? ⟨gb1064, 4, none⟩ = some (.int .i64 t1062) := (blk_cell BK1064.out 4).trans rfl
                  have hfz51_0 := blk_frozen BK1064.out 0
                  have hfz51_1 := blk_frozen BK1064.out 1
                  have hfz51_2 := blk_frozen BK1064.out 2
                  have hfz51_3 := blk_frozen BK1064.out 3
                  have hfz51_4 := blk_frozen BK1064.out 4
                  go_wp2_with (first | (go_at_call 74; (with_reducible refine (laws_eqSieve.calls kj8 t1068 t1069 t1070 _ _ t1071 t1074 t1056 t1057 t1058 _ _ t1059 t1062 false _ ?side1 ?side2 ?side3 ?side4 A43.out).mono ?_); (case side1 => repeat (first | exact (Kd.R_reads' HO_1077003.out).2.2 | (with_reducible refine Kd.C_alloc ?_ _) | (with_reducible refine Kd.C_drewN ?_ _) | (with_reducible refine Kd.C_drew ?_))); (case side2 => exact (Kd.R_reads' HO_1077003.out).2.1); (case side3 => repeat (first | exact (Kd.R_reads' HO_1065003.out).2.2 | (with_reducible refine Kd.C_alloc ?_ _) | (with_reducible refine Kd.C_drewN ?_ _) | (with_reducible refine Kd.C_drew ?_))); (case side4 => exact (Kd.R_reads' HO_1065003.out).2.1); rintro e w52 ⟨rfl, hb⟩; have n0_ := Aside0.mk (Kd.R_below (zr HO_8.out) hb); have n1_ := Aside0.mk (Kd.R_below (zr HO_1065003.out) hb); have n2_ := Aside0.mk (Kd.R_below (zr HO_1077003.out) hb); have n3_ := Aside0.mk (Kd.R_below (zr HO1080.out) hb); have n4_ := Aside0.mk (blk_below (g := gb1064) (o := .cells #[.string t1056, .string t1057, .string t1058, .slice Ao15 t1059.length co15, .int .i64 t1062] 28 (0, 0)) (by (with_reducible repeat (first | refine blk_drewN ?_ _ | refine blk_drew ?_ | refine blk_alloc ?_ _)); exact BK1064.out) hb); have n5_ := Aside0.mk (blk_below (g := gb1076) (o := .cells #[.string t1068, .string t1069, .string t1070, .slice Ao22 t1071.length co22, .int .i64 t1074] 28 (0, 0)) (by (with_reducible repeat (first | refine blk_drewN ?_ _ | refine blk_drew ?_ | refine blk_alloc ?_ _)); exact BK1076.out) hb); have n6_ := Aside0.mk (below_step (by repeat (first | (with_reducible first | exact HB.out | apply below_alloc | apply pw_below_drewN | apply below_drew1 | refine below_set ?_ GE1064.out | refine below_set ?_ GE1076.out) | exact HB.out)) hb); clear HO_8; clear HO_1065003; clear HO_1077003; clear HO1080; clear BK1064; clear BK1076; clear HB; have HO_8 := n0_; have HO_1065003 := n1_; have HO_1077003 := n2_; have HO1080 := n3_; have BK1064 := n4_; have BK1076 := n5_; have HB := n6_; clear n0_ n1_ n2_ n3_ n4_ n5_ n6_; (try clear hb); (try clear hb2); (try clear hk); (try clear hi)))
                  go_meet
                  case rel => exact ⟨_, (true), zf, H', ⟨by have := HJ8.out; first | omega | exact Nat.le_refl _⟩, ⟨Kd.R_mono (zr HO_1065003.out) (fun _ hk => hk.2.1)⟩, ⟨Kd.R_mono (zr HO_1077003.out) (fun _ hk => hk.2.1)⟩, ⟨by (with_reducible repeat (first | refine blk_drewN ?_ _ | refine blk_drew ?_ | refine blk_alloc ?_ _)); exact BK1064.out⟩, ⟨by (with_reducible repeat (first | refine blk_drewN ?_ _ | refine blk_drew ?_ | refine blk_alloc ?_ _)); exact BK1076.out⟩, ⟨by repeat (first | (with_reducible first | exact HB.out | apply below_alloc | apply pw_below_drewN | apply below_drew1 | refine below_set ?_ GE1064.out | refine below_set ?_ GE1076.out) | exact HB.out)⟩⟩
            case rest =>
              clear HC38
              try clear c1
              try clear c2
              try clear p2
              try clear c3
              try clear c4
              try clear c4b0
              try clear c5
              try clear c7
              try clear c15
              try clear c20
              try clear c24
              try clear c25
              try clear c29
              try clear c33
              try clear c36
              try clear c42
              try clear c42b0
              try clear c44
              try clear c45
              try clear c46
              try clear c49
              try clear c50
              try clear c52
              try clear hcz14_0
              try clear hcz14_1
              try clear hcz14_2
              try clear hcz14_3
              try clear hcz14_4
              try clear hcz21_0
              try clear hcz21_1
              try clear hcz21_2
              try clear hcz21_3
              try clear hcz21_4
              try clear hcz26_0
              try clear hcz26_1
              try clear hcz26_2
              try clear hcz26_3
              try clear hcz26_4
              try clear hcz27_0
              try clear hcz27_1
              try clear hcz27_2
              try clear hcz27_3
              try clear hcz27_4
              try clear hcz30_0
              try clear hcz30_1
              try clear hcz30_2
              try clear hcz30_3
              try clear hcz30_4
              try clear hcz31_0
              try clear hcz31_1
              try clear hcz31_2
              try clear hcz31_3
              try clear hcz31_4
              try clear hcz46_0
              try clear hcz46_1
              try clear hcz46_2
              try clear hcz46_3
              try clear hcz46_4
              try clear hcz47_0
              try clear hcz47_1
              try clear hcz47_2
              try clear hcz47_3
              try clear hcz47_4
              try clear hcz50_0
              try clear hcz50_1
              try clear hcz50_2
              try clear hcz50_3
              try clear hcz50_4
              try clear hcz51_0
              try clear hcz51_1
              try clear hcz51_2
              try clear hcz51_3
              try clear hcz51_4
              try clear hfz14_0
              try clear hfz14_1
              try clear hfz14_2
              try clear hfz14_3
              try clear hfz14_4
              try clear hfz21_0
              try clear hfz21_1
              try clear hfz21_2
              try clear hfz21_3
              try clear hfz21_4
              try clear hfz26_0
              try clear hfz26_1
              try clear hfz26_2
              try clear hfz26_3
              try clear hfz26_4
              try clear hfz27_0
              try clear hfz27_1
              try clear hfz27_2
              try clear hfz27_3
              try clear hfz27_4
              try clear hfz30_0
              try clear hfz30_1
              try clear hfz30_2
              try clear hfz30_3
              try clear hfz30_4
              try clear hfz31_0
              try clear hfz31_1
              try clear hfz31_2
              try clear hfz31_3
              try clear hfz31_4
              try clear hfz46_0
              try clear hfz46_1
              try clear hfz46_2
              try clear hfz46_3
              try clear hfz46_4
              try clear hfz47_0
              try clear hfz47_1
              try clear hfz47_2
              try clear hfz47_3
              try clear hfz47_4
              try clear hfz50_0
              try clear hfz50_1
              try clear hfz50_2
              try clear hfz50_3
              try clear hfz50_4
              try clear hfz51_0
              try clear hfz51_1
              try clear hfz51_2
              try clear hfz51_3
              try clear hfz51_4
              try clear p2
              obtain ⟨kq, x65_37, rfl, HA, HJ37, HO_1065003, HO_1077003, BK1064, BK1076, HB⟩ := hcut
              cases kq with
              | zero => exact absurd HA.out (by simp [laws_FnExactSieveOf.j1])
              | succ kj37 =>
                have H := HA.out
                clear HA
                simp only [laws_FnExactSieveOf.j1] at H
                by_cases c53 : x65_37 = true
                · subst c53
                  have H1 : (some false) = some r := by rw [if_pos rfl] at H; exact H
                  clear H
                  have H := H1
                  clear H1
                  obtain rfl := Option.some.inj H
                  go_wp2
                  go_ret
                  exact ⟨ze, by repeat (first | (with_reducible first | exact HB.out | apply below_alloc | apply pw_below_drewN | apply below_drew1 | refine below_set ?_ GE1064.out | refine below_set ?_ GE1076.out) | exact HB.out)⟩
                · replace c53 := Bool.eq_false_iff.mpr c53
                  subst c53
                  have H1 : ((laws_markSieve.f kj37 t1068 t1069 t1070 t1071 t1074 1).bind fun bt1085 => ((laws_heldSieve.f kj37 t1068 t1069 t1070 bt1085.2 t1074 1).bind fun t1087 => (if t1087 < 0 then (some false) else (if t1087 = bt1085.1 then ((laws_toStringS.f kj37 l0).bind fun t1088 => ((impl_SieveOf.f kj37 t1088 a1).bind fun bt1091 => ((laws_eqSieve.f kj37 bt1091.1 bt1091.2.1 bt1091.2.2.1 bt1091.2.2.2.1 bt1091.2.2.2.2.1 t1056 t1057 t1058 t1059 t1062).bind fun t1100 => (if t1100 = true then (laws_FnExactSieveOf.j2 kj37 bt1085.1 (bt1091.2.2.2.2.2 != t1063) t1068 t1069 t1070 bt1085.2 t1074) else (laws_FnExactSieveOf.j2 kj37 bt1085.1 true t1068 t1069 t1070 bt1085.2 t1074))))) else (some false))))) = some r := by rw [if_neg (show ¬ (false = true) by decide)] at H; exact H
                  clear H
                  have H := H1
                  clear H1
                  replace H := Option.bind_eq_some_iff.mp H
                  obtain ⟨⟨t1085, t1086⟩, A540, H⟩ := H
                  (try dsimp only at H)
                  have A54 := Aside0.mk A540
                  clear A540
                  replace H := Option.bind_eq_some_iff.mp H
                  obtain ⟨t1087, A550, H⟩ := H
                  (try dsimp only at H)
                  have A55 := Aside0.mk A550
                  clear A550
                  have hnb56 := NB1076_1064.out
                  have hnc56 := NB1064_1076.out
                  have hcz57_0 : wc.cell? ⟨gb1076, 0, none⟩ = some (.string t1068) := (blk_cell BK1076.out 0).trans rfl
                  have hcz57_1 : wc.cell? ⟨gb1076, 1, none⟩ = some (.string t1069) := (blk_cell BK1076.out 1).trans rfl
                  have hcz57_2 : wc.cell? ⟨gb1076, 2, none⟩ = some (.string t1070) := (blk_cell BK1076.out 2).trans rfl
                  have hcz57_3 : wc.cell? ⟨gb1076, 3, none⟩ = some (.slice Ao22 t1071.length co22) := (blk_cell BK1076.out 3).trans rfl
                  have hcz57_4 : wc.cell? ⟨gb1076, 4, none⟩ = some (.int .i64 t1074) := (blk_cell BK1076.out 4).trans rfl
                  have hfz57_0 := blk_frozen BK1076.out 0
                  have hfz57_1 := blk_frozen BK1076.out 1
                  have hfz57_2 := blk_frozen BK1076.out 2
                  have hfz57_3 := blk_frozen BK1076.out 3
                  have hfz57_4 := blk_frozen BK1076.out 4
                  go_upto_if 73 with (first | ((with_reducible refine gate_callee (f := 76) rfl ?_); refine goesL_ (some 68) rfl rfl Try.func76 (by kernel_rfl) rfl #[.agg #[.string t1068, .string t1069, .string t1070, .slice Ao22 t1071.length co22, .int .i64 t1074], .int .i64 1] rfl (by (try simp only [List.map_toArray, List.map_cons, List.map_nil]); first | done | rfl | (simp only [List.length_drop, List.length_take]; rfl)) ?_; (with_reducible refine (laws_markSieve.calls kj37 t1068 t1069 t1070 (fun k_ => some k_ = (.slice Ao22 t1071.length co22 : Value).ownBlock) (.slice Ao22 t1071.length co22) t1071 t1074 1 t1085 t1086 w _ ?side1 ?side2 A54.out).mono ?_); (case side1 => repeat (first | (with_reducible first | exact HB.out | apply below_alloc | apply pw_below_drewN | apply below_drew1 | refine below_set ?_ GE1064.out | refine below_set ?_ GE1076.out) | exact HB.out)); (case side2 => exact Kd.R_tight rfl HO_1077003.out); rintro e w58 ⟨rfl, hy0, hb, hkp⟩; refine ⟨_, rfl, ?_⟩; have n0_ := Aside0.mk (Kd.R_mono (ok' := fun k_ => some k_ ≠ (.slice Ao22 t1071.length co22 : Value).ownBlock) (Kd.R_keptB (HO_1065003.out) hkp (fun k_ hk_ hs_ => (hk_) hs_)) (fun k_ hk_ => hk_.1)); have n1_ := Aside0.mk (Kd.R_reok rfl hy0 (fun k_ e_ => HO_1077003.out.1 k_ e_)); have n2_ := Aside0.mk (blk_kept (by (with_reducible repeat (first | refine blk_drewN ?_ _ | refine blk_drew ?_ | refine blk_alloc ?_ _)); exact BK1064.out) hkp (fun hs_ => (fun e_ => (Kd.R_ne HO_1077003.out BK1064.out (by decide)) e_) hs_)); have n3_ := Aside0.mk (blk_kept (by (with_reducible repeat (first | refine blk_drewN ?_ _ | refine blk_drew ?_ | refine blk_alloc ?_ _)); exact BK1076.out) hkp (fun hs_ => (fun e_ => (Kd.R_ne HO_1077003.out BK1076.out (by decide)) e_) hs_)); have n4_ := Aside0.mk (hb); clear HO_1065003; clear HO_1077003; clear BK1064; clear BK1076; clear HB; have HO_1065003 := n0_; have HO_1077003 := n1_; have BK1064 := n2_; have BK1076 := n3_; have HB := n4_; clear n0_ n1_ n2_ n3_ n4_; (try clear hb); (try clear hkp); (try clear hy0); have hcz59_0 : w58.cell? ⟨gb1076, 0, none⟩ = some (.string t1068) := (blk_cell BK1076.out 0).trans rfl; have hcz59_1 : w58.cell? ⟨gb1076, 1, none⟩ = some (.string t1069) := (blk_cell BK1076.out 1).trans rfl; have hcz59_2 : w58.cell? ⟨gb1076, 2, none⟩ = some (.string t1070) := (blk_cell BK1076.out 2).trans rfl; have hcz59_3 : w58.cell? ⟨gb1076, 3, none⟩ = some (.slice Ao22 t1071.length co22) := (blk_cell BK1076.out 3).trans rfl; have hcz59_4 : w58.cell? ⟨gb1076, 4, none⟩ = some (.int .i64 t1074) := (blk_cell BK1076.out 4).trans rfl; have hfz59_0 := blk_frozen BK1076.out 0; have hfz59_1 := blk_frozen BK1076.out 1; have hfz59_2 := blk_frozen BK1076.out 2; have hfz59_3 := blk_frozen BK1076.out 3; have hfz59_4 := blk_frozen BK1076.out 4) | ((with_reducible refine gate_callee (f := 77) rfl ?_); refine goesL_ (some 71) rfl rfl Try.func77 (by kernel_rfl) rfl #[.agg #[.string t1068, .string t1069, .string t1070, .slice Ao22 t1086.length co22, .int .i64 t1074], .int .i64 1] rfl (by (try simp only [List.map_toArray, List.map_cons, List.map_nil]); first | done | (rw [show t1086.length = t1071.length from (Kd.R_reads' HO_1077003.out).1.symm] <;> rfl) | rfl | (simp only [List.length_drop, List.length_take]; rfl)) ?_; (with_reducible refine (laws_heldSieve.calls kj37 t1068 t1069 t1070 _ _ t1086 t1074 1 t1087 _ ?side1 ?side2 A55.out).mono ?_); (case side1 => repeat (first | exact (Kd.R_reads' HO_1077003.out).2.2 | (with_reducible refine Kd.C_alloc ?_ _) | (with_reducible refine Kd.C_drewN ?_ _) | (with_reducible refine Kd.C_drew ?_))); (case side2 => rw [show t1086.length = t1071.length from (Kd.R_reads' HO_1077003.out).1.symm]; exact (Kd.R_reads' HO_1077003.out).2.1); rintro e w60 ⟨rfl, hb⟩; refine ⟨_, rfl, ?_⟩; have n0_ := Aside0.mk (Kd.R_below (zr HO_1065003.out) hb); have n1_ := Aside0.mk (Kd.R_below (zr HO_1077003.out) hb); have n2_ := Aside0.mk (blk_below (g := gb1064) (o := .cells #[.string t1056, .string t1057, .string t1058, .slice Ao15 t1059.length co15, .int .i64 t1062] 28 (0, 0)) (by (with_reducible repeat (first | refine blk_drewN ?_ _ | refine blk_drew ?_ | refine blk_alloc ?_ _)); exact BK1064.out) hb); have n3_ := Aside0.mk (blk_below (g := gb1076) (o := .cells #[.string t1068, .string t1069, .string t1070, .slice Ao22 t1071.length co22, .int .i64 t1074] 28 (0, 0)) (by (with_reducible repeat (first | refine blk_drewN ?_ _ | refine blk_drew ?_ | refine blk_alloc ?_ _)); exact BK1076.out) hb); have n4_ := Aside0.mk (below_step (by repeat (first | (with_reducible first | exact HB.out | apply below_alloc | apply pw_below_drewN | apply below_drew1 | refine below_set ?_ GE1064.out | refine below_set ?_ GE1076.out) | exact HB.out)) hb); clear HO_1065003; clear HO_1077003; clear BK1064; clear BK1076; clear HB; have HO_1065003 := n0_; have HO_1077003 := n1_; have BK1064 := n2_; have BK1076 := n3_; have HB := n4_; clear n0_ n1_ n2_ n3_ n4_; (try clear hb); (try clear hb2); (try clear hk); (try clear hi)))
                  by_cases c61 : t1087 < 0
                  · rw [if_pos c61] at H
                    have c61b0 : decide (t1087 < 0) = true := decide_eq_true c61
                    clear c61
                    (first | rw [c61b0] | (simp only [i64_w, i32_w]; rw [c61b0]) | simp only [*, Bool.not_true, Bool.not_false] | skip)
                    obtain rfl := Option.some.inj H
                    go_wp2
                    go_ret
                    exact ⟨ze, by repeat (first | (with_reducible first | exact HB.out | apply below_alloc | apply pw_below_drewN | apply below_drew1 | refine below_set ?_ GE1064.out | refine below_set ?_ GE1076.out) | exact HB.out)⟩
                  · rw [if_neg c61] at H
                    have c61b0 : decide (t1087 < 0) = false := decide_eq_false c61
                    clear c61
                    (first | rw [c61b0] | (simp only [i64_w, i32_w]; rw [c61b0]) | simp only [*, Bool.not_true, Bool.not_false] | skip)
                    by_cases c62 : t1087 = t1085
                    · rw [if_pos c62] at H
                      have c62b0 : (t1087 == t1085) = true := beq_iff_eq.mpr c62
                      have c62b1 : (t1087 != t1085) = false := bne_eq_false_iff_eq.mpr c62
                      clear c62
                      replace H := Option.bind_eq_some_iff.mp H
                      obtain ⟨t1088, A630, H⟩ := H
                      (try dsimp only at H)
                      have A63 := Aside0.mk A630
                      clear A630
                      replace H := Option.bind_eq_some_iff.mp H
                      obtain ⟨⟨t1091, t1092, t1093, t1094, t1097, t1098⟩, A640, H⟩ := H
                      (try dsimp only at H)
                      have A64 := Aside0.mk A640
                      clear A640
                      have HC65 := Aside0.mk H
                      clear H
                      go_upto_region 25 with (first | ((with_reducible refine gate_callee (f := 52) rfl ?_); refine goesL_ (some 79) rfl rfl Try.func52 (by kernel_rfl) rfl #[.slice A0 l0.length c0] rfl (by (try simp only [List.map_toArray, List.map_cons, List.map_nil]); first | done | rfl | (simp only [List.length_drop, List.length_take]; rfl)) ?_; (with_reducible refine (laws_toStringS.calls kj37 _ _ l0 t1088 _ ?side1 ?side2 A63.out).mono ?_); (case side1 => repeat (first | exact (Kd.C_below HR0.out HB.out) | (with_reducible refine Kd.C_alloc ?_ _) | (with_reducible refine Kd.C_drewN ?_ _) | (with_reducible refine Kd.C_drew ?_))); (case side2 => exact HC0.out); rintro e w66 ⟨v1089, rfl, ho0, hb⟩; refine ⟨_, rfl, ?_⟩; have n0_ := Aside0.mk (Kd.R_elder' (zr HO_1065003.out) (Kd.R_base ho0) hb); have n1_ := Aside0.mk (Kd.R_elder' (zr HO_1077003.out) (Kd.R_base ho0) hb); have n2_ := Aside0.mk (Kd.R_lower (Kd.R_new' (Kd.R_new' ho0 (Kd.R_lt (zr HO_1065003.out))) (Kd.R_lt (zr HO_1077003.out))) (below_size (by repeat (first | (with_reducible first | exact HB.out | apply below_alloc | apply pw_below_drewN | apply below_drew1 | refine below_set ?_ GE1064.out | refine below_set ?_ GE1076.out) | exact HB.out)))); have n3_ := Aside0.mk (blk_below (g := gb1064) (o := .cells #[.string t1056, .string t1057, .string t1058, .slice Ao15 t1059.length co15, .int .i64 t1062] 28 (0, 0)) (by (with_reducible repeat (first | refine blk_drewN ?_ _ | refine blk_drew ?_ | refine blk_alloc ?_ _)); exact BK1064.out) hb); have n4_ := Aside0.mk (blk_below (g := gb1076) (o := .cells #[.string t1068, .string t1069, .string t1070, .slice Ao22 t1071.length co22, .int .i64 t1074] 28 (0, 0)) (by (with_reducible repeat (first | refine blk_drewN ?_ _ | refine blk_drew ?_ | refine blk_alloc ?_ _)); exact BK1076.out) hb); have n5_ := Aside0.mk (below_step (by repeat (first | (with_reducible first | exact HB.out | apply below_alloc | apply pw_below_drewN | apply below_drew1 | refine below_set ?_ GE1064.out | refine below_set ?_ GE1076.out) | exact HB.out)) hb); clear HO_1065003; clear HO_1077003; clear BK1064; clear BK1076; clear HB; have HO_1065003 := n0_; have HO_1077003 := n1_; have HO1090 := n2_; have BK1064 := n3_; have BK1076 := n4_; have HB := n5_; clear n0_ n1_ n2_ n3_ n4_ n5_; (try clear hb); (try clear hb2); (try clear hk); (try clear hi); (try clear ho0); obtain ⟨Ao67, co67, eo67⟩ := Kd.R_slice HO1090.out; subst eo67) | ((with_reducible refine gate_callee (f := 46) rfl ?_); refine goesL_ (some 81) rfl rfl Try.func46 (by kernel_rfl) rfl #[.slice Ao67 t1088.length co67, .int .i64 a1] rfl (by (try simp only [List.map_toArray, List.map_cons, List.map_nil]); first | done | rfl | (simp only [List.length_drop, List.length_take]; rfl)) ?_; (with_reducible refine (impl_SieveOf.calls kj37 _ _ t1088 a1 t1091 t1092 t1093 t1094 t1097 t1098 _ ?side1 ?side2 A64.out).mono ?_); (case side1 => repeat (first | exact (Kd.R_reads' HO1090.out).2.2 | (with_reducible refine Kd.C_alloc ?_ _) | (with_reducible refine Kd.C_drewN ?_ _) | (with_reducible refine Kd.C_drew ?_))); (case side2 => exact (Kd.R_reads' HO1090.out).2.1); rintro e w68 ⟨v1095, rfl, ho0, hb⟩; refine ⟨_, rfl, ?_⟩; have n0_ := Aside0.mk (Kd.R_elder' (zr HO_1065003.out) (Kd.R_base ho0) hb); have n1_ := Aside0.mk (Kd.R_elder' (zr HO_1077003.out) (Kd.R_base ho0) hb); have n2_ := Aside0.mk (Kd.R_elder' (zr HO1090.out) (Kd.R_base ho0) hb); have n3_ := Aside0.mk (Kd.R_lower (Kd.R_new' (Kd.R_new' (Kd.R_new' ho0 (Kd.R_lt (zr HO_1065003.out))) (Kd.R_lt (zr HO_1077003.out))) (Kd.R_lt (zr HO1090.out))) (below_size (by repeat (first | (with_reducible first | exact HB.out | apply below_alloc | apply pw_below_drewN | apply below_drew1 | refine below_set ?_ GE1064.out | refine below_set ?_ GE1076.out) | exact HB.out)))); have n4_ := Aside0.mk (blk_below (g := gb1064) (o := .cells #[.string t1056, .string t1057, .string t1058, .slice Ao15 t1059.length co15, .int .i64 t1062] 28 (0, 0)) (by (with_reducible repeat (first | refine blk_drewN ?_ _ | refine blk_drew ?_ | refine blk_alloc ?_ _)); exact BK1064.out) hb); have n5_ := Aside0.mk (blk_below (g := gb1076) (o := .cells #[.string t1068, .string t1069, .string t1070, .slice Ao22 t1071.length co22, .int .i64 t1074] 28 (0, 0)) (by (with_reducible repeat (first | refine blk_drewN ?_ _ | refine blk_drew ?_ | refine blk_alloc ?_ _)); exact BK1076.out) hb); have n6_ := Aside0.mk (below_step (by repeat (first | (with_reducible first | exact HB.out | apply below_alloc | apply pw_below_drewN | apply below_drew1 | refine below_set ?_ GE1064.out | refine below_set ?_ GE1076.out) | exact HB.out)) hb); clear HO_1065003; clear HO_1077003; clear HO1090; clear BK1064; clear BK1076; clear HB; have HO_1065003 := n0_; have HO_1077003 := n1_; have HO1090 := n2_; have HO1096 := n3_; have BK1064 := n4_; have BK1076 := n5_; have HB := n6_; clear n0_ n1_ n2_ n3_ n4_ n5_ n6_; (try clear hb); (try clear hb2); (try clear hk); (try clear hi); (try clear ho0)) | ((with_reducible refine gate_dst (N := 14) rfl ?_); refine box_event ?hg (N := 14) ?hd (cs := #[.string (⟨#[]⟩ : ByteArray), .string (⟨#[]⟩ : ByteArray), .string (⟨#[]⟩ : ByteArray), .slice none 0 0, .int .i64 0]) (t := 28) ?hr ?_; (case hd => rfl); (case hg => rfl); (case hr => first | (go_simp; done) | (go_simp; rfl)); intro gb1099 hg w69 hbox hb; have n0_ := Aside0.mk (Kd.R_below (zr HO_1065003.out) hb); have n1_ := Aside0.mk (Kd.R_below (zr HO_1077003.out) hb); have n2_ := Aside0.mk (Kd.R_below (zr HO1090.out) hb); have n3_ := Aside0.mk (Kd.R_below (zr HO1096.out) hb); have n4_ := Aside0.mk (blk_below (g := gb1064) (o := .cells #[.string t1056, .string t1057, .string t1058, .slice Ao15 t1059.length co15, .int .i64 t1062] 28 (0, 0)) (by (with_reducible repeat (first | refine blk_drewN ?_ _ | refine blk_drew ?_ | refine blk_alloc ?_ _)); exact BK1064.out) hb); have n5_ := Aside0.mk (blk_below (g := gb1076) (o := .cells #[.string t1068, .string t1069, .string t1070, .slice Ao22 t1071.length co22, .int .i64 t1074] 28 (0, 0)) (by (with_reducible repeat (first | refine blk_drewN ?_ _ | refine blk_drew ?_ | refine blk_alloc ?_ _)); exact BK1076.out) hb); have n6_ := Aside0.mk (below_step (by repeat (first | (with_reducible first | exact HB.out | apply below_alloc | apply pw_below_drewN | apply below_drew1 | refine below_set ?_ GE1064.out | refine below_set ?_ GE1076.out) | exact HB.out)) hb); have n7_ := Aside0.mk (hbox); have n8_ := Aside0.mk ((by rw [hg]; exact (below_size (by repeat (first | (with_reducible first | exact HB.out | apply below_alloc | apply pw_below_drewN | apply below_drew1 | refine below_set ?_ GE1064.out | refine below_set ?_ GE1076.out) | exact HB.out))) : w.heap.size ≤ gb1099)); have n9_ := Aside0.mk ((by rw [hg]; exact (below_size (by repeat (first | (with_reducible first | exact HB.out | apply below_alloc | apply pw_below_drewN | apply below_drew1 | refine below_set ?_ GE1064.out | refine below_set ?_ GE1076.out) | exact HB.out))) : w.heap.size ≤ gb1099)); have n10_ := Aside0.mk ((by rw [hg]; exact Nat.ne_of_lt (blk_lt (g := gb1064) (o := .cells #[.string t1056, .string t1057, .string t1058, .slice Ao15 t1059.length co15, .int .i64 t1062] 28 (0, 0)) (by (with_reducible repeat (first | refine blk_drewN ?_ _ | refine blk_drew ?_ | refine blk_alloc ?_ _)); exact BK1064.out)) : gb1064 ≠ gb1099)); have n11_ := Aside0.mk ((by rw [hg]; exact Nat.ne_of_gt (blk_lt (g := gb1064) (o := .cells #[.string t1056, .string t1057, .string t1058, .slice Ao15 t1059.length co15, .int .i64 t1062] 28 (0, 0)) (by (with_reducible repeat (first | refine blk_drewN ?_ _ | refine blk_drew ?_ | refine blk_alloc ?_ _)); exact BK1064.out)) : gb1099 ≠ gb1064)); have n12_ := Aside0.mk ((by rw [hg]; exact Nat.ne_of_lt (blk_lt (g := gb1076) (o := .cells #[.string t1068, .string t1069, .string t1070, .slice Ao22 t1071.length co22, .int .i64 t1074] 28 (0, 0)) (by (with_reducible repeat (first | refine blk_drewN ?_ _ | refine blk_drew ?_ | refine blk_alloc ?_ _)); exact BK1076.out)) : gb1076 ≠ gb1099)); have n13_ := Aside0.mk ((by rw [hg]; exact Nat.ne_of_gt (blk_lt (g := gb1076) (o := .cells #[.string t1068, .string t1069, .string t1070, .slice Ao22 t1071.length co22, .int .i64 t1074] 28 (0, 0)) (by (with_reducible repeat (first | refine blk_drewN ?_ _ | refine blk_drew ?_ | refine blk_alloc ?_ _)); exact BK1076.out)) : gb1099 ≠ gb1076)); clear HO_1065003; clear HO_1077003; clear HO1090; clear HO1096; clear BK1064; clear BK1076; clear HB; have HO_1065003 := n0_; have HO_1077003 := n1_; have HO1090 := n2_; have HO1096 := n3_; have BK1064 := n4_; have BK1076 := n5_; have HB := n6_; have BK1099 := n7_; have GW1099 := n8_; have GE1099 := n9_; have NB1064_1099 := n10_; have NB1099_1064 := n11_; have NB1076_1099 := n12_; have NB1099_1076 := n13_; clear n0_ n1_ n2_ n3_ n4_ n5_ n6_ n7_ n8_ n9_ n10_ n11_ n12_ n13_; clear hb hbox hg; have hnb70 := NB1099_1064.out; have hnc70 := NB1064_1099.out; have hnb71 := NB1099_1076.out; have hnc71 := NB1076_1099.out; have hcz72_0 : w69.cell? ⟨gb1099, 0, none⟩ = some (.string (⟨#[]⟩ : ByteArray)) := (blk_cell BK1099.out 0).trans rfl; have hcz72_1 : w69.cell? ⟨gb1099, 1, none⟩ = some (.string (⟨#[]⟩ : ByteArray)) := (blk_cell BK1099.out 1).trans rfl; have hcz72_2 : w69.cell? ⟨gb1099, 2, none⟩ = some (.string (⟨#[]⟩ : ByteArray)) := (blk_cell BK1099.out 2).trans rfl; have hcz72_3 : w69.cell? ⟨gb1099, 3, none⟩ = some (.slice none 0 0) := (blk_cell BK1099.out 3).trans rfl; have hcz72_4 : w69.cell? ⟨gb1099, 4, none⟩ = some (.int .i64 0) := (blk_cell BK1099.out 4).trans rfl; have hfz72_0 := blk_frozen BK1099.out 0; have hfz72_1 := blk_frozen BK1099.out 1; have hfz72_2 := blk_frozen BK1099.out 2; have hfz72_3 := blk_frozen BK1099.out 3; have hfz72_4 := blk_frozen BK1099.out 4; obtain ⟨Ao73, co73, eo73⟩ := Kd.R_slice HO1096.out; subst eo73))
                      (try simp only [Act.put, List.setIfInBounds_toArray, List.set_cons_zero, List.set_cons_succ])
                      go_cut [92] (fun v92 wc => ∃ (kq : Nat) (x92_64 : Bool), v92 = .bool x92_64 ∧ Aside0 (laws_FnExactSieveOf.j2 kq t1085 x92_64 t1068 t1069 t1070 t1086 t1074 = some r) ∧ Aside0 (kq ≤ kj37) ∧ Aside0 (Kd.R Kd.string 9 wc w.heap.size (fun k_ => some k_ ≠ ((.slice Ao22 t1071.length co22) : Value).ownBlock ∧ some k_ ≠ ((.slice Ao73 t1094.length co73) : Value).ownBlock) (.slice Ao15 t1059.length co15) t1059) ∧ Aside0 (Kd.R Kd.string 9 wc w.heap.size (fun k_ => some k_ ≠ ((.slice Ao15 t1059.length co15) : Value).ownBlock ∧ some k_ ≠ ((.slice Ao73 t1094.length co73) : Value).ownBlock) (.slice Ao22 t1071.length co22) t1086) ∧ Aside0 (Kd.R Kd.string 9 wc w.heap.size (fun k_ => some k_ ≠ ((.slice Ao15 t1059.length co15) : Value).ownBlock ∧ some k_ ≠ ((.slice Ao22 t1071.length co22) : Value).ownBlock) (.slice Ao73 t1094.length co73) t1094) ∧ Aside0 (wc.heap[gb1064]? = some (.cells #[.string t1056, .string t1057, .string t1058, (.slice Ao15 t1059.length co15), .int .i64 t1062] 28 (0, 0))) ∧ Aside0 (wc.heap[gb1076]? = some (.cells #[.string t1068, .string t1069, .string t1070, (.slice Ao22 t1071.length co22), .int .i64 t1074] 28 (0, 0))) ∧ Aside0 (wc.heap[gb1099]? = some (.cells #[.string t1091, .string t1092, .string t1093, (.slice Ao73 t1094.length co73), .int .i64 t1097] 28 (0, 0))) ∧ Aside0 (Below w.heap.size w wc))
                      case first =>
                        have H := HC65.out
                        clear HC65
                        replace H := Option.bind_eq_some_iff.mp H
                        obtain ⟨t1100, A740, H⟩ := H
                        (try dsimp only at H)
                        have A74 := Aside0.mk A740
                        clear A740
                        by_cases c75 : t1100 = true
                        · subst c75
                          have H1 : (laws_FnExactSieveOf.j2 kj37 t1085 (t1098 != t1063) t1068 t1069 t1070 t1086 t1074) = some r := by rw [if_pos rfl] at H; exact H
                          clear H
                          have H := H1
                          clear H1
                          have H' := Aside0.mk H
                          clear H
                          have hnb76 := NB1099_1064.out
                          have hnc76 := NB1064_1099.out
                          have hnb77 := NB1099_1076.out
                          have hnc77 := NB1076_1099.out
                          have hcz78_0 : w69.cell? ⟨gb1099, 0, none⟩ = some (.string (⟨#[]⟩ : ByteArray)) := (blk_cell BK1099.out 0).trans rfl
                          have hcz78_1 : w69.cell? ⟨gb1099, 1, none⟩ = some (.string (⟨#[]⟩ : ByteArray)) := (blk_cell BK1099.out 1).trans rfl
                          have hcz78_2 : w69.cell? ⟨gb1099, 2, none⟩ = some (.string (⟨#[]⟩ : ByteArray)) := (blk_cell BK1099.out 2).trans rfl
                          have hcz78_3 : w69.cell? ⟨gb1099, 3, none⟩ = some (.slice none 0 0) := (blk_cell BK1099.out 3).trans rfl
                          have hcz78_4 : w69.cell? ⟨gb1099, 4, none⟩ = some (.int .i64 0) := (blk_cell BK1099.out 4).trans rfl
                          have hfz78_0 := blk_frozen BK1099.out 0
                          have hfz78_1 := blk_frozen BK1099.out 1
                          have hfz78_2 := blk_frozen BK1099.out 2
                          have hfz78_3 := blk_frozen BK1099.out 3
                          have hfz78_4 := blk_frozen BK1099.out 4
                          have hnb79 := NB1064_1076.out
                          have hnc79 := NB1076_1064.out
                          have hcz80_0 : w69.cell? ⟨gb1064, 0, none⟩ = some (.string t1056) := (blk_cell BK1064.out 0).trans rfl
                          have hcz80_1 : w69.cell? ⟨gb1064, 1, none⟩ = some (.string t1057) := (blk_cell BK1064.out 1).trans rfl
                          have hcz80_2 : w69.cell? ⟨gb1064, 2, none⟩ = some (.string t1058) := (blk_cell BK1064.out 2).trans rfl
                          have hcz80_3 : w69.cell? ⟨gb1064, 3, none⟩ = some (.slice Ao15 t1059.length co15) := (blk_cell BK1064.out 3).trans rfl
                          have hcz80_4 : w69.cell? ⟨gb1064, 4, none⟩ = some (.int .i64 t1062) := (blk_cell BK1064.out 4).trans rfl
                          have hfz80_0 := blk_frozen BK1064.out 0
                          have hfz80_1 := blk_frozen BK1064.out 1
                          have hfz80_2 := blk_frozen BK1064.out 2
                          have hfz80_3 := blk_frozen BK1064.out 3
                          have hfz80_4 := blk_frozen BK1064.out 4
                          go_wp2_with (first | ((with_reducible refine gate_callee (f := 74) rfl ?_); refine goesL_ (some 86) rfl rfl Try.func74 (by kernel_rfl) rfl #[.agg #[.string t1091, .string t1092, .string t1093, .slice Ao73 t1094.length co73, .int .i64 t1097], .agg #[.string t1056, .string t1057, .string t1058, .slice Ao15 t1059.length co15, .int .i64 t1062]] rfl (by (try simp only [List.map_toArray, List.map_cons, List.map_nil]); first | done | rfl | (simp only [List.length_drop, List.length_take]; rfl)) ?_; (with_reducible refine (laws_eqSieve.calls kj37 t1091 t1092 t1093 _ _ t1094 t1097 t1056 t1057 t1058 _ _ t1059 t1062 true _ ?side1 ?side2 ?side3 ?side4 A74.out).mono ?_); (case side1 => refine (Kd.R_reads' (e := 9) (base := w.heap.size) (ok := fun k_ => (((True ∧ some k_ ≠ (.slice Ao15 t1059.length co15 : Value).ownBlock) ∧ some k_ ≠ (.slice Ao22 t1071.length co22 : Value).ownBlock) ∧ some k_ ≠ (.slice Ao67 t1088.length co67 : Value).ownBlock)) (n := t1094.length) (c := co73) ?_).2.2; exact (zr (Kd.R_mono (Kd.R_far (p := ⟨gb1099, 4, none⟩) (Kd.R_far (p := ⟨gb1099, 3, none⟩) (Kd.R_far (p := ⟨gb1099, 2, none⟩) (Kd.R_far (p := ⟨gb1099, 1, none⟩) (Kd.R_far (p := ⟨gb1099, 0, none⟩) (Kd.R_types HO1096.out BK1099.out (by decide)) (fun _ hk => hk.2) (.string t1091)) (fun _ hk => hk.2) (.string t1092)) (fun _ hk => hk.2) (.string t1093)) (fun _ hk => hk.2) (.slice Ao73 t1094.length co73)) (fun _ hk => hk.2) (.int .i64 t1097)) (fun _ h_ => h_.1)))); (case side2 => exact (Kd.R_reads' HO1096.out).2.1); (case side3 => refine (Kd.R_reads' (e := 9) (base := w.heap.size) (ok := fun k_ => ((some k_ ≠ (.slice Ao22 t1071.length co22 : Value).ownBlock ∧ some k_ ≠ (.slice Ao67 t1088.length co67 : Value).ownBlock) ∧ some k_ ≠ (.slice Ao73 t1094.length co73 : Value).ownBlock)) (n := t1059.length) (c := co15) ?_).2.2; exact (zr (Kd.R_mono (Kd.R_far (p := ⟨gb1099, 4, none⟩) (Kd.R_far (p := ⟨gb1099, 3, none⟩) (Kd.R_far (p := ⟨gb1099, 2, none⟩) (Kd.R_far (p := ⟨gb1099, 1, none⟩) (Kd.R_far (p := ⟨gb1099, 0, none⟩) (Kd.R_types HO_1065003.out BK1099.out (by decide)) (fun _ hk => hk.2) (.string t1091)) (fun _ hk => hk.2) (.string t1092)) (fun _ hk => hk.2) (.string t1093)) (fun _ hk => hk.2) (.slice Ao73 t1094.length co73)) (fun _ hk => hk.2) (.int .i64 t1097)) (fun _ h_ => h_.1)))); (case side4 => exact (Kd.R_reads' HO_1065003.out).2.1); rintro e w81 ⟨rfl, hb⟩; refine ⟨_, rfl, ?_⟩; have n0_ := Aside0.mk (Kd.R_below (zr (Kd.R_mono (Kd.R_far (p := ⟨gb1099, 4, none⟩) (Kd.R_far (p := ⟨gb1099, 3, none⟩) (Kd.R_far (p := ⟨gb1099, 2, none⟩) (Kd.R_far (p := ⟨gb1099, 1, none⟩) (Kd.R_far (p := ⟨gb1099, 0, none⟩) (Kd.R_types HO_1065003.out BK1099.out (by decide)) (fun _ hk => hk.2) (.string t1091)) (fun _ hk => hk.2) (.string t1092)) (fun _ hk => hk.2) (.string t1093)) (fun _ hk => hk.2) (.slice Ao73 t1094.length co73)) (fun _ hk => hk.2) (.int .i64 t1097)) (fun _ h_ => h_.1))) hb); have n1_ := Aside0.mk (Kd.R_below (zr (Kd.R_mono (Kd.R_far (p := ⟨gb1099, 4, none⟩) (Kd.R_far (p := ⟨gb1099, 3, none⟩) (Kd.R_far (p := ⟨gb1099, 2, none⟩) (Kd.R_far (p := ⟨gb1099, 1, none⟩) (Kd.R_far (p := ⟨gb1099, 0, none⟩) (Kd.R_types HO_1077003.out BK1099.out (by decide)) (fun _ hk => hk.2) (.string t1091)) (fun _ hk => hk.2) (.string t1092)) (fun _ hk => hk.2) (.string t1093)) (fun _ hk => hk.2) (.slice Ao73 t1094.length co73)) (fun _ hk => hk.2) (.int .i64 t1097)) (fun _ h_ => h_.1))) hb); have n2_ := Aside0.mk (Kd.R_below (zr (Kd.R_mono (Kd.R_far (p := ⟨gb1099, 4, none⟩) (Kd.R_far (p := ⟨gb1099, 3, none⟩) (Kd.R_far (p := ⟨gb1099, 2, none⟩) (Kd.R_far (p := ⟨gb1099, 1, none⟩) (Kd.R_far (p := ⟨gb1099, 0, none⟩) (Kd.R_types HO1090.out BK1099.out (by decide)) (fun _ hk => hk.2) (.string t1091)) (fun _ hk => hk.2) (.string t1092)) (fun _ hk => hk.2) (.string t1093)) (fun _ hk => hk.2) (.slice Ao73 t1094.length co73)) (fun _ hk => hk.2) (.int .i64 t1097)) (fun _ h_ => h_.1))) hb); have n3_ := Aside0.mk (Kd.R_below (zr (Kd.R_mono (Kd.R_far (p := ⟨gb1099, 4, none⟩) (Kd.R_far (p := ⟨gb1099, 3, none⟩) (Kd.R_far (p := ⟨gb1099, 2, none⟩) (Kd.R_far (p := ⟨gb1099, 1, none⟩) (Kd.R_far (p := ⟨gb1099, 0, none⟩) (Kd.R_types HO1096.out BK1099.out (by decide)) (fun _ hk => hk.2) (.string t1091)) (fun _ hk => hk.2) (.string t1092)) (fun _ hk => hk.2) (.string t1093)) (fun _ hk => hk.2) (.slice Ao73 t1094.length co73)) (fun _ hk => hk.2) (.int .i64 t1097)) (fun _ h_ => h_.1))) hb); have n4_ := Aside0.mk (blk_below (g := gb1064) (o := .cells #[.string t1056, .string t1057, .string t1058, .slice Ao15 t1059.length co15, .int .i64 t1062] 28 (0, 0)) (by (with_reducible repeat (first | refine blk_drewN ?_ _ | refine blk_drew ?_ | refine blk_alloc ?_ _)); refine blk_far ?_ NB1064_1099.out _; (with_reducible repeat (first | refine blk_drewN ?_ _ | refine blk_drew ?_ | refine blk_alloc ?_ _)); refine blk_far ?_ NB1064_1099.out _; (with_reducible repeat (first | refine blk_drewN ?_ _ | refine blk_drew ?_ | refine blk_alloc ?_ _)); refine blk_far ?_ NB1064_1099.out _; (with_reducible repeat (first | refine blk_drewN ?_ _ | refine blk_drew ?_ | refine blk_alloc ?_ _)); refine blk_far ?_ NB1064_1099.out _; (with_reducible repeat (first | refine blk_drewN ?_ _ | refine blk_drew ?_ | refine blk_alloc ?_ _)); refine blk_far ?_ NB1064_1099.out _; (with_reducible repeat (first | refine blk_drewN ?_ _ | refine blk_drew ?_ | refine blk_alloc ?_ _)); exact BK1064.out) hb); have n5_ := Aside0.mk (blk_below (g := gb1076) (o := .cells #[.string t1068, .string t1069, .string t1070, .slice Ao22 t1071.length co22, .int .i64 t1074] 28 (0, 0)) (by (with_reducible repeat (first | refine blk_drewN ?_ _ | refine blk_drew ?_ | refine blk_alloc ?_ _)); refine blk_far ?_ NB1076_1099.out _; (with_reducible repeat (first | refine blk_drewN ?_ _ | refine blk_drew ?_ | refine blk_alloc ?_ _)); refine blk_far ?_ NB1076_1099.out _; (with_reducible repeat (first | refine blk_drewN ?_ _ | refine blk_drew ?_ | refine blk_alloc ?_ _)); refine blk_far ?_ NB1076_1099.out _; (with_reducible repeat (first | refine blk_drewN ?_ _ | refine blk_drew ?_ | refine blk_alloc ?_ _)); refine blk_far ?_ NB1076_1099.out _; (with_reducible repeat (first | refine blk_drewN ?_ _ | refine blk_drew ?_ | refine blk_alloc ?_ _)); refine blk_far ?_ NB1076_1099.out _; (with_reducible repeat (first | refine blk_drewN ?_ _ | refine blk_drew ?_ | refine blk_alloc ?_ _)); exact BK1076.out) hb); have n6_ := Aside0.mk (blk_below (g := gb1099) (o := .cells #[.string t1091, .string t1092, .string t1093, .slice Ao73 t1094.length co73, .int .i64 t1097] 28 (0, 0)) (by (with_reducible repeat (first | refine blk_drewN ?_ _ | refine blk_drew ?_ | refine blk_alloc ?_ _)); refine blk_put (cs := #[.string t1091, .string t1092, .string t1093, .slice Ao73 t1094.length co73, .int .i64 0]) ?_ 4 _ rfl; (with_reducible repeat (first | refine blk_drewN ?_ _ | refine blk_drew ?_ | refine blk_alloc ?_ _)); refine blk_put (cs := #[.string t1091, .string t1092, .string t1093, .slice none 0 0, .int .i64 0]) ?_ 3 _ rfl; (with_reducible repeat (first | refine blk_drewN ?_ _ | refine blk_drew ?_ | refine blk_alloc ?_ _)); refine blk_put (cs := #[.string t1091, .string t1092, .string (⟨#[]⟩ : ByteArray), .slice none 0 0, .int .i64 0]) ?_ 2 _ rfl; (with_reducible repeat (first | refine blk_drewN ?_ _ | refine blk_drew ?_ | refine blk_alloc ?_ _)); refine blk_put (cs := #[.string t1091, .string (⟨#[]⟩ : ByteArray), .string (⟨#[]⟩ : ByteArray), .slice none 0 0, .int .i64 0]) ?_ 1 _ rfl; (with_reducible repeat (first | refine blk_drewN ?_ _ | refine blk_drew ?_ | refine blk_alloc ?_ _)); refine blk_put (cs := #[.string (⟨#[]⟩ : ByteArray), .string (⟨#[]⟩ : ByteArray), .string (⟨#[]⟩ : ByteArray), .slice none 0 0, .int .i64 0]) ?_ 0 _ rfl; (with_reducible repeat (first | refine blk_drewN ?_ _ | refine blk_drew ?_ | refine blk_alloc ?_ _)); exact BK1099.out) hb); have n7_ := Aside0.mk (below_step (by repeat (first | (with_reducible first | exact HB.out | apply below_alloc | apply pw_below_drewN | apply below_drew1 | refine below_set ?_ GE1064.out | refine below_set ?_ GE1076.out | refine below_set ?_ GE1099.out) | exact HB.out)) hb); clear HO_1065003; clear HO_1077003; clear HO1090; clear HO1096; clear BK1064; clear BK1076; clear BK1099; clear HB; have HO_1065003 := n0_; have HO_1077003 := n1_; have HO1090 := n2_; have HO1096 := n3_; have BK1064 := n4_; have BK1076 := n5_; have BK1099 := n6_; have HB := n7_; clear n0_ n1_ n2_ n3_ n4_ n5_ n6_ n7_; (try clear hb); (try clear hb2); (try clear hk); (try clear hi)))
                          go_meet
                          case rel => exact ⟨_, ((t1098 != t1063)), zf, H', ⟨by have := HJ8.out; have := HJ37.out; first | omega | exact Nat.le_refl _⟩, ⟨Kd.R_mono (zr HO_1065003.out) (fun _ hk => ⟨hk.1.1, hk.2⟩)⟩, ⟨Kd.R_mono (zr HO_1077003.out) (fun _ hk => ⟨hk.1.1, hk.2⟩)⟩, ⟨Kd.R_mono (zr HO1096.out) (fun _ hk => ⟨hk.1.1.2, hk.1.2⟩)⟩, ⟨by (with_reducible repeat (first | refine blk_drewN ?_ _ | refine blk_drew ?_ | refine blk_alloc ?_ _)); exact BK1064.out⟩, ⟨by (with_reducible repeat (first | refine blk_drewN ?_ _ | refine blk_drew ?_ | refine blk_alloc ?_ _)); exact BK1076.out⟩, ⟨by (with_reducible repeat (first | refine blk_drewN ?_ _ | refine blk_drew ?_ | refine blk_alloc ?_ _)); exact BK1099.out⟩, ⟨by repeat (first | (with_reducible first | exact HB.out | apply below_alloc | apply pw_below_drewN | apply below_drew1 | refine below_set ?_ GE1064.out | refine below_set ?_ GE1076.out | refine below_set ?_ GE1099.out) | exact HB.out)⟩⟩
                        · replace c75 := Bool.eq_false_iff.mpr c75
                          subst c75
                          have H1 : (laws_FnExactSieveOf.j2 kj37 t1085 true t1068 t1069 t1070 t1086 t1074) = some r := by rw [if_neg (show ¬ (false = true) by decide)] at H; exact H
                          clear H
                          have H := H1
                          clear H1
                          have H' := Aside0.mk H
                          clear H
                          have hnb82 := NB1099_1064.out
                          have hnc82 := NB1064_1099.out
                          have hnb83 := NB1099_1076.out
                          have hnc83 := NB1076_1099.out
                          have hcz84_0 : w69.cell? ⟨gb1099, 0, none⟩ = some (.string (⟨#[]⟩ : ByteArray)) := (blk_cell BK1099.out 0).trans rfl
                          have hcz84_1 : w69.cell? ⟨gb1099, 1, none⟩ = some (.string (⟨#[]⟩ : ByteArray)) := (blk_cell BK1099.out 1).trans rfl
                          have hcz84_2 : w69.cell? ⟨gb1099, 2, none⟩ = some (.string (⟨#[]⟩ : ByteArray)) := (blk_cell BK1099.out 2).trans rfl
                          have hcz84_3 : w69.cell? ⟨gb1099, 3, none⟩ = some (.slice none 0 0) := (blk_cell BK1099.out 3).trans rfl
                          have hcz84_4 : w69.cell? ⟨gb1099, 4, none⟩ = some (.int .i64 0) := (blk_cell BK1099.out 4).trans rfl
                          have hfz84_0 := blk_frozen BK1099.out 0
                          have hfz84_1 := blk_frozen BK1099.out 1
                          have hfz84_2 := blk_frozen BK1099.out 2
                          have hfz84_3 := blk_frozen BK1099.out 3
                          have hfz84_4 := blk_frozen BK1099.out 4
                          have hnb85 := NB1064_1076.out
                          have hnc85 := NB1076_1064.out
                          have hcz86_0 : w69.cell? ⟨gb1064, 0, none⟩ = some (.string t1056) := (blk_cell BK1064.out 0).trans rfl
                          have hcz86_1 : w69.cell? ⟨gb1064, 1, none⟩ = some (.string t1057) := (blk_cell BK1064.out 1).trans rfl
                          have hcz86_2 : w69.cell? ⟨gb1064, 2, none⟩ = some (.string t1058) := (blk_cell BK1064.out 2).trans rfl
                          have hcz86_3 : w69.cell? ⟨gb1064, 3, none⟩ = some (.slice Ao15 t1059.length co15) := (blk_cell BK1064.out 3).trans rfl
                          have hcz86_4 : w69.cell? ⟨gb1064, 4, none⟩ = some (.int .i64 t1062) := (blk_cell BK1064.out 4).trans rfl
                          have hfz86_0 := blk_frozen BK1064.out 0
                          have hfz86_1 := blk_frozen BK1064.out 1
                          have hfz86_2 := blk_frozen BK1064.out 2
                          have hfz86_3 := blk_frozen BK1064.out 3
                          have hfz86_4 := blk_frozen BK1064.out 4
                          go_wp2_with (first | ((with_reducible refine gate_callee (f := 74) rfl ?_); refine goesL_ (some 86) rfl rfl Try.func74 (by kernel_rfl) rfl #[.agg #[.string t1091, .string t1092, .string t1093, .slice Ao73 t1094.length co73, .int .i64 t1097], .agg #[.string t1056, .string t1057, .string t1058, .slice Ao15 t1059.length co15, .int .i64 t1062]] rfl (by (try simp only [List.map_toArray, List.map_cons, List.map_nil]); first | done | rfl | (simp only [List.length_drop, List.length_take]; rfl)) ?_; (with_reducible refine (laws_eqSieve.calls kj37 t1091 t1092 t1093 _ _ t1094 t1097 t1056 t1057 t1058 _ _ t1059 t1062 false _ ?side1 ?side2 ?side3 ?side4 A74.out).mono ?_); (case side1 => refine (Kd.R_reads' (e := 9) (base := w.heap.size) (ok := fun k_ => (((True ∧ some k_ ≠ (.slice Ao15 t1059.length co15 : Value).ownBlock) ∧ some k_ ≠ (.slice Ao22 t1071.length co22 : Value).ownBlock) ∧ some k_ ≠ (.slice Ao67 t1088.length co67 : Value).ownBlock)) (n := t1094.length) (c := co73) ?_).2.2; exact (zr (Kd.R_mono (Kd.R_far (p := ⟨gb1099, 4, none⟩) (Kd.R_far (p := ⟨gb1099, 3, none⟩) (Kd.R_far (p := ⟨gb1099, 2, none⟩) (Kd.R_far (p := ⟨gb1099, 1, none⟩) (Kd.R_far (p := ⟨gb1099, 0, none⟩) (Kd.R_types HO1096.out BK1099.out (by decide)) (fun _ hk => hk.2) (.string t1091)) (fun _ hk => hk.2) (.string t1092)) (fun _ hk => hk.2) (.string t1093)) (fun _ hk => hk.2) (.slice Ao73 t1094.length co73)) (fun _ hk => hk.2) (.int .i64 t1097)) (fun _ h_ => h_.1)))); (case side2 => exact (Kd.R_reads' HO1096.out).2.1); (case side3 => refine (Kd.R_reads' (e := 9) (base := w.heap.size) (ok := fun k_ => ((some k_ ≠ (.slice Ao22 t1071.length co22 : Value).ownBlock ∧ some k_ ≠ (.slice Ao67 t1088.length co67 : Value).ownBlock) ∧ some k_ ≠ (.slice Ao73 t1094.length co73 : Value).ownBlock)) (n := t1059.length) (c := co15) ?_).2.2; exact (zr (Kd.R_mono (Kd.R_far (p := ⟨gb1099, 4, none⟩) (Kd.R_far (p := ⟨gb1099, 3, none⟩) (Kd.R_far (p := ⟨gb1099, 2, none⟩) (Kd.R_far (p := ⟨gb1099, 1, none⟩) (Kd.R_far (p := ⟨gb1099, 0, none⟩) (Kd.R_types HO_1065003.out BK1099.out (by decide)) (fun _ hk => hk.2) (.string t1091)) (fun _ hk => hk.2) (.string t1092)) (fun _ hk => hk.2) (.string t1093)) (fun _ hk => hk.2) (.slice Ao73 t1094.length co73)) (fun _ hk => hk.2) (.int .i64 t1097)) (fun _ h_ => h_.1)))); (case side4 => exact (Kd.R_reads' HO_1065003.out).2.1); rintro e w87 ⟨rfl, hb⟩; refine ⟨_, rfl, ?_⟩; have n0_ := Aside0.mk (Kd.R_below (zr (Kd.R_mono (Kd.R_far (p := ⟨gb1099, 4, none⟩) (Kd.R_far (p := ⟨gb1099, 3, none⟩) (Kd.R_far (p := ⟨gb1099, 2, none⟩) (Kd.R_far (p := ⟨gb1099, 1, none⟩) (Kd.R_far (p := ⟨gb1099, 0, none⟩) (Kd.R_types HO_1065003.out BK1099.out (by decide)) (fun _ hk => hk.2) (.string t1091)) (fun _ hk => hk.2) (.string t1092)) (fun _ hk => hk.2) (.string t1093)) (fun _ hk => hk.2) (.slice Ao73 t1094.length co73)) (fun _ hk => hk.2) (.int .i64 t1097)) (fun _ h_ => h_.1))) hb); have n1_ := Aside0.mk (Kd.R_below (zr (Kd.R_mono (Kd.R_far (p := ⟨gb1099, 4, none⟩) (Kd.R_far (p := ⟨gb1099, 3, none⟩) (Kd.R_far (p := ⟨gb1099, 2, none⟩) (Kd.R_far (p := ⟨gb1099, 1, none⟩) (Kd.R_far (p := ⟨gb1099, 0, none⟩) (Kd.R_types HO_1077003.out BK1099.out (by decide)) (fun _ hk => hk.2) (.string t1091)) (fun _ hk => hk.2) (.string t1092)) (fun _ hk => hk.2) (.string t1093)) (fun _ hk => hk.2) (.slice Ao73 t1094.length co73)) (fun _ hk => hk.2) (.int .i64 t1097)) (fun _ h_ => h_.1))) hb); have n2_ := Aside0.mk (Kd.R_below (zr (Kd.R_mono (Kd.R_far (p := ⟨gb1099, 4, none⟩) (Kd.R_far (p := ⟨gb1099, 3, none⟩) (Kd.R_far (p := ⟨gb1099, 2, none⟩) (Kd.R_far (p := ⟨gb1099, 1, none⟩) (Kd.R_far (p := ⟨gb1099, 0, none⟩) (Kd.R_types HO1090.out BK1099.out (by decide)) (fun _ hk => hk.2) (.string t1091)) (fun _ hk => hk.2) (.string t1092)) (fun _ hk => hk.2) (.string t1093)) (fun _ hk => hk.2) (.slice Ao73 t1094.length co73)) (fun _ hk => hk.2) (.int .i64 t1097)) (fun _ h_ => h_.1))) hb); have n3_ := Aside0.mk (Kd.R_below (zr (Kd.R_mono (Kd.R_far (p := ⟨gb1099, 4, none⟩) (Kd.R_far (p := ⟨gb1099, 3, none⟩) (Kd.R_far (p := ⟨gb1099, 2, none⟩) (Kd.R_far (p := ⟨gb1099, 1, none⟩) (Kd.R_far (p := ⟨gb1099, 0, none⟩) (Kd.R_types HO1096.out BK1099.out (by decide)) (fun _ hk => hk.2) (.string t1091)) (fun _ hk => hk.2) (.string t1092)) (fun _ hk => hk.2) (.string t1093)) (fun _ hk => hk.2) (.slice Ao73 t1094.length co73)) (fun _ hk => hk.2) (.int .i64 t1097)) (fun _ h_ => h_.1))) hb); have n4_ := Aside0.mk (blk_below (g := gb1064) (o := .cells #[.string t1056, .string t1057, .string t1058, .slice Ao15 t1059.length co15, .int .i64 t1062] 28 (0, 0)) (by (with_reducible repeat (first | refine blk_drewN ?_ _ | refine blk_drew ?_ | refine blk_alloc ?_ _)); refine blk_far ?_ NB1064_1099.out _; (with_reducible repeat (first | refine blk_drewN ?_ _ | refine blk_drew ?_ | refine blk_alloc ?_ _)); refine blk_far ?_ NB1064_1099.out _; (with_reducible repeat (first | refine blk_drewN ?_ _ | refine blk_drew ?_ | refine blk_alloc ?_ _)); refine blk_far ?_ NB1064_1099.out _; (with_reducible repeat (first | refine blk_drewN ?_ _ | refine blk_drew ?_ | refine blk_alloc ?_ _)); refine blk_far ?_ NB1064_1099.out _; (with_reducible repeat (first | refine blk_drewN ?_ _ | refine blk_drew ?_ | refine blk_alloc ?_ _)); refine blk_far ?_ NB1064_1099.out _; (with_reducible repeat (first | refine blk_drewN ?_ _ | refine blk_drew ?_ | refine blk_alloc ?_ _)); exact BK1064.out) hb); have n5_ := Aside0.mk (blk_below (g := gb1076) (o := .cells #[.string t1068, .string t1069, .string t1070, .slice Ao22 t1071.length co22, .int .i64 t1074] 28 (0, 0)) (by (with_reducible repeat (first | refine blk_drewN ?_ _ | refine blk_drew ?_ | refine blk_alloc ?_ _)); refine blk_far ?_ NB1076_1099.out _; (with_reducible repeat (first | refine blk_drewN ?_ _ | refine blk_drew ?_ | refine blk_alloc ?_ _)); refine blk_far ?_ NB1076_1099.out _; (with_reducible repeat (first | refine blk_drewN ?_ _ | refine blk_drew ?_ | refine blk_alloc ?_ _)); refine blk_far ?_ NB1076_1099.out _; (with_reducible repeat (first | refine blk_drewN ?_ _ | refine blk_drew ?_ | refine blk_alloc ?_ _)); refine blk_far ?_ NB1076_1099.out _; (with_reducible repeat (first | refine blk_drewN ?_ _ | refine blk_drew ?_ | refine blk_alloc ?_ _)); refine blk_far ?_ NB1076_1099.out _; (with_reducible repeat (first | refine blk_drewN ?_ _ | refine blk_drew ?_ | refine blk_alloc ?_ _)); exact BK1076.out) hb); have n6_ := Aside0.mk (blk_below (g := gb1099) (o := .cells #[.string t1091, .string t1092, .string t1093, .slice Ao73 t1094.length co73, .int .i64 t1097] 28 (0, 0)) (by (with_reducible repeat (first | refine blk_drewN ?_ _ | refine blk_drew ?_ | refine blk_alloc ?_ _)); refine blk_put (cs := #[.string t1091, .string t1092, .string t1093, .slice Ao73 t1094.length co73, .int .i64 0]) ?_ 4 _ rfl; (with_reducible repeat (first | refine blk_drewN ?_ _ | refine blk_drew ?_ | refine blk_alloc ?_ _)); refine blk_put (cs := #[.string t1091, .string t1092, .string t1093, .slice none 0 0, .int .i64 0]) ?_ 3 _ rfl; (with_reducible repeat (first | refine blk_drewN ?_ _ | refine blk_drew ?_ | refine blk_alloc ?_ _)); refine blk_put (cs := #[.string t1091, .string t1092, .string (⟨#[]⟩ : ByteArray), .slice none 0 0, .int .i64 0]) ?_ 2 _ rfl; (with_reducible repeat (first | refine blk_drewN ?_ _ | refine blk_drew ?_ | refine blk_alloc ?_ _)); refine blk_put (cs := #[.string t1091, .string (⟨#[]⟩ : ByteArray), .string (⟨#[]⟩ : ByteArray), .slice none 0 0, .int .i64 0]) ?_ 1 _ rfl; (with_reducible repeat (first | refine blk_drewN ?_ _ | refine blk_drew ?_ | refine blk_alloc ?_ _)); refine blk_put (cs := #[.string (⟨#[]⟩ : ByteArray), .string (⟨#[]⟩ : ByteArray), .string (⟨#[]⟩ : ByteArray), .slice none 0 0, .int .i64 0]) ?_ 0 _ rfl; (with_reducible repeat (first | refine blk_drewN ?_ _ | refine blk_drew ?_ | refine blk_alloc ?_ _)); exact BK1099.out) hb); have n7_ := Aside0.mk (below_step (by repeat (first | (with_reducible first | exact HB.out | apply below_alloc | apply pw_below_drewN | apply below_drew1 | refine below_set ?_ GE1064.out | refine below_set ?_ GE1076.out | refine below_set ?_ GE1099.out) | exact HB.out)) hb); clear HO_1065003; clear HO_1077003; clear HO1090; clear HO1096; clear BK1064; clear BK1076; clear BK1099; clear HB; have HO_1065003 := n0_; have HO_1077003 := n1_; have HO1090 := n2_; have HO1096 := n3_; have BK1064 := n4_; have BK1076 := n5_; have BK1099 := n6_; have HB := n7_; clear n0_ n1_ n2_ n3_ n4_ n5_ n6_ n7_; (try clear hb); (try clear hb2); (try clear hk); (try clear hi)))
                          go_meet
                          case rel => exact ⟨_, (true), zf, H', ⟨by have := HJ8.out; have := HJ37.out; first | omega | exact Nat.le_refl _⟩, ⟨Kd.R_mono (zr HO_1065003.out) (fun _ hk => ⟨hk.1.1, hk.2⟩)⟩, ⟨Kd.R_mono (zr HO_1077003.out) (fun _ hk => ⟨hk.1.1, hk.2⟩)⟩, ⟨Kd.R_mono (zr HO1096.out) (fun _ hk => ⟨hk.1.1.2, hk.1.2⟩)⟩, ⟨by (with_reducible repeat (first | refine blk_drewN ?_ _ | refine blk_drew ?_ | refine blk_alloc ?_ _)); exact BK1064.out⟩, ⟨by (with_reducible repeat (first | refine blk_drewN ?_ _ | refine blk_drew ?_ | refine blk_alloc ?_ _)); exact BK1076.out⟩, ⟨by (with_reducible repeat (first | refine blk_drewN ?_ _ | refine blk_drew ?_ | refine blk_alloc ?_ _)); exact BK1099.out⟩, ⟨by repeat (first | (with_reducible first | exact HB.out | apply below_alloc | apply pw_below_drewN | apply below_drew1 | refine below_set ?_ GE1064.out | refine below_set ?_ GE1076.out | refine below_set ?_ GE1099.out) | exact HB.out)⟩⟩
                      case rest =>
                        clear HC65
                        try clear c1
                        try clear c2
                        try clear p2
                        try clear c3
                        try clear c4
                        try clear c4b0
                        try clear c5
                        try clear c6
                        try clear c7
                        try clear c8
                        try clear c15
                        try clear c20
                        try clear c24
                        try clear c25
                        try clear c29
                        try clear c33
                        try clear c36
                        try clear c42
                        try clear c42b0
                        try clear c44
                        try clear c45
                        try clear c46
                        try clear c49
                        try clear c50
                        try clear c52
                        try clear c53
                        try clear c54
                        try clear c56
                        try clear c59
                        try clear c61
                        try clear c61b0
                        try clear c62
                        try clear c62b0
                        try clear c62b1
                        try clear c70
                        try clear c71
                        try clear c74
                        try clear c75
                        try clear c76
                        try clear c77
                        try clear c79
                        try clear c82
                        try clear c83
                        try clear c85
                        try clear hcz14_0
                        try clear hcz14_1
                        try clear hcz14_2
                        try clear hcz14_3
                        try clear hcz14_4
                        try clear hcz21_0
                        try clear hcz21_1
                        try clear hcz21_2
                        try clear hcz21_3
                        try clear hcz21_4
                        try clear hcz26_0
                        try clear hcz26_1
                        try clear hcz26_2
                        try clear hcz26_3
                        try clear hcz26_4
                        try clear hcz27_0
                        try clear hcz27_1
                        try clear hcz27_2
                        try clear hcz27_3
                        try clear hcz27_4
                        try clear hcz30_0
                        try clear hcz30_1
                        try clear hcz30_2
                        try clear hcz30_3
                        try clear hcz30_4
                        try clear hcz31_0
                        try clear hcz31_1
                        try clear hcz31_2
                        try clear hcz31_3
                        try clear hcz31_4
                        try clear hcz46_0
                        try clear hcz46_1
                        try clear hcz46_2
                        try clear hcz46_3
                        try clear hcz46_4
                        try clear hcz47_0
                        try clear hcz47_1
                        try clear hcz47_2
                        try clear hcz47_3
                        try clear hcz47_4
                        try clear hcz50_0
                        try clear hcz50_1
                        try clear hcz50_2
                        try clear hcz50_3
                        try clear hcz50_4
                        try clear hcz51_0
                        try clear hcz51_1
                        try clear hcz51_2
                        try clear hcz51_3
                        try clear hcz51_4
                        try clear hcz57_0
                        try clear hcz57_1
                        try clear hcz57_2
                        try clear hcz57_3
                        try clear hcz57_4
                        try clear hcz59_0
                        try clear hcz59_1
                        try clear hcz59_2
                        try clear hcz59_3
                        try clear hcz59_4
                        try clear hcz72_0
                        try clear hcz72_1
                        try clear hcz72_2
                        try clear hcz72_3
                        try clear hcz72_4
                        try clear hcz78_0
                        try clear hcz78_1
                        try clear hcz78_2
                        try clear hcz78_3
                        try clear hcz78_4
                        try clear hcz80_0
                        try clear hcz80_1
                        try clear hcz80_2
                        try clear hcz80_3
                        try clear hcz80_4
                        try clear hcz84_0
                        try clear hcz84_1
                        try clear hcz84_2
                        try clear hcz84_3
                        try clear hcz84_4
                        try clear hcz86_0
                        try clear hcz86_1
                        try clear hcz86_2
                        try clear hcz86_3
                        try clear hcz86_4
                        try clear hfz14_0
                        try clear hfz14_1
                        try clear hfz14_2
                        try clear hfz14_3
                        try clear hfz14_4
                        try clear hfz21_0
                        try clear hfz21_1
                        try clear hfz21_2
                        try clear hfz21_3
                        try clear hfz21_4
                        try clear hfz26_0
                        try clear hfz26_1
                        try clear hfz26_2
                        try clear hfz26_3
                        try clear hfz26_4
                        try clear hfz27_0
                        try clear hfz27_1
                        try clear hfz27_2
                        try clear hfz27_3
                        try clear hfz27_4
                        try clear hfz30_0
                        try clear hfz30_1
                        try clear hfz30_2
                        try clear hfz30_3
                        try clear hfz30_4
                        try clear hfz31_0
                        try clear hfz31_1
                        try clear hfz31_2
                        try clear hfz31_3
                        try clear hfz31_4
                        try clear hfz46_0
                        try clear hfz46_1
                        try clear hfz46_2
                        try clear hfz46_3
                        try clear hfz46_4
                        try clear hfz47_0
                        try clear hfz47_1
                        try clear hfz47_2
                        try clear hfz47_3
                        try clear hfz47_4
                        try clear hfz50_0
                        try clear hfz50_1
                        try clear hfz50_2
                        try clear hfz50_3
                        try clear hfz50_4
                        try clear hfz51_0
                        try clear hfz51_1
                        try clear hfz51_2
                        try clear hfz51_3
                        try clear hfz51_4
                        try clear hfz57_0
                        try clear hfz57_1
                        try clear hfz57_2
                        try clear hfz57_3
                        try clear hfz57_4
                        try clear hfz59_0
                        try clear hfz59_1
                        try clear hfz59_2
                        try clear hfz59_3
                        try clear hfz59_4
                        try clear hfz72_0
                        try clear hfz72_1
                        try clear hfz72_2
                        try clear hfz72_3
                        try clear hfz72_4
                        try clear hfz78_0
                        try clear hfz78_1
                        try clear hfz78_2
                        try clear hfz78_3
                        try clear hfz78_4
                        try clear hfz80_0
                        try clear hfz80_1
                        try clear hfz80_2
                        try clear hfz80_3
                        try clear hfz80_4
                        try clear hfz84_0
                        try clear hfz84_1
                        try clear hfz84_2
                        try clear hfz84_3
                        try clear hfz84_4
                        try clear hfz86_0
                        try clear hfz86_1
                        try clear hfz86_2
                        try clear hfz86_3
                        try clear hfz86_4
                        try clear p2
                        obtain ⟨kq, x92_64, rfl, HA, HJ64, HO_1065003, HO_1077003, HO_1100003, BK1064, BK1076, BK1099, HB⟩ := hcut
                        have hl1077003_64 := (Kd.R_reads' HO_1077003.out).1
                        rw [hl1077003_64] at HO_1077003
                        (try simp only [hl1077003_64])
                        (try simp only [hl1077003_64] at BK1064)
                        (try simp only [hl1077003_64] at BK1076)
                        (try simp only [hl1077003_64] at BK1099)
                        (try simp only [hl1077003_64] at HO_1065003)
                        (try simp only [hl1077003_64] at HO_1100003)
                        cases kq with
                        | zero => exact absurd HA.out (by simp [laws_FnExactSieveOf.j2])
                        | succ kj64 =>
                          have H := HA.out
                          clear HA
                          simp only [laws_FnExactSieveOf.j2] at H
                          by_cases c88 : x92_64 = true
                          · subst c88
                            have H1 : (some false) = some r := by rw [if_pos rfl] at H; exact H
                            clear H
                            have H := H1
                            clear H1
                            obtain rfl := Option.some.inj H
                            go_wp2
                            go_ret
                            exact ⟨ze, by repeat (first | (with_reducible first | exact HB.out | apply below_alloc | apply pw_below_drewN | apply below_drew1 | refine below_set ?_ GE1064.out | refine below_set ?_ GE1076.out | refine below_set ?_ GE1099.out) | exact HB.out)⟩
                          · replace c88 := Bool.eq_false_iff.mpr c88
                            subst c88
                            have H1 : ((laws_heldSieve.f kj64 t1068 t1069 t1070 t1086 t1074 1).bind fun t1101 => (if t1101 < 0 then (some false) else (if t1101 = t1085 then (some true) else (some false)))) = some r := by rw [if_neg (show ¬ (false = true) by decide)] at H; exact H
                            clear H
                            have H := H1
                            clear H1
                            replace H := Option.bind_eq_some_iff.mp H
                            obtain ⟨t1101, A890, H⟩ := H
                            (try dsimp only at H)
                            have A89 := Aside0.mk A890
                            clear A890
                            have hnb90 := NB1076_1064.out
                            have hnc90 := NB1064_1076.out
                            have hnb91 := NB1076_1099.out
                            have hnc91 := NB1099_1076.out
                            have hcz92_0 : wc.cell? ⟨gb1076, 0, none⟩ = some (.string t1068) := (blk_cell BK1076.out 0).trans rfl
                            have hcz92_1 : wc.cell? ⟨gb1076, 1, none⟩ = some (.string t1069) := (blk_cell BK1076.out 1).trans rfl
                            have hcz92_2 : wc.cell? ⟨gb1076, 2, none⟩ = some (.string t1070) := (blk_cell BK1076.out 2).trans rfl
                            have hcz92_3 : wc.cell? ⟨gb1076, 3, none⟩ = some (.slice Ao22 t1086.length co22) := (blk_cell BK1076.out 3).trans rfl
                            have hcz92_4 : wc.cell? ⟨gb1076, 4, none⟩ = some (.int .i64 t1074) := (blk_cell BK1076.out 4).trans rfl
                            have hfz92_0 := blk_frozen BK1076.out 0
                            have hfz92_1 := blk_frozen BK1076.out 1
                            have hfz92_2 := blk_frozen BK1076.out 2
                            have hfz92_3 := blk_frozen BK1076.out 3
                            have hfz92_4 := blk_frozen BK1076.out 4
                            go_upto_if 97 with (first | ((with_reducible refine gate_callee (f := 77) rfl ?_); refine goesL_ (some 95) rfl rfl Try.func77 (by kernel_rfl) rfl #[.agg #[.string t1068, .string t1069, .string t1070, .slice Ao22 t1086.length co22, .int .i64 t1074], .int .i64 1] rfl (by (try simp only [List.map_toArray, List.map_cons, List.map_nil]); first | done | rfl | (simp only [List.length_drop, List.length_take]; rfl)) ?_; (with_reducible refine (laws_heldSieve.calls kj64 t1068 t1069 t1070 _ _ t1086 t1074 1 t1101 _ ?side1 ?side2 A89.out).mono ?_); (case side1 => repeat (first | exact (Kd.R_reads' HO_1077003.out).2.2 | (with_reducible refine Kd.C_alloc ?_ _) | (with_reducible refine Kd.C_drewN ?_ _) | (with_reducible refine Kd.C_drew ?_))); (case side2 => exact (Kd.R_reads' HO_1077003.out).2.1); rintro e w93 ⟨rfl, hb⟩; refine ⟨_, rfl, ?_⟩; have n0_ := Aside0.mk (Kd.R_below (zr HO_1065003.out) hb); have n1_ := Aside0.mk (Kd.R_below (zr HO_1077003.out) hb); have n2_ := Aside0.mk (Kd.R_below (zr HO_1100003.out) hb); have n3_ := Aside0.mk (blk_below (g := gb1064) (o := .cells #[.string t1056, .string t1057, .string t1058, .slice Ao15 t1059.length co15, .int .i64 t1062] 28 (0, 0)) (by (with_reducible repeat (first | refine blk_drewN ?_ _ | refine blk_drew ?_ | refine blk_alloc ?_ _)); exact BK1064.out) hb); have n4_ := Aside0.mk (blk_below (g := gb1076) (o := .cells #[.string t1068, .string t1069, .string t1070, .slice Ao22 t1086.length co22, .int .i64 t1074] 28 (0, 0)) (by (with_reducible repeat (first | refine blk_drewN ?_ _ | refine blk_drew ?_ | refine blk_alloc ?_ _)); exact BK1076.out) hb); have n5_ := Aside0.mk (blk_below (g := gb1099) (o := .cells #[.string t1091, .string t1092, .string t1093, .slice Ao73 t1094.length co73, .int .i64 t1097] 28 (0, 0)) (by (with_reducible repeat (first | refine blk_drewN ?_ _ | refine blk_drew ?_ | refine blk_alloc ?_ _)); exact BK1099.out) hb); have n6_ := Aside0.mk (below_step (by repeat (first | (with_reducible first | exact HB.out | apply below_alloc | apply pw_below_drewN | apply below_drew1 | refine below_set ?_ GE1064.out | refine below_set ?_ GE1076.out | refine below_set ?_ GE1099.out) | exact HB.out)) hb); clear HO_1065003; clear HO_1077003; clear HO_1100003; clear BK1064; clear BK1076; clear BK1099; clear HB; have HO_1065003 := n0_; have HO_1077003 := n1_; have HO_1100003 := n2_; have BK1064 := n3_; have BK1076 := n4_; have BK1099 := n5_; have HB := n6_; clear n0_ n1_ n2_ n3_ n4_ n5_ n6_; (try clear hb); (try clear hb2); (try clear hk); (try clear hi)))
                            by_cases c94 : t1101 < 0
                            · rw [if_pos c94] at H
                              have c94b0 : decide (t1101 < 0) = true := decide_eq_true c94
                              clear c94
                              (first | rw [c94b0] | (simp only [i64_w, i32_w]; rw [c94b0]) | simp only [*, Bool.not_true, Bool.not_false] | skip)
                              obtain rfl := Option.some.inj H
                              go_wp2
                              go_ret
                              exact ⟨ze, by repeat (first | (with_reducible first | exact HB.out | apply below_alloc | apply pw_below_drewN | apply below_drew1 | refine below_set ?_ GE1064.out | refine below_set ?_ GE1076.out | refine below_set ?_ GE1099.out) | exact HB.out)⟩
                            · rw [if_neg c94] at H
                              have c94b0 : decide (t1101 < 0) = false := decide_eq_false c94
                              clear c94
                              (first | rw [c94b0] | (simp only [i64_w, i32_w]; rw [c94b0]) | simp only [*, Bool.not_true, Bool.not_false] | skip)
                              by_cases c95 : t1101 = t1085
                              · rw [if_pos c95] at H
                                have c95b0 : (t1101 == t1085) = true := beq_iff_eq.mpr c95
                                have c95b1 : (t1101 != t1085) = false := bne_eq_false_iff_eq.mpr c95
                                clear c95
                                obtain rfl := Option.some.inj H
                                go_wp2
                                go_ret
                                exact ⟨ze, by repeat (first | (with_reducible first | exact HB.out | apply below_alloc | apply pw_below_drewN | apply below_drew1 | refine below_set ?_ GE1064.out | refine below_set ?_ GE1076.out | refine below_set ?_ GE1099.out) | exact HB.out)⟩
                              · rw [if_neg c95] at H
                                have c95b0 : (t1101 == t1085) = false := beq_eq_false_iff_ne.mpr c95
                                have c95b1 : (t1101 != t1085) = true := bne_iff_ne.mpr c95
                                obtain rfl := Option.some.inj H
                                go_wp2
                                go_ret
                                exact ⟨ze, by repeat (first | (with_reducible first | exact HB.out | apply below_alloc | apply pw_below_drewN | apply below_drew1 | refine below_set ?_ GE1064.out | refine below_set ?_ GE1076.out | refine below_set ?_ GE1099.out) | exact HB.out)⟩
                    · rw [if_neg c62] at H
                      have c62b0 : (t1087 == t1085) = false := beq_eq_false_iff_ne.mpr c62
                      have c62b1 : (t1087 != t1085) = true := bne_iff_ne.mpr c62
                      obtain rfl := Option.some.inj H
                      go_wp2
                      go_ret
                      exact ⟨ze, by repeat (first | (with_reducible first | exact HB.out | apply below_alloc | apply pw_below_drewN | apply below_drew1 | refine below_set ?_ GE1064.out | refine below_set ?_ GE1076.out) | exact HB.out)⟩
          · replace c36 := Bool.eq_false_iff.mpr c36
            subst c36
            have H1 : (some false) = some r := by rw [if_neg (show ¬ (false = true) by decide)] at H; exact H
            clear H
            have H := H1
            clear H1
            obtain rfl := Option.some.inj H
            go_wp2_with (first | ((with_reducible refine gate_callee (f := 52) rfl ?_); refine goesL_ (some 47) rfl rfl Try.func52 (by kernel_rfl) rfl #[.slice A0 l0.length c0] rfl (by (try simp only [List.map_toArray, List.map_cons, List.map_nil]); first | done | rfl | (simp only [List.length_drop, List.length_take]; rfl)) ?_; (with_reducible refine (laws_toStringS.calls kj8 _ _ l0 t1078 _ ?side1 ?side2 A34.out).mono ?_); (case side1 => repeat (first | exact (Kd.C_below HR0.out HB.out) | (with_reducible refine Kd.C_alloc ?_ _) | (with_reducible refine Kd.C_drewN ?_ _) | (with_reducible refine Kd.C_drew ?_))); (case side2 => exact HC0.out); rintro e w96 ⟨v1079, rfl, ho0, hb⟩; refine ⟨_, rfl, ?_⟩; have n0_ := Aside0.mk (Kd.R_elder' (zr HO_8.out) (Kd.R_base ho0) hb); have n1_ := Aside0.mk (Kd.R_elder' (zr HO_1065003.out) (Kd.R_base ho0) hb); have n2_ := Aside0.mk (Kd.R_elder' (zr HO_1077003.out) (Kd.R_base ho0) hb); have n3_ := Aside0.mk (Kd.R_lower (Kd.R_new' (Kd.R_new' (Kd.R_new' ho0 (Kd.R_lt (zr HO_8.out))) (Kd.R_lt (zr HO_1065003.out))) (Kd.R_lt (zr HO_1077003.out))) (below_size (by repeat (first | (with_reducible first | exact HB.out | apply below_alloc | apply pw_below_drewN | apply below_drew1 | refine below_set ?_ GE1064.out | refine below_set ?_ GE1076.out) | exact HB.out)))); have n4_ := Aside0.mk (blk_below (g := gb1064) (o := .cells #[.string t1056, .string t1057, .string t1058, .slice Ao15 t1059.length co15, .int .i64 t1062] 28 (0, 0)) (by (with_reducible repeat (first | refine blk_drewN ?_ _ | refine blk_drew ?_ | refine blk_alloc ?_ _)); exact BK1064.out) hb); have n5_ := Aside0.mk (blk_below (g := gb1076) (o := .cells #[.string t1068, .string t1069, .string t1070, .slice Ao22 t1071.length co22, .int .i64 t1074] 28 (0, 0)) (by (with_reducible repeat (first | refine blk_drewN ?_ _ | refine blk_drew ?_ | refine blk_alloc ?_ _)); exact BK1076.out) hb); have n6_ := Aside0.mk (below_step (by repeat (first | (with_reducible first | exact HB.out | apply below_alloc | apply pw_below_drewN | apply below_drew1 | refine below_set ?_ GE1064.out | refine below_set ?_ GE1076.out) | exact HB.out)) hb); clear HO_8; clear HO_1065003; clear HO_1077003; clear BK1064; clear BK1076; clear HB; have HO_8 := n0_; have HO_1065003 := n1_; have HO_1077003 := n2_; have HO1080 := n3_; have BK1064 := n4_; have BK1076 := n5_; have HB := n6_; clear n0_ n1_ n2_ n3_ n4_ n5_ n6_; (try clear hb); (try clear hb2); (try clear hk); (try clear hi); (try clear ho0); obtain ⟨Ao97, co97, eo97⟩ := Kd.R_slice HO1080.out; subst eo97) | ((with_reducible refine gate_callee (f := 54) rfl ?_); refine goesL_ (some 48) rfl rfl Try.func54 (by kernel_rfl) rfl #[.slice Ao17 t1065.length co17, .slice Ao97 t1078.length co97] rfl (by (try simp only [List.map_toArray, List.map_cons, List.map_nil]); first | done | rfl | (simp only [List.length_drop, List.length_take]; rfl)) ?_; (with_reducible refine (laws_eqStringS.calls kj8 _ _ t1065 _ _ t1078 false _ ?side1 ?side2 ?side3 ?side4 A35.out).mono ?_); (case side1 => repeat (first | exact (Kd.R_reads' HO_8.out).2.2 | (with_reducible refine Kd.C_alloc ?_ _) | (with_reducible refine Kd.C_drewN ?_ _) | (with_reducible refine Kd.C_drew ?_))); (case side2 => exact (Kd.R_reads' HO_8.out).2.1); (case side3 => repeat (first | exact (Kd.R_reads' HO1080.out).2.2 | (with_reducible refine Kd.C_alloc ?_ _) | (with_reducible refine Kd.C_drewN ?_ _) | (with_reducible refine Kd.C_drew ?_))); (case side4 => exact (Kd.R_reads' HO1080.out).2.1); rintro e w' ⟨rfl, ⟨nd, rfl⟩⟩; refine ⟨_, rfl, ?_⟩))
            go_ret
            exact ⟨ze, by repeat (first | (with_reducible first | exact HB.out | apply below_alloc | apply pw_below_drewN | apply below_drew1 | refine below_set ?_ GE1064.out | refine below_set ?_ GE1076.out) | exact HB.out)⟩
end Go.Proofs.Ytonagfbadoacjaa.Q
end
section
set_option linter.unusedVariables false
set_option linter.unusedSimpArgs false
namespace Go.Proofs.Ytonagfbadoacjaa.Pb
open Go Go.RowKit Go.Proofs.YtonagfbadoacjaaW.PrintWords Go.Proofs.YtonagfbadoacjaaW.PrintLast Go.Proofs.YtonagfbadoacjaaW.PrintMore Go.Proofs.Ytonagfbadoacjaa.Trie Go.Proofs.Ytonagfbadoacjaa.Q
def bitc (c : UInt8) : Bool := c == 48 || c == 49
def bitsB (l : List UInt8) : Bool := l.all bitc && decide (l.length ≤ 400)
theorem all_drop {p : UInt8 → Bool} {l : List UInt8} {i : Nat} (h : i < l.length) : (l.drop i).all p = (p (l.getD i 0) && (l.drop (i + 1)).all p) := by
  rw [drop_cons 0 h, List.all_cons]
theorem spec_l6In_eq (a b c : Int) : spec_l6In.f a b c = some (decide (b ≤ a ∧ a ≤ c)) := by
  unfold spec_l6In.f
  by_cases h : a ≥ b
  · rw [if_pos h]; congr 1; simp only [decide_eq_decide]; constructor <;> intro q <;> omega
  · rw [if_neg h]; congr 1; symm; simp only [decide_eq_false_iff_not]; omega
theorem impl_in_eq (a b c : Int) : impl_in.f a b c = some (decide (b ≤ a ∧ a ≤ c)) := by
  unfold impl_in.f
  by_cases h : b ≤ a
  · rw [if_pos h]; congr 1; simp only [decide_eq_decide]; constructor <;> intro q <;> omega
  · rw [if_neg h]; congr 1; symm; simp only [decide_eq_false_iff_not]; omega
def oneI (l : List UInt8) (m : Nat) : Int := if pos l m < l.length then (pos l m : Int) else -1
end Go.Proofs.Ytonagfbadoacjaa.Pb
end
section
set_option linter.unusedVariables false
set_option linter.unusedSimpArgs false
namespace Go.Proofs.Ytonagfbadoacjaa.Pb
open Go Go.RowKit Go.Proofs.YtonagfbadoacjaaW.PrintWords Go.Proofs.YtonagfbadoacjaaW.PrintLast Go.Proofs.YtonagfbadoacjaaW.PrintMore Go.Proofs.Ytonagfbadoacjaa.Trie Go.Proofs.Ytonagfbadoacjaa.Q
def letc (c : UInt8) : Bool := decide (97 ≤ c.toNat) && decide (c.toNat ≤ 100)
def kokB (l : List UInt8) : Bool := l.all letc && decide (l.length ≤ 5)
theorem kokB_iff {l : List UInt8} : kokB l = true ↔ KOk l := by
  unfold kokB
  rw [Bool.and_eq_true, List.all_eq_true, decide_eq_true_eq]
  constructor
  · rintro ⟨h1, h2⟩
    exact ⟨h2, fun c hc => by have := h1 c hc; simpa [letc] using this⟩
  · rintro ⟨h1, h2⟩
    exact ⟨fun c hc => by have := h2 c hc; simpa [letc] using this, h1⟩
theorem spec_KeyOk_l0 (x : ByteArray) (hx : x.size ≤ 140737488355328) (d : Nat) : ∀ i : Nat, i ≤ (L x).length → (L x).length - i = d →
    Ev (fun k => spec_KeyOk.l0 k x (i : Int)) (((L x).drop i).all letc && decide ((L x).length ≤ 5)) := by
  have hs := size_L x
  induction d with
  | zero =>
    intro i h1 h2
    refine ev_succ ?_
    simp only [spec_KeyOk.l0]
    refine ev_neg (by omega) (ev_some ?_)
    rw [List.drop_eq_nil_of_le (by omega)]
    simp only [List.all_nil, Bool.true_and]
    rw [hs]; congr 1; simp; omega
  | succ d ih =>
    intro i h1 h2
    have hi : i < (L x).length := by omega
    refine ev_succ ?_
    simp only [spec_KeyOk.l0]
    refine ev_pos (by omega) (ev_pos (by omega) ?_)
    have hr := bt_range x (i : Int)
    rw [w64 (i := bt x (i : Int)) (by omega) (by omega), w64 (i := (i : Int) + 1) (by omega) (by omega), all_drop hi]
    have := ih (i + 1) (by omega) (by omega)
    have e := bt_L x i
    refine ev_bindc (spec_l6In_eq _ _ _) ?_
    by_cases c1 : 97 ≤ bt x (i : Int) ∧ bt x (i : Int) ≤ 100
    · refine ev_pos (by simpa using c1) ?_
      have hc : letc ((L x).getD i 0) = true := by simp only [letc, Bool.and_eq_true, decide_eq_true_eq]; omega
      rw [hc, Bool.true_and]
      exact this
    · refine ev_neg (by simpa using c1) (ev_some ?_)
      have hc : letc ((L x).getD i 0) = false := by
        rw [Bool.eq_false_iff]
        simp only [letc, ne_eq, Bool.and_eq_true, decide_eq_true_eq]; omega
      rw [hc]; rfl
theorem spec_KeyOk_ev (x : ByteArray) (hx : x.size ≤ 140737488355328) : Ev (fun k => spec_KeyOk.f k x) (kokB (L x)) := by
  have := spec_KeyOk_l0 x hx (L x).length 0 (by omega) (by omega)
  simpa [spec_KeyOk.f, kokB] using this
theorem impl_KeyOk_l0 (x : ByteArray) (hx : x.size ≤ 140737488355328) (d : Nat) : ∀ i : Nat, i ≤ (L x).length → (L x).length - i = d →
    Ev (fun k => impl_KeyOk.l0 k x ((L x).length : Int) (i : Int)) (((L x).drop i).all letc && decide ((L x).length ≤ 5)) := by
  have hs := size_L x
  induction d with
  | zero =>
    intro i h1 h2
    refine ev_succ ?_
    simp only [impl_KeyOk.l0]
    refine ev_neg (by omega) (ev_some ?_)
    rw [List.drop_eq_nil_of_le (by omega)]
    simp only [List.all_nil, Bool.true_and]
    rw [hs]; congr 1; simp; omega
  | succ d ih =>
    intro i h1 h2
    have hi : i < (L x).length := by omega
    refine ev_succ ?_
    simp only [impl_KeyOk.l0]
    refine ev_pos (by omega) (ev_pos (by omega) (ev_pos (by omega) ?_))
    rw [w64 (i := (i : Int) + 1) (by omega) (by omega), all_drop hi]
    have := ih (i + 1) (by omega) (by omega)
    have e := bt_L x i
    by_cases c1 : bt x (i : Int) < 97
    · refine ev_pos c1 (ev_some ?_)
      have hc : letc ((L x).getD i 0) = false := by
        rw [Bool.eq_false_iff]
        simp only [letc, ne_eq, Bool.and_eq_true, decide_eq_true_eq]; omega
      rw [hc]; rfl
    · refine ev_neg c1 ?_
      by_cases c2 : bt x (i : Int) > 100
      · refine ev_pos c2 (ev_some ?_)
        have hc : letc ((L x).getD i 0) = false := by
          rw [Bool.eq_false_iff]
          simp only [letc, ne_eq, Bool.and_eq_true, decide_eq_true_eq]; omega
        rw [hc]; rfl
      · refine ev_neg c2 ?_
        have hc : letc ((L x).getD i 0) = true := by simp only [letc, Bool.and_eq_true, decide_eq_true_eq]; omega
        rw [hc, Bool.true_and]
        exact this
theorem impl_KeyOk_ev (x : ByteArray) (hx : x.size ≤ 140737488355328) : Ev (fun k => impl_KeyOk.f k x) (kokB (L x)) := by
  have := impl_KeyOk_l0 x hx (L x).length 0 (by omega) (by omega)
  simpa [impl_KeyOk.f, kokB, size_L] using this
def goB : Option Key → List Key → Bool
  | _, [] => true
  | p, k :: t => kokB k && (match p with | none => true | some q => decide (q < k)) && goB (some k) t
def keysB (K : List Key) : Bool := goB none K && decide (K.length ≤ 24)
theorem goB_some {p : Key} {l : List Key} : goB (some p) l = true ↔ (∀ k ∈ l, KOk k) ∧ (p :: l).Pairwise (· < ·) := by
  induction l generalizing p with
  | nil => simp [goB]
  | cons k t ih =>
    unfold goB
    simp only [Bool.and_eq_true, decide_eq_true_eq]
    rw [ih, kokB_iff]
    constructor
    · rintro ⟨⟨h1, h2⟩, h3, h4⟩
      refine ⟨fun x hx => ?_, ?_⟩
      · rcases List.mem_cons.1 hx with rfl | hx
        · exact h1
        · exact h3 x hx
      · refine List.pairwise_cons.2 ⟨fun x hx => ?_, h4⟩
        rcases List.mem_cons.1 hx with rfl | hx
        · exact h2
        · exact key_trans h2 ((List.pairwise_cons.1 h4).1 x hx)
    · rintro ⟨h1, h2⟩
      have h3 := List.pairwise_cons.1 h2
      exact ⟨⟨h1 k (by simp), h3.1 k (by simp)⟩, fun x hx => h1 x (by simp [hx]), h3.2⟩
structure KsOk (K : List Key) : Prop where
  ok : ∀ k ∈ K, KOk k
  sorted : K.Pairwise (· < ·)
  few : K.length ≤ 24
theorem keysB_iff {K : List Key} : keysB K = true ↔ KsOk K := by
  unfold keysB
  rw [Bool.and_eq_true, decide_eq_true_eq]
  have h : goB none K = true ↔ (∀ k ∈ K, KOk k) ∧ K.Pairwise (· < ·) := by
    cases K with
    | nil => simp [goB]
    | cons k t =>
      unfold goB
      simp only [Bool.and_eq_true, Bool.and_true]
      rw [goB_some, kokB_iff]
      constructor
      · rintro ⟨h1, h2, h3⟩
        refine ⟨fun x hx => ?_, h3⟩
        rcases List.mem_cons.1 hx with rfl | hx
        · exact h1
        · exact h2 x hx
      · rintro ⟨h1, h2⟩
        exact ⟨h1 k (by simp), fun x hx => h1 x (by simp [hx]), h2⟩
  rw [h]
  exact ⟨fun ⟨⟨a, b⟩, c⟩ => ⟨a, b, c⟩, fun ⟨a, b, c⟩ => ⟨⟨a, b⟩, c⟩⟩
structure SzL (l : List ByteArray) : Prop where
  len : l.length ≤ 8796093022208
  each : ∀ s ∈ l, s.size ≤ 140737488355328
theorem SzL.getD {l : List ByteArray} (h : SzL l) (i : Nat) : (l.getD i ByteArray.empty).size ≤ 140737488355328 := by
  by_cases hi : i < l.length
  · rw [getD_lt _ hi]; exact h.each _ (List.getElem_mem hi)
  · rw [List.getD_eq_getElem?_getD, List.getElem?_eq_none (by omega)]
    exact Nat.zero_le _
theorem rdOf_nat (l : List ByteArray) (i : Nat) : rdOf ByteArray.empty l (i : Int) = l.getD i ByteArray.empty := rfl
theorem L_rd (l : List ByteArray) (i : Nat) : L (rdOf ByteArray.empty l (i : Int)) = (LL l).getD i [] := by
  rw [rdOf_nat, LL_getD]
theorem rd_size {l : List ByteArray} (h : SzL l) (i : Nat) : (rdOf ByteArray.empty l (i : Int)).size ≤ 140737488355328 := by
  rw [rdOf_nat]; exact h.getD i
def prev (K : List Key) (i : Nat) : Option Key := if i = 0 then none else some (K.getD (i - 1) [])
theorem goB_drop {K : List Key} {i : Nat} (hi : i < K.length) : goB (prev K i) (K.drop i) = (kokB (K.getD i []) && (if i = 0 then true else decide (K.getD (i - 1) [] < K.getD i [])) && goB (prev K (i + 1)) (K.drop (i + 1))) := by
  rw [drop_cons [] hi]
  unfold prev
  by_cases q : i = 0
  · subst q
    simp [goB]
  · simp only [if_neg q, if_neg (show ¬ i + 1 = 0 by omega), Nat.add_sub_cancel]
    rw [goB]
theorem spec_KeysOk_l0 (l : List ByteArray) (hl : SzL l) (d : Nat) : ∀ i : Nat, i ≤ l.length → l.length - i = d →
    Ev (fun k => spec_KeysOk.l0 k l (i : Int)) (goB (prev (LL l) i) ((LL l).drop i) && decide (l.length ≤ 24)) := by
  have hn := LL_length l
  have hlen := hl.len
  induction d with
  | zero =>
    intro i h1 h2
    refine ev_succ ?_
    simp only [spec_KeysOk.l0]
    refine ev_neg (by omega) (ev_some ?_)
    rw [List.drop_eq_nil_of_le (by omega)]
    simp only [goB, Bool.true_and]
    congr 1; simp; omega
  | succ d ih =>
    intro i h1 h2
    have hi : i < l.length := by omega
    refine ev_succ ?_
    simp only [spec_KeysOk.l0]
    refine ev_pos (by omega) (ev_pos (by omega) ?_)
    rw [w64 (i := (i : Int) + 1) (by omega) (by omega), goB_drop (by omega)]
    have hrec := ih (i + 1) (by omega) (by omega)
    have hk := spec_KeyOk_ev _ (rd_size hl i)
    rw [L_rd] at hk
    refine Ev.bind hk ?_
    cases hkk : kokB ((LL l).getD i []) with
    | false => exact ev_neg (by simp) (ev_some (by simp))
    | true =>
      refine ev_pos rfl ?_
      by_cases q : i = 0
      · refine ev_neg (by omega) ?_
        rw [if_pos q]
        simpa using hrec
      · refine ev_pos (by omega) ?_
        have e : (i : Int) - 1 = ((i - 1 : Nat) : Int) := by omega
        rw [w64 (i := (i : Int) - 1) (by omega) (by omega), e]
        refine ev_pos (by omega) (ev_pos (by omega) ?_)
        rw [less_L, toList_L, toList_L, L_rd, L_rd, if_neg q]
        by_cases c : (LL l).getD (i - 1) [] < (LL l).getD i []
        · refine ev_pos (by simpa using c) ?_
          simp only [decide_eq_true c, Bool.true_and]
          exact hrec
        · refine ev_neg (by simpa using c) (ev_some ?_)
          simp only [decide_eq_false c, Bool.and_false, Bool.false_and]
theorem spec_KeysOk_ev (l : List ByteArray) (hl : SzL l) : Ev (fun k => spec_KeysOk.f k l) (keysB (LL l)) := by
  have := spec_KeysOk_l0 l hl l.length 0 (by omega) (by omega)
  simpa [spec_KeysOk.f, keysB, prev, LL_length] using this
theorem impl_KeysOk_l0 (l : List ByteArray) (hl : SzL l) (d : Nat) : ∀ i : Nat, i ≤ l.length → l.length - i = d →
    Ev (fun k => impl_KeysOk.l0 k l l (l.length : Int) (i : Int)) (goB (prev (LL l) i) ((LL l).drop i) && decide (l.length ≤ 24)) := by
  have hn := LL_length l
  have hlen := hl.len
  induction d with
  | zero =>
    intro i h1 h2
    refine ev_succ ?_
    simp only [impl_KeysOk.l0]
    refine ev_neg (by omega) (ev_some ?_)
    rw [List.drop_eq_nil_of_le (by omega)]
    simp only [goB, Bool.true_and]
    congr 1; simp; omega
  | succ d ih =>
    intro i h1 h2
    have hi : i < l.length := by omega
    refine ev_succ ?_
    simp only [impl_KeysOk.l0]
    refine ev_pos (by omega) (ev_pos (by omega) (ev_pos (by omega) ?_))
    rw [w64 (i := (i : Int) + 1) (by omega) (by omega), goB_drop (by omega)]
    have hrec := ih (i + 1) (by omega) (by omega)
    have hk := impl_KeyOk_ev _ (rd_size hl i)
    rw [L_rd] at hk
    refine Ev.bind hk ?_
    cases hkk : kokB ((LL l).getD i []) with
    | false => exact ev_neg (by simp) (ev_some (by simp))
    | true =>
      refine ev_pos rfl ?_
      by_cases q : i = 0
      · refine ev_neg (by omega) ?_
        rw [if_pos q]
        simpa using hrec
      · refine ev_pos (by omega) ?_
        have e : (i : Int) - 1 = ((i - 1 : Nat) : Int) := by omega
        rw [w64 (i := (i : Int) - 1) (by omega) (by omega), e]
        refine ev_pos (by omega) (ev_pos (by omega) ?_)
        rw [less_L, toList_L, toList_L, L_rd, L_rd, if_neg q]
        by_cases c : (LL l).getD (i - 1) [] < (LL l).getD i []
        · refine ev_pos (by simpa using c) ?_
          simp only [decide_eq_true c, Bool.true_and]
          exact hrec
        · refine ev_neg (by simpa using c) (ev_some ?_)
          simp only [decide_eq_false c, Bool.and_false, Bool.false_and]
theorem impl_KeysOk_ev (l : List ByteArray) (hl : SzL l) : Ev (fun k => impl_KeysOk.f k l) (keysB (LL l)) := by
  have := impl_KeysOk_l0 l hl l.length 0 (by omega) (by omega)
  simpa [impl_KeysOk.f, keysB, prev, LL_length] using this
end Go.Proofs.Ytonagfbadoacjaa.Pb
end
section
set_option linter.unusedVariables false
set_option linter.unusedSimpArgs false
namespace Go.Proofs.Ytonagfbadoacjaa.Pb
open Go Go.RowKit Go.Proofs.YtonagfbadoacjaaW.PrintWords Go.Proofs.YtonagfbadoacjaaW.PrintLast Go.Proofs.YtonagfbadoacjaaW.PrintMore Go.Proofs.Ytonagfbadoacjaa.Trie Go.Proofs.Ytonagfbadoacjaa.Q
structure By (b : List Int) : Prop where
  byte : ∀ x ∈ b, 0 ≤ x ∧ x ≤ 255
  few : b.length ≤ 2000
theorem By.rd {b : List Int} (h : By b) (i : Int) : 0 ≤ rd b i ∧ rd b i ≤ 255 := by
  unfold Go.Proofs.YtonagfbadoacjaaW.PrintWords.rd
  rw [List.getD_eq_getElem?_getD]
  cases hx : b[i.toNat]? with
  | none => simp
  | some x =>
    have := h.byte x (List.mem_of_getElem? hx)
    simpa using this
end Go.Proofs.Ytonagfbadoacjaa.Pb
end
section
set_option linter.unusedVariables false
set_option linter.unusedSimpArgs false
namespace Go.Proofs.Ytonagfbadoacjaa.Pb
open Go Go.RowKit Go.Proofs.YtonagfbadoacjaaW.PrintWords Go.Proofs.YtonagfbadoacjaaW.PrintLast Go.Proofs.YtonagfbadoacjaaW.PrintMore Go.Proofs.Ytonagfbadoacjaa.Trie Go.Proofs.Ytonagfbadoacjaa.Q
end Go.Proofs.Ytonagfbadoacjaa.Pb
end
section
set_option linter.unusedVariables false
set_option linter.unusedSimpArgs false
namespace Go.Proofs.Ytonagfbadoacjaa.Pb
open Go Go.RowKit Go.Proofs.YtonagfbadoacjaaW.PrintWords Go.Proofs.YtonagfbadoacjaaW.PrintLast Go.Proofs.YtonagfbadoacjaaW.PrintMore Go.Proofs.Ytonagfbadoacjaa.Trie Go.Proofs.Ytonagfbadoacjaa.Q
def bitsOnesI (l : List UInt8) (a : Int) : Int := if bitsB l = true ∧ 0 ≤ a ∧ a ≤ l.length then (onesB l a.toNat : Int) else -1
def bitsOneI (l : List UInt8) (n : Int) : Int × Bool := if bitsB l = true ∧ 0 ≤ n ∧ pos l n.toNat < l.length then ((pos l n.toNat : Int), true) else (0, false)
end Go.Proofs.Ytonagfbadoacjaa.Pb
end
section
set_option linter.unusedVariables false
set_option linter.unusedSimpArgs false
namespace Go.Proofs.Ytonagfbadoacjaa.Pb
open Go Go.RowKit Go.Proofs.YtonagfbadoacjaaW.PrintWords Go.Proofs.YtonagfbadoacjaaW.PrintLast Go.Proofs.YtonagfbadoacjaaW.PrintMore Go.Proofs.Ytonagfbadoacjaa.Trie Go.Proofs.Ytonagfbadoacjaa.Q
def putN (k : Key) : List Key → List Key
  | [] => [k]
  | y :: l => if k < y then k :: y :: l else y :: putN k l
def putB (K : List Key) (k : Key) : List Key := if k ∈ K then K else putN k K
structure SOk (K : List Key) : Prop where
  ok : ∀ k ∈ K, KOk k
  sorted : K.Pairwise (· < ·)
end Go.Proofs.Ytonagfbadoacjaa.Pb
end
section
set_option linter.unusedVariables false
set_option linter.unusedSimpArgs false
namespace Go.Proofs.Ytonagfbadoacjaa.Pb
open Go Go.RowKit Go.Proofs.YtonagfbadoacjaaW.PrintWords Go.Proofs.YtonagfbadoacjaaW.PrintLast Go.Proofs.YtonagfbadoacjaaW.PrintMore Go.Proofs.Ytonagfbadoacjaa.Trie Go.Proofs.Ytonagfbadoacjaa.Q
theorem sz_l0 (l : List ByteArray) (hn : l.length ≤ 9223372036854775807) (hs : ∀ s ∈ l, s.size ≤ 9223372036854775807) (d : Nat) : ∀ (i : Nat) (a : Int), i ≤ l.length → l.length - i = d → 0 ≤ a → a ≤ 1048576 →
    ∃ r, Ev (fun k => laws_szStringS.l0 k l a (i : Int)) r ∧ (0 ≤ r → ∀ s ∈ l.drop i, s.size ≤ 1048576) := by
  induction d with
  | zero =>
    intro i a h1 h2 h3 h4
    refine ⟨a, ev_succ ?_, fun _ => by rw [List.drop_eq_nil_of_le (by omega)]; simp⟩
    simp only [laws_szStringS.l0]
    exact ev_neg (by omega) (ev_some rfl)
  | succ d ih =>
    intro i a h1 h2 h3 h4
    have hg : rdOf ByteArray.empty l (i : Int) = l.getD i ByteArray.empty := rfl
    have hmem : l.getD i ByteArray.empty ∈ l := by rw [getD_lt _ (by omega)]; exact List.getElem_mem _
    have hz := hs _ hmem
    by_cases c : a - ((l.getD i ByteArray.empty).size : Int) < 0
    · refine ⟨-1, ev_succ ?_, fun h => by omega⟩
      simp only [laws_szStringS.l0]
      rw [hg, w64 (i := a - ((l.getD i ByteArray.empty).size : Int)) (by omega) (by omega)]
      exact ev_pos (by omega) (ev_pos (by omega) (ev_pos c (ev_some rfl)))
    · obtain ⟨r, hr, g⟩ := ih (i + 1) (a - ((l.getD i ByteArray.empty).size : Int)) (by omega) (by omega) (by omega) (by omega)
      refine ⟨r, ev_succ ?_, fun h s hm => ?_⟩
      · simp only [laws_szStringS.l0]
        rw [hg, w64 (i := a - ((l.getD i ByteArray.empty).size : Int)) (by omega) (by omega)]
        refine ev_pos (by omega) (ev_pos (by omega) (ev_neg c ?_))
        rw [w64 (by omega) (by omega)]; exact hr
      · rw [drop_cons ByteArray.empty (by omega)] at hm
        rcases List.mem_cons.1 hm with e | hm
        · rw [e]; omega
        · exact g h s hm
theorem sz_ev (l : List ByteArray) (hn : l.length ≤ 9223372036854775807) (hs : ∀ s ∈ l, s.size ≤ 9223372036854775807) :
    ∃ r, Ev (fun k => laws_szStringS.f k l 1048576) r ∧ (0 ≤ r → l.length ≤ 1048576 ∧ ∀ s ∈ l, s.size ≤ 1048576) := by
  unfold laws_szStringS.f
  rw [w64 (i := 1048576 - (l.length : Int)) (by omega) (by omega)]
  by_cases c : 1048576 - (l.length : Int) < 0
  · exact ⟨-1, ev_pos c (ev_some rfl), fun h => by omega⟩
  · obtain ⟨r, hr, g⟩ := sz_l0 l hn hs l.length 0 (1048576 - (l.length : Int)) (by omega) (by omega) (by omega) (by omega)
    exact ⟨r, ev_neg c hr, fun h => ⟨by omega, fun s hm => g h s (by simpa using hm)⟩⟩
theorem szl_small {l : List ByteArray} (h : l.length ≤ 1048576 ∧ ∀ s ∈ l, s.size ≤ 1048576) : SzL l := ⟨by omega, fun s hm => by have := h.2 s hm; omega⟩
theorem to_l0 (l : List ByteArray) (hn : l.length ≤ 1048576) (d : Nat) : ∀ (i : Nat) (x3 : List ByteArray), i ≤ l.length → l.length - i = d → x3.length = l.length → x3.take i = l.take i →
    Ev (fun k => laws_toStringS.l0 k l x3 (i : Int)) l := by
  induction d with
  | zero =>
    intro i x3 h1 h2 h3 h4
    refine ev_succ ?_
    simp only [laws_toStringS.l0]
    refine ev_neg (by omega) (ev_some ?_)
    rw [List.take_of_length_le (by omega), List.take_of_length_le (by omega)] at h4
    exact h4
  | succ d ih =>
    intro i x3 h1 h2 h3 h4
    refine ev_succ ?_
    simp only [laws_toStringS.l0]
    refine ev_pos (by omega) (ev_pos (by omega) (ev_pos (by omega) ?_))
    rw [w64 (by omega) (by omega), Int.toNat_natCast]
    refine ih (i + 1) _ (by omega) (by omega) (by simp [h3]) ?_
    have hg : rdOf ByteArray.empty l (i : Int) = l[i]'(by omega) := getD_lt _ (by omega)
    rw [hg]
    apply List.ext_getElem
    · simp; omega
    · intro j hj hj'
      simp only [List.length_take, List.length_set] at hj
      rw [List.getElem_take, List.getElem_take, List.getElem_set]
      by_cases e : i = j
      · subst e; rw [if_pos rfl]
      · rw [if_neg e]
        have hj2 : j < (x3.take i).length := by simp; omega
        have h5 : (x3.take i)[j]'hj2 = (l.take i)[j]'(by simp; omega) := by simp only [h4]
        rwa [List.getElem_take, List.getElem_take] at h5
theorem to_ev (l : List ByteArray) (hn : l.length ≤ 1048576) : Ev (fun k => laws_toStringS.f k l) l := by
  unfold laws_toStringS.f
  refine ev_pos (by omega) (ev_pos (by omega) ?_)
  exact to_l0 l hn l.length 0 _ (by omega) (by omega) (by simp) (by simp)
theorem eq_l0 (l : List ByteArray) (hn : l.length ≤ 1048576) (d : Nat) : ∀ i : Nat, i ≤ l.length → l.length - i = d → Ev (fun k => laws_eqStringS.l0 k l l (i : Int)) true := by
  induction d with
  | zero =>
    intro i h1 h2
    refine ev_succ ?_
    simp only [laws_eqStringS.l0]
    exact ev_neg (by omega) (ev_some rfl)
  | succ d ih =>
    intro i h1 h2
    refine ev_succ ?_
    simp only [laws_eqStringS.l0]
    refine ev_pos (by omega) (ev_pos (by omega) (ev_pos (by omega) (ev_pos trivial ?_)))
    rw [w64 (by omega) (by omega)]
    exact ih (i + 1) (by omega) (by omega)
theorem eq_ev (l : List ByteArray) (hn : l.length ≤ 1048576) : Ev (fun k => laws_eqStringS.f k l l) true := by
  unfold laws_eqStringS.f
  exact ev_pos rfl (eq_l0 l hn l.length 0 (by omega) (by omega))
end Go.Proofs.Ytonagfbadoacjaa.Pb
end
section
namespace Go.Proofs
open Go.Shelf
def Try.lays194_ren : Go.Shelf.Ren := ⟨fun | 194 => 125 | n => n, fun | 31 => 26 | 9 => 9 | 3 => 3 | 4 => 4 | 0 => 0 | n => n, fun | n => n⟩
end Go.Proofs
end
section
namespace Go.Proofs
open Go.Shelf
def Try.lays190_ren : Go.Shelf.Ren := ⟨fun | 190 => 124 | 125 => 153 | 258 => 152 | 128 => 169 | 129 => 170 | 302 => 160 | 303 => 161 | 304 => 162 | 305 => 163 | 306 => 164 | 307 => 165 | 308 => 166 | 309 => 167 | 310 => 168 | 333 => 176 | 329 => 177 | 330 => 178 | 334 => 179 | 335 => 180 | 336 => 181 | 344 => 183 | n => n, fun | 31 => 26 | 9 => 9 | 3 => 3 | 46 => 131 | 0 => 0 | 51 => 142 | 53 => 144 | 4 => 4 | 183 => 136 | 182 => 135 | 131 => 22 | 5 => 5 | 218 => 147 | 222 => 151 | 228 => 155 | 229 => 110 | n => n, fun | n => n⟩
end Go.Proofs
end
section
namespace Go.Proofs.Ytonagfbadoacjaa.Q
open Go.RowKit Go.Proofs.YtonagfbadoacjaaW.PrintWords Go.Proofs.YtonagfbadoacjaaW.PrintLast Go.Proofs.YtonagfbadoacjaaW.PrintMore
attribute [local go_sem] max2_int min2_int max_two min_two max_three min_three max_four min_four   
set_option linter.unusedVariables false
set_option linter.unusedSimpArgs false
def slices_Sort_string_string.f (l0 : List ByteArray) : Option (List ByteArray) := if l0.length < 4611686018427387904 then (some (((l0.map (fun s => s.data.toList)).mergeSort fun x y => decide (x ≤ y)).map (fun l => ⟨l.toArray⟩))) else (none)
def slices_Compact_string_string.f (l0 : List ByteArray) : Option (List ByteArray) := if l0.length ≤ 9223372036854775807 then (some ((Lib.compact (l0.map (fun s => s.data.toList))).map (fun l => ⟨l.toArray⟩))) else (none)
def impl_KeysSort.l0 : Nat → List ByteArray → List ByteArray → Int → Int → Option (List ByteArray)
  | 0, _, _, _, _ => none
  | k + 1, x3, x6, x7, x8 => if x8 < x7 then (if 0 ≤ x8 then (if x8 < (x6.length : Int) then ((impl_KeyOk.f k (rdOf ByteArray.empty x6 x8)).bind fun t955 => (if t955 = true then (if x3.length < 8796093022208 then (impl_KeysSort.l0 k (x3 ++ [rdOf ByteArray.empty x6 x8]) x6 x7 (wrap64 (x8 + 1))) else (none)) else (impl_KeysSort.l0 k x3 x6 x7 (wrap64 (x8 + 1))))) else (none)) else (none)) else ((slices_Sort_string_string.f x3).bind fun t959 => ((slices_Compact_string_string.f t959).bind fun t960 => (if ([] : List ByteArray).length + t960.length < 8796093022208 then (some (([] : List ByteArray) ++ t960)) else (none))))
def impl_KeysSort.f (k : Nat) (l0 : List ByteArray) : Option (List ByteArray) := impl_KeysSort.l0 k ([] : List ByteArray) l0 (l0.length : Int) 0
mutual
def laws_FnSieveMore.j0 : Nat → List Int → List Int → Bool → Option (Bool)
  | 0, _, _, _ => none
  | k + 1, x0, x1, x22 => if x22 = true then (some true) else ((spec_DrawSieveOf.f k x0).bind fun bt966 => ((spec_DrawKeyBegins.f k x1).bind fun bt970 => ((spec_SieveOf.f k bt966.1 bt966.2).bind fun bt972 => ((impl_SieveOf.f k bt966.1 bt966.2).bind fun bt981 => (if (bt981.2.2.2.2.2 != bt972.2.2.2.2.2) = true then (laws_FnSieveMore.j1 k bt966.1 bt966.2 bt970.1 bt972.2.2.2.2.2 bt981.2.2.2.2.2 true bt972.1 bt972.2.1 bt972.2.2.1 bt972.2.2.2.1 bt972.2.2.2.2.1 bt981.1 bt981.2.1 bt981.2.2.1 bt981.2.2.2.1 bt981.2.2.2.2.1) else ((laws_ltSieve.f k bt981.1 bt981.2.1 bt981.2.2.1 bt981.2.2.2.1 bt981.2.2.2.2.1 bt972.1 bt972.2.1 bt972.2.2.1 bt972.2.2.2.1 bt972.2.2.2.2.1).bind fun t990 => (if t990 = true then (laws_FnSieveMore.j1 k bt966.1 bt966.2 bt970.1 bt972.2.2.2.2.2 bt981.2.2.2.2.2 (!bt981.2.2.2.2.2) bt972.1 bt972.2.1 bt972.2.2.1 bt972.2.2.2.1 bt972.2.2.2.2.1 bt981.1 bt981.2.1 bt981.2.2.1 bt981.2.2.2.1 bt981.2.2.2.2.1) else (laws_FnSieveMore.j1 k bt966.1 bt966.2 bt970.1 bt972.2.2.2.2.2 bt981.2.2.2.2.2 true bt972.1 bt972.2.1 bt972.2.2.1 bt972.2.2.2.1 bt972.2.2.2.2.1 bt981.1 bt981.2.1 bt981.2.2.1 bt981.2.2.2.1 bt981.2.2.2.2.1))))))))
def laws_FnSieveMore.j1 : Nat → List ByteArray → Int → ByteArray → Bool → Bool → Bool → ByteArray → ByteArray → ByteArray → List ByteArray → Int → ByteArray → ByteArray → ByteArray → List ByteArray → Int → Option (Bool)
  | 0, _, _, _, _, _, _, _, _, _, _, _, _, _, _, _, _ => none
  | k + 1, x5, x6, x7, x10, x12, x57, x981000, x981001, x981002, x981003, x981004, x990000, x990001, x990002, x990003, x990004 => if x57 = true then (if (x12 == x10) = true then ((laws_ltSieve.f k x990000 x990001 x990002 x990003 x990004 x981000 x981001 x981002 x981003 x981004).bind fun t991 => (some t991)) else (some false)) else ((some (([] : List ByteArray) : List ByteArray)).bind fun y992 => (if y992.length + x5.length < 8796093022208 then ((some (y992 ++ x5 : List ByteArray)).bind fun y995 => (if y995.length < 8796093022208 then ((impl_KeysSort.f k (y995 ++ [x7])).bind fun t1001 => ((impl_SieveOf.f k t1001 x6).bind fun bt1004 => (if bt1004.2.2.2.2.2 = true then ((impl_SieveHas.f k bt1004.1 bt1004.2.1 bt1004.2.2.1 bt1004.2.2.2.1 bt1004.2.2.2.2.1 x7).bind fun t1013 => (if t1013 = true then ((impl_SieveSize.f k bt1004.1 bt1004.2.1 bt1004.2.2.1 bt1004.2.2.2.1 bt1004.2.2.2.2.1).bind fun t1014 => ((impl_SieveSize.f k x990000 x990001 x990002 x990003 x990004).bind fun t1015 => (some (decide (t1014 ≥ t1015))))) else (some false))) else (some true)))) else (none))) else (none)))
end
def laws_FnSieveMore.f (k : Nat) (l0 : List Int) (l1 : List Int) : Option (Bool) := if (l0.length : Int) > 1048576 then (laws_FnSieveMore.j0 k l0 l1 true) else (laws_FnSieveMore.j0 k l0 l1 (decide ((l1.length : Int) > 1048576)))
def laws_FnSieveMore.Pure : Prop := ∀ (l0 : List Int) (l1 : List Int), l0.length ≤ maxLen → l0.length * 1 ≤ 140737488351232 → (∀ x ∈ l0, (Lit.int .u8 x).wf = true) → l1.length ≤ maxLen → l1.length * 1 ≤ 140737488351232 → (∀ x ∈ l1, (Lit.int .u8 x).wf = true) → ∃ k, laws_FnSieveMore.f k l0 l1 = some true
def laws_FnExactKeysSort.j0 : Nat → List ByteArray → List ByteArray → List ByteArray → Bool → Option (Bool)
  | 0, _, _, _, _ => none
  | k + 1, x0, x4, x6, x42 => if x42 = true then (some false) else ((laws_markStringS.f k x6 1).bind fun bt1132 => ((laws_heldStringS.f k bt1132.2 1).bind fun t1134 => (if t1134 < 0 then (some false) else (if t1134 = bt1132.1 then ((laws_toStringS.f k x0).bind fun t1135 => ((impl_KeysSort.f k t1135).bind fun t1138 => ((laws_eqStringS.f k t1138 x4).bind fun t1141 => (if t1141 = true then ((laws_heldStringS.f k bt1132.2 1).bind fun t1142 => (if t1142 < 0 then (some false) else (if t1142 = bt1132.1 then (some true) else (some false)))) else (some false))))) else (some false)))))
def laws_FnExactKeysSort.f (k : Nat) (l0 : List ByteArray) : Option (Bool) := (laws_szStringS.f k l0 1048576).bind fun t1111 => (if t1111 < 0 then (some true) else ((laws_toStringS.f k l0).bind fun t1112 => ((spec_KeysSort.f k t1112).bind fun t1115 => ((laws_toStringS.f k l0).bind fun t1118 => ((impl_KeysSort.f k t1118).bind fun t1121 => ((laws_eqStringS.f k t1121 t1115).bind fun t1124 => (if t1124 = true then ((laws_toStringS.f k l0).bind fun t1125 => ((laws_eqStringS.f k t1118 t1125).bind fun t1128 => (if t1128 = true then ((laws_markStringS.f k t1118 1).bind fun bt1129 => (if bt1129.1 < 0 then (laws_FnExactKeysSort.j0 k l0 t1115 t1121 true) else ((laws_eqStringS.f k t1121 t1115).bind fun t1131 => (laws_FnExactKeysSort.j0 k l0 t1115 t1121 (!t1131))))) else (some false)))) else (some false))))))))
def laws_FnKeysBoth.j0 : Nat → List Int → List Int → Bool → Option (Bool)
  | 0, _, _, _ => none
  | k + 1, x0, x1, x16 => if x16 = true then (some true) else ((spec_DrawKeysSort.f k x0).bind fun t1235 => ((spec_DrawKeysSort.f k x1).bind fun t1238 => ((some (([] : List ByteArray) : List ByteArray)).bind fun y1241 => (if y1241.length + t1235.length < 8796093022208 then ((some (y1241 ++ t1235 : List ByteArray)).bind fun y1244 => (if y1244.length + t1238.length < 8796093022208 then ((impl_KeysSort.f k (y1244 ++ t1238)).bind fun t1250 => ((some (([] : List ByteArray) : List ByteArray)).bind fun y1253 => (if y1253.length + t1238.length < 8796093022208 then ((some (y1253 ++ t1238 : List ByteArray)).bind fun y1256 => (if y1256.length + t1235.length < 8796093022208 then ((impl_KeysSort.f k (y1256 ++ t1235)).bind fun t1262 => ((impl_KeysSort.f k t1235).bind fun t1265 => ((spec_KeysSort.f k t1235).bind fun t1268 => ((laws_ltSames.f k t1265 t1268).bind fun t1271 => (if t1271 = true then ((laws_ltSames.f k t1250 t1262).bind fun t1272 => (if t1272 = true then ((impl_KeysSort.f k t1235).bind fun t1273 => ((impl_KeysSort.f k t1238).bind fun t1276 => (if t1273.length + t1276.length < 8796093022208 then ((impl_KeysSort.f k (t1273 ++ t1276)).bind fun t1282 => ((laws_ltSames.f k t1282 t1250).bind fun t1285 => (some t1285))) else (none)))) else (some false))) else (some false)))))) else (none))) else (none)))) else (none))) else (none)))))
def laws_FnKeysBoth.f (k : Nat) (l0 : List Int) (l1 : List Int) : Option (Bool) := if (l0.length : Int) > 1048576 then (laws_FnKeysBoth.j0 k l0 l1 true) else (laws_FnKeysBoth.j0 k l0 l1 (decide ((l1.length : Int) > 1048576)))
def laws_FnKeysBoth.Pure : Prop := ∀ (l0 : List Int) (l1 : List Int), l0.length ≤ maxLen → l0.length * 1 ≤ 140737488351232 → (∀ x ∈ l0, (Lit.int .u8 x).wf = true) → l1.length ≤ maxLen → l1.length * 1 ≤ 140737488351232 → (∀ x ∈ l1, (Lit.int .u8 x).wf = true) → ∃ k, laws_FnKeysBoth.f k l0 l1 = some true
mutual
def laws_FnKeysOk.j0 : Nat → List Int → List Int → Bool → Option (Bool)
  | 0, _, _, _ => none
  | k + 1, x0, x1, x15 => if x15 = true then (some true) else ((spec_DrawKeysOk.f k x0).bind fun t1299 => ((impl_KeysOk.f k t1299).bind fun t1302 => ((spec_KeysOk.f k t1299).bind fun t1303 => (if (t1302 != t1303) = true then (laws_FnKeysOk.j1 k x1 t1299 t1302 true) else (laws_FnKeysOk.j1 k x1 t1299 t1302 (!t1302))))))
def laws_FnKeysOk.j1 : Nat → List Int → List ByteArray → Bool → Bool → Option (Bool)
  | 0, _, _, _, _ => none
  | k + 1, x1, x5, x6, x27 => if x27 = true then ((spec_KeysOk.f k x5).bind fun t1304 => (some (x6 == t1304))) else (if (wrap64 ((x5.length : Int) + 1)) = 0 then (none) else (if 0 ≤ ((x1.length : Int) % (wrap64 ((x5.length : Int) + 1))) then (if ((x1.length : Int) % (wrap64 ((x5.length : Int) + 1))) ≤ (x5.length : Int) then ((impl_KeysOk.f k (x5.take (((x1.length : Int) % (wrap64 ((x5.length : Int) + 1))) : Int).toNat)).bind fun t1309 => (if t1309 = true then ((impl_KeysOk.f k (x5.drop (((x1.length : Int) % (wrap64 ((x5.length : Int) + 1))) : Int).toNat)).bind fun t1314 => (if t1314 = true then ((impl_KeysSort.f k x5).bind fun t1315 => ((laws_ltSames.f k t1315 x5).bind fun t1318 => (some t1318))) else (some false))) else (some false))) else (none)) else (none)))
end
def laws_FnKeysOk.f (k : Nat) (l0 : List Int) (l1 : List Int) : Option (Bool) := if (l0.length : Int) > 1048576 then (laws_FnKeysOk.j0 k l0 l1 true) else (laws_FnKeysOk.j0 k l0 l1 (decide ((l1.length : Int) > 1048576)))
def laws_FnKeysOk.Pure : Prop := ∀ (l0 : List Int) (l1 : List Int), l0.length ≤ maxLen → l0.length * 1 ≤ 140737488351232 → (∀ x ∈ l0, (Lit.int .u8 x).wf = true) → l1.length ≤ maxLen → l1.length * 1 ≤ 140737488351232 → (∀ x ∈ l1, (Lit.int .u8 x).wf = true) → ∃ k, laws_FnKeysOk.f k l0 l1 = some true
mutual
def laws_FnKeysSort.l0 : Nat → List ByteArray → List ByteArray → Int → Option (Bool)
  | 0, _, _, _ => none
  | k + 1, x3, x4, x5 => if x5 < (x3.length : Int) then (if 0 ≤ x5 then ((laws_ltIn.f k x4 (rdOf ByteArray.empty x3 x5)).bind fun t1330 => ((impl_KeyOk.f k (rdOf ByteArray.empty x3 x5)).bind fun t1332 => (if (t1330 != t1332) = true then (some false) else (laws_FnKeysSort.l0 k x3 x4 (wrap64 (x5 + 1)))))) else (none)) else (laws_FnKeysSort.l1 k x3 x4 0)
def laws_FnKeysSort.l1 : Nat → List ByteArray → List ByteArray → Int → Option (Bool)
  | 0, _, _, _ => none
  | k + 1, x3, x4, x6 => if x6 < (x4.length : Int) then (if 0 ≤ x6 then ((laws_ltIn.f k x3 (rdOf ByteArray.empty x4 x6)).bind fun t1334 => (if t1334 = true then (if x6 > 0 then (if 0 ≤ (wrap64 (x6 - 1)) then (if (wrap64 (x6 - 1)) < (x4.length : Int) then (if ((Op.bytesLess ((rdOf ByteArray.empty x4 (wrap64 (x6 - 1))).toList) ((rdOf ByteArray.empty x4 x6).toList)) = true) then (laws_FnKeysSort.l1 k x3 x4 (wrap64 (x6 + 1))) else (some false)) else (none)) else (none)) else (laws_FnKeysSort.l1 k x3 x4 (wrap64 (x6 + 1)))) else (some false))) else (none)) else ((impl_KeysSort.f k x4).bind fun t1337 => ((laws_ltSames.f k t1337 x4).bind fun t1340 => (some t1340)))
end
def laws_FnKeysSort.f (k : Nat) (l0 : List Int) : Option (Bool) := if (l0.length : Int) > 1048576 then (some true) else ((spec_DrawKeysSort.f k l0).bind fun t1319 => ((impl_KeysSort.f k t1319).bind fun t1322 => ((spec_KeysSort.f k t1319).bind fun t1325 => ((laws_ltSames.f k t1322 t1325).bind fun t1328 => (if t1328 = true then (laws_FnKeysSort.l0 k t1319 t1322 0) else (some false))))))
def laws_FnKeysSort.Pure : Prop := ∀ (l0 : List Int), l0.length ≤ maxLen → l0.length * 1 ≤ 140737488351232 → (∀ x ∈ l0, (Lit.int .u8 x).wf = true) → ∃ k, laws_FnKeysSort.f k l0 = some true
end Go.Proofs.Ytonagfbadoacjaa.Q
end
section
set_option linter.unusedVariables false
set_option linter.unusedSimpArgs false
namespace Go.Proofs.Ytonagfbadoacjaa.Pb
open Go Go.RowKit Go.Proofs.YtonagfbadoacjaaW.PrintWords Go.Proofs.YtonagfbadoacjaaW.PrintLast Go.Proofs.YtonagfbadoacjaaW.PrintMore Go.Proofs.Ytonagfbadoacjaa.Trie Go.Proofs.Ytonagfbadoacjaa.Q
def keyS (s : ByteArray) : Bool := kokB (L s)
def mkS (l : List UInt8) : ByteArray := ⟨l.toArray⟩
def finS (m : List ByteArray) : List ByteArray := (Lib.compact ((LL m).mergeSort fun x y => decide (x ≤ y))).map mkS
end Go.Proofs.Ytonagfbadoacjaa.Pb
end
section
set_option linter.unusedVariables false
set_option linter.unusedSimpArgs false
namespace Go.Proofs.Ytonagfbadoacjaa.Pb
open Go Go.RowKit Go.Proofs.YtonagfbadoacjaaW.PrintWords Go.Proofs.YtonagfbadoacjaaW.PrintLast Go.Proofs.YtonagfbadoacjaaW.PrintMore Go.Proofs.Ytonagfbadoacjaa.Trie Go.Proofs.Ytonagfbadoacjaa.Q
theorem L_mkS (l : List UInt8) : L (mkS l) = l := by simp [L, mkS]
theorem mkS_L (a : ByteArray) : mkS (L a) = a := L_inj (L_mkS _)
theorem letter_eq (a : ByteArray) (ha : a.size ≤ 1000000) (d : Nat) (hd : d ≤ 1000) : spec_l3Letter.f a (d : Int) = some (mkS [lab (L a) d]) := by
  unfold spec_l3Letter.f
  have hs := size_L a
  by_cases c : a.size ≤ d
  · rw [if_pos (by omega), lab_ge (by omega)]; rfl
  · rw [if_neg (by omega), if_pos (by omega), w64 (by omega) (by omega), if_pos (by omega), if_pos (by omega)]
    congr 1
    apply L_inj
    rw [L_extract, L_mkS]
    have h : d < (L a).length := by omega
    rw [lab_lt h]
    have e1 : ((d : Int)).toNat = d := by omega
    have e2 : ((d : Int) + 1).toNat = d + 1 := by omega
    rw [e1, e2, List.drop_take, List.drop_eq_getElem_cons h]
    have : d + 1 - d = 1 := by omega
    rw [this]; rfl
theorem mkS_one {c c' : UInt8} : (mkS [c]).toList = (mkS [c']).toList ↔ c = c' := by
  rw [toList_L, toList_L, L_mkS, L_mkS]; simp
theorem restS_eq (a : ByteArray) (d keep : Nat) : ∃ r, spec_l3Rest.f a (d : Int) (keep : Int) = some r ∧ L r = ((L a).drop d).take keep := by
  unfold spec_l3Rest.f
  have hs := size_L a
  rw [if_pos ⟨by omega, by omega⟩]
  by_cases c : (a.size : Int) ≤ (d : Int)
  · rw [if_pos c]
    refine ⟨_, rfl, ?_⟩
    rw [List.drop_eq_nil_of_le (by omega), List.take_nil]; rfl
  · rw [if_neg c]
    refine ⟨_, rfl, ?_⟩
    rw [L_extract, L_extract]
    have e1 : ((d : Int)).toNat = d := by omega
    rw [e1, List.drop_zero, List.take_of_length_le (i := a.size) (by omega)]
    split
    · rename_i h
      have e2 : ((keep : Int)).toNat = keep := by omega
      rw [e2]
    · rename_i h
      rw [List.take_of_length_le (i := keep) (by rw [List.length_drop]; omega), List.take_of_length_le (by rw [List.length_drop]; omega)]
structure Sm (l : List ByteArray) : Prop where
  len : l.length ≤ 100
  sz : ∀ s ∈ l, s.size ≤ 1000
theorem Sm.getD {l : List ByteArray} (h : Sm l) (i : Nat) : (l.getD i ByteArray.empty).size ≤ 1000 := by
  by_cases q : i < l.length
  · rw [getD_lt _ q]; exact h.sz _ (List.getElem_mem q)
  · rw [List.getD_eq_getElem?_getD, List.getElem?_eq_none (by omega)]; exact Nat.zero_le _
theorem Sm.sub {l l' : List ByteArray} (h : Sm l) (hs : l'.Sublist l) : Sm l' := ⟨by have := hs.length_le; have := h.len; omega, fun s hm => h.sz s (hs.subset hm)⟩
def labS (d : Nat) (s : ByteArray) : UInt8 := lab (L s) d
theorem group_l0 (ks : List ByteArray) (h : Sm ks) (d : Nat) (hd : d ≤ 1000) (m : Nat) : ∀ (i : Nat) (x3 : List ByteArray), i ≤ ks.length → ks.length - i = m → x3.length ≤ i →
    Ev (fun k => spec_l3Group.l0 k x3 (i : Int) ks (d : Int)) (x3 ++ (ks.drop i).filter (fun s => labS d s == labS d (ks.getD 0 ByteArray.empty))) := by
  have hn := h.len
  induction m with
  | zero =>
    intro i x3 h1 h2 h3
    refine ev_succ ?_
    simp only [spec_l3Group.l0]
    refine ev_neg (by omega) (ev_some ?_)
    rw [List.drop_eq_nil_of_le (by omega)]; simp
  | succ m ih =>
    intro i x3 h1 h2 h3
    refine ev_succ ?_
    simp only [spec_l3Group.l0]
    have hlt : i < ks.length := by omega
    have hg : rdOf ByteArray.empty ks (i : Int) = ks.getD i ByteArray.empty := rfl
    have hg0 : rdOf ByteArray.empty ks 0 = ks.getD 0 ByteArray.empty := rfl
    rw [hg, hg0]
    refine ev_pos (by omega) (ev_pos (by omega) (ev_bindc (letter_eq _ (by have := h.getD i; omega) d hd) (ev_pos (by omega) (ev_bindc (letter_eq _ (by have := h.getD 0; omega) d hd) ?_))))
    rw [w64 (by omega) (by omega)]
    have e : ks.drop i = ks.getD i ByteArray.empty :: ks.drop (i + 1) := drop_cons _ hlt
    rw [e, List.filter_cons]
    by_cases c : labS d (ks.getD i ByteArray.empty) = labS d (ks.getD 0 ByteArray.empty)
    · refine ev_pos (mkS_one.2 c) (ev_pos (by omega) ?_)
      rw [if_pos (beq_iff_eq.2 c)]
      refine ev_eq (ih (i + 1) (x3 ++ [ks.getD i ByteArray.empty]) (by omega) (by omega) (by simp; omega)) ?_
      simp
    · refine ev_neg (fun q => c (mkS_one.1 q)) ?_
      rw [if_neg (fun q => c (beq_iff_eq.1 q))]
      exact ih (i + 1) x3 (by omega) (by omega) (by omega)
theorem group_ev (ks : List ByteArray) (h : Sm ks) (d : Nat) (hd : d ≤ 1000) : Ev (fun k => spec_l3Group.f k ks (d : Int)) (ks.filter (fun s => labS d s == labS d (ks.getD 0 ByteArray.empty))) := by
  unfold spec_l3Group.f
  exact ev_eq (group_l0 ks h d hd ks.length 0 [] (by omega) (by omega) (by simp)) (by simp)
theorem front {d : Nat} {s : ByteArray} {ks : List ByteArray} (hU : Up d (LL (s :: ks))) :
    LL ((s :: ks).filter (fun x => labS d x == labS d s)) = L s :: (LL ks).takeWhile (fun x => lab x d == lab (L s) d) ∧
    LL ((s :: ks).drop ((s :: ks).filter (fun x => labS d x == labS d s)).length) = (LL ks).dropWhile (fun x => lab x d == lab (L s) d) := by
  have h1 : LL ((s :: ks).filter (fun x => labS d x == labS d s)) = (LL (s :: ks)).filter (fun x => lab x d == lab (L s) d) := by
    unfold LL
    rw [List.filter_map]
    rfl
  have h2 := run_filter (d := d) (k := L s) (ks := LL ks) hU
  have h3 : LL (s :: ks) = L s :: LL ks := rfl
  rw [h3, h2] at h1
  refine ⟨h1, ?_⟩
  have hl : ((s :: ks).filter (fun x => labS d x == labS d s)).length = ((LL ks).takeWhile (fun x => lab x d == lab (L s) d)).length + 1 := by
    rw [← LL_length, h1, List.length_cons]
  rw [hl, List.drop_succ_cons]
  unfold LL
  rw [List.map_drop]
  have hd : ∀ (p : Key → Bool) (l : List Key), l.drop (l.takeWhile p).length = l.dropWhile p := by
    intro p l
    induction l with
    | nil => rfl
    | cons a l ih =>
      rw [List.takeWhile_cons, List.dropWhile_cons]
      by_cases c : p a = true
      · rw [if_pos c, if_pos c, List.length_cons, List.drop_succ_cons, ih]
      · rw [if_neg c, if_neg c]; rfl
  exact hd _ _
def nd (s : S89) : Nd := (LL s.f0, s.f1.toNat)
structure Np (s : S89) : Prop where
  sm : Sm s.f0
  low : 0 ≤ s.f1
  high : s.f1 ≤ 900
def marks (c : UInt8) : Nat → List UInt8
  | 0 => []
  | n + 1 => c :: List.replicate n 48
theorem marks_49 (n : Nat) : marks 49 n = fst1 n := by cases n <;> rfl
theorem marks_48 (n : Nat) : marks 48 n = List.replicate n 48 := by cases n <;> rfl
theorem put_l0 (keep : Nat) (d : Nat) (hd : d ≤ 800) (m : Nat) : ∀ (ks : List ByteArray) (x6 : List S89) (c : UInt8) (Lt Mo Fi : ByteArray) (Rs : List ByteArray), ks.length ≤ m → Sm ks → Up d (LL ks) → (∀ s ∈ x6, Np s) →
    Lt.size + ks.length ≤ 1000000 → Mo.size + ks.length ≤ 1000000 → Fi.size + ks.length ≤ 1000000 → Rs.length + ks.length ≤ 1000000 → x6.length + ks.length ≤ 1000000 →
    ∃ Lt' Mo' Fi' Rs' x6', Ev (fun k => spec_l3Put.l0 k x6 (mkS [c]) Lt Mo Fi Rs (keep : Int) ks (d : Int)) (Lt', Mo', Fi', Rs', (keep : Int), x6') ∧
      L Lt' = L Lt ++ (bra (LL ks, d)).map letter ∧ L Mo' = L Mo ++ (bra (LL ks, d)).map bit ∧ L Fi' = L Fi ++ marks c (runs d (LL ks)).length ∧
      LL Rs' = LL Rs ++ ((bra (LL ks, d)).filter leaf).map (rest keep) ∧ x6'.map nd = x6.map nd ++ conts (LL ks, d) ∧ (∀ s ∈ x6', Np s) := by
  induction m with
  | zero =>
    intro ks x6 c Lt Mo Fi Rs h0 hS hU hN _ _ _ _ _
    have : ks = [] := List.eq_nil_of_length_eq_zero (by omega)
    subst this
    have hr : runs d (LL ([] : List ByteArray)) = [] := runs_nil d
    refine ⟨Lt, Mo, Fi, Rs, x6, ev_succ ?_, ?_, ?_, ?_, ?_, ?_, hN⟩
    · simp only [spec_l3Put.l0]
      exact ev_neg (by simp) (ev_some rfl)
    all_goals simp [bra, hr, marks, Trie.conts]
  | succ m ih =>
    intro ks x6 c Lt Mo Fi Rs h0 hS hU hN z1 z2 z3 z4 z5
    cases ks with
    | nil =>
      have hr : runs d (LL ([] : List ByteArray)) = [] := runs_nil d
      refine ⟨Lt, Mo, Fi, Rs, x6, ev_succ ?_, ?_, ?_, ?_, ?_, ?_, hN⟩
      · simp only [spec_l3Put.l0]
        exact ev_neg (by simp) (ev_some rfl)
      all_goals simp [bra, hr, marks, Trie.conts]
    | cons s ks =>
      obtain ⟨f1, f2⟩ := front hU
      have hgs : ((s :: ks).getD 0 ByteArray.empty) = s := rfl
      have hgr := group_ev (s :: ks) hS d (by omega)
      rw [hgs] at hgr
      have hsub : ((s :: ks).filter (fun x => labS d x == labS d s)).Sublist (s :: ks) := List.filter_sublist
      generalize hG : (s :: ks).filter (fun x => labS d x == labS d s) = G at f1 f2 hgr hsub
      have hGl : G.length = ((LL ks).takeWhile (fun x => lab x d == lab (L s) d)).length + 1 := by rw [← LL_length, f1, List.length_cons]
      have hGle := hsub.length_le
      have hk := hS.len
      simp only [List.length_cons] at hGle z1 z2 z3 z4 z5 h0 hk
      have hG0 : rdOf ByteArray.empty G 0 = G.getD 0 ByteArray.empty := rfl
      have hLG : L (G.getD 0 ByteArray.empty) = L s := by
        rw [LL_getD, f1]; rfl
      have hrun : runs d (LL (s :: ks)) = LL G :: runs d (LL ((s :: ks).drop G.length)) := by
        have : LL (s :: ks) = L s :: LL ks := rfl
        rw [this, runs_cons, f1, f2]
      have hSd : Sm ((s :: ks).drop G.length) := hS.sub (List.drop_sublist _ _)
      have hUd : Up d (LL ((s :: ks).drop G.length)) := by
        rw [f2]; exact up_tail hU
      have hld : ((s :: ks).drop G.length).length + G.length = ks.length + 1 := by rw [List.length_drop, List.length_cons]; omega
      have hG1 : 1 ≤ G.length := by omega
      have hsz1 : (mkS [lab (L s) d]).size = 1 := rfl
      have hsz2 : (mkS [c]).size = 1 := rfl
      have hLs : ∀ a b : ByteArray, (a ++ b).size = a.size + b.size := fun a b => ByteArray.size_append
      have hgsm : Sm G := hS.sub hsub
      have hcat : ∀ {α : Type} (a : List α) (b : α) (e : List α), (a ++ [b]) ++ e = a ++ (b :: e) := fun a b e => by simp
      by_cases q : 1 < G.length
      · have hc : cont (LL G) = true := by simp [cont, LL_length]; omega
        have hNp : Np ⟨G, wrap64 ((d : Int) + 1)⟩ := by
          rw [w64 (by omega) (by omega)]
          exact ⟨hgsm, by show (0 : Int) ≤ (d : Int) + 1; omega, by show (d : Int) + 1 ≤ 900; omega⟩
        obtain ⟨Lt', Mo', Fi', Rs', x6', e, a1, a2, a3, a4, a5, a6⟩ := ih ((s :: ks).drop G.length) (x6 ++ [⟨G, wrap64 ((d : Int) + 1)⟩]) 48 (Lt ++ mkS [lab (L s) d]) (Mo ++ mkS [49]) (Fi ++ mkS [c]) Rs (by omega) hSd hUd
          (fun y hy => by
            rcases List.mem_append.1 hy with hy | hy
            · exact hN y hy
            · rw [List.mem_singleton.1 hy]; exact hNp)
          (by rw [hLs, hsz1]; omega) (by rw [hLs]; show Mo.size + 1 + _ ≤ _; omega) (by rw [hLs, hsz2]; omega) (by omega) (by simp only [List.length_append, List.length_cons, List.length_nil]; omega)
        refine ⟨Lt', Mo', Fi', Rs', x6', ev_succ ?_, ?_, ?_, ?_, ?_, ?_, a6⟩
        · simp only [spec_l3Put.l0]
          refine ev_pos (by simp only [List.length_cons]; omega) (Ev.bind hgr (ev_pos (by omega) ?_))
          rw [hG0]
          refine ev_bindc (letter_eq _ (by have := hgsm.getD 0; omega) d (by omega)) ?_
          rw [hLG]
          refine ev_pos (by rw [hsz1]; omega) (ev_pos (by rw [hsz2]; omega) (ev_pos (by omega) (ev_pos (by omega) (ev_pos (by omega) (ev_pos (by omega) (ev_pos (by simp only [List.length_cons]; omega) ?_))))))
          have : ((G.length : Int)).toNat = G.length := by omega
          rw [this]
          exact e
        · rw [a1, L_append, L_mkS]
          unfold bra
          rw [hrun, List.map_cons, List.map_cons, hcat]
          congr 2
          show _ = lab ((LL G).headD []) d
          rw [f1]; rfl
        · rw [a2, L_append, L_mkS]
          unfold bra
          rw [hrun, List.map_cons, List.map_cons, hcat]
          congr 2
          show _ = bit (LL G, d)
          unfold bit
          rw [if_pos hc]
        · rw [a3, L_append, L_mkS, hrun, List.length_cons, marks_48]
          simp [marks]
        · rw [a4]
          unfold bra
          rw [hrun, List.map_cons, List.filter_cons, if_neg (by simp [leaf, hc])]
        · rw [a5, List.map_append]
          unfold Trie.conts
          simp only []
          rw [hrun, List.filter_cons, if_pos hc, List.map_cons, List.map_cons, List.map_nil, hcat]
          congr 2
          show (LL G, (wrap64 ((d : Int) + 1)).toNat) = _
          rw [w64 (by omega) (by omega)]
          congr 1
      · have hc : cont (LL G) = false := by simp [cont, LL_length]; omega
        obtain ⟨r, hr1, hr2⟩ := restS_eq (G.getD 0 ByteArray.empty) (d + 1) keep
        rw [hLG] at hr2
        obtain ⟨Lt', Mo', Fi', Rs', x6', e, a1, a2, a3, a4, a5, a6⟩ := ih ((s :: ks).drop G.length) x6 48 (Lt ++ mkS [lab (L s) d]) (Mo ++ mkS [48]) (Fi ++ mkS [c]) (Rs ++ [r]) (by omega) hSd hUd hN
          (by rw [hLs, hsz1]; omega) (by rw [hLs]; show Mo.size + 1 + _ ≤ _; omega) (by rw [hLs, hsz2]; omega) (by simp only [List.length_append, List.length_cons, List.length_nil]; omega) (by omega)
        refine ⟨Lt', Mo', Fi', Rs', x6', ev_succ ?_, ?_, ?_, ?_, ?_, ?_, a6⟩
        · simp only [spec_l3Put.l0]
          refine ev_pos (by simp only [List.length_cons]; omega) (Ev.bind hgr (ev_pos (by omega) ?_))
          rw [hG0]
          refine ev_bindc (letter_eq _ (by have := hgsm.getD 0; omega) d (by omega)) ?_
          rw [hLG, w64 (by omega) (by omega)]
          refine ev_pos (by rw [hsz1]; omega) (ev_pos (by rw [hsz2]; omega) (ev_neg (by omega) (ev_pos (by omega) (ev_bindc (by rw [← hr1]; rfl) (ev_pos (by omega) (ev_pos (by omega) (ev_pos (by simp only [List.length_cons]; omega) ?_)))))))
          have : ((G.length : Int)).toNat = G.length := by omega
          rw [this]
          exact e
        · rw [a1, L_append, L_mkS]
          unfold bra
          rw [hrun, List.map_cons, List.map_cons, hcat]
          congr 2
          show _ = lab ((LL G).headD []) d
          rw [f1]; rfl
        · rw [a2, L_append, L_mkS]
          unfold bra
          rw [hrun, List.map_cons, List.map_cons, hcat]
          congr 2
          show _ = bit (LL G, d)
          unfold bit
          rw [if_neg (by rw [hc]; simp)]
        · rw [a3, L_append, L_mkS, hrun, List.length_cons, marks_48]
          simp [marks]
        · rw [a4, LL_append]
          unfold bra
          rw [hrun, List.map_cons, List.filter_cons, if_pos (by simp [leaf, hc]), List.map_cons]
          show LL Rs ++ LL [r] ++ _ = _
          have : LL [r] = [L r] := rfl
          rw [this, hcat, hr2]
          congr 2
          show _ = (((LL G).headD []).drop (d + 1)).take keep
          rw [f1]; rfl
        · rw [a5]
          unfold Trie.conts
          simp only []
          rw [hrun, List.filter_cons, if_neg (by rw [hc]; simp)]
end Go.Proofs.Ytonagfbadoacjaa.Pb
end
section
set_option linter.unusedVariables false
set_option linter.unusedSimpArgs false
namespace Go.Proofs.Ytonagfbadoacjaa.Pb
open Go Go.RowKit Go.Proofs.YtonagfbadoacjaaW.PrintWords Go.Proofs.YtonagfbadoacjaaW.PrintLast Go.Proofs.YtonagfbadoacjaaW.PrintMore Go.Proofs.Ytonagfbadoacjaa.Trie Go.Proofs.Ytonagfbadoacjaa.Q
theorem bfs_len {q X : List Nd} (h : Bfs q X) : q.length ≤ X.length := by
  rw [h.eq, List.length_append]; omega
theorem brs_cons (x : Nd) (X : List Nd) : brs (x :: X) = bra x ++ brs X := rfl
def Deep (x : Nd) : Prop := ∀ k ∈ x.1, x.2 ≤ k.length
theorem of_l0 (keep : Nat) {q X : List Nd} (hB : Bfs q X) : ∀ (x7 : List S89) (Lt Mo Fi : ByteArray) (Rs : List ByteArray), x7.map nd = q → (∀ s ∈ x7, Np s) → (∀ x ∈ X, NOk x) →
    Lt.size + (brs X).length ≤ 900000 → Mo.size + (brs X).length ≤ 900000 → Fi.size + (brs X).length ≤ 900000 → Rs.length + (brs X).length ≤ 900000 → X.length ≤ 900000 →
    ∃ Lt' Mo' Fi' Rs', Ev (fun k => spec_SieveOf.l0 k x7 Lt Mo Fi Rs (keep : Int)) (Lt', Mo', Fi', Rs', (keep : Int), true) ∧
      L Lt' = L Lt ++ encL X ∧ L Mo' = L Mo ++ encM X ∧ L Fi' = L Fi ++ encF X ∧ LL Rs' = LL Rs ++ encR keep X := by
  induction hB with
  | nil =>
    intro x7 Lt Mo Fi Rs h0 _ _ _ _ _ _ _
    have : x7 = [] := List.map_eq_nil_iff.1 h0
    subst this
    refine ⟨Lt, Mo, Fi, Rs, ev_succ ?_, ?_, ?_, ?_, ?_⟩
    · simp only [spec_SieveOf.l0]
      exact ev_neg (by simp) (ev_some rfl)
    all_goals simp [encL, encM, encF, encR, brs]
  | cons hX ih =>
    rename_i x q X
    intro x7 Lt Mo Fi Rs h0 hN hO z1 z2 z3 z4 z5
    cases x7 with
    | nil => cases h0
    | cons s t =>
      rw [List.map_cons, List.cons.injEq] at h0
      obtain ⟨rfl, h0⟩ := h0
      have hs := hN s (by simp)
      have hx := hO (nd s) (by simp)
      have hd : s.f1 = ((nd s).2 : Int) := by show s.f1 = (s.f1.toNat : Int); have := hs.low; omega
      have hd5 := hx.deep
      have hlen := hs.sm.len
      have hbl : (bra (nd s)).length ≤ s.f0.length := by
        rw [bra_length]
        have := runs_length_le (nd s).2 (nd s).1
        have e : (nd s).1.length = s.f0.length := LL_length _
        omega
      rw [brs_cons, List.length_append] at z1 z2 z3 z4
      rw [List.length_cons] at z5
      have hql := bfs_len hX
      rw [List.length_append, ← h0, List.length_map] at hql
      obtain ⟨Lt1, Mo1, Fi1, Rs1, n1, e1, a1, a2, a3, a4, a5, a6⟩ := put_l0 keep (nd s).2 (by omega) s.f0.length s.f0 [] 49 Lt Mo Fi Rs (Nat.le_refl _) hs.sm hx.up (fun y hy => by cases hy) (by omega) (by omega) (by omega) (by omega) (by simp only [List.length_nil]; omega)
      have hbr : (LL s.f0, (nd s).2) = nd s := rfl
      rw [hbr] at a1 a2 a4 a5
      have hsz : ∀ {a b : ByteArray} {l : List UInt8}, L a = L b ++ l → a.size = b.size + l.length := fun {a b l} h => by rw [size_L, size_L, h, List.length_append]
      have b1 := hsz a1
      have b2 := hsz a2
      have b3 := hsz a3
      have b4 : Rs1.length = Rs.length + (((bra (nd s)).filter leaf).map (rest keep)).length := by rw [← LL_length, a4, List.length_append, LL_length]
      have b5 : n1.length = (Trie.conts (nd s)).length := by have := congrArg List.length a5; simpa using this
      rw [List.length_map] at b1 b2 b4
      have b6 : (marks 49 (runs (nd s).2 (LL s.f0)).length).length = (bra (nd s)).length := by rw [marks_49, fst1_length, bra_length]; rfl
      have b7 := List.length_filter_le leaf (bra (nd s))
      obtain ⟨Lt', Mo', Fi', Rs', e2, c1, c2, c3, c4⟩ := ih (([] ++ t) ++ n1) Lt1 Mo1 Fi1 Rs1 (by rw [List.nil_append, List.map_append, h0, a5]; rfl)
        (fun y hy => by
          rw [List.nil_append] at hy
          rcases List.mem_append.1 hy with hy | hy
          · exact hN y (by simp [hy])
          · exact a6 y hy)
        (fun y hy => hO y (by simp [hy])) (by omega) (by omega) (by omega) (by omega) (by omega)
      refine ⟨Lt', Mo', Fi', Rs', ev_succ ?_, ?_, ?_, ?_, ?_⟩
      · simp only [spec_SieveOf.l0]
        have hr : rd_T89 (s :: t) 0 = s := rfl
        rw [hr, hd]
        refine ev_pos (by simp only [List.length_cons]; omega) (ev_pos (by simp only [List.length_cons]; omega) (Ev.bind (a := (Lt1, Mo1, Fi1, Rs1, (keep : Int), n1)) e1 (ev_bindc rfl (ev_pos (by simp only [List.length_cons]; omega) (ev_bindc rfl (ev_pos ?_ (ev_bindc rfl (ev_pos ?_ e2))))))))
        · simp only [List.length_nil, List.drop_succ_cons, List.drop_zero]; omega
        · simp only [List.nil_append, List.drop_succ_cons, List.drop_zero]; omega
      · rw [c1, a1, List.append_assoc]; unfold encL; rw [brs_cons, List.map_append]
      · rw [c2, a2, List.append_assoc]; unfold encM; rw [brs_cons, List.map_append]
      · rw [c3, a3, List.append_assoc, marks_49]; unfold encF; rw [List.flatMap_cons]; rfl
      · rw [c4, a4, List.append_assoc]; unfold encR; rw [brs_cons, List.filter_append, List.map_append]
open Classical in
noncomputable def lvls (K : List Key) : List Nd := if h : (∀ k ∈ K, KOk k) ∧ K.Pairwise (· < ·) then Classical.choose (Lvl.ex h.1 h.2) else []
theorem lvls_is {K : List Key} (h : KsOk K) : Lvl K (lvls K) ∧ (lvls K).length ≤ K.length * 6 + 1 := by
  have h' : (∀ k ∈ K, KOk k) ∧ K.Pairwise (· < ·) := ⟨h.ok, h.sorted⟩
  unfold lvls
  rw [dif_pos h']
  exact Classical.choose_spec (Lvl.ex h'.1 h'.2)
def keepOk (a : Int) : Prop := 0 ≤ a ∧ a ≤ 5
instance (a : Int) : Decidable (keepOk a) := inferInstanceAs (Decidable (0 ≤ a ∧ a ≤ 5))
abbrev SvT := ByteArray × ByteArray × ByteArray × List ByteArray × Int × Bool
noncomputable def encT (X : List Nd) (keep : Int) : SvT := (mkS (encL X), mkS (encM X), mkS (encF X), (encR keep.toNat X).map mkS, keep, true)
noncomputable def sieveV (K : List Key) (keep : Int) : SvT := if keysB K = true ∧ keepOk keep then encT (lvls K) keep else ((⟨#[]⟩ : ByteArray), (⟨#[]⟩ : ByteArray), (⟨#[]⟩ : ByteArray), ([] : List ByteArray), 0, false)
theorem brs_few {K : List Key} {X : List Nd} (h : Lvl K X) (hn : K.length ≤ 24) (hl : X.length ≤ K.length * 6 + 1) : (brs X).length ≤ 1000 := by
  have := size_eq h.eq
  simp only at this
  omega
theorem encT_of {X : List Nd} {keep : Nat} {a b c : ByteArray} {d : List ByteArray} (h1 : L a = encL X) (h2 : L b = encM X) (h3 : L c = encF X) (h4 : LL d = encR keep X) : (a, b, c, d, (keep : Int), true) = encT X (keep : Int) := by
  unfold encT
  rw [← h1, ← h2, ← h3, mkS_L, mkS_L, mkS_L]
  have : ((keep : Int)).toNat = keep := by omega
  rw [this, ← h4]
  congr 4
  unfold LL
  rw [List.map_map]
  conv => lhs; rw [← List.map_id d]
  apply List.map_congr_left
  intro s _
  exact (mkS_L s).symm
theorem ksok_sm {l : List ByteArray} (h : KsOk (LL l)) : Sm l := by
  refine ⟨by have := h.few; rw [LL_length] at this; omega, fun s hm => ?_⟩
  have := (h.ok (L s) (List.mem_map_of_mem hm)).len
  rw [size_L]; omega
theorem spec_SieveOf_ev (l : List ByteArray) (hl : SzL l) (a : Int) : Ev (fun k => spec_SieveOf.f k l a) (sieveV (LL l) a) := by
  unfold spec_SieveOf.f sieveV
  refine Ev.bind (spec_KeysOk_ev l hl) ?_
  by_cases c : keysB (LL l) = true
  · refine ev_pos c (ev_bindc (spec_l6In_eq a 0 5) (ev_succ ?_))
    by_cases g : keepOk a
    · simp only [spec_SieveOf.j0]
      rw [if_pos ⟨c, g⟩]
      refine ev_neg (by simp [decide_eq_true (show 0 ≤ a ∧ a ≤ 5 from g)]) ?_
      have hk := keysB_iff.1 c
      obtain ⟨hL, hX⟩ := lvls_is hk
      have hfew := hk.few
      have hb := brs_few hL hfew hX
      obtain ⟨keep, rfl⟩ : ∃ n : Nat, a = (n : Int) := ⟨a.toNat, by have := g.1; omega⟩
      obtain ⟨Lt, Mo, Fi, Rs, e, a1, a2, a3, a4⟩ := of_l0 keep hL.bfs [⟨l, 0⟩] (⟨#[]⟩ : ByteArray) (⟨#[]⟩ : ByteArray) (⟨#[]⟩ : ByteArray) [] rfl
        (fun s hs => by
          rw [List.mem_singleton.1 hs]
          exact ⟨ksok_sm hk, by show (0 : Int) ≤ 0; omega, by show (0 : Int) ≤ 900; omega⟩)
        (fun x hx => (hL.nodes x hx).2) (by show 0 + _ ≤ _; omega) (by show 0 + _ ≤ _; omega) (by show 0 + _ ≤ _; omega) (by show 0 + _ ≤ _; omega) (by omega)
      refine ev_eq e (encT_of ?_ ?_ ?_ ?_)
      · rw [a1]; rfl
      · rw [a2]; rfl
      · rw [a3]; rfl
      · rw [a4]; rfl
    · simp only [spec_SieveOf.j0]
      rw [if_neg (fun h => g h.2)]
      exact ev_pos (by simp [decide_eq_false (show ¬ (0 ≤ a ∧ a ≤ 5) from g)]) (ev_some rfl)
  · refine ev_neg c (ev_succ ?_)
    simp only [spec_SieveOf.j0]
    rw [if_neg (fun h => c h.1)]
    exact ev_pos (by simp) (ev_some rfl)
end Go.Proofs.Ytonagfbadoacjaa.Pb
end
section
set_option linter.unusedVariables false
set_option linter.unusedSimpArgs false
namespace Go.Proofs.Ytonagfbadoacjaa.Pb
open Go Go.RowKit Go.Proofs.YtonagfbadoacjaaW.PrintWords Go.Proofs.YtonagfbadoacjaaW.PrintLast Go.Proofs.YtonagfbadoacjaaW.PrintMore Go.Proofs.Ytonagfbadoacjaa.Trie Go.Proofs.Ytonagfbadoacjaa.Q
theorem label_eq (a : ByteArray) (d : Nat) (hd : d ≤ (L a).length) : impl_label.f a (d : Int) = some ((lab (L a) d).toNat : Int) := by
  unfold impl_label.f
  have hs := size_L a
  by_cases c : d = (L a).length
  · rw [if_pos (by omega), lab_ge (by omega)]; rfl
  · rw [if_neg (by omega), if_pos (by omega), if_pos (by omega), bt_L, lab_lt (show d < (L a).length by omega), getD_lt _ (by omega)]
def frontN (d : Nat) (r : List ByteArray) : Nat := (r.tail.takeWhile (fun x => labS d x == labS d (r.getD 0 ByteArray.empty))).length + 1
theorem frontN_le {d : Nat} {r : List ByteArray} (h : r ≠ []) : frontN d r ≤ r.length := by
  cases r with
  | nil => exact absurd rfl h
  | cons a t =>
    unfold frontN
    have := (List.takeWhile_sublist (l := t) (fun x => labS d x == labS d ((a :: t).getD 0 ByteArray.empty))).length_le
    simp only [List.tail_cons, List.length_cons]
    omega
theorem takeWhile_at {α : Type} (p : α → Bool) : ∀ (l : List α) (i : Nat) (h : i < l.length), (i < (l.takeWhile p).length → p l[i] = true) ∧ (i = (l.takeWhile p).length → p l[i] = false) := by
  intro l
  induction l with
  | nil => intro i h; simp at h
  | cons a l ih =>
    intro i h
    rw [List.takeWhile_cons]
    by_cases c : p a = true
    · rw [if_pos c, List.length_cons]
      cases i with
      | zero => exact ⟨fun _ => c, fun q => by omega⟩
      | succ i =>
        have := ih i (by simpa using h)
        exact ⟨fun q => this.1 (by omega), fun q => this.2 (by omega)⟩
    · rw [if_neg c]
      cases i with
      | zero => exact ⟨fun q => by simp at q, fun _ => by simpa using c⟩
      | succ i => exact ⟨fun q => by simp at q, fun q => by simp at q⟩
theorem l2_ev {Lt Mo Fi : ByteArray} {Rs : List ByteArray} {Q : List S119} {keep i mark : Int} {rest : List ByteArray} {d : Nat} {r : ByteArray × ByteArray × ByteArray × List ByteArray × Int} (hs : Sm rest) (h0 : rest ≠ []) (hd : ∀ s ∈ rest, d ≤ (L s).length)
    (h3 : Ev (fun k => impl_sieveOf.l3 k Lt Mo Fi Rs Q keep i rest (d : Int) mark (frontN d rest : Int)) r) (m : Nat) : ∀ n : Nat, 1 ≤ n → n ≤ frontN d rest → frontN d rest - n = m →
    Ev (fun k => impl_sieveOf.l2 k Lt Mo Fi Rs Q keep i rest (d : Int) mark (n : Int)) r := by
  have hlen := hs.len
  have hf := frontN_le (d := d) h0
  obtain ⟨a, t, rfl⟩ : ∃ a t, rest = a :: t := by
    cases rest with
    | nil => exact absurd rfl h0
    | cons a t => exact ⟨a, t, rfl⟩
  simp only [List.length_cons] at hlen hf
  have hg0 : rdOf ByteArray.empty (a :: t) 0 = a := rfl
  have hat : ∀ n : Nat, n < t.length + 1 → L (rdOf ByteArray.empty (a :: t) (n : Int)) = L ((a :: t).getD n ByteArray.empty) := fun _ _ => rfl
  have hmem : ∀ n : Nat, n < t.length + 1 → d ≤ (L ((a :: t).getD n ByteArray.empty)).length := fun n hn => by
    refine hd _ ?_
    rw [getD_lt _ (by simpa using hn)]
    exact List.getElem_mem _
  have hfr : frontN d (a :: t) = (t.takeWhile (fun x => labS d x == labS d a)).length + 1 := rfl
  have htw := takeWhile_at (fun x => labS d x == labS d a) t
  have hgd : ∀ n : Nat, 1 ≤ n → n < t.length + 1 → ∀ h : n - 1 < t.length, (a :: t).getD n ByteArray.empty = t[n - 1] := fun n h1 h2 h => by
    obtain ⟨j, rfl⟩ : ∃ j, n = j + 1 := ⟨n - 1, by omega⟩
    rw [getD_lt _ (by simpa using h2)]
    rfl
  induction m with
  | zero =>
    intro n h1 h2 h4
    have e : n = frontN d (a :: t) := by omega
    refine ev_succ ?_
    simp only [impl_sieveOf.l2]
    by_cases c : n < t.length + 1
    · refine ev_pos (by simp only [List.length_cons]; omega) (ev_pos (by omega) ?_)
      have hr : rdOf ByteArray.empty (a :: t) (n : Int) = (a :: t).getD n ByteArray.empty := rfl
      rw [hr, hg0]
      refine ev_bindc (label_eq _ d (hmem n c)) (ev_bindc (label_eq a d (hd a (by simp))) (ev_neg ?_ ?_))
      · intro q
        have q2 : lab (L ((a :: t).getD n ByteArray.empty)) d = lab (L a) d := UInt8.toNat_inj.1 (by omega)
        have h5 := (htw (n - 1) (by omega)).2 (by omega)
        rw [hgd n h1 c (by omega)] at q2
        unfold labS at h5
        rw [q2] at h5
        simp at h5
      · rw [e]; exact h3
    · refine ev_neg (by simp only [List.length_cons]; omega) ?_
      rw [e]; exact h3
  | succ m ih =>
    intro n h1 h2 h4
    have hlt : n < frontN d (a :: t) := by omega
    have c : n < t.length + 1 := by omega
    refine ev_succ ?_
    simp only [impl_sieveOf.l2]
    refine ev_pos (by simp only [List.length_cons]; omega) (ev_pos (by omega) ?_)
    have hr : rdOf ByteArray.empty (a :: t) (n : Int) = (a :: t).getD n ByteArray.empty := rfl
    rw [hr, hg0]
    refine ev_bindc (label_eq _ d (hmem n c)) (ev_bindc (label_eq a d (hd a (by simp))) (ev_pos ?_ ?_))
    · have h5 := (htw (n - 1) (by omega)).1 (by omega)
      rw [hgd n h1 c (by omega)]
      unfold labS at h5
      rw [beq_iff_eq.1 h5]
    · rw [w64 (by omega) (by omega)]
      exact ih (n + 1) (by omega) (by omega) (by omega)
theorem frontN_run {d : Nat} {a : ByteArray} {t : List ByteArray} :
    LL ((a :: t).take (frontN d (a :: t))) = L a :: (LL t).takeWhile (fun x => lab x d == lab (L a) d) ∧ LL ((a :: t).drop (frontN d (a :: t))) = (LL t).dropWhile (fun x => lab x d == lab (L a) d) := by
  have hfr : frontN d (a :: t) = (t.takeWhile (fun x => labS d x == labS d a)).length + 1 := rfl
  rw [hfr, List.take_succ_cons, List.drop_succ_cons]
  have e1 : ∀ (p : ByteArray → Bool) (l : List ByteArray), l.take (l.takeWhile p).length = l.takeWhile p ∧ l.drop (l.takeWhile p).length = l.dropWhile p := by
    intro p l
    induction l with
    | nil => exact ⟨rfl, rfl⟩
    | cons b l ih =>
      rw [List.takeWhile_cons, List.dropWhile_cons]
      by_cases c : p b = true
      · rw [if_pos c, if_pos c, List.length_cons, List.take_succ_cons, List.drop_succ_cons, ih.1, ih.2]; exact ⟨rfl, rfl⟩
      · rw [if_neg c, if_neg c]; exact ⟨rfl, rfl⟩
  have e2 : ∀ (l : List ByteArray), LL (l.takeWhile (fun x => labS d x == labS d a)) = (LL l).takeWhile (fun x => lab x d == lab (L a) d) ∧ LL (l.dropWhile (fun x => labS d x == labS d a)) = (LL l).dropWhile (fun x => lab x d == lab (L a) d) := by
    intro l
    induction l with
    | nil => exact ⟨rfl, rfl⟩
    | cons b l ih =>
      have hb : LL (b :: l) = L b :: LL l := rfl
      rw [hb, List.takeWhile_cons, List.dropWhile_cons, List.takeWhile_cons, List.dropWhile_cons]
      by_cases c : (labS d b == labS d a) = true
      · have c' : (lab (L b) d == lab (L a) d) = true := c
        rw [if_pos c, if_pos c, if_pos c', if_pos c']
        refine ⟨?_, ih.2⟩
        show L b :: LL _ = _
        rw [ih.1]
      · have c' : ¬ (lab (L b) d == lab (L a) d) = true := c
        rw [if_neg c, if_neg c, if_neg c', if_neg c']
        exact ⟨rfl, hb⟩
  refine ⟨?_, ?_⟩
  · show L a :: LL _ = _
    rw [(e1 _ t).1, (e2 t).1]
  · rw [(e1 _ t).2, (e2 t).2]
def ndq (s : S119) : Nd := (LL s.f0, s.f1.toNat)
structure Nq (s : S119) : Prop where
  sm : Sm s.f0
  low : 0 ≤ s.f1
  high : s.f1 ≤ 900
theorem mnk (k n : Nat) : mn (k : Int) (n : Int) = ((min k n : Nat) : Int) := by unfold mn; split <;> omega
theorem push_L (s : ByteArray) (c : UInt8) : L (s.push c) = L s ++ [c] := by simp [L]
theorem push_size (s : ByteArray) (c : UInt8) : (s.push c).size = s.size + 1 := by rw [size_L, size_L, push_L]; simp
theorem byte_back (c : UInt8) : ((c.toNat : Int)).toNat.toUInt8 = c := by
  have : ((c.toNat : Int)).toNat = c.toNat := by omega
  rw [this]; exact UInt8.ofNat_toNat
theorem l1_ev (keep d : Nat) (hd : d ≤ 800) (i : Int) (m : Nat) : ∀ (ks : List ByteArray) (Q : List S119) (c : UInt8) (Lt Mo Fi : ByteArray) (Rs : List ByteArray), ks.length ≤ m → Sm ks → (∀ s ∈ ks, d ≤ (L s).length) → (∀ s ∈ Q, Nq s) →
    Lt.size + ks.length ≤ 1000000 → Mo.size + ks.length ≤ 1000000 → Fi.size + ks.length ≤ 1000000 → Rs.length + ks.length ≤ 1000000 → Q.length + ks.length ≤ 1000000 →
    ∃ Lt' Mo' Fi' Rs' x6', (∀ r, Ev (fun k => impl_sieveOf.l0 k Lt' Mo' Fi' Rs' (Q ++ x6') (keep : Int) (wrap64 (i + 1))) r → Ev (fun k => impl_sieveOf.l1 k Lt Mo Fi Rs Q (keep : Int) i ks (d : Int) (c.toNat : Int)) r) ∧
      L Lt' = L Lt ++ (bra (LL ks, d)).map letter ∧ L Mo' = L Mo ++ (bra (LL ks, d)).map bit ∧ L Fi' = L Fi ++ marks c (runs d (LL ks)).length ∧
      LL Rs' = LL Rs ++ ((bra (LL ks, d)).filter leaf).map (rest keep) ∧ x6'.map ndq = conts (LL ks, d) ∧ (∀ s ∈ x6', Nq s) := by
  induction m with
  | zero =>
    intro ks Q c Lt Mo Fi Rs h0 hS hD hN _ _ _ _ _
    have : ks = [] := List.eq_nil_of_length_eq_zero (by omega)
    subst this
    have hr : runs d (LL ([] : List ByteArray)) = [] := runs_nil d
    refine ⟨Lt, Mo, Fi, Rs, [], fun r h => ev_succ ?_, ?_, ?_, ?_, ?_, ?_, fun s hs => by cases hs⟩
    · simp only [impl_sieveOf.l1]
      rw [List.append_nil] at h
      exact ev_neg (by simp) h
    all_goals simp [bra, hr, marks, Trie.conts]
  | succ m ih =>
    intro ks Q c Lt Mo Fi Rs h0 hS hD hN z1 z2 z3 z4 z5
    cases ks with
    | nil =>
      have hr : runs d (LL ([] : List ByteArray)) = [] := runs_nil d
      refine ⟨Lt, Mo, Fi, Rs, [], fun r h => ev_succ ?_, ?_, ?_, ?_, ?_, ?_, fun s hs => by cases hs⟩
      · simp only [impl_sieveOf.l1]
        rw [List.append_nil] at h
        exact ev_neg (by simp) h
      all_goals simp [bra, hr, marks, Trie.conts]
    | cons s ks =>
      obtain ⟨f1, f2⟩ := frontN_run (d := d) (a := s) (t := ks)
      have hne : s :: ks ≠ [] := by simp
      have hfl := frontN_le (d := d) hne
      have hf1 : 1 ≤ frontN d (s :: ks) := by unfold frontN; omega
      have hk := hS.len
      simp only [List.length_cons] at hfl z1 z2 z3 z4 z5 h0 hk
      have hGl : ((s :: ks).take (frontN d (s :: ks))).length = frontN d (s :: ks) := by rw [List.length_take, List.length_cons]; omega
      have hrun : runs d (LL (s :: ks)) = LL ((s :: ks).take (frontN d (s :: ks))) :: runs d (LL ((s :: ks).drop (frontN d (s :: ks)))) := by
        have : LL (s :: ks) = L s :: LL ks := rfl
        rw [this, runs_cons, f1, f2]
      have hSd : Sm ((s :: ks).drop (frontN d (s :: ks))) := hS.sub (List.drop_sublist _ _)
      have hgsm : Sm ((s :: ks).take (frontN d (s :: ks))) := hS.sub (List.take_sublist _ _)
      have hDd : ∀ x ∈ (s :: ks).drop (frontN d (s :: ks)), d ≤ (L x).length := fun x hx => hD x (List.mem_of_mem_drop hx)
      have hld : ((s :: ks).drop (frontN d (s :: ks))).length + frontN d (s :: ks) = ks.length + 1 := by rw [List.length_drop, List.length_cons]; omega
      have hcat : ∀ {α : Type} (a : List α) (b : α) (e : List α), (a ++ [b]) ++ e = a ++ (b :: e) := fun a b e => by simp
      have hl2 := fun (r : ByteArray × ByteArray × ByteArray × List ByteArray × Int) (h3 : Ev (fun k => impl_sieveOf.l3 k Lt Mo Fi Rs Q (keep : Int) i (s :: ks) (d : Int) (c.toNat : Int) (frontN d (s :: ks) : Int)) r) => l2_ev (r := r) hS hne hD h3 (frontN d (s :: ks) - 1) 1 (Nat.le_refl _) hf1 rfl
      have hlabel := label_eq s d (hD s (by simp))
      have hg0 : rdOf ByteArray.empty (s :: ks) 0 = s := rfl
      generalize hn : frontN d (s :: ks) = n at *
      have hnt : ((n : Int)).toNat = n := by omega
      have hsz := size_L s
      have hss : s.size ≤ 1000 := hS.sz s (by simp)
      have hcond : Lt.size + 1 ≤ 140737488355328 ∧ Mo.size + 1 ≤ 140737488355328 ∧ Fi.size + 1 ≤ 140737488355328 ∧ 0 ≤ (n : Int) ∧ (n : Int) ≤ ((s :: ks).length : Int) ∧ 0 ≤ (d : Int) ∧ (d : Int) ≤ 1000000000 ∧ 0 ≤ (keep : Int) ∧ Q.length < 4398046511104 ∧ Rs.length < 8796093022208 := by
        refine ⟨by omega, by omega, by omega, by omega, by simp only [List.length_cons]; omega, by omega, by omega, by omega, by omega, by omega⟩
      by_cases q : 1 < n
      · have hc : cont (LL ((s :: ks).take n)) = true := by simp only [cont, LL_length, hGl, decide_eq_true_eq]; omega
        have hNq : Nq ⟨(s :: ks).take n, wrap64 ((d : Int) + 1)⟩ := by
          rw [w64 (by omega) (by omega)]
          exact ⟨hgsm, by show (0 : Int) ≤ (d : Int) + 1; omega, by show (d : Int) + 1 ≤ 900; omega⟩
        obtain ⟨Lt', Mo', Fi', Rs', x6', e, a1, a2, a3, a4, a5, a6⟩ := ih ((s :: ks).drop n) (Q ++ [⟨(s :: ks).take n, wrap64 ((d : Int) + 1)⟩]) 48 (Lt.push (lab (L s) d)) (Mo.push 49) (Fi.push c) Rs (by omega) hSd hDd
          (fun y hy => by
            rcases List.mem_append.1 hy with hy | hy
            · exact hN y hy
            · rw [List.mem_singleton.1 hy]; exact hNq)
          (by rw [push_size]; omega) (by rw [push_size]; omega) (by rw [push_size]; omega) (by omega) (by simp only [List.length_append, List.length_cons, List.length_nil]; omega)
        refine ⟨Lt', Mo', Fi', Rs', ⟨(s :: ks).take n, wrap64 ((d : Int) + 1)⟩ :: x6', fun r h => ev_succ ?_, ?_, ?_, ?_, ?_, ?_, ?_⟩
        · simp only [impl_sieveOf.l1]
          refine ev_pos (by simp only [List.length_cons]; omega) (hl2 r (ev_succ ?_))
          simp only [impl_sieveOf.l3]
          rw [hg0]
          refine ev_pos hcond (ev_bindc hlabel (ev_pos (by omega) ?_))
          rw [hnt, byte_back, byte_back]
          refine e r ?_
          rw [hcat]; exact h
        · rw [a1, push_L]
          unfold bra
          rw [hrun, List.map_cons, List.map_cons, hcat]
          congr 2
          show _ = lab ((LL ((s :: ks).take n)).headD []) d
          rw [f1]; rfl
        · rw [a2, push_L]
          unfold bra
          rw [hrun, List.map_cons, List.map_cons, hcat]
          congr 2
          show _ = bit (LL ((s :: ks).take n), d)
          unfold bit
          rw [if_pos hc]
        · rw [a3, push_L, hrun, List.length_cons, marks_48]
          simp [marks]
        · rw [a4]
          unfold bra
          rw [hrun, List.map_cons, List.filter_cons, if_neg (by simp [leaf, hc])]
        · rw [List.map_cons, a5]
          unfold Trie.conts
          simp only []
          rw [hrun, List.filter_cons, if_pos hc, List.map_cons]
          congr 1
          show (LL ((s :: ks).take n), (wrap64 ((d : Int) + 1)).toNat) = _
          rw [w64 (by omega) (by omega)]
          congr 1
        · intro y hy
          rcases List.mem_cons.1 hy with rfl | hy
          · exact hNq
          · exact a6 y hy
      · have hc : cont (LL ((s :: ks).take n)) = false := by simp only [cont, LL_length, hGl, decide_eq_false_iff_not]; omega
        obtain ⟨Lt', Mo', Fi', Rs', x6', e, a1, a2, a3, a4, a5, a6⟩ := ih ((s :: ks).drop n) Q 48 (Lt.push (lab (L s) d)) (Mo.push 48) (Fi.push c) (Rs ++ [(s.extract (mn (wrap64 ((d : Int) + 1)) (s.size : Int)).toNat s.size).extract 0 (mn (keep : Int) ((s.extract (mn (wrap64 ((d : Int) + 1)) (s.size : Int)).toNat s.size).size : Int)).toNat]) (by omega) hSd hDd hN
          (by rw [push_size]; omega) (by rw [push_size]; omega) (by rw [push_size]; omega) (by simp only [List.length_append, List.length_cons, List.length_nil]; omega) (by omega)
        refine ⟨Lt', Mo', Fi', Rs', x6', fun r h => ev_succ ?_, ?_, ?_, ?_, ?_, ?_, a6⟩
        · simp only [impl_sieveOf.l1]
          refine ev_pos (by simp only [List.length_cons]; omega) (hl2 r (ev_succ ?_))
          simp only [impl_sieveOf.l3]
          rw [hg0]
          refine ev_pos hcond (ev_bindc hlabel (ev_neg (by omega) ?_))
          rw [hnt, byte_back, byte_back]
          exact e r h
        · rw [a1, push_L]
          unfold bra
          rw [hrun, List.map_cons, List.map_cons, hcat]
          congr 2
          show _ = lab ((LL ((s :: ks).take n)).headD []) d
          rw [f1]; rfl
        · rw [a2, push_L]
          unfold bra
          rw [hrun, List.map_cons, List.map_cons, hcat]
          congr 2
          show _ = bit (LL ((s :: ks).take n), d)
          unfold bit
          rw [if_neg (by rw [hc]; simp)]
        · rw [a3, push_L, hrun, List.length_cons, marks_48]
          simp [marks]
        · rw [a4, LL_append]
          unfold bra
          rw [hrun, List.map_cons, List.filter_cons, if_pos (by simp [leaf, hc]), List.map_cons]
          have : ∀ x : ByteArray, LL [x] = [L x] := fun _ => rfl
          rw [this, hcat]
          congr 2
          show _ = (((LL ((s :: ks).take n)).headD []).drop (d + 1)).take keep
          rw [f1]
          show _ = ((L s).drop (d + 1)).take keep
          have e1 : mn (wrap64 ((d : Int) + 1)) (s.size : Int) = ((min (d + 1) s.size : Nat) : Int) := by
            rw [w64 (by omega) (by omega)]; exact mnk (d + 1) s.size
          rw [e1]
          have e2 : (((min (d + 1) s.size : Nat) : Int)).toNat = min (d + 1) s.size := by omega
          rw [e2, mnk]
          have e3 : ∀ z : Nat, ((z : Nat) : Int).toNat = z := fun z => by omega
          rw [e3, L_extract, L_extract, List.drop_zero, List.take_of_length_le (i := s.size) (by omega)]
          have e4 : (s.extract (min (d + 1) s.size) s.size).size = s.size - min (d + 1) s.size := by
            rw [size_L, L_extract, List.length_drop, List.length_take]; omega
          rw [e4]
          by_cases g : d + 1 ≤ s.size
          · rw [Nat.min_eq_left g]
            by_cases g2 : keep ≤ s.size - (d + 1)
            · rw [Nat.min_eq_left g2]
            · rw [Nat.min_eq_right (by omega), List.take_of_length_le (by rw [List.length_drop]; omega), List.take_of_length_le (by rw [List.length_drop]; omega)]
          · rw [Nat.min_eq_right (by omega), List.drop_eq_nil_of_le (by omega), List.drop_eq_nil_of_le (by omega)]
            simp
        · rw [a5]
          unfold Trie.conts
          simp only []
          rw [hrun, List.filter_cons, if_neg (by rw [hc]; simp)]
theorem deep_of {x : Nd} {K : List Key} (hK : ∀ k ∈ K, KOk k) (hI : In K x) (hN : NOk x) : Deep x := fun k hk => Nat.le_trans (hI.dep_ge hK hN hk) (dep_le hK (hN.ok k hk))
theorem l0_ev (keep : Nat) {q X : List Nd} (hB : Bfs q X) : ∀ (Q : List S119) (i : Nat) (Lt Mo Fi : ByteArray) (Rs : List ByteArray), (Q.drop i).map ndq = q → i ≤ Q.length → (∀ s ∈ Q, Nq s) → (∀ x ∈ X, NOk x ∧ Deep x) →
    Lt.size + (brs X).length ≤ 900000 → Mo.size + (brs X).length ≤ 900000 → Fi.size + (brs X).length ≤ 900000 → Rs.length + (brs X).length ≤ 900000 → i + X.length ≤ 900000 →
    ∃ Lt' Mo' Fi' Rs', Ev (fun k => impl_sieveOf.l0 k Lt Mo Fi Rs Q (keep : Int) (i : Int)) (Lt', Mo', Fi', Rs', (keep : Int)) ∧
      L Lt' = L Lt ++ encL X ∧ L Mo' = L Mo ++ encM X ∧ L Fi' = L Fi ++ encF X ∧ LL Rs' = LL Rs ++ encR keep X := by
  induction hB with
  | nil =>
    intro Q i Lt Mo Fi Rs h0 hi _ _ _ _ _ _ _
    have : Q.drop i = [] := List.map_eq_nil_iff.1 h0
    have hl := congrArg List.length this
    rw [List.length_drop] at hl
    simp only [List.length_nil] at hl
    refine ⟨Lt, Mo, Fi, Rs, ev_succ ?_, ?_, ?_, ?_, ?_⟩
    · simp only [impl_sieveOf.l0]
      exact ev_neg (by omega) (ev_some rfl)
    all_goals simp [encL, encM, encF, encR, brs]
  | cons hX ih =>
    rename_i x q X
    intro Q i Lt Mo Fi Rs h0 hi hN hO z1 z2 z3 z4 z5
    cases hQ : Q.drop i with
    | nil => rw [hQ] at h0; cases h0
    | cons s t =>
      rw [hQ, List.map_cons, List.cons.injEq] at h0
      obtain ⟨rfl, h0⟩ := h0
      have hlt : i < Q.length := by
        have := congrArg List.length hQ
        rw [List.length_drop] at this
        simp only [List.length_cons] at this
        omega
      have hsi : Q[i] = s ∧ Q.drop (i + 1) = t := by
        rw [List.drop_eq_getElem_cons hlt, List.cons.injEq] at hQ; exact hQ
      have hs := hN s (by rw [← hsi.1]; exact List.getElem_mem hlt)
      have hx := hO (ndq s) (by simp)
      have hd : s.f1 = ((ndq s).2 : Int) := by show s.f1 = (s.f1.toNat : Int); have := hs.low; omega
      have hd5 := hx.1.deep
      have hlen := hs.sm.len
      have hbl : (bra (ndq s)).length ≤ s.f0.length := by
        rw [bra_length]
        have := runs_length_le (ndq s).2 (ndq s).1
        have e : (ndq s).1.length = s.f0.length := LL_length _
        omega
      rw [brs_cons, List.length_append] at z1 z2 z3 z4
      rw [List.length_cons] at z5
      have hql := bfs_len hX
      rw [List.length_append, ← h0, List.length_map] at hql
      have htl : t.length + (i + 1) = Q.length := by
        have := congrArg List.length hsi.2
        rw [List.length_drop] at this; omega
      obtain ⟨Lt1, Mo1, Fi1, Rs1, n1, e1, a1, a2, a3, a4, a5, a6⟩ := l1_ev keep (ndq s).2 (by omega) (i : Int) s.f0.length s.f0 Q 49 Lt Mo Fi Rs (Nat.le_refl _) hs.sm (fun y hy => hx.2 (L y) (List.mem_map_of_mem hy)) hN (by omega) (by omega) (by omega) (by omega) (by omega)
      have hbr : (LL s.f0, (ndq s).2) = ndq s := rfl
      rw [hbr] at a1 a2 a4 a5
      have hsz : ∀ {a b : ByteArray} {l : List UInt8}, L a = L b ++ l → a.size = b.size + l.length := fun {a b l} h => by rw [size_L, size_L, h, List.length_append]
      have b1 := hsz a1
      have b2 := hsz a2
      have b3 := hsz a3
      have b4 : Rs1.length = Rs.length + (((bra (ndq s)).filter leaf).map (rest keep)).length := by rw [← LL_length, a4, List.length_append, LL_length]
      rw [List.length_map] at b1 b2 b4
      have b6 : (marks 49 (runs (ndq s).2 (LL s.f0)).length).length = (bra (ndq s)).length := by rw [marks_49, fst1_length, bra_length]; rfl
      have b7 := List.length_filter_le leaf (bra (ndq s))
      obtain ⟨Lt', Mo', Fi', Rs', e2, c1, c2, c3, c4⟩ := ih (Q ++ n1) (i + 1) Lt1 Mo1 Fi1 Rs1 (by rw [List.drop_append_of_le_length (by omega), hsi.2, List.map_append, h0, a5]) (by rw [List.length_append]; omega)
        (fun y hy => by
          rcases List.mem_append.1 hy with hy | hy
          · exact hN y hy
          · exact a6 y hy)
        (fun y hy => hO y (by simp [hy])) (by omega) (by omega) (by omega) (by omega) (by omega)
      refine ⟨Lt', Mo', Fi', Rs', ev_succ ?_, ?_, ?_, ?_, ?_⟩
      · simp only [impl_sieveOf.l0]
        have hr : rd_T119 Q (i : Int) = s := by
          show Q.getD i z119 = s
          rw [getD_lt _ hlt]; exact hsi.1
        rw [hr, hd]
        refine ev_pos (by omega) (ev_pos (by omega) (e1 _ ?_))
        rw [w64 (by omega) (by omega)]
        exact e2
      · rw [c1, a1, List.append_assoc]; unfold encL; rw [brs_cons, List.map_append]
      · rw [c2, a2, List.append_assoc]; unfold encM; rw [brs_cons, List.map_append]
      · rw [c3, a3, List.append_assoc, marks_49]; unfold encF; rw [List.flatMap_cons]; rfl
      · rw [c4, a4, List.append_assoc]; unfold encR; rw [brs_cons, List.filter_append, List.map_append]
theorem isKeep_eq (a : Int) : impl_isKeep.f a = some (decide (keepOk a)) := by
  unfold impl_isKeep.f
  rw [impl_in_eq]; rfl
theorem impl_SieveOf_ev (l : List ByteArray) (hl : SzL l) (a : Int) : Ev (fun k => impl_SieveOf.f k l a) (sieveV (LL l) a) := by
  unfold impl_SieveOf.f sieveV
  refine Ev.bind (impl_KeysOk_ev l hl) ?_
  by_cases c : keysB (LL l) = true
  · refine ev_pos c (ev_bindc (isKeep_eq a) ?_)
    by_cases g : keepOk a
    · rw [if_pos ⟨c, g⟩]
      refine ev_pos (decide_eq_true g) ?_
      have hk := keysB_iff.1 c
      obtain ⟨hL, hX⟩ := lvls_is hk
      have hfew := hk.few
      have hb := brs_few hL hfew hX
      obtain ⟨keep, rfl⟩ : ∃ n : Nat, a = (n : Int) := ⟨a.toNat, by have := g.1; omega⟩
      obtain ⟨Lt, Mo, Fi, Rs, e, a1, a2, a3, a4⟩ := l0_ev keep hL.bfs [⟨l, 0⟩] 0 (⟨#[]⟩ : ByteArray) (⟨#[]⟩ : ByteArray) (⟨#[]⟩ : ByteArray) [] rfl (by simp)
        (fun s hs => by
          rw [List.mem_singleton.1 hs]
          exact ⟨ksok_sm hk, by show (0 : Int) ≤ 0; omega, by show (0 : Int) ≤ 900; omega⟩)
        (fun x hx => ⟨(hL.nodes x hx).2, deep_of hk.ok (hL.nodes x hx).1 (hL.nodes x hx).2⟩) (by show 0 + _ ≤ _; omega) (by show 0 + _ ≤ _; omega) (by show 0 + _ ≤ _; omega) (by show 0 + _ ≤ _; omega) (by omega)
      refine Ev.bind (a := (Lt, Mo, Fi, Rs, (keep : Int))) (by unfold impl_sieveOf.f; exact e) (ev_some (encT_of ?_ ?_ ?_ ?_))
      · rw [a1]; rfl
      · rw [a2]; rfl
      · rw [a3]; rfl
      · rw [a4]; rfl
    · rw [if_neg (fun h => g h.2)]
      exact ev_neg (by simp [g]) (ev_some rfl)
  · refine ev_neg c ?_
    rw [if_neg (fun h => c h.1)]
    exact ev_some rfl
end Go.Proofs.Ytonagfbadoacjaa.Pb
end
section
set_option linter.unusedVariables false
set_option linter.unusedSimpArgs false
namespace Go.Proofs.Ytonagfbadoacjaa.Pb
open Go Go.RowKit Go.Proofs.YtonagfbadoacjaaW.PrintWords Go.Proofs.YtonagfbadoacjaaW.PrintLast Go.Proofs.YtonagfbadoacjaaW.PrintMore Go.Proofs.Ytonagfbadoacjaa.Trie Go.Proofs.Ytonagfbadoacjaa.Q
theorem strOfNums_one (x : Int) : (strOfNums [x]).size = 1 := by rfl
theorem markText_l0 : ∀ (n : Nat) (x3 : ByteArray), x3.size + n ≤ 1000000000 → ∃ r, Ev (fun k => laws_markText.l0 k (n : Int) x3) r := by
  intro n
  induction n using Nat.strongRecOn with
  | _ n ih =>
    intro x3 h
    by_cases c : (n : Int) > 0
    · have hd : wrap64 (Int.tdiv (n : Int) 10) = ((n / 10 : Nat) : Int) := by
        rw [Int.tdiv_eq_ediv_of_nonneg (by omega), w64 (by omega) (by omega)]; omega
      have hs := strOfNums_one ((wrap64 (48 + (Int.tmod (n : Int) 10))) % 256)
      obtain ⟨r, hr⟩ := ih (n / 10) (by omega) ((strOfNums [(wrap64 (48 + (Int.tmod (n : Int) 10))) % 256]) ++ x3) (by rw [ByteArray.size_append, hs]; omega)
      refine ⟨r, ev_succ ?_⟩
      simp only [laws_markText.l0]
      refine ev_pos c (ev_bindc rfl (ev_pos (by rw [hs]; omega) ?_))
      rw [hd]; exact hr
    · refine ⟨(⟨#[109]⟩ : ByteArray) ++ x3, ev_succ ?_⟩
      simp only [laws_markText.l0]
      exact ev_neg c (ev_pos (by omega) (ev_some rfl))
theorem markText_ev : ∃ t : Nat → ByteArray, ∀ n : Nat, n ≤ 100000000 → Ev (fun k => laws_markText.f k (n : Int)) (t n) := by
  have h : ∀ n : Nat, ∃ r, n ≤ 100000000 → Ev (fun k => laws_markText.f k (n : Int)) r := by
    intro n
    by_cases q : n ≤ 100000000
    · unfold laws_markText.f
      by_cases c : (n : Int) ≤ 0
      · exact ⟨_, fun _ => ev_pos c (ev_some rfl)⟩
      · obtain ⟨r, hr⟩ := markText_l0 n (⟨#[]⟩ : ByteArray) (by show 0 + n ≤ 1000000000; omega)
        exact ⟨r, fun _ => ev_neg c hr⟩
    · exact ⟨⟨#[]⟩, fun z => absurd z q⟩
  exact ⟨fun n => Classical.choose (h n), fun n hn => Classical.choose_spec (h n) hn⟩
theorem mark_l0 (t : Nat → ByteArray) (ht : ∀ n : Nat, n ≤ 100000000 → Ev (fun k => laws_markText.f k (n : Int)) (t n)) (N : Nat) (hN : N ≤ 2000000) (d : Nat) : ∀ (i : Nat) (x0 : List ByteArray), x0.length = N → i ≤ N → N - i = d → (∀ j, j < i → x0.getD j ByteArray.empty = t (j + 1)) →
    ∃ m, Ev (fun k => laws_markStringS.l0 k x0 ((i + 1 : Nat) : Int) (i : Int)) (((N + 1 : Nat) : Int), m) ∧ m.length = N ∧ ∀ j, j < N → m.getD j ByteArray.empty = t (j + 1) := by
  induction d with
  | zero =>
    intro i x0 h0 h1 h2 h3
    obtain rfl : i = N := by omega
    refine ⟨x0, ev_succ ?_, h0, h3⟩
    simp only [laws_markStringS.l0]
    exact ev_neg (by omega) (ev_some rfl)
  | succ d ih =>
    intro i x0 h0 h1 h2 h3
    obtain ⟨m, hm, g⟩ := ih (i + 1) (x0.set i (t (i + 1))) (by simp [h0]) (by omega) (by omega) (by
      intro j hj
      rw [List.getD_eq_getElem?_getD, List.getElem?_set]
      by_cases e : i = j
      · subst e
        rw [if_pos rfl, if_pos (by omega)]; rfl
      · rw [if_neg e, ← List.getD_eq_getElem?_getD]
        exact h3 j (by omega))
    refine ⟨m, ev_succ ?_, g⟩
    simp only [laws_markStringS.l0]
    refine ev_pos (by omega) (Ev.bind (ht (i + 1) (by omega)) (ev_pos (by omega) ?_))
    rw [w64 (by omega) (by omega), w64 (by omega) (by omega), Int.toNat_natCast]
    exact hm
theorem held_l0 (t : Nat → ByteArray) (ht : ∀ n : Nat, n ≤ 100000000 → Ev (fun k => laws_markText.f k (n : Int)) (t n)) (m : List ByteArray) (hN : m.length ≤ 2000000) (hm : ∀ j, j < m.length → m.getD j ByteArray.empty = t (j + 1)) (d : Nat) : ∀ i : Nat, i ≤ m.length → m.length - i = d →
    Ev (fun k => laws_heldStringS.l0 k m ((i + 1 : Nat) : Int) (i : Int)) ((m.length + 1 : Nat) : Int) := by
  induction d with
  | zero =>
    intro i h1 h2
    obtain rfl : i = m.length := by omega
    refine ev_succ ?_
    simp only [laws_heldStringS.l0]
    exact ev_neg (by omega) (ev_some rfl)
  | succ d ih =>
    intro i h1 h2
    refine ev_succ ?_
    simp only [laws_heldStringS.l0]
    have hg : rdOf ByteArray.empty m (i : Int) = m.getD i ByteArray.empty := rfl
    refine ev_pos (by omega) (ev_pos (by omega) (Ev.bind (ht (i + 1) (by omega)) ?_))
    rw [hg, hm i (by omega), w64 (by omega) (by omega), w64 (by omega) (by omega)]
    exact ev_pos rfl (ih (i + 1) (by omega) (by omega))
theorem mark_ev (l : List ByteArray) (hn : l.length ≤ 2000000) : ∃ m, Ev (fun k => laws_markStringS.f k l 1) (((l.length + 1 : Nat) : Int), m) ∧ Ev (fun k => laws_heldStringS.f k m 1) ((l.length + 1 : Nat) : Int) := by
  obtain ⟨t, ht⟩ := markText_ev
  obtain ⟨m, hm, hl, g⟩ := mark_l0 t ht l.length hn l.length 0 l rfl (by omega) (by omega) (by omega)
  refine ⟨m, hm, ?_⟩
  have := held_l0 t ht m (by omega) (by rw [hl]; exact g) m.length 0 (by omega) (by omega)
  rw [hl] at this
  exact this
end Go.Proofs.Ytonagfbadoacjaa.Pb
end
section
set_option linter.unusedVariables false
set_option linter.unusedSimpArgs false
namespace Go.Proofs.Ytonagfbadoacjaa.Pb
open Go Go.RowKit Go.Proofs.YtonagfbadoacjaaW.PrintWords Go.Proofs.YtonagfbadoacjaaW.PrintLast Go.Proofs.YtonagfbadoacjaaW.PrintMore Go.Proofs.Ytonagfbadoacjaa.Trie Go.Proofs.Ytonagfbadoacjaa.Q
theorem sieveV_few (K : List Key) (a : Int) : (sieveV K a).2.2.2.1.length ≤ 2000000 := by
  unfold sieveV
  split
  · rename_i h
    have hk := keysB_iff.1 h.1
    obtain ⟨h1, h2⟩ := lvls_is hk
    have hb := brs_few h1 hk.few h2
    unfold encT
    simp only [List.length_map]
    unfold encR
    rw [List.length_map]
    have := List.length_filter_le leaf (brs (lvls K))
    omega
  · simp
theorem eq_ev2 (l : List ByteArray) (hn : l.length ≤ 2000000) : Ev (fun k => laws_eqStringS.f k l l) true := by
  unfold laws_eqStringS.f
  have h0 : ∀ d i : Nat, i ≤ l.length → l.length - i = d → Ev (fun k => laws_eqStringS.l0 k l l (i : Int)) true := by
    intro d
    induction d with
    | zero =>
      intro i h1 h2
      refine ev_succ ?_
      simp only [laws_eqStringS.l0]
      exact ev_neg (by omega) (ev_some rfl)
    | succ d ih =>
      intro i h1 h2
      refine ev_succ ?_
      simp only [laws_eqStringS.l0]
      refine ev_pos (by omega) (ev_pos (by omega) (ev_pos (by omega) (ev_pos (by simp) ?_)))
      rw [w64 (by omega) (by omega)]
      exact ih (i + 1) (by omega) (by omega)
  exact ev_pos rfl (h0 _ 0 (by omega) rfl)
theorem eqSieve_ev (t : SvT) (hf : t.2.2.2.1.length ≤ 2000000) : Ev (fun k => laws_eqSieve.f k t.1 t.2.1 t.2.2.1 t.2.2.2.1 t.2.2.2.2.1 t.1 t.2.1 t.2.2.1 t.2.2.2.1 t.2.2.2.2.1) true := by
  unfold laws_eqSieve.f
  exact ev_pos rfl (ev_pos rfl (ev_pos rfl (Ev.bind (eq_ev2 _ hf) (ev_pos rfl (ev_pos rfl (ev_some rfl))))))
end Go.Proofs.Ytonagfbadoacjaa.Pb
end
section
set_option linter.unusedVariables false
set_option linter.unusedSimpArgs false
namespace Go.Proofs.Ytonagfbadoacjaa.Pure
open Go Go.RowKit Go.Proofs.YtonagfbadoacjaaW.PrintWords Go.Proofs.YtonagfbadoacjaaW.PrintLast Go.Proofs.YtonagfbadoacjaaW.PrintMore Go.Proofs.Ytonagfbadoacjaa.Trie Go.Proofs.Ytonagfbadoacjaa.Q Go.Proofs.Ytonagfbadoacjaa.Pb
theorem FnExactSieveOf (l : List ByteArray) (a : Int) (hn : l.length ≤ 9223372036854775807) (hs : ∀ s ∈ l, s.size ≤ 9223372036854775807) {p : Prop} (_ : p) : ∃ k, laws_FnExactSieveOf.f k l a = some true := by
  refine Ev.rounds ?_
  unfold laws_FnExactSieveOf.f
  obtain ⟨z, hr, g⟩ := sz_ev l hn hs
  refine Ev.bind hr ?_
  by_cases c : z < 0
  · exact ev_pos c (ev_some rfl)
  · have g := g (by omega)
    have hz := szl_small g
    have i1 := spec_SieveOf_ev l hz a
    have i2 := impl_SieveOf_ev l hz a
    have hf := sieveV_few (LL l) a
    generalize sieveV (LL l) a = t at i1 i2 hf
    obtain ⟨m, hm, _⟩ := mark_ev l (by omega)
    obtain ⟨m', hm', hh'⟩ := mark_ev t.2.2.2.1 hf
    have tl := to_ev l g.1
    have eq := eqSieve_ev t hf
    have hms : Ev (fun k => laws_markSieve.f k t.1 t.2.1 t.2.2.1 t.2.2.2.1 t.2.2.2.2.1 1) (((t.2.2.2.1.length + 1 : Nat) : Int), m') := by
      unfold laws_markSieve.f
      exact Ev.bind hm' (ev_some rfl)
    have hhs : Ev (fun k => laws_heldSieve.f k t.1 t.2.1 t.2.2.1 m' t.2.2.2.2.1 1) ((t.2.2.2.1.length + 1 : Nat) : Int) := by
      unfold laws_heldSieve.f
      exact Ev.bind hh' (ev_neg (by omega) (ev_some rfl))
    refine ev_neg c (Ev.bind tl (Ev.bind i1 (Ev.bind tl (Ev.bind i2 (Ev.bind eq (ev_pos rfl (ev_succ ?_)))))))
    simp only [laws_FnExactSieveOf.j0]
    refine ev_neg (by simp) (Ev.bind tl (Ev.bind (eq_ev l g.1) (ev_pos rfl (Ev.bind hm (ev_neg (by simp only []; omega) (Ev.bind eq (ev_pos rfl (ev_succ ?_))))))))
    simp only [laws_FnExactSieveOf.j1]
    refine ev_neg (by simp) (Ev.bind hms (Ev.bind hhs (ev_neg (by omega) (ev_pos rfl (Ev.bind tl (Ev.bind i2 (Ev.bind eq (ev_pos rfl (ev_succ ?_)))))))))
    simp only [laws_FnExactSieveOf.j2]
    exact ev_neg (by simp) (Ev.bind hhs (ev_neg (by omega) (ev_pos rfl (ev_some rfl))))
end Go.Proofs.Ytonagfbadoacjaa.Pure
end
