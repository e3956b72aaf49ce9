/- What the law FnExactKeysSort needs, part 4: the kit's printed words, the printed functions with their proofs, and plain facts on them. -/
import Derived.Test.YtonagfbadoacjaaBFnExactKeysSortc
section
namespace Go.Proofs.Ytonagfbadoacjaa.Q
open Go.RowKit Go.Proofs.YtonagfbadoacjaaW.PrintWords Go.Proofs.YtonagfbadoacjaaW.PrintLast Go.Proofs.YtonagfbadoacjaaW.PrintMore
attribute [local go_sem] max2_int min2_int max_two min_two max_three min_three max_four min_four   
set_option linter.unusedVariables false
set_option linter.unusedSimpArgs false
def spec_l71Mess.l0 : Nat → List ByteArray → Int → List Int → Int → Option (List ByteArray × Int)
  | 0, _, _, _, _ => none
  | k + 1, x3, x4, x1000, x1001 => if x4 < 30 then ((some (([(⟨#[]⟩ : ByteArray), (⟨#[97]⟩ : ByteArray), (⟨#[98]⟩ : ByteArray), (⟨#[99]⟩ : ByteArray), (⟨#[100]⟩ : ByteArray)] : List ByteArray) : List ByteArray)).bind fun y597 => (if 0 ≤ (Int.tmod x4 5) then (if (Int.tmod x4 5) < (y597.length : Int) then (if 1 + (rdOf ByteArray.empty y597 (Int.tmod x4 5)).size ≤ 9223372036854775807 then ((some (([(⟨#[]⟩ : ByteArray), (⟨#[97]⟩ : ByteArray), (⟨#[98]⟩ : ByteArray), (⟨#[99]⟩ : ByteArray), (⟨#[100]⟩ : ByteArray), (⟨#[100, 97]⟩ : ByteArray)] : List ByteArray) : List ByteArray)).bind fun y601 => (if 0 ≤ (wrap64 (Int.tdiv x4 5)) then (if (wrap64 (Int.tdiv x4 5)) < (y601.length : Int) then (if ((⟨#[100]⟩ : ByteArray) ++ (rdOf ByteArray.empty y597 (Int.tmod x4 5))).size + (rdOf ByteArray.empty y601 (wrap64 (Int.tdiv x4 5))).size ≤ 9223372036854775807 then ((spec_l2Put.f k x3 (((⟨#[100]⟩ : ByteArray) ++ (rdOf ByteArray.empty y597 (Int.tmod x4 5))) ++ (rdOf ByteArray.empty y601 (wrap64 (Int.tdiv x4 5))))).bind fun t605 => (spec_l71Mess.l0 k t605 (wrap64 (x4 + 1)) x1000 x1001)) else (none)) else (none)) else (none))) else (none)) else (none)) else (none))) else (some (x3, x1001))
def spec_l71Mess.f (k : Nat) (s0_0 : List Int) (s0_1 : Int) : Option (List ByteArray × Int) := (spec_l71Keys.f k s0_0 s0_1 8).bind fun bt576 => ((spec_l6Rd_pick.f k s0_0 bt576.2 5).bind fun bt580 => (if bt580.1 = 0 then (if bt576.1.length < 8796093022208 then (some ((bt576.1 ++ [(⟨#[97]⟩ : ByteArray)]), bt580.2)) else (none)) else (if bt580.1 = 1 then ((some (([(⟨#[120]⟩ : ByteArray), (⟨#[101]⟩ : ByteArray)] : List ByteArray) : List ByteArray)).bind fun y585 => (if bt576.1.length + y585.length < 8796093022208 then (some ((bt576.1 ++ y585), bt580.2)) else (none))) else (if bt580.1 = 2 then ((spec_l6Rd_pick.f k s0_0 bt580.2 2).bind fun bt591 => ((spec_l6Many.f k (⟨#[100]⟩ : ByteArray) (wrap64 (5 + bt591.1))).bind fun t593 => (if bt576.1.length < 8796093022208 then (some ((bt576.1 ++ [t593]), bt591.2)) else (none)))) else (if bt580.1 = 3 then (spec_l71Mess.l0 k bt576.1 0 s0_0 bt580.2) else (some (bt576.1, bt580.2)))))))
theorem spec_l71Mess.mono_l : ∀ k, (∀ y0 y1 y2 y3, LeO (spec_l71Mess.l0 k y0 y1 y2 y3) (spec_l71Mess.l0 (k + 1) y0 y1 y2 y3))
  | 0 => fun _ _ _ _ r h => by simp [spec_l71Mess.l0] at h
  | k + 1 => by
    have ih0 := spec_l71Mess.mono_l k
    · intro y0 y1 y2 y3
      unfold spec_l71Mess.l0
      repeat' first
      | (with_reducible exact ih0 _ _ _ _)
      | (with_reducible exact spec_l2Put.mono _ _ _)
      | (with_reducible exact spec_l6Many.mono _ _ _)
      | (with_reducible exact spec_l6Rd_pick.mono _ _ _ _)
      | (with_reducible exact spec_l71Keys.mono _ _ _ _)
      | (with_reducible exact LeO.refl _)
      | (with_reducible exact LeO.none _)
      | (with_reducible refine LeO.ite ?_ ?_)
      | (with_reducible refine LeO.bind ?_ (fun _ => ?_))
      | exact ih0 _ _ _ _
      | exact spec_l2Put.mono _ _ _
      | exact spec_l6Many.mono _ _ _
      | exact spec_l6Rd_pick.mono _ _ _ _
      | exact spec_l71Keys.mono _ _ _ _
      | exact LeO.none _
      | refine LeO.ite ?_ ?_
      | refine LeO.bind ?_ (fun _ => ?_)
theorem spec_l71Mess.mono : ∀ a0 a1 k, LeO (spec_l71Mess.f k a0 a1) (spec_l71Mess.f (k + 1) a0 a1) := by
  intro a0 a1 k
  have ih0 := spec_l71Mess.mono_l k
  unfold spec_l71Mess.f
  repeat' first
      | (with_reducible exact ih0 _ _ _ _)
      | (with_reducible exact spec_l2Put.mono _ _ _)
      | (with_reducible exact spec_l6Many.mono _ _ _)
      | (with_reducible exact spec_l6Rd_pick.mono _ _ _ _)
      | (with_reducible exact spec_l71Keys.mono _ _ _ _)
      | (with_reducible exact LeO.refl _)
      | (with_reducible exact LeO.none _)
      | (with_reducible refine LeO.ite ?_ ?_)
      | (with_reducible refine LeO.bind ?_ (fun _ => ?_))
      | exact ih0 _ _ _ _
      | exact spec_l2Put.mono _ _ _
      | exact spec_l6Many.mono _ _ _
      | exact spec_l6Rd_pick.mono _ _ _ _
      | exact spec_l71Keys.mono _ _ _ _
      | exact LeO.none _
      | refine LeO.ite ?_ ?_
      | refine LeO.bind ?_ (fun _ => ?_)
def spec_l71Mess.T13 : Bool × List (List Nat × List Nat) := (true, [([], []), ([], []), ([], []), ([2], [2]), ([1, 3], [1, 3]), ([4], [4]), ([5], [5]), ([], []), ([], []), ([8], [8]), ([7, 9], [7, 9]), ([10], [10]), ([6, 11], [6, 11]), ([0, 12], [0, 12]), ([13, 13, 0, 1, 2, 3, 4, 5, 6, 7, 8, 9, 10, 11, 12, 13], [0, 13])])
def spec_l71Mess.B13 : List Nat := [0, 0, 0, 4, 14, 30, 62, 0, 0, 256, 896, 1920, 4094, 8191, 16383]
theorem spec_l71Mess.tab13 : rtab .any (opsOf Try.f114 13) = spec_l71Mess.T13 := by kernel_rfl
theorem spec_l71Mess.bits13 : waitsOk spec_l71Mess.T13.2 spec_l71Mess.B13 = true := by kernel_rfl
set_option maxHeartbeats 8000000 in
set_option maxRecDepth 100000 in
theorem spec_l71Mess.calls (k : Nat) (g : Nat) (s0_0 : List Int) (s0_1 : Int) (r1 : List ByteArray) (r2 : Int) (w0 w : World) (hI : IsS109 w0 w g s0_0 s0_1) (hB : Below w0.heap.size w0 w) (h : spec_l71Mess.f k s0_0 s0_1 = some (r1, r2)) :
    Calls Try.prog 114 #[.pointer (some ⟨g, 0, none⟩)] w fun e w' => ∃ v0_ : Value, e = .returned (v0_) ∧ Kd.R Kd.string 9 w' w.heap.size (fun _ => True) v0_ r1 ∧ IsS109 w0 w' g s0_0 r2 ∧ Below w0.heap.size w0 w' ∧ KeepBut w w' g none := by
  have HI0 := Aside0.mk hI
  have HK := Aside0.mk (KeepBut.refl w g none)
  have HL := Aside0.mk hB.size
  clear hI
  have HW0 := Aside0.mk hB.size
  have HB := Aside0.mk hB
  clear hB
  have H : ((spec_l71Keys.f k s0_0 s0_1 8).bind fun bt576 => ((spec_l6Rd_pick.f k s0_0 bt576.2 5).bind fun bt580 => (if bt580.1 = 0 then (if bt576.1.length < 8796093022208 then (some ((bt576.1 ++ [(⟨#[97]⟩ : ByteArray)]), bt580.2)) else (none)) else (if bt580.1 = 1 then ((some (([(⟨#[120]⟩ : ByteArray), (⟨#[101]⟩ : ByteArray)] : List ByteArray) : List ByteArray)).bind fun y585 => (if bt576.1.length + y585.length < 8796093022208 then (some ((bt576.1 ++ y585), bt580.2)) else (none))) else (if bt580.1 = 2 then ((spec_l6Rd_pick.f k s0_0 bt580.2 2).bind fun bt591 => ((spec_l6Many.f k (⟨#[100]⟩ : ByteArray) (wrap64 (5 + bt591.1))).bind fun t593 => (if bt576.1.length < 8796093022208 then (some ((bt576.1 ++ [t593]), bt591.2)) else (none)))) else (if bt580.1 = 3 then (spec_l71Mess.l0 k bt576.1 0 s0_0 bt580.2) else (some (bt576.1, bt580.2)))))))) = some (r1, r2) := h
  clear h
  replace H := Option.bind_eq_some_iff.mp H
  obtain ⟨⟨t576, t579⟩, A20, H⟩ := H
  (try dsimp only at H)
  have A2 := Aside0.mk A20
  clear A20
  replace H := Option.bind_eq_some_iff.mp H
  obtain ⟨⟨t580, t581⟩, A30, H⟩ := H
  (try dsimp only at H)
  have A3 := Aside0.mk A30
  clear A30
  go_enter Try.func114, Try.ntmps114
  go_upto_if 9 with (first | ((with_reducible refine gate_callee (f := 112) rfl ?_); refine goesL_ (some 6) rfl rfl Try.func112 (by kernel_rfl) rfl #[.pointer (some ⟨g, 0, none⟩), .int .i64 8] rfl (by (try simp only [List.map_toArray, List.map_cons, List.map_nil]); first | done | rfl | (simp only [List.length_drop, List.length_take]; rfl)) ?_; (with_reducible refine (spec_l71Keys.calls k g s0_0 s0_1 8 t576 t579 w0 _ ?side1 ?side2 A2.out).mono ?_); (case side1 => repeat (first | (with_reducible first | exact HI0.out | apply IsS109.alloc | apply IsS109.drewN | apply IsS109.drew | apply IsS109.set_1) | exact HI0.out)); (case side2 => repeat (first | (with_reducible first | exact HB.out | apply below_alloc | apply pw_below_drewN | apply below_drew1 | refine below_set ?_ (IsS109.ge HI0.out)) | exact HB.out)); rintro e w4 ⟨v577, rfl, ho0, hi, hb, hk⟩; refine ⟨_, rfl, ?_⟩; have n0_ := Aside0.mk (Kd.R_lower ho0 (keep_size (w := w) (g := g) (row := none) (by repeat (first | (with_reducible first | exact HK.out | apply KeepBut.set_ | apply keep_drewN | apply keep_drew | apply keep_alloc) | exact HK.out)))); have n1_ := Aside0.mk (KeepBut.trans (by repeat (first | (with_reducible first | exact HK.out | apply KeepBut.set_ | apply keep_drewN | apply keep_drew | apply keep_alloc) | exact HK.out)) hk (.inl rfl)); have n2_ := Aside0.mk (hb); have n3_ := Aside0.mk (hi); clear HK; clear HB; clear HI0; have HO578 := n0_; have HK := n1_; have HB := n2_; have HI0 := n3_; clear n0_ n1_ n2_ n3_; (try clear hb); (try clear hb2); (try clear hk); (try clear hi); (try clear ho0)) | ((with_reducible refine gate_callee (f := 113) rfl ?_); refine goesL_ (some 8) rfl rfl Try.func113 (by kernel_rfl) rfl #[.pointer (some ⟨g, 0, none⟩), .int .i64 5] rfl (by (try simp only [List.map_toArray, List.map_cons, List.map_nil]); first | done | rfl | (simp only [List.length_drop, List.length_take]; rfl)) ?_; (with_reducible refine (spec_l6Rd_pick.calls k g s0_0 t579 5 t580 t581 w0 _ ?side1 ?side2 A3.out).mono ?_); (case side1 => repeat (first | (with_reducible first | exact HI0.out | apply IsS109.alloc | apply IsS109.drewN | apply IsS109.drew | apply IsS109.set_1) | exact HI0.out)); (case side2 => repeat (first | (with_reducible first | exact HB.out | apply below_alloc | apply pw_below_drewN | apply below_drew1 | refine below_set ?_ (IsS109.ge HI0.out)) | exact HB.out)); rintro e w5 ⟨rfl, hi, hb, hk⟩; refine ⟨_, rfl, ?_⟩; have n0_ := Aside0.mk (Kd.R_mono (Kd.R_keep (IsS109.apart (show IsS109 w0 _ g s0_0 t579 from by repeat (first | (with_reducible first | exact HI0.out | apply IsS109.alloc | apply IsS109.drewN | apply IsS109.drew | apply IsS109.set_1) | exact HI0.out)) (by (with_reducible repeat (first | apply Kd.R_alloc | apply Kd.R_drewN | apply Kd.R_drew)); exact HO578.out) (by decide)) hk (fun _ h => h.2)) (fun _ h => h.1)); have n1_ := Aside0.mk (KeepBut.trans (by repeat (first | (with_reducible first | exact HK.out | apply KeepBut.set_ | apply keep_drewN | apply keep_drew | apply keep_alloc) | exact HK.out)) hk (.inl rfl)); have n2_ := Aside0.mk (hb); have n3_ := Aside0.mk (hi); clear HO578; clear HK; clear HB; clear HI0; have HO578 := n0_; have HK := n1_; have HB := n2_; have HI0 := n3_; clear n0_ n1_ n2_ n3_; (try clear hb); (try clear hb2); (try clear hk); (try clear hi)))
  by_cases c6 : t580 = 0
  · rw [if_pos c6] at H
    have c6b0 : (t580 == 0) = true := beq_iff_eq.mpr c6
    have c6b1 : (t580 != 0) = false := bne_eq_false_iff_eq.mpr c6
    clear c6
    (first | rw [c6b0] | (simp only [i64_w, i32_w]; rw [c6b0]) | simp only [*, Bool.not_true, Bool.not_false] | skip)
    by_cases c7 : t576.length < 8796093022208
    · rw [if_pos c7] at H
      have LMc7 := Aside0.mk c7
      clear c7
      obtain ⟨y582, hy582⟩ : ∃ y_ : List ByteArray, y_ = (t576 ++ [(⟨#[97]⟩ : ByteArray)]) := ⟨_, rfl⟩
      replace H : (some (y582, t581)) = some (r1, r2) := by first | (rw [hy582]; with_reducible exact H) | (have H2_ := (Option.bind_some _ _).symm.trans H; rw [hy582]; with_reducible exact H2_) | (have H2_ := (Option.bind_some _ _).symm.trans H; with_reducible exact H2_) | with_reducible exact H | (rw [hy582]; exact H) | exact H
      have Ny582 := Aside0.mk hy582
      clear hy582
      simp only [Option.some.injEq, Prod.mk.injEq] at H
      obtain ⟨rfl, rfl⟩ := H
      go_wp2_with (first | ((with_reducible refine gate_builtin (b := .append) (xs := #[.tmp 11, .tmp 12]) rfl ?_); at_builtin; refine Kd.R_append Kd.string w.heap.size rfl (.tmp 11) (.tmp 12) 26 9 (.string ⟨#[]⟩) 16 rfl Try.underlying26 info9 rfl (by decide) (by omega) v577 t576 (⟨#[97]⟩ : ByteArray) [.string (⟨#[97]⟩ : ByteArray)] (fun _ => True) (fun _ => False) rfl rfl ?aP (fun _ hk => hk.elim) ?aF ?aO (Below.refl _ _) ?aS ?aL ?_; (case aP => exact rfl); (case aF => exact (fun _ _ => trivial)); (case aO => exact (by (with_reducible repeat (first | apply Kd.R_alloc | apply Kd.R_drewN | apply Kd.R_drew)); exact HO578.out)); (case aS => exact (keep_size (w := w) (g := g) (row := none) (by repeat (first | (with_reducible first | exact HK.out | apply KeepBut.set_ | apply keep_drewN | apply keep_drew | apply keep_alloc) | exact HK.out)))); (case aL => have := LMc7.out; omega); intro v583 w8 ho hb hg hat; rw [← Ny582.out] at ho; have n0_ := Aside0.mk (IsS109.grown (by repeat (first | (with_reducible first | exact HI0.out | apply IsS109.alloc | apply IsS109.drewN | apply IsS109.drew | apply IsS109.set_1) | exact HI0.out)) hg (IsS109.own_ne HI0.out HO578.out (by decide))); have n1_ := Aside0.mk (below_weaken (by repeat (first | (with_reducible first | exact HB.out | apply below_alloc | apply pw_below_drewN | apply below_drew1 | refine below_set ?_ (IsS109.ge HI0.out)) | exact HB.out)) HL.out hb); have n2_ := Aside0.mk (KeepBut.trans (by repeat (first | (with_reducible first | exact HK.out | apply KeepBut.set_ | apply keep_drewN | apply keep_drew | apply keep_alloc) | exact HK.out)) (KeepBut.of_grown hg g) (Kd.R_base2 HO578.out)); have n3_ := Aside0.mk (ho); clear HI0; clear HB; clear HK; clear HO578; have HI0 := n0_; have HB := n1_; have HK := n2_; have HO584 := n3_; clear n0_ n1_ n2_ n3_; clear ho hb hg hat))
      go_ret
      exact ⟨_, by first | rfl | (simp [errW_none, errW_some] <;> rfl) | (simp [*, errW_none, errW_some] <;> rfl), by (with_reducible repeat (first | apply Kd.R_alloc | apply Kd.R_drewN | apply Kd.R_drew)); exact HO584.out, by repeat (first | (with_reducible first | exact HI0.out | apply IsS109.alloc | apply IsS109.drewN | apply IsS109.drew | apply IsS109.set_1) | exact HI0.out), by repeat (first | (with_reducible first | exact HB.out | apply below_alloc | apply pw_below_drewN | apply below_drew1 | refine below_set ?_ (IsS109.ge HI0.out)) | exact HB.out), by repeat (first | (with_reducible first | exact HK.out | apply KeepBut.set_ | apply keep_drewN | apply keep_drew | apply keep_alloc) | exact HK.out)⟩
    · rw [if_neg c7] at H
      exact absurd H (by simp)
  · rw [if_neg c6] at H
    have c6b0 : (t580 == 0) = false := beq_eq_false_iff_ne.mpr c6
    have c6b1 : (t580 != 0) = true := bne_iff_ne.mpr c6
    (first | rw [c6b0] | (simp only [i64_w, i32_w]; rw [c6b0]) | simp only [*, Bool.not_true, Bool.not_false] | skip)
    by_cases c9 : t580 = 1
    · rw [if_pos c9] at H
      have c9b0 : (t580 == 1) = true := beq_iff_eq.mpr c9
      have c9b1 : (t580 != 1) = false := bne_eq_false_iff_eq.mpr c9
      clear c9
      obtain ⟨y585, hy585⟩ : ∃ y_ : List ByteArray, y_ = (([(⟨#[120]⟩ : ByteArray), (⟨#[101]⟩ : ByteArray)] : List ByteArray)) := ⟨_, rfl⟩
      replace H : (if t576.length + y585.length < 8796093022208 then (some ((t576 ++ y585), t581)) else (none)) = some (r1, r2) := by first | (rw [hy585]; with_reducible exact H) | (have H2_ := (Option.bind_some _ _).symm.trans H; rw [hy585]; with_reducible exact H2_) | (have H2_ := (Option.bind_some _ _).symm.trans H; with_reducible exact H2_) | with_reducible exact H | (rw [hy585]; exact H) | exact H
      have Ny585 := Aside0.mk hy585
      clear hy585
      by_cases c10 : t576.length + y585.length < 8796093022208
      · rw [if_pos c10] at H
        have LMc10 := Aside0.mk c10
        clear c10
        obtain ⟨y588, hy588⟩ : ∃ y_ : List ByteArray, y_ = (t576 ++ y585) := ⟨_, rfl⟩
        replace H : (some (y588, t581)) = some (r1, r2) := by first | (rw [hy588]; with_reducible exact H) | (have H2_ := (Option.bind_some _ _).symm.trans H; rw [hy588]; with_reducible exact H2_) | (have H2_ := (Option.bind_some _ _).symm.trans H; with_reducible exact H2_) | with_reducible exact H | (rw [hy588]; exact H) | exact H
        have Ny588 := Aside0.mk hy588
        clear hy588
        simp only [Option.some.injEq, Prod.mk.injEq] at H
        obtain ⟨rfl, rfl⟩ := H
        go_wp2_with (first | ((with_reducible refine gate_dst (N := 17) rfl ?_); refine Kd.R_lit Kd.string _ 9 ?hg (N := 17) ?hd (xs := ([(⟨#[120]⟩ : ByteArray), (⟨#[101]⟩ : ByteArray)] : List ByteArray)) (inner := [.string (⟨#[120]⟩ : ByteArray), .string (⟨#[101]⟩ : ByteArray)]) (ok := fun _ => True) (okp := fun _ => True) ?hr ?hp (fun _ hk => hk) trivial (Below.refl _ _) (Nat.le_refl _) (by simp) ?_; (case hd => rfl); (case hg => rfl); (case hr => first | (go_simp; done) | (go_simp; rfl)); (case hp => exact (Reps.one (show Kd.M Kd.string _ _ _ (⟨#[120]⟩ : ByteArray) [.string (⟨#[120]⟩ : ByteArray)] from rfl) (Reps.one (show Kd.M Kd.string _ _ _ (⟨#[101]⟩ : ByteArray) [.string (⟨#[101]⟩ : ByteArray)] from rfl) (Reps.none _ _)))); intro v586 w11 ho12 hb hg_ hnew_; clear hg_ hnew_; (first | rw [← Ny585.out] at ho12 | (simp only [Int.reduceToNat] at ho12; rw [← Ny585.out] at ho12)); have n0_ := Aside0.mk (Kd.R_elder' (by (with_reducible repeat (first | apply Kd.R_alloc | apply Kd.R_drewN | apply Kd.R_drew)); exact HO578.out) (Kd.R_base ho12) hb); have n1_ := Aside0.mk (Kd.R_lower (Kd.R_new' ho12 (Kd.R_lt (by (with_reducible repeat (first | apply Kd.R_alloc | apply Kd.R_drewN | apply Kd.R_drew)); exact HO578.out))) (keep_size (w := w) (g := g) (row := none) (by repeat (first | (with_reducible first | exact HK.out | apply KeepBut.set_ | apply keep_drewN | apply keep_drew | apply keep_alloc) | exact HK.out)))); have n2_ := Aside0.mk (IsS109.below (by repeat (first | (with_reducible first | exact HI0.out | apply IsS109.alloc | apply IsS109.drewN | apply IsS109.drew | apply IsS109.set_1) | exact HI0.out)) hb); have n3_ := Aside0.mk (KeepBut.trans (by repeat (first | (with_reducible first | exact HK.out | apply KeepBut.set_ | apply keep_drewN | apply keep_drew | apply keep_alloc) | exact HK.out)) (KeepBut.of_below hb g none) (.inl rfl)); have n4_ := Aside0.mk (below_step (by repeat (first | (with_reducible first | exact HB.out | apply below_alloc | apply pw_below_drewN | apply below_drew1 | refine below_set ?_ (IsS109.ge HI0.out)) | exact HB.out)) hb); clear HO578; clear HI0; clear HK; clear HB; have HO578 := n0_; have HO587 := n1_; have HI0 := n2_; have HK := n3_; have HB := n4_; clear n0_ n1_ n2_ n3_ n4_; clear hb ho12; obtain ⟨Ao14, co14, eo14⟩ := Kd.R_slice HO587.out; subst eo14) | ((with_reducible refine gate_builtin (b := .append) (xs := #[.tmp 16, .tmp 17]) rfl ?_); at_builtin; refine Kd.R_append_rows Kd.string w.heap.size rfl (.tmp 16) (.tmp 17) 26 9 (.string ⟨#[]⟩) 16 rfl Try.underlying26 info9 rfl (by decide) (by omega) v577 t576 y585 _ _ _ (fun k_ => some k_ ≠ (.slice Ao14 y585.length co14 : Value).ownBlock) (fun _ => False) rfl rfl ?aO ?aR (fun _ _ h => h) (fun _ h => h.elim) ?aF (Below.refl _ _) ?aS ?aL ?_; (case aR => repeat (first | exact (Kd.R_reads' HO587.out).2.2 | (with_reducible refine Kd.C_alloc ?_ _) | (with_reducible refine Kd.C_drewN ?_ _) | (with_reducible refine Kd.C_drew ?_))); (case aF => exact (fun k_ hk => Kd.fresh' (Kd.R_lt (by (with_reducible repeat (first | apply Kd.R_alloc | apply Kd.R_drewN | apply Kd.R_drew)); exact HO587.out)) k_ hk)); (case aO => exact (by (with_reducible repeat (first | apply Kd.R_alloc | apply Kd.R_drewN | apply Kd.R_drew)); exact Kd.R_mono HO578.out (fun _ hk => hk.2))); (case aS => exact (keep_size (w := w) (g := g) (row := none) (by repeat (first | (with_reducible first | exact HK.out | apply KeepBut.set_ | apply keep_drewN | apply keep_drew | apply keep_alloc) | exact HK.out)))); (case aL => have := LMc10.out; omega); intro v589 w13 ho hb hg hat; rw [← Ny588.out] at ho; have n0_ := Aside0.mk (IsS109.grown (by repeat (first | (with_reducible first | exact HI0.out | apply IsS109.alloc | apply IsS109.drewN | apply IsS109.drew | apply IsS109.set_1) | exact HI0.out)) hg (IsS109.own_ne HI0.out HO578.out (by decide))); have n1_ := Aside0.mk (Kd.R_after (ok := (fun _ => True)) (by (with_reducible repeat (first | apply Kd.R_alloc | apply Kd.R_drewN | apply Kd.R_drew)); exact HO587.out) hg hat); have n2_ := Aside0.mk (below_weaken (by repeat (first | (with_reducible first | exact HB.out | apply below_alloc | apply pw_below_drewN | apply below_drew1 | refine below_set ?_ (IsS109.ge HI0.out)) | exact HB.out)) HL.out hb); have n3_ := Aside0.mk (KeepBut.trans (by repeat (first | (with_reducible first | exact HK.out | apply KeepBut.set_ | apply keep_drewN | apply keep_drew | apply keep_alloc) | exact HK.out)) (KeepBut.of_grown hg g) (Kd.R_base2 HO578.out)); have n4_ := Aside0.mk (ho); clear HI0; clear HO587; clear HB; clear HK; clear HO578; have HI0 := n0_; have HO587 := n1_; have HB := n2_; have HK := n3_; have HO590 := n4_; clear n0_ n1_ n2_ n3_ n4_; clear ho hb hg hat))
        go_ret
        exact ⟨_, by first | rfl | (simp [errW_none, errW_some] <;> rfl) | (simp [*, errW_none, errW_some] <;> rfl), by (with_reducible repeat (first | apply Kd.R_alloc | apply Kd.R_drewN | apply Kd.R_drew)); exact Kd.R_mono HO590.out (fun _ hk => trivial), by repeat (first | (with_reducible first | exact HI0.out | apply IsS109.alloc | apply IsS109.drewN | apply IsS109.drew | apply IsS109.set_1) | exact HI0.out), by repeat (first | (with_reducible first | exact HB.out | apply below_alloc | apply pw_below_drewN | apply below_drew1 | refine below_set ?_ (IsS109.ge HI0.out)) | exact HB.out), by repeat (first | (with_reducible first | exact HK.out | apply KeepBut.set_ | apply keep_drewN | apply keep_drew | apply keep_alloc) | exact HK.out)⟩
      · rw [if_neg c10] at H
        exact absurd H (by simp)
    · rw [if_neg c9] at H
      have c9b0 : (t580 == 1) = false := beq_eq_false_iff_ne.mpr c9
      have c9b1 : (t580 != 1) = true := bne_iff_ne.mpr c9
      by_cases c15 : t580 = 2
      · rw [if_pos c15] at H
        have c15b0 : (t580 == 2) = true := beq_iff_eq.mpr c15
        have c15b1 : (t580 != 2) = false := bne_eq_false_iff_eq.mpr c15
        clear c15
        replace H := Option.bind_eq_some_iff.mp H
        obtain ⟨⟨t591, t592⟩, A160, H⟩ := H
        (try dsimp only at H)
        have A16 := Aside0.mk A160
        clear A160
        replace H := Option.bind_eq_some_iff.mp H
        obtain ⟨t593, A170, H⟩ := H
        (try dsimp only at H)
        have A17 := Aside0.mk A170
        clear A170
        by_cases c18 : t576.length < 8796093022208
        · rw [if_pos c18] at H
          have LMc18 := Aside0.mk c18
          clear c18
          obtain ⟨y594, hy594⟩ : ∃ y_ : List ByteArray, y_ = (t576 ++ [t593]) := ⟨_, rfl⟩
          replace H : (some (y594, t592)) = some (r1, r2) := by first | (rw [hy594]; with_reducible exact H) | (have H2_ := (Option.bind_some _ _).symm.trans H; rw [hy594]; with_reducible exact H2_) | (have H2_ := (Option.bind_some _ _).symm.trans H; with_reducible exact H2_) | with_reducible exact H | (rw [hy594]; exact H) | exact H
          have Ny594 := Aside0.mk hy594
          clear hy594
          simp only [Option.some.injEq, Prod.mk.injEq] at H
          obtain ⟨rfl, rfl⟩ := H
          go_wp2_with (first | ((with_reducible refine gate_callee (f := 113) rfl ?_); refine goesL_ (some 23) rfl rfl Try.func113 (by kernel_rfl) rfl #[.pointer (some ⟨g, 0, none⟩), .int .i64 2] rfl (by (try simp only [List.map_toArray, List.map_cons, List.map_nil]); first | done | rfl | (simp only [List.length_drop, List.length_take]; rfl)) ?_; (with_reducible refine (spec_l6Rd_pick.calls k g s0_0 t581 2 t591 t592 w0 _ ?side1 ?side2 A16.out).mono ?_); (case side1 => repeat (first | (with_reducible first | exact HI0.out | apply IsS109.alloc | apply IsS109.drewN | apply IsS109.drew | apply IsS109.set_1) | exact HI0.out)); (case side2 => repeat (first | (with_reducible first | exact HB.out | apply below_alloc | apply pw_below_drewN | apply below_drew1 | refine below_set ?_ (IsS109.ge HI0.out)) | exact HB.out)); rintro e w19 ⟨rfl, hi, hb, hk⟩; refine ⟨_, rfl, ?_⟩; have n0_ := Aside0.mk (Kd.R_mono (Kd.R_keep (IsS109.apart (show IsS109 w0 _ g s0_0 t581 from by repeat (first | (with_reducible first | exact HI0.out | apply IsS109.alloc | apply IsS109.drewN | apply IsS109.drew | apply IsS109.set_1) | exact HI0.out)) (by (with_reducible repeat (first | apply Kd.R_alloc | apply Kd.R_drewN | apply Kd.R_drew)); exact HO578.out) (by decide)) hk (fun _ h => h.2)) (fun _ h => h.1)); have n1_ := Aside0.mk (KeepBut.trans (by repeat (first | (with_reducible first | exact HK.out | apply KeepBut.set_ | apply keep_drewN | apply keep_drew | apply keep_alloc) | exact HK.out)) hk (.inl rfl)); have n2_ := Aside0.mk (hb); have n3_ := Aside0.mk (hi); clear HO578; clear HK; clear HB; clear HI0; have HO578 := n0_; have HK := n1_; have HB := n2_; have HI0 := n3_; clear n0_ n1_ n2_ n3_; (try clear hb); (try clear hb2); (try clear hk); (try clear hi)) | ((with_reducible refine gate_callee (f := 145) rfl ?_); refine goesL_ (some 25) rfl rfl Try.func145 (by kernel_rfl) rfl #[.string (⟨#[100]⟩ : ByteArray), .int .i64 (wrap64 (5 + t591))] rfl (by (try simp only [List.map_toArray, List.map_cons, List.map_nil]); first | done | rfl | (simp only [List.length_drop, List.length_take]; rfl)) ?_; (with_reducible refine (spec_l6Many.calls k (⟨#[100]⟩ : ByteArray) (wrap64 (5 + t591)) t593 _ A17.out).mono ?_); rintro e w' ⟨rfl, ⟨nd, rfl⟩⟩; refine ⟨_, rfl, ?_⟩) | ((with_reducible refine gate_builtin (b := .append) (xs := #[.tmp 21, .tmp 26]) rfl ?_); at_builtin; refine Kd.R_append Kd.string w.heap.size rfl (.tmp 21) (.tmp 26) 26 9 (.string ⟨#[]⟩) 16 rfl Try.underlying26 info9 rfl (by decide) (by omega) v577 t576 t593 [.string t593] (fun _ => True) (fun _ => False) rfl rfl ?aP (fun _ hk => hk.elim) ?aF ?aO (Below.refl _ _) ?aS ?aL ?_; (case aP => exact rfl); (case aF => exact (fun _ _ => trivial)); (case aO => exact (by (with_reducible repeat (first | apply Kd.R_alloc | apply Kd.R_drewN | apply Kd.R_drew)); exact HO578.out)); (case aS => exact (keep_size (w := w) (g := g) (row := none) (by repeat (first | (with_reducible first | exact HK.out | apply KeepBut.set_ | apply keep_drewN | apply keep_drew | apply keep_alloc) | exact HK.out)))); (case aL => have := LMc18.out; omega); intro v595 w20 ho hb hg hat; rw [← Ny594.out] at ho; have n0_ := Aside0.mk (IsS109.grown (by repeat (first | (with_reducible first | exact HI0.out | apply IsS109.alloc | apply IsS109.drewN | apply IsS109.drew | apply IsS109.set_1) | exact HI0.out)) hg (IsS109.own_ne HI0.out HO578.out (by decide))); have n1_ := Aside0.mk (below_weaken (by repeat (first | (with_reducible first | exact HB.out | apply below_alloc | apply pw_below_drewN | apply below_drew1 | refine below_set ?_ (IsS109.ge HI0.out)) | exact HB.out)) HL.out hb); have n2_ := Aside0.mk (KeepBut.trans (by repeat (first | (with_reducible first | exact HK.out | apply KeepBut.set_ | apply keep_drewN | apply keep_drew | apply keep_alloc) | exact HK.out)) (KeepBut.of_grown hg g) (Kd.R_base2 HO578.out)); have n3_ := Aside0.mk (ho); clear HI0; clear HB; clear HK; clear HO578; have HI0 := n0_; have HB := n1_; have HK := n2_; have HO596 := n3_; clear n0_ n1_ n2_ n3_; clear ho hb hg hat))
          go_ret
          exact ⟨_, by first | rfl | (simp [errW_none, errW_some] <;> rfl) | (simp [*, errW_none, errW_some] <;> rfl), by (with_reducible repeat (first | apply Kd.R_alloc | apply Kd.R_drewN | apply Kd.R_drew)); exact HO596.out, by repeat (first | (with_reducible first | exact HI0.out | apply IsS109.alloc | apply IsS109.drewN | apply IsS109.drew | apply IsS109.set_1) | exact HI0.out), by repeat (first | (with_reducible first | exact HB.out | apply below_alloc | apply pw_below_drewN | apply below_drew1 | refine below_set ?_ (IsS109.ge HI0.out)) | exact HB.out), by repeat (first | (with_reducible first | exact HK.out | apply KeepBut.set_ | apply keep_drewN | apply keep_drew | apply keep_alloc) | exact HK.out)⟩
        · rw [if_neg c18] at H
          exact absurd H (by simp)
      · rw [if_neg c15] at H
        have c15b0 : (t580 == 2) = false := beq_eq_false_iff_ne.mpr c15
        have c15b1 : (t580 != 2) = true := bne_iff_ne.mpr c15
        by_cases c21 : t580 = 3
        · rw [if_pos c21] at H
          have c21b0 : (t580 == 3) = true := beq_iff_eq.mpr c21
          have c21b1 : (t580 != 3) = false := bne_eq_false_iff_eq.mpr c21
          clear c21
          have H' := Aside0.mk H
          clear H
          go_wp2
          go_loopg [3, 4] k (fun kq v3 v4 w' => ∃ (x3_1 : List ByteArray) (x4_1 : Int), v4 = .int .i64 x4_1 ∧ Aside0 (spec_l71Mess.l0 kq x3_1 x4_1 s0_0 t581 = some (r1, r2)) ∧ Aside0 (kq ≤ k) ∧ Aside0 (Kd.R Kd.string 9 w' w.heap.size (fun _ => True) v3 x3_1) ∧ Aside0 (IsS109 w0 w' g s0_0 t581) ∧ Aside0 (KeepBut w w' g none) ∧ Aside0 (Below w0.heap.size w0 w'))
          case atStart => exact ⟨(t576), (0), (by first | rfl | (simp; done) | (simp [*]; done)), H', ⟨Nat.le_refl _⟩, ⟨by (with_reducible repeat (first | apply Kd.R_alloc | apply Kd.R_drewN | apply Kd.R_drew)); exact HO578.out⟩, ⟨by repeat (first | (with_reducible first | exact HI0.out | apply IsS109.alloc | apply IsS109.drewN | apply IsS109.drew | apply IsS109.set_1) | exact HI0.out)⟩, ⟨by repeat (first | (with_reducible first | exact HK.out | apply KeepBut.set_ | apply keep_drewN | apply keep_drew | apply keep_alloc) | exact HK.out)⟩, ⟨by repeat (first | (with_reducible first | exact HB.out | apply below_alloc | apply pw_below_drewN | apply below_drew1 | refine below_set ?_ (IsS109.ge HI0.out)) | exact HB.out)⟩⟩
          case round =>
            clear H'
            try clear c1
            try clear c2
            try clear p2
            try clear c6
            try clear c6b0
            try clear c6b1
            try clear p6
            try clear c7
            try clear c9
            try clear c9b0
            try clear c9b1
            try clear c10
            try clear c11
            try clear c14
            try clear c15
            try clear c15b0
            try clear c15b1
            try clear c18
            try clear c21
            try clear c21b0
            try clear c21b1
            obtain ⟨x3_1, x4_1, rfl, HA, HK1, HO_3, HI0, HK, HB⟩ := hrel
            cases gk with
            | zero => exact absurd HA.out (by simp [spec_l71Mess.l0])
            | succ k1 =>
              have H := HA.out
              clear HA
              simp only [spec_l71Mess.l0] at H
              by_cases c22 : x4_1 < 30
              · rw [if_pos c22] at H
                have c22b0 : decide (x4_1 < 30) = true := decide_eq_true c22
                clear c22
                obtain ⟨y597, hy597⟩ : ∃ y_ : List ByteArray, y_ = (([(⟨#[]⟩ : ByteArray), (⟨#[97]⟩ : ByteArray), (⟨#[98]⟩ : ByteArray), (⟨#[99]⟩ : ByteArray), (⟨#[100]⟩ : ByteArray)] : List ByteArray)) := ⟨_, rfl⟩
                replace H : (if 0 ≤ (Int.tmod x4_1 5) then (if (Int.tmod x4_1 5) < (y597.length : Int) then (if 1 + (rdOf ByteArray.empty y597 (Int.tmod x4_1 5)).size ≤ 9223372036854775807 then ((some (([(⟨#[]⟩ : ByteArray), (⟨#[97]⟩ : ByteArray), (⟨#[98]⟩ : ByteArray), (⟨#[99]⟩ : ByteArray), (⟨#[100]⟩ : ByteArray), (⟨#[100, 97]⟩ : ByteArray)] : List ByteArray) : List ByteArray)).bind fun y601 => (if 0 ≤ (wrap64 (Int.tdiv x4_1 5)) then (if (wrap64 (Int.tdiv x4_1 5)) < (y601.length : Int) then (if ((⟨#[100]⟩ : ByteArray) ++ (rdOf ByteArray.empty y597 (Int.tmod x4_1 5))).size + (rdOf ByteArray.empty y601 (wrap64 (Int.tdiv x4_1 5))).size ≤ 9223372036854775807 then ((spec_l2Put.f k1 x3_1 (((⟨#[100]⟩ : ByteArray) ++ (rdOf ByteArray.empty y597 (Int.tmod x4_1 5))) ++ (rdOf ByteArray.empty y601 (wrap64 (Int.tdiv x4_1 5))))).bind fun t605 => (spec_l71Mess.l0 k1 t605 (wrap64 (x4_1 + 1)) s0_0 t581)) else (none)) else (none)) else (none))) else (none)) else (none)) else (none)) = some (r1, r2) := by first | (rw [hy597]; with_reducible exact H) | (have H2_ := (Option.bind_some _ _).symm.trans H; rw [hy597]; with_reducible exact H2_) | (have H2_ := (Option.bind_some _ _).symm.trans H; with_reducible exact H2_) | with_reducible exact H | (rw [hy597]; exact H) | exact H
                have Ny597 := Aside0.mk hy597
                clear hy597
                obtain ⟨ji23, hji23⟩ : ∃ j_ : Int, (Int.tmod x4_1 5) = j_ := ⟨_, rfl⟩
                replace H : (if 0 ≤ (ji23) then (if (ji23) < (y597.length : Int) then (if 1 + (rdOf ByteArray.empty y597 (ji23)).size ≤ 9223372036854775807 then ((some (([(⟨#[]⟩ : ByteArray), (⟨#[97]⟩ : ByteArray), (⟨#[98]⟩ : ByteArray), (⟨#[99]⟩ : ByteArray), (⟨#[100]⟩ : ByteArray), (⟨#[100, 97]⟩ : ByteArray)] : List ByteArray) : List ByteArray)).bind fun y601 => (if 0 ≤ (wrap64 (Int.tdiv x4_1 5)) then (if (wrap64 (Int.tdiv x4_1 5)) < (y601.length : Int) then (if ((⟨#[100]⟩ : ByteArray) ++ (rdOf ByteArray.empty y597 (ji23))).size + (rdOf ByteArray.empty y601 (wrap64 (Int.tdiv x4_1 5))).size ≤ 9223372036854775807 then ((spec_l2Put.f k1 x3_1 (((⟨#[100]⟩ : ByteArray) ++ (rdOf ByteArray.empty y597 (ji23))) ++ (rdOf ByteArray.empty y601 (wrap64 (Int.tdiv x4_1 5))))).bind fun t605 => (spec_l71Mess.l0 k1 t605 (wrap64 (x4_1 + 1)) s0_0 t581)) else (none)) else (none)) else (none))) else (none)) else (none)) else (none)) = some (r1, r2) := by first | (rw [hji23] at H; exact H) | (simp only [hji23] at H ⊢; exact H)
                by_cases c24 : 0 ≤ (ji23)
                · rw [if_pos c24] at H
                  have c24b0 : decide (0 ≤ (ji23)) = true := decide_eq_true c24
                  clear c24
                  by_cases c25 : (ji23) < (y597.length : Int)
                  · rw [if_pos c25] at H
                    have c25b0 : decide ((ji23) < (y597.length : Int)) = true := decide_eq_true c25
                    clear c25
                    by_cases c26 : 1 + (rdOf ByteArray.empty y597 (ji23)).size ≤ 9223372036854775807
                    · rw [if_pos c26] at H
                      have c26b0 := eq_true c26
                      have c26b1 : decide (1 + (rdOf ByteArray.empty y597 (ji23)).size ≤ 9223372036854775807) = true := decide_eq_true c26
                      try have c26b2 : (9223372036854775807 < 1 + (rdOf ByteArray.empty y597 (ji23)).size) = False := eq_false (Nat.not_lt.2 c26)
                      obtain ⟨y601, hy601⟩ : ∃ y_ : List ByteArray, y_ = (([(⟨#[]⟩ : ByteArray), (⟨#[97]⟩ : ByteArray), (⟨#[98]⟩ : ByteArray), (⟨#[99]⟩ : ByteArray), (⟨#[100]⟩ : ByteArray), (⟨#[100, 97]⟩ : ByteArray)] : List ByteArray)) := ⟨_, rfl⟩
                      replace H : (if 0 ≤ (wrap64 (Int.tdiv x4_1 5)) then (if (wrap64 (Int.tdiv x4_1 5)) < (y601.length : Int) then (if ((⟨#[100]⟩ : ByteArray) ++ (rdOf ByteArray.empty y597 (ji23))).size + (rdOf ByteArray.empty y601 (wrap64 (Int.tdiv x4_1 5))).size ≤ 9223372036854775807 then ((spec_l2Put.f k1 x3_1 (((⟨#[100]⟩ : ByteArray) ++ (rdOf ByteArray.empty y597 (ji23))) ++ (rdOf ByteArray.empty y601 (wrap64 (Int.tdiv x4_1 5))))).bind fun t605 => (spec_l71Mess.l0 k1 t605 (wrap64 (x4_1 + 1)) s0_0 t581)) else (none)) else (none)) else (none)) = some (r1, r2) := by first | (rw [hy601]; with_reducible exact H) | (have H2_ := (Option.bind_some _ _).symm.trans H; rw [hy601]; with_reducible exact H2_) | (have H2_ := (Option.bind_some _ _).symm.trans H; with_reducible exact H2_) | with_reducible exact H | (rw [hy601]; exact H) | exact H
                      have Ny601 := Aside0.mk hy601
                      clear hy601
                      obtain ⟨ji27, hji27⟩ : ∃ j_ : Int, (wrap64 (Int.tdiv x4_1 5)) = j_ := ⟨_, rfl⟩
                      replace H : (if 0 ≤ (ji27) then (if (ji27) < (y601.length : Int) then (if ((⟨#[100]⟩ : ByteArray) ++ (rdOf ByteArray.empty y597 (ji23))).size + (rdOf ByteArray.empty y601 (ji27)).size ≤ 9223372036854775807 then ((spec_l2Put.f k1 x3_1 (((⟨#[100]⟩ : ByteArray) ++ (rdOf ByteArray.empty y597 (ji23))) ++ (rdOf ByteArray.empty y601 (ji27)))).bind fun t605 => (spec_l71Mess.l0 k1 t605 (wrap64 (x4_1 + 1)) s0_0 t581)) else (none)) else (none)) else (none)) = some (r1, r2) := by first | (rw [hji27] at H; exact H) | (simp only [hji27] at H ⊢; exact H)
                      have hji27w : (IntKind.i64.wrap (Int.tdiv x4_1 5)) = ji27 := (i64_w _).trans hji27
                      by_cases c28 : 0 ≤ (ji27)
                      · rw [if_pos c28] at H
                        have c28b0 : decide (0 ≤ (ji27)) = true := decide_eq_true c28
                        clear c28
                        by_cases c29 : (ji27) < (y601.length : Int)
                        · rw [if_pos c29] at H
                          have c29b0 : decide ((ji27) < (y601.length : Int)) = true := decide_eq_true c29
                          clear c29
                          by_cases c30 : ((⟨#[100]⟩ : ByteArray) ++ (rdOf ByteArray.empty y597 (ji23))).size + (rdOf ByteArray.empty y601 (ji27)).size ≤ 9223372036854775807
                          · rw [if_pos c30] at H
                            have c30b0 := eq_true c30
                            have c30b1 : decide (((⟨#[100]⟩ : ByteArray) ++ (rdOf ByteArray.empty y597 (ji23))).size + (rdOf ByteArray.empty y601 (ji27)).size ≤ 9223372036854775807) = true := decide_eq_true c30
                            try have c30b2 : (9223372036854775807 < ((⟨#[100]⟩ : ByteArray) ++ (rdOf ByteArray.empty y597 (ji23))).size + (rdOf ByteArray.empty y601 (ji27)).size) = False := eq_false (Nat.not_lt.2 c30)
                            (try (have c30b3 := c30b2; rw [ByteArray.size_append] at c30b3; try simp only [show ∀ b_ : UInt8, (⟨#[b_]⟩ : ByteArray).size = 1 from fun _ => rfl] at c30b3))
                            replace H := Option.bind_eq_some_iff.mp H
                            obtain ⟨t605, A310, H⟩ := H
                            (try dsimp only at H)
                            have A31 := Aside0.mk A310
                            clear A310
                            have H' := Aside0.mk H
                            clear H
                            obtain ⟨Ao32, co32, eo32⟩ := Kd.R_slice HO_3.out
                            subst eo32
                            try go_wp2
                            have pi600 : (0 ≤ ((ji23) : Int)) = True := eq_true (of_decide_eq_true (by first | (with_reducible assumption) | assumption))
                            have qi600 : ((ji23) < (y597.length : Int)) = True := eq_true (of_decide_eq_true (by first | (with_reducible assumption) | assumption))
                            have pi604 : (0 ≤ ((ji27) : Int)) = True := eq_true (of_decide_eq_true (by first | (with_reducible assumption) | assumption))
                            have qi604 : ((ji27) < (y601.length : Int)) = True := eq_true (of_decide_eq_true (by first | (with_reducible assumption) | assumption))
                            have n0_ := Aside0.mk (Kd.R_drew HO_3.out)
                            have n1_ := Aside0.mk (IsS109.drew HI0.out)
                            have n2_ := Aside0.mk (keep_drew HK.out)
                            have n3_ := Aside0.mk (below_drew1 HB.out)
                            clear HO_3
                            clear HI0
                            clear HK
                            clear HB
                            have HO_3 := n0_
                            have HI0 := n1_
                            have HK := n2_
                            have HB := n3_
                            clear n0_ n1_ n2_ n3_
                            refine start_ (n := 15) (S := fun w' => True) (ds := []) #[false, false, false, false, false, false, false, false, false, false, false, false, false, false, false] (by kernel_rfl) rfl rfl trivial (fun hHeld => ?_); refine with_tabW spec_l71Mess.tab13 spec_l71Mess.bits13 (fun HT_ HW_ => ?_)
                            generalize wr.drew = w33 at HO_3 HI0 HK HB hHeld ⊢
                            refine pure_ (i := 0) (N := some 34) (v := ?_) (a' := ?_) #[true, false, false, false, false, false, false, false, false, false, false, false, false, false, false] rfl rfl (any_of HT_.out (by kernel_rfl)) (fun _ _ _ h => h) (Or.inl ⟨by rfl, ?_⟩) ?_ ?_
                            rotate_left
                            · intro w'
                              go_simp
                              with_reducible rfl
                            rotate_left
                            · simp only [Act.put, List.setIfInBounds_toArray, List.set_cons_zero, List.set_cons_succ, i64_w, i32_w]
                              rfl
                            refine pure_ (i := 2) (N := some 36) (v := ?_) (a' := ?_) #[true, false, true, false, false, false, false, false, false, false, false, false, false, false, false] rfl rfl (any_of HT_.out (by kernel_rfl)) (fun _ _ _ h => h) (Or.inl ⟨by rfl, ?_⟩) ?_ ?_
                            rotate_left
                            · intro w'
                              go_simp
                              with_reducible rfl
                            rotate_left
                            · simp only [Act.put, List.setIfInBounds_toArray, List.set_cons_zero, List.set_cons_succ, i64_w, i32_w]
                              rfl
                            refine pure_ (i := 3) (N := some 37) (v := ?_) (a' := ?_) #[true, false, true, true, false, false, false, false, false, false, false, false, false, false, false] rfl rfl (any_of HT_.out (by kernel_rfl)) (fun _ _ _ h => h) (Or.inl ⟨by rfl, ?_⟩) ?_ ?_
                            rotate_left
                            · intro w'
                              go_simp
                              with_reducible rfl
                            rotate_left
                            · simp only [Act.put, List.setIfInBounds_toArray, List.set_cons_zero, List.set_cons_succ, i64_w, i32_w]
                              rfl
                            refine pure_ (i := 8) (N := some 42) (v := ?_) (a' := ?_) #[true, false, true, true, false, false, false, false, true, false, false, false, false, false, false] rfl rfl (any_of HT_.out (by kernel_rfl)) (fun _ _ _ h => h) (Or.inl ⟨by rfl, ?_⟩) ?_ ?_
                            rotate_left
                            · intro w'
                              go_simp
                              with_reducible rfl
                            rotate_left
                            · simp only [Act.put, List.setIfInBounds_toArray, List.set_cons_zero, List.set_cons_succ, i64_w, i32_w]
                              rfl
                            refine pure_ (i := 9) (N := some 43) (v := ?_) (a' := ?_) #[true, false, true, true, false, false, false, false, true, true, false, false, false, false, false] rfl rfl (any_of HT_.out (by kernel_rfl)) (fun _ _ _ h => h) (Or.inl ⟨by rfl, ?_⟩) ?_ ?_
                            rotate_left
                            · intro w'
                              go_simp
                              with_reducible rfl
                            rotate_left
                            · simp only [Act.put, List.setIfInBounds_toArray, List.set_cons_zero, List.set_cons_succ, i64_w, i32_w]
                              rfl
                            refine join_ (σ := Value × Addr × Value × Addr) 3 #[true, true, true, true, true, true, true, true, true, true, true, true, false, false, false] (fun s_ => [(35, s_.1), (39, .string (rdOf ByteArray.empty y597 (ji23))), (41, s_.2.2.1), (45, .string (rdOf ByteArray.empty y601 (ji27))), (38, .pointer (some (s_.2.1.add ((ji23)).toNat))), (40, .string ((⟨#[100]⟩ : ByteArray) ++ (rdOf ByteArray.empty y597 (ji23)))), (44, .pointer (some (s_.2.2.2.add ((ji27)).toNat)))]) (fun s_ w' => (Kd.R Kd.string 9 w' w.heap.size (fun k_ => some k_ ≠ (s_.2.2.1 : Value).ownBlock ∧ some k_ ≠ (.slice Ao32 x3_1.length co32 : Value).ownBlock) s_.1 y597) ∧ (Kd.R Kd.string 9 w' w.heap.size (fun k_ => some k_ ≠ (s_.1 : Value).ownBlock ∧ some k_ ≠ (.slice Ao32 x3_1.length co32 : Value).ownBlock) s_.2.2.1 y601) ∧ (Kd.R Kd.string 9 w' w.heap.size (fun k_ => some k_ ≠ (s_.1 : Value).ownBlock ∧ some k_ ≠ (s_.2.2.1 : Value).ownBlock) (.slice Ao32 x3_1.length co32) x3_1) ∧ (∃ c_, (s_.1 : Value) = .slice (some s_.2.1) y597.length c_) ∧ (∃ c_, (s_.2.2.1 : Value) = .slice (some s_.2.2.2) y601.length c_) ∧ (IsS109 w0 w' g s0_0 t581) ∧ (KeepBut w w' g none) ∧ (Below w0.heap.size w0 w')) ?_ ?_
                            rotate_left
                            · intro hJ1_5_7_11
                              refine join_ (σ := Value × Addr × Value × Addr) 4 #[true, true, true, true, true, true, true, true, true, true, true, false, false, false, false] (fun s_ => [(35, s_.1), (39, .string (rdOf ByteArray.empty y597 (ji23))), (41, s_.2.2.1), (38, .pointer (some (s_.2.1.add ((ji23)).toNat))), (40, .string ((⟨#[100]⟩ : ByteArray) ++ (rdOf ByteArray.empty y597 (ji23)))), (44, .pointer (some (s_.2.2.2.add ((ji27)).toNat)))]) (fun s_ w' => (Kd.R Kd.string 9 w' w.heap.size (fun k_ => some k_ ≠ (s_.2.2.1 : Value).ownBlock ∧ some k_ ≠ (.slice Ao32 x3_1.length co32 : Value).ownBlock) s_.1 y597) ∧ (Kd.R Kd.string 9 w' w.heap.size (fun k_ => some k_ ≠ (s_.1 : Value).ownBlock ∧ some k_ ≠ (.slice Ao32 x3_1.length co32 : Value).ownBlock) s_.2.2.1 y601) ∧ (Kd.R Kd.string 9 w' w.heap.size (fun k_ => some k_ ≠ (s_.1 : Value).ownBlock ∧ some k_ ≠ (s_.2.2.1 : Value).ownBlock) (.slice Ao32 x3_1.length co32) x3_1) ∧ (∃ c_, (s_.1 : Value) = .slice (some s_.2.1) y597.length c_) ∧ (∃ c_, (s_.2.2.1 : Value) = .slice (some s_.2.2.2) y601.length c_) ∧ (IsS109 w0 w' g s0_0 t581) ∧ (KeepBut w w' g none) ∧ (Below w0.heap.size w0 w')) ?_ ?_
                              rotate_left
                              · intro hJ1_5_7
                                refine join_ (σ := Value × Addr × Value × Addr) 5 #[true, true, true, true, true, false, false, true, true, true, true, true, false, false, false] (fun s_ => [(35, s_.1), (41, s_.2.2.1), (45, .string (rdOf ByteArray.empty y601 (ji27))), (38, .pointer (some (s_.2.1.add ((ji23)).toNat))), (44, .pointer (some (s_.2.2.2.add ((ji27)).toNat)))]) (fun s_ w' => (Kd.R Kd.string 9 w' w.heap.size (fun k_ => some k_ ≠ (s_.2.2.1 : Value).ownBlock ∧ some k_ ≠ (.slice Ao32 x3_1.length co32 : Value).ownBlock) s_.1 y597) ∧ (Kd.R Kd.string 9 w' w.heap.size (fun k_ => some k_ ≠ (s_.1 : Value).ownBlock ∧ some k_ ≠ (.slice Ao32 x3_1.length co32 : Value).ownBlock) s_.2.2.1 y601) ∧ (Kd.R Kd.string 9 w' w.heap.size (fun k_ => some k_ ≠ (s_.1 : Value).ownBlock ∧ some k_ ≠ (s_.2.2.1 : Value).ownBlock) (.slice Ao32 x3_1.length co32) x3_1) ∧ (∃ c_, (s_.1 : Value) = .slice (some s_.2.1) y597.length c_) ∧ (∃ c_, (s_.2.2.1 : Value) = .slice (some s_.2.2.2) y601.length c_) ∧ (IsS109 w0 w' g s0_0 t581) ∧ (KeepBut w w' g none) ∧ (Below w0.heap.size w0 w')) ?_ ?_
                                rotate_left
                                · intro hJ1_7_11
                                  refine join_ (σ := Value × Addr) 6 #[true, true, true, true, true, true, true, false, true, true, false, false, false, false, false] (fun s_ => [(35, s_.1), (39, .string (rdOf ByteArray.empty y597 (ji23))), (38, .pointer (some (s_.2.add ((ji23)).toNat))), (40, .string ((⟨#[100]⟩ : ByteArray) ++ (rdOf ByteArray.empty y597 (ji23))))]) (fun s_ w' => (Kd.R Kd.string 9 w' w.heap.size (fun k_ => some k_ ≠ (.slice Ao32 x3_1.length co32 : Value).ownBlock) s_.1 y597) ∧ (Kd.R Kd.string 9 w' w.heap.size (fun k_ => some k_ ≠ (s_.1 : Value).ownBlock) (.slice Ao32 x3_1.length co32) x3_1) ∧ (∃ c_, (s_.1 : Value) = .slice (some s_.2) y597.length c_) ∧ (IsS109 w0 w' g s0_0 t581) ∧ (KeepBut w w' g none) ∧ (Below w0.heap.size w0 w')) ?_ ?_
                                  rotate_left
                                  · intro hJ1_5
                                    refine join_ (σ := Value × Addr × Value × Addr) 6 #[true, true, true, true, true, false, false, true, true, true, true, false, false, false, false] (fun s_ => [(35, s_.1), (41, s_.2.2.1), (38, .pointer (some (s_.2.1.add ((ji23)).toNat))), (44, .pointer (some (s_.2.2.2.add ((ji27)).toNat)))]) (fun s_ w' => (Kd.R Kd.string 9 w' w.heap.size (fun k_ => some k_ ≠ (s_.2.2.1 : Value).ownBlock ∧ some k_ ≠ (.slice Ao32 x3_1.length co32 : Value).ownBlock) s_.1 y597) ∧ (Kd.R Kd.string 9 w' w.heap.size (fun k_ => some k_ ≠ (s_.1 : Value).ownBlock ∧ some k_ ≠ (.slice Ao32 x3_1.length co32 : Value).ownBlock) s_.2.2.1 y601) ∧ (Kd.R Kd.string 9 w' w.heap.size (fun k_ => some k_ ≠ (s_.1 : Value).ownBlock ∧ some k_ ≠ (s_.2.2.1 : Value).ownBlock) (.slice Ao32 x3_1.length co32) x3_1) ∧ (∃ c_, (s_.1 : Value) = .slice (some s_.2.1) y597.length c_) ∧ (∃ c_, (s_.2.2.1 : Value) = .slice (some s_.2.2.2) y601.length c_) ∧ (IsS109 w0 w' g s0_0 t581) ∧ (KeepBut w w' g none) ∧ (Below w0.heap.size w0 w')) ?_ ?_
                                    rotate_left
                                    · intro hJ1_7
                                      refine join_ (σ := Value × Addr) 7 #[true, false, true, true, false, false, false, true, true, true, true, true, false, false, false] (fun s_ => [(41, s_.1), (45, .string (rdOf ByteArray.empty y601 (ji27))), (44, .pointer (some (s_.2.add ((ji27)).toNat)))]) (fun s_ w' => (Kd.R Kd.string 9 w' w.heap.size (fun k_ => some k_ ≠ (.slice Ao32 x3_1.length co32 : Value).ownBlock) s_.1 y601) ∧ (Kd.R Kd.string 9 w' w.heap.size (fun k_ => some k_ ≠ (s_.1 : Value).ownBlock) (.slice Ao32 x3_1.length co32) x3_1) ∧ (∃ c_, (s_.1 : Value) = .slice (some s_.2) y601.length c_) ∧ (IsS109 w0 w' g s0_0 t581) ∧ (KeepBut w w' g none) ∧ (Below w0.heap.size w0 w')) ?_ ?_
                                      rotate_left
                                      · intro hJ7_11
                                        refine join_ (σ := Value × Addr) 8 #[true, true, true, true, true, false, false, false, true, true, false, false, false, false, false] (fun s_ => [(35, s_.1), (38, .pointer (some (s_.2.add ((ji23)).toNat)))]) (fun s_ w' => (Kd.R Kd.string 9 w' w.heap.size (fun k_ => some k_ ≠ (.slice Ao32 x3_1.length co32 : Value).ownBlock) s_.1 y597) ∧ (Kd.R Kd.string 9 w' w.heap.size (fun k_ => some k_ ≠ (s_.1 : Value).ownBlock) (.slice Ao32 x3_1.length co32) x3_1) ∧ (∃ c_, (s_.1 : Value) = .slice (some s_.2) y597.length c_) ∧ (IsS109 w0 w' g s0_0 t581) ∧ (KeepBut w w' g none) ∧ (Below w0.heap.size w0 w')) ?_ ?_
                                        rotate_left
                                        · intro hJ1
                                          refine join_ (σ := Value × Addr) 8 #[true, false, true, true, false, false, false, true, true, true, true, false, false, false, false] (fun s_ => [(41, s_.1), (44, .pointer (some (s_.2.add ((ji27)).toNat)))]) (fun s_ w' => (Kd.R Kd.string 9 w' w.heap.size (fun k_ => some k_ ≠ (.slice Ao32 x3_1.length co32 : Value).ownBlock) s_.1 y601) ∧ (Kd.R Kd.string 9 w' w.heap.size (fun k_ => some k_ ≠ (s_.1 : Value).ownBlock) (.slice Ao32 x3_1.length co32) x3_1) ∧ (∃ c_, (s_.1 : Value) = .slice (some s_.2) y601.length c_) ∧ (IsS109 w0 w' g s0_0 t581) ∧ (KeepBut w w' g none) ∧ (Below w0.heap.size w0 w')) ?_ ?_
                                          rotate_left
                                          · intro hJ7
                                            refine two_ (i := 1) (j := 7) (Ni := some 35) (Nj := some 41) #[true, true, true, true, false, false, false, false, true, true, false, false, false, false, false] #[true, false, true, true, false, false, false, true, true, true, false, false, false, false, false] rfl rfl rfl rfl (two_of HT_.out (by kernel_rfl)) (by decide) (by decide) (fun K hK => ?_) (fun K hK => ?_)
                                            · skip
                                              refine Kd.R_lit_step Kd.string _ 9 ?hg (N := 35) ?hd (xs := ([(⟨#[]⟩ : ByteArray), (⟨#[97]⟩ : ByteArray), (⟨#[98]⟩ : ByteArray), (⟨#[99]⟩ : ByteArray), (⟨#[100]⟩ : ByteArray)] : List ByteArray)) (inner := [.string (⟨#[]⟩ : ByteArray), .string (⟨#[97]⟩ : ByteArray), .string (⟨#[98]⟩ : ByteArray), .string (⟨#[99]⟩ : ByteArray), .string (⟨#[100]⟩ : ByteArray)]) (ok := fun _ => True) (okp := fun _ => True) ?hr ?hp (fun _ hk => hk) trivial (Below.refl _ _) (Nat.le_refl _) (by simp) ?_; (case hd => rfl); (case hg => rfl); (case hr => first | (go_simp; done) | (go_simp; rfl)); (case hp => exact (Reps.one (show Kd.M Kd.string _ _ _ (⟨#[]⟩ : ByteArray) [.string (⟨#[]⟩ : ByteArray)] from rfl) (Reps.one (show Kd.M Kd.string _ _ _ (⟨#[97]⟩ : ByteArray) [.string (⟨#[97]⟩ : ByteArray)] from rfl) (Reps.one (show Kd.M Kd.string _ _ _ (⟨#[98]⟩ : ByteArray) [.string (⟨#[98]⟩ : ByteArray)] from rfl) (Reps.one (show Kd.M Kd.string _ _ _ (⟨#[99]⟩ : ByteArray) [.string (⟨#[99]⟩ : ByteArray)] from rfl) (Reps.one (show Kd.M Kd.string _ _ _ (⟨#[100]⟩ : ByteArray) [.string (⟨#[100]⟩ : ByteArray)] from rfl) (Reps.none _ _)))))))
                                              intro v598 w34 ho35 hb hg_ hnew_
                                              clear hg_ hnew_
                                              (first | rw [← Ny597.out] at ho35 | (simp only [Int.reduceToNat] at ho35; rw [← Ny597.out] at ho35))
                                              have n0_ := Aside0.mk (Kd.R_elder' (by (with_reducible repeat (first | apply Kd.R_alloc | apply Kd.R_drewN | apply Kd.R_drew)); exact HO_3.out) (Kd.R_base ho35) hb)
                                              have n1_ := Aside0.mk (Kd.R_lower (Kd.R_new' ho35 (Kd.R_lt (by (with_reducible repeat (first | apply Kd.R_alloc | apply Kd.R_drewN | apply Kd.R_drew)); exact HO_3.out))) (keep_size (w := w) (g := g) (row := none) (by repeat (first | (with_reducible first | exact HK.out | apply KeepBut.set_ | apply keep_drewN | apply keep_drew | apply keep_alloc) | exact HK.out))))
                                              have n2_ := Aside0.mk (IsS109.below (by repeat (first | (with_reducible first | exact HI0.out | apply IsS109.alloc | apply IsS109.drewN | apply IsS109.drew | apply IsS109.set_1) | exact HI0.out)) hb)
                                              have n3_ := Aside0.mk (KeepBut.trans (by repeat (first | (with_reducible first | exact HK.out | apply KeepBut.set_ | apply keep_drewN | apply keep_drew | apply keep_alloc) | exact HK.out)) (KeepBut.of_below hb g none) (.inl rfl))
                                              have n4_ := Aside0.mk (below_step (by repeat (first | (with_reducible first | exact HB.out | apply below_alloc | apply pw_below_drewN | apply below_drew1 | refine below_set ?_ (IsS109.ge HI0.out)) | exact HB.out)) hb)
                                              clear HO_3
                                              clear HI0
                                              clear HK
                                              clear HB
                                              have HO_3 := n0_
                                              have HO599 := n1_
                                              have HI0 := n2_
                                              have HK := n3_
                                              have HB := n4_
                                              clear n0_ n1_ n2_ n3_ n4_
                                              clear hb ho35
                                              obtain ⟨Ao36, co36, eo36⟩ := Kd.R_slice HO599.out
                                              subst eo36
                                              obtain ⟨ado36, fo36, _⟩ := Kd.at_string (Kd.R_reads' HO599.out).2.2 0 (by decide) (by rw [Ny597.out]; simp)
                                              cases fo36
                                              refine hK.out _ _ trivial (fun hHeld => ?_)
                                              clear hK K
                                              refine norm_ (a' := ?_) ?_ ?_
                                              rotate_left
                                              · show Act.put _ (some 35) _ = _
                                                simp only [Act.put, List.setIfInBounds_toArray, List.set_cons_zero, List.set_cons_succ, i64_w, i32_w]
                                                rfl
                                              refine pure_ (i := 4) (N := some 38) (v := ?_) (a' := ?_) #[true, true, true, true, true, false, false, false, true, true, false, false, false, false, false] rfl rfl (any_of HT_.out (by kernel_rfl)) (fun _ _ _ h => h) (Or.inl ⟨by rfl, ?_⟩) ?_ ?_
                                              rotate_left
                                              · intro w'
                                                go_simp
                                                with_reducible rfl
                                              rotate_left
                                              · simp only [Act.put, List.setIfInBounds_toArray, List.set_cons_zero, List.set_cons_succ, i64_w, i32_w]
                                                rfl
                                              exact norm_ (by first | (simp only [putAll, Act.put, List.setIfInBounds_toArray, List.set_cons_zero, List.set_cons_succ]; done) | (simp only [putAll, Act.put, List.setIfInBounds_toArray, List.set_cons_zero, List.set_cons_succ]; rfl)) (hJ1 (.slice (some ado36) y597.length co36, ado36) _ ⟨(by (with_reducible repeat (first | apply Kd.R_alloc | apply Kd.R_drewN | apply Kd.R_drew)); exact Kd.R_mono HO599.out (fun _ hk => hk.2)), (by (with_reducible repeat (first | apply Kd.R_alloc | apply Kd.R_drewN | apply Kd.R_drew)); exact Kd.R_mono HO_3.out (fun _ hk => hk.2)), ⟨_, rfl⟩, (by repeat (first | (with_reducible first | exact HI0.out | apply IsS109.alloc | apply IsS109.drewN | apply IsS109.drew | apply IsS109.set_1) | exact HI0.out)), (by repeat (first | (with_reducible first | exact HK.out | apply KeepBut.set_ | apply keep_drewN | apply keep_drew | apply keep_alloc) | exact HK.out)), (by repeat (first | (with_reducible first | exact HB.out | apply below_alloc | apply pw_below_drewN | apply below_drew1 | refine below_set ?_ (IsS109.ge HI0.out)) | exact HB.out))⟩)
                                            · skip
                                              refine Kd.R_lit_step Kd.string _ 9 ?hg (N := 41) ?hd (xs := ([(⟨#[]⟩ : ByteArray), (⟨#[97]⟩ : ByteArray), (⟨#[98]⟩ : ByteArray), (⟨#[99]⟩ : ByteArray), (⟨#[100]⟩ : ByteArray), (⟨#[100, 97]⟩ : ByteArray)] : List ByteArray)) (inner := [.string (⟨#[]⟩ : ByteArray), .string (⟨#[97]⟩ : ByteArray), .string (⟨#[98]⟩ : ByteArray), .string (⟨#[99]⟩ : ByteArray), .string (⟨#[100]⟩ : ByteArray), .string (⟨#[100, 97]⟩ : ByteArray)]) (ok := fun _ => True) (okp := fun _ => True) ?hr ?hp (fun _ hk => hk) trivial (Below.refl _ _) (Nat.le_refl _) (by simp) ?_; (case hd => rfl); (case hg => rfl); (case hr => first | (go_simp; done) | (go_simp; rfl)); (case hp => exact (Reps.one (show Kd.M Kd.string _ _ _ (⟨#[]⟩ : ByteArray) [.string (⟨#[]⟩ : ByteArray)] from rfl) (Reps.one (show Kd.M Kd.string _ _ _ (⟨#[97]⟩ : ByteArray) [.string (⟨#[97]⟩ : ByteArray)] from rfl) (Reps.one (show Kd.M Kd.string _ _ _ (⟨#[98]⟩ : ByteArray) [.string (⟨#[98]⟩ : ByteArray)] from rfl) (Reps.one (show Kd.M Kd.string _ _ _ (⟨#[99]⟩ : ByteArray) [.string (⟨#[99]⟩ : ByteArray)] from rfl) (Reps.one (show Kd.M Kd.string _ _ _ (⟨#[100]⟩ : ByteArray) [.string (⟨#[100]⟩ : ByteArray)] from rfl) (Reps.one (show Kd.M Kd.string _ _ _ (⟨#[100, 97]⟩ : ByteArray) [.string (⟨#[100, 97]⟩ : ByteArray)] from rfl) (Reps.none _ _))))))))
                                              intro v602 w34 ho35 hb hg_ hnew_
                                              clear hg_ hnew_
                                              (first | rw [← Ny601.out] at ho35 | (simp only [Int.reduceToNat] at ho35; rw [← Ny601.out] at ho35))
                                              have n0_ := Aside0.mk (Kd.R_elder' (by (with_reducible repeat (first | apply Kd.R_alloc | apply Kd.R_drewN | apply Kd.R_drew)); exact HO_3.out) (Kd.R_base ho35) hb)
                                              have n1_ := Aside0.mk (Kd.R_lower (Kd.R_new' ho35 (Kd.R_lt (by (with_reducible repeat (first | apply Kd.R_alloc | apply Kd.R_drewN | apply Kd.R_drew)); exact HO_3.out))) (keep_size (w := w) (g := g) (row := none) (by repeat (first | (with_reducible first | exact HK.out | apply KeepBut.set_ | apply keep_drewN | apply keep_drew | apply keep_alloc) | exact HK.out))))
                                              have n2_ := Aside0.mk (IsS109.below (by repeat (first | (with_reducible first | exact HI0.out | apply IsS109.alloc | apply IsS109.drewN | apply IsS109.drew | apply IsS109.set_1) | exact HI0.out)) hb)
                                              have n3_ := Aside0.mk (KeepBut.trans (by repeat (first | (with_reducible first | exact HK.out | apply KeepBut.set_ | apply keep_drewN | apply keep_drew | apply keep_alloc) | exact HK.out)) (KeepBut.of_below hb g none) (.inl rfl))
                                              have n4_ := Aside0.mk (below_step (by repeat (first | (with_reducible first | exact HB.out | apply below_alloc | apply pw_below_drewN | apply below_drew1 | refine below_set ?_ (IsS109.ge HI0.out)) | exact HB.out)) hb)
                                              clear HO_3
                                              clear HI0
                                              clear HK
                                              clear HB
                                              have HO_3 := n0_
                                              have HO603 := n1_
                                              have HI0 := n2_
                                              have HK := n3_
                                              have HB := n4_
                                              clear n0_ n1_ n2_ n3_ n4_
                                              clear hb ho35
                                              obtain ⟨Ao36, co36, eo36⟩ := Kd.R_slice HO603.out
                                              subst eo36
                                              obtain ⟨ado36, fo36, _⟩ := Kd.at_string (Kd.R_reads' HO603.out).2.2 0 (by decide) (by rw [Ny601.out]; simp)
                                              cases fo36
                                              refine hK.out _ _ trivial (fun hHeld => ?_)
                                              clear hK K
                                              refine norm_ (a' := ?_) ?_ ?_
                                              rotate_left
                                              · show Act.put _ (some 41) _ = _
                                                simp only [Act.put, List.setIfInBounds_toArray, List.set_cons_zero, List.set_cons_succ, i64_w, i32_w]
                                                rfl
                                              refine pure_ (i := 10) (N := some 44) (v := ?_) (a' := ?_) #[true, false, true, true, false, false, false, true, true, true, true, false, false, false, false] rfl rfl (any_of HT_.out (by kernel_rfl)) (fun _ _ _ h => h) (Or.inl ⟨by rfl, ?_⟩) ?_ ?_
                                              rotate_left
                                              · intro w'
                                                go_simp
                                                with_reducible rfl
                                              rotate_left
                                              · simp only [Act.put, List.setIfInBounds_toArray, List.set_cons_zero, List.set_cons_succ, i64_w, i32_w]
                                                rfl
                                              exact norm_ (by first | (simp only [putAll, Act.put, List.setIfInBounds_toArray, List.set_cons_zero, List.set_cons_succ]; done) | (simp only [putAll, Act.put, List.setIfInBounds_toArray, List.set_cons_zero, List.set_cons_succ]; rfl)) (hJ7 (.slice (some ado36) y601.length co36, ado36) _ ⟨(by (with_reducible repeat (first | apply Kd.R_alloc | apply Kd.R_drewN | apply Kd.R_drew)); exact Kd.R_mono HO603.out (fun _ hk => hk.2)), (by (with_reducible repeat (first | apply Kd.R_alloc | apply Kd.R_drewN | apply Kd.R_drew)); exact Kd.R_mono HO_3.out (fun _ hk => hk.2)), ⟨_, rfl⟩, (by repeat (first | (with_reducible first | exact HI0.out | apply IsS109.alloc | apply IsS109.drewN | apply IsS109.drew | apply IsS109.set_1) | exact HI0.out)), (by repeat (first | (with_reducible first | exact HK.out | apply KeepBut.set_ | apply keep_drewN | apply keep_drew | apply keep_alloc) | exact HK.out)), (by repeat (first | (with_reducible first | exact HB.out | apply below_alloc | apply pw_below_drewN | apply below_drew1 | refine below_set ?_ (IsS109.ge HI0.out)) | exact HB.out))⟩)
                                          · skip
                                            rintro ⟨v602, adz_v602⟩ w37 ⟨h0_, h1_, h2_, h3_, h4_, h5_⟩
                                            have n0_ : Aside0 (Kd.R Kd.string 9 w37 w.heap.size (fun k_ => some k_ ≠ (.slice Ao32 x3_1.length co32 : Value).ownBlock) v602 y601) := ⟨h0_⟩
                                            have n1_ : Aside0 (Kd.R Kd.string 9 w37 w.heap.size (fun k_ => some k_ ≠ (v602 : Value).ownBlock) (.slice Ao32 x3_1.length co32) x3_1) := ⟨h1_⟩
                                            have n2_ : Aside0 (∃ c_, (v602 : Value) = .slice (some adz_v602) y601.length c_) := ⟨h2_⟩
                                            have n3_ : Aside0 (IsS109 w0 w37 g s0_0 t581) := ⟨h3_⟩
                                            have n4_ : Aside0 (KeepBut w w37 g none) := ⟨h4_⟩
                                            have n5_ : Aside0 (Below w0.heap.size w0 w37) := ⟨h5_⟩
                                            clear HO_3
                                            clear HI0
                                            clear HK
                                            clear HB
                                            clear h0_ h1_ h2_ h3_ h4_ h5_
                                            have HO603 := n0_
                                            have HO_3 := n1_
                                            have HA_HO603 := n2_
                                            have HI0 := n3_
                                            have HK := n4_
                                            have HB := n5_
                                            clear n0_ n1_ n2_ n3_ n4_ n5_
                                            have hHeld := trivial
                                            obtain ⟨co38, eo38⟩ := HA_HO603.out
                                            clear HA_HO603
                                            subst eo38
                                            refine norm_ (a' := ?_) ?_ ?_
                                            rotate_left
                                            · simp only [putAll, Act.put, List.setIfInBounds_toArray, List.set_cons_zero, List.set_cons_succ]
                                              rfl
                                            refine two_ (i := 1) (j := 11) (Ni := some 35) (Nj := some 45) #[true, true, true, true, false, false, false, true, true, true, true, false, false, false, false] #[true, false, true, true, false, false, false, true, true, true, true, true, false, false, false] rfl rfl rfl rfl (two_of HT_.out (by kernel_rfl)) (by decide) (by decide) (fun K hK => ?_) (fun K hK => ?_)
                                            · skip
                                              refine Kd.R_lit_step Kd.string _ 9 ?hg (N := 35) ?hd (xs := ([(⟨#[]⟩ : ByteArray), (⟨#[97]⟩ : ByteArray), (⟨#[98]⟩ : ByteArray), (⟨#[99]⟩ : ByteArray), (⟨#[100]⟩ : ByteArray)] : List ByteArray)) (inner := [.string (⟨#[]⟩ : ByteArray), .string (⟨#[97]⟩ : ByteArray), .string (⟨#[98]⟩ : ByteArray), .string (⟨#[99]⟩ : ByteArray), .string (⟨#[100]⟩ : ByteArray)]) (ok := fun _ => True) (okp := fun _ => True) ?hr ?hp (fun _ hk => hk) trivial (Below.refl _ _) (Nat.le_refl _) (by simp) ?_; (case hd => rfl); (case hg => rfl); (case hr => first | (go_simp; done) | (go_simp; rfl)); (case hp => exact (Reps.one (show Kd.M Kd.string _ _ _ (⟨#[]⟩ : ByteArray) [.string (⟨#[]⟩ : ByteArray)] from rfl) (Reps.one (show Kd.M Kd.string _ _ _ (⟨#[97]⟩ : ByteArray) [.string (⟨#[97]⟩ : ByteArray)] from rfl) (Reps.one (show Kd.M Kd.string _ _ _ (⟨#[98]⟩ : ByteArray) [.string (⟨#[98]⟩ : ByteArray)] from rfl) (Reps.one (show Kd.M Kd.string _ _ _ (⟨#[99]⟩ : ByteArray) [.string (⟨#[99]⟩ : ByteArray)] from rfl) (Reps.one (show Kd.M Kd.string _ _ _ (⟨#[100]⟩ : ByteArray) [.string (⟨#[100]⟩ : ByteArray)] from rfl) (Reps.none _ _)))))))
                                              intro v598 w39 ho40 hb hg_ hnew_
                                              clear hg_ hnew_
                                              (first | rw [← Ny597.out] at ho40 | (simp only [Int.reduceToNat] at ho40; rw [← Ny597.out] at ho40))
                                              have n0_ := Aside0.mk (Kd.R_elder' (by (with_reducible repeat (first | apply Kd.R_alloc | apply Kd.R_drewN | apply Kd.R_drew)); exact HO_3.out) (Kd.R_base ho40) hb)
                                              have n1_ := Aside0.mk (Kd.R_elder' (by (with_reducible repeat (first | apply Kd.R_alloc | apply Kd.R_drewN | apply Kd.R_drew)); exact HO603.out) (Kd.R_base ho40) hb)
                                              have n2_ := Aside0.mk (Kd.R_lower (Kd.R_new' (Kd.R_new' ho40 (Kd.R_lt (by (with_reducible repeat (first | apply Kd.R_alloc | apply Kd.R_drewN | apply Kd.R_drew)); exact HO_3.out))) (Kd.R_lt (by (with_reducible repeat (first | apply Kd.R_alloc | apply Kd.R_drewN | apply Kd.R_drew)); exact HO603.out))) (keep_size (w := w) (g := g) (row := none) (by repeat (first | (with_reducible first | exact HK.out | apply KeepBut.set_ | apply keep_drewN | apply keep_drew | apply keep_alloc) | exact HK.out))))
                                              have n3_ := Aside0.mk (IsS109.below (by repeat (first | (with_reducible first | exact HI0.out | apply IsS109.alloc | apply IsS109.drewN | apply IsS109.drew | apply IsS109.set_1) | exact HI0.out)) hb)
                                              have n4_ := Aside0.mk (KeepBut.trans (by repeat (first | (with_reducible first | exact HK.out | apply KeepBut.set_ | apply keep_drewN | apply keep_drew | apply keep_alloc) | exact HK.out)) (KeepBut.of_below hb g none) (.inl rfl))
                                              have n5_ := Aside0.mk (below_step (by repeat (first | (with_reducible first | exact HB.out | apply below_alloc | apply pw_below_drewN | apply below_drew1 | refine below_set ?_ (IsS109.ge HI0.out)) | exact HB.out)) hb)
                                              clear HO_3
                                              clear HO603
                                              clear HI0
                                              clear HK
                                              clear HB
                                              have HO_3 := n0_
                                              have HO603 := n1_
                                              have HO599 := n2_
                                              have HI0 := n3_
                                              have HK := n4_
                                              have HB := n5_
                                              clear n0_ n1_ n2_ n3_ n4_ n5_
                                              clear hb ho40
                                              obtain ⟨Ao41, co41, eo41⟩ := Kd.R_slice HO599.out
                                              subst eo41
                                              obtain ⟨ado41, fo41, _⟩ := Kd.at_string (Kd.R_reads' HO599.out).2.2 0 (by decide) (by rw [Ny597.out]; simp)
                                              cases fo41
                                              refine hK.out _ _ trivial (fun hHeld => ?_)
                                              clear hK K
                                              refine norm_ (a' := ?_) ?_ ?_
                                              rotate_left
                                              · show Act.put _ (some 35) _ = _
                                                simp only [Act.put, List.setIfInBounds_toArray, List.set_cons_zero, List.set_cons_succ, i64_w, i32_w]
                                                rfl
                                              refine pure_ (i := 4) (N := some 38) (v := ?_) (a' := ?_) #[true, true, true, true, true, false, false, true, true, true, true, false, false, false, false] rfl rfl (any_of HT_.out (by kernel_rfl)) (fun _ _ _ h => h) (Or.inl ⟨by rfl, ?_⟩) ?_ ?_
                                              rotate_left
                                              · intro w'
                                                go_simp
                                                with_reducible rfl
                                              rotate_left
                                              · simp only [Act.put, List.setIfInBounds_toArray, List.set_cons_zero, List.set_cons_succ, i64_w, i32_w]
                                                rfl
                                              exact norm_ (by first | (simp only [putAll, Act.put, List.setIfInBounds_toArray, List.set_cons_zero, List.set_cons_succ]; done) | (simp only [putAll, Act.put, List.setIfInBounds_toArray, List.set_cons_zero, List.set_cons_succ]; rfl)) (hJ1_7 (.slice (some ado41) y597.length co41, ado41, .slice (some adz_v602) y601.length co38, adz_v602) _ ⟨(by (with_reducible repeat (first | apply Kd.R_alloc | apply Kd.R_drewN | apply Kd.R_drew)); exact Kd.R_mono HO599.out (fun _ hk => ⟨hk.2, hk.1.2⟩)), (by (with_reducible repeat (first | apply Kd.R_alloc | apply Kd.R_drewN | apply Kd.R_drew)); exact Kd.R_mono HO603.out (fun _ hk => ⟨hk.2, hk.1⟩)), (by (with_reducible repeat (first | apply Kd.R_alloc | apply Kd.R_drewN | apply Kd.R_drew)); exact Kd.R_mono HO_3.out (fun _ hk => ⟨hk.2, hk.1⟩)), ⟨_, rfl⟩, ⟨_, rfl⟩, (by repeat (first | (with_reducible first | exact HI0.out | apply IsS109.alloc | apply IsS109.drewN | apply IsS109.drew | apply IsS109.set_1) | exact HI0.out)), (by repeat (first | (with_reducible first | exact HK.out | apply KeepBut.set_ | apply keep_drewN | apply keep_drew | apply keep_alloc) | exact HK.out)), (by repeat (first | (with_reducible first | exact HB.out | apply below_alloc | apply pw_below_drewN | apply below_drew1 | refine below_set ?_ (IsS109.ge HI0.out)) | exact HB.out))⟩)
                                            · skip
                                              (have p604 : 0 ≤ ((ji27) : Int) := of_decide_eq_true (by first | (with_reducible assumption) | assumption); have q604 : (ji27) < (y601.length : Int) := of_decide_eq_true (by first | (with_reducible assumption) | assumption); obtain ⟨ad604, e604, hx604_0⟩ := Kd.at_string (Kd.R_reads' HO603.out).2.2 (ji27) p604 q604; obtain rfl : adz_v602 = ad604 := (by injection e604))
                                              refine value_ (w1 := ?_) (v := ?_) (by rfl) rfl ?_ ?_
                                              rotate_left 2
                                              · go_simp
                                                constructor
                                                · rfl
                                                · rfl
                                              clear hx604_0
                                              refine hK.out _ _ trivial (fun hHeld => ?_)
                                              clear hK K
                                              refine norm_ (a' := ?_) ?_ ?_
                                              rotate_left
                                              · show Act.put _ (some 45) _ = _
                                                simp only [Act.put, List.setIfInBounds_toArray, List.set_cons_zero, List.set_cons_succ, i64_w, i32_w]
                                                rfl
                                              exact norm_ (by first | (simp only [putAll, Act.put, List.setIfInBounds_toArray, List.set_cons_zero, List.set_cons_succ]; done) | (simp only [putAll, Act.put, List.setIfInBounds_toArray, List.set_cons_zero, List.set_cons_succ]; rfl)) (hJ7_11 (.slice (some adz_v602) y601.length co38, adz_v602) _ ⟨(by (with_reducible repeat (first | apply Kd.R_alloc | apply Kd.R_drewN | apply Kd.R_drew)); exact HO603.out), (by (with_reducible repeat (first | apply Kd.R_alloc | apply Kd.R_drewN | apply Kd.R_drew)); exact HO_3.out), ⟨_, rfl⟩, (by repeat (first | (with_reducible first | exact HI0.out | apply IsS109.alloc | apply IsS109.drewN | apply IsS109.drew | apply IsS109.set_1) | exact HI0.out)), (by repeat (first | (with_reducible first | exact HK.out | apply KeepBut.set_ | apply keep_drewN | apply keep_drew | apply keep_alloc) | exact HK.out)), (by repeat (first | (with_reducible first | exact HB.out | apply below_alloc | apply pw_below_drewN | apply below_drew1 | refine below_set ?_ (IsS109.ge HI0.out)) | exact HB.out))⟩)
                                        · skip
                                          rintro ⟨v598, adz_v598⟩ w37 ⟨h0_, h1_, h2_, h3_, h4_, h5_⟩
                                          have n0_ : Aside0 (Kd.R Kd.string 9 w37 w.heap.size (fun k_ => some k_ ≠ (.slice Ao32 x3_1.length co32 : Value).ownBlock) v598 y597) := ⟨h0_⟩
                                          have n1_ : Aside0 (Kd.R Kd.string 9 w37 w.heap.size (fun k_ => some k_ ≠ (v598 : Value).ownBlock) (.slice Ao32 x3_1.length co32) x3_1) := ⟨h1_⟩
                                          have n2_ : Aside0 (∃ c_, (v598 : Value) = .slice (some adz_v598) y597.length c_) := ⟨h2_⟩
                                          have n3_ : Aside0 (IsS109 w0 w37 g s0_0 t581) := ⟨h3_⟩
                                          have n4_ : Aside0 (KeepBut w w37 g none) := ⟨h4_⟩
                                          have n5_ : Aside0 (Below w0.heap.size w0 w37) := ⟨h5_⟩
                                          clear HO_3
                                          clear HI0
                                          clear HK
                                          clear HB
                                          clear h0_ h1_ h2_ h3_ h4_ h5_
                                          have HO599 := n0_
                                          have HO_3 := n1_
                                          have HA_HO599 := n2_
                                          have HI0 := n3_
                                          have HK := n4_
                                          have HB := n5_
                                          clear n0_ n1_ n2_ n3_ n4_ n5_
                                          have hHeld := trivial
                                          obtain ⟨co38, eo38⟩ := HA_HO599.out
                                          clear HA_HO599
                                          subst eo38
                                          refine norm_ (a' := ?_) ?_ ?_
                                          rotate_left
                                          · simp only [putAll, Act.put, List.setIfInBounds_toArray, List.set_cons_zero, List.set_cons_succ]
                                            rfl
                                          refine two_ (i := 5) (j := 7) (Ni := some 39) (Nj := some 41) #[true, true, true, true, true, true, false, false, true, true, false, false, false, false, false] #[true, true, true, true, true, false, false, true, true, true, false, false, false, false, false] rfl rfl rfl rfl (two_of HT_.out (by kernel_rfl)) (by decide) (by decide) (fun K hK => ?_) (fun K hK => ?_)
                                          · skip
                                            (have p600 : 0 ≤ ((ji23) : Int) := of_decide_eq_true (by first | (with_reducible assumption) | assumption); have q600 : (ji23) < (y597.length : Int) := of_decide_eq_true (by first | (with_reducible assumption) | assumption); obtain ⟨ad600, e600, hx600_0⟩ := Kd.at_string (Kd.R_reads' HO599.out).2.2 (ji23) p600 q600; obtain rfl : adz_v598 = ad600 := (by injection e600))
                                            refine value_ (w1 := ?_) (v := ?_) (by rfl) rfl ?_ ?_
                                            rotate_left 2
                                            · go_simp
                                              constructor
                                              · rfl
                                              · rfl
                                            clear hx600_0
                                            refine hK.out _ _ trivial (fun hHeld => ?_)
                                            clear hK K
                                            refine norm_ (a' := ?_) ?_ ?_
                                            rotate_left
                                            · show Act.put _ (some 39) _ = _
                                              simp only [Act.put, List.setIfInBounds_toArray, List.set_cons_zero, List.set_cons_succ, i64_w, i32_w]
                                              rfl
                                            refine pure_ (i := 6) (N := some 40) (v := ?_) (a' := ?_) #[true, true, true, true, true, true, true, false, true, true, false, false, false, false, false] rfl rfl (any_of HT_.out (by kernel_rfl)) (fun _ _ _ h => h) (Or.inl ⟨by rfl, ?_⟩) ?_ ?_
                                            rotate_left
                                            · intro w'
                                              go_simp
                                              with_reducible rfl
                                            rotate_left
                                            · simp only [Act.put, List.setIfInBounds_toArray, List.set_cons_zero, List.set_cons_succ, i64_w, i32_w]
                                              rfl
                                            exact norm_ (by first | (simp only [putAll, Act.put, List.setIfInBounds_toArray, List.set_cons_zero, List.set_cons_succ]; done) | (simp only [putAll, Act.put, List.setIfInBounds_toArray, List.set_cons_zero, List.set_cons_succ]; rfl)) (hJ1_5 (.slice (some adz_v598) y597.length co38, adz_v598) _ ⟨(by (with_reducible repeat (first | apply Kd.R_alloc | apply Kd.R_drewN | apply Kd.R_drew)); exact HO599.out), (by (with_reducible repeat (first | apply Kd.R_alloc | apply Kd.R_drewN | apply Kd.R_drew)); exact HO_3.out), ⟨_, rfl⟩, (by repeat (first | (with_reducible first | exact HI0.out | apply IsS109.alloc | apply IsS109.drewN | apply IsS109.drew | apply IsS109.set_1) | exact HI0.out)), (by repeat (first | (with_reducible first | exact HK.out | apply KeepBut.set_ | apply keep_drewN | apply keep_drew | apply keep_alloc) | exact HK.out)), (by repeat (first | (with_reducible first | exact HB.out | apply below_alloc | apply pw_below_drewN | apply below_drew1 | refine below_set ?_ (IsS109.ge HI0.out)) | exact HB.out))⟩)
                                          · skip
                                            refine Kd.R_lit_step Kd.string _ 9 ?hg (N := 41) ?hd (xs := ([(⟨#[]⟩ : ByteArray), (⟨#[97]⟩ : ByteArray), (⟨#[98]⟩ : ByteArray), (⟨#[99]⟩ : ByteArray), (⟨#[100]⟩ : ByteArray), (⟨#[100, 97]⟩ : ByteArray)] : List ByteArray)) (inner := [.string (⟨#[]⟩ : ByteArray), .string (⟨#[97]⟩ : ByteArray), .string (⟨#[98]⟩ : ByteArray), .string (⟨#[99]⟩ : ByteArray), .string (⟨#[100]⟩ : ByteArray), .string (⟨#[100, 97]⟩ : ByteArray)]) (ok := fun _ => True) (okp := fun _ => True) ?hr ?hp (fun _ hk => hk) trivial (Below.refl _ _) (Nat.le_refl _) (by simp) ?_; (case hd => rfl); (case hg => rfl); (case hr => first | (go_simp; done) | (go_simp; rfl)); (case hp => exact (Reps.one (show Kd.M Kd.string _ _ _ (⟨#[]⟩ : ByteArray) [.string (⟨#[]⟩ : ByteArray)] from rfl) (Reps.one (show Kd.M Kd.string _ _ _ (⟨#[97]⟩ : ByteArray) [.string (⟨#[97]⟩ : ByteArray)] from rfl) (Reps.one (show Kd.M Kd.string _ _ _ (⟨#[98]⟩ : ByteArray) [.string (⟨#[98]⟩ : ByteArray)] from rfl) (Reps.one (show Kd.M Kd.string _ _ _ (⟨#[99]⟩ : ByteArray) [.string (⟨#[99]⟩ : ByteArray)] from rfl) (Reps.one (show Kd.M Kd.string _ _ _ (⟨#[100]⟩ : ByteArray) [.string (⟨#[100]⟩ : ByteArray)] from rfl) (Reps.one (show Kd.M Kd.string _ _ _ (⟨#[100, 97]⟩ : ByteArray) [.string (⟨#[100, 97]⟩ : ByteArray)] from rfl) (Reps.none _ _))))))))
                                            intro v602 w39 ho40 hb hg_ hnew_
                                            clear hg_ hnew_
                                            (first | rw [← Ny601.out] at ho40 | (simp only [Int.reduceToNat] at ho40; rw [← Ny601.out] at ho40))
                                            have n0_ := Aside0.mk (Kd.R_elder' (by (with_reducible repeat (first | apply Kd.R_alloc | apply Kd.R_drewN | apply Kd.R_drew)); exact HO_3.out) (Kd.R_base ho40) hb)
                                            have n1_ := Aside0.mk (Kd.R_elder' (by (with_reducible repeat (first | apply Kd.R_alloc | apply Kd.R_drewN | apply Kd.R_drew)); exact HO599.out) (Kd.R_base ho40) hb)
                                            have n2_ := Aside0.mk (Kd.R_lower (Kd.R_new' (Kd.R_new' ho40 (Kd.R_lt (by (with_reducible repeat (first | apply Kd.R_alloc | apply Kd.R_drewN | apply Kd.R_drew)); exact HO_3.out))) (Kd.R_lt (by (with_reducible repeat (first | apply Kd.R_alloc | apply Kd.R_drewN | apply Kd.R_drew)); exact HO599.out))) (keep_size (w := w) (g := g) (row := none) (by repeat (first | (with_reducible first | exact HK.out | apply KeepBut.set_ | apply keep_drewN | apply keep_drew | apply keep_alloc) | exact HK.out))))
                                            have n3_ := Aside0.mk (IsS109.below (by repeat (first | (with_reducible first | exact HI0.out | apply IsS109.alloc | apply IsS109.drewN | apply IsS109.drew | apply IsS109.set_1) | exact HI0.out)) hb)
                                            have n4_ := Aside0.mk (KeepBut.trans (by repeat (first | (with_reducible first | exact HK.out | apply KeepBut.set_ | apply keep_drewN | apply keep_drew | apply keep_alloc) | exact HK.out)) (KeepBut.of_below hb g none) (.inl rfl))
                                            have n5_ := Aside0.mk (below_step (by repeat (first | (with_reducible first | exact HB.out | apply below_alloc | apply pw_below_drewN | apply below_drew1 | refine below_set ?_ (IsS109.ge HI0.out)) | exact HB.out)) hb)
                                            clear HO_3
                                            clear HO599
                                            clear HI0
                                            clear HK
                                            clear HB
                                            have HO_3 := n0_
                                            have HO599 := n1_
                                            have HO603 := n2_
                                            have HI0 := n3_
                                            have HK := n4_
                                            have HB := n5_
                                            clear n0_ n1_ n2_ n3_ n4_ n5_
                                            clear hb ho40
                                            obtain ⟨Ao41, co41, eo41⟩ := Kd.R_slice HO603.out
                                            subst eo41
                                            obtain ⟨ado41, fo41, _⟩ := Kd.at_string (Kd.R_reads' HO603.out).2.2 0 (by decide) (by rw [Ny601.out]; simp)
                                            cases fo41
                                            refine hK.out _ _ trivial (fun hHeld => ?_)
                                            clear hK K
                                            refine norm_ (a' := ?_) ?_ ?_
                                            rotate_left
                                            · show Act.put _ (some 41) _ = _
                                              simp only [Act.put, List.setIfInBounds_toArray, List.set_cons_zero, List.set_cons_succ, i64_w, i32_w]
                                              rfl
                                            refine pure_ (i := 10) (N := some 44) (v := ?_) (a' := ?_) #[true, true, true, true, true, false, false, true, true, true, true, false, false, false, false] rfl rfl (any_of HT_.out (by kernel_rfl)) (fun _ _ _ h => h) (Or.inl ⟨by rfl, ?_⟩) ?_ ?_
                                            rotate_left
                                            · intro w'
                                              go_simp
                                              with_reducible rfl
                                            rotate_left
                                            · simp only [Act.put, List.setIfInBounds_toArray, List.set_cons_zero, List.set_cons_succ, i64_w, i32_w]
                                              rfl
                                            exact norm_ (by first | (simp only [putAll, Act.put, List.setIfInBounds_toArray, List.set_cons_zero, List.set_cons_succ]; done) | (simp only [putAll, Act.put, List.setIfInBounds_toArray, List.set_cons_zero, List.set_cons_succ]; rfl)) (hJ1_7 (.slice (some adz_v598) y597.length co38, adz_v598, .slice (some ado41) y601.length co41, ado41) _ ⟨(by (with_reducible repeat (first | apply Kd.R_alloc | apply Kd.R_drewN | apply Kd.R_drew)); exact Kd.R_mono HO599.out (fun _ hk => ⟨hk.2, hk.1⟩)), (by (with_reducible repeat (first | apply Kd.R_alloc | apply Kd.R_drewN | apply Kd.R_drew)); exact Kd.R_mono HO603.out (fun _ hk => ⟨hk.2, hk.1.2⟩)), (by (with_reducible repeat (first | apply Kd.R_alloc | apply Kd.R_drewN | apply Kd.R_drew)); exact HO_3.out), ⟨_, rfl⟩, ⟨_, rfl⟩, (by repeat (first | (with_reducible first | exact HI0.out | apply IsS109.alloc | apply IsS109.drewN | apply IsS109.drew | apply IsS109.set_1) | exact HI0.out)), (by repeat (first | (with_reducible first | exact HK.out | apply KeepBut.set_ | apply keep_drewN | apply keep_drew | apply keep_alloc) | exact HK.out)), (by repeat (first | (with_reducible first | exact HB.out | apply below_alloc | apply pw_below_drewN | apply below_drew1 | refine below_set ?_ (IsS109.ge HI0.out)) | exact HB.out))⟩)
                                      · skip
                                        rintro ⟨v602, adz_v602⟩ w37 ⟨h0_, h1_, h2_, h3_, h4_, h5_⟩
                                        have n0_ : Aside0 (Kd.R Kd.string 9 w37 w.heap.size (fun k_ => some k_ ≠ (.slice Ao32 x3_1.length co32 : Value).ownBlock) v602 y601) := ⟨h0_⟩
                                        have n1_ : Aside0 (Kd.R Kd.string 9 w37 w.heap.size (fun k_ => some k_ ≠ (v602 : Value).ownBlock) (.slice Ao32 x3_1.length co32) x3_1) := ⟨h1_⟩
                                        have n2_ : Aside0 (∃ c_, (v602 : Value) = .slice (some adz_v602) y601.length c_) := ⟨h2_⟩
                                        have n3_ : Aside0 (IsS109 w0 w37 g s0_0 t581) := ⟨h3_⟩
                                        have n4_ : Aside0 (KeepBut w w37 g none) := ⟨h4_⟩
                                        have n5_ : Aside0 (Below w0.heap.size w0 w37) := ⟨h5_⟩
                                        clear HO_3
                                        clear HI0
                                        clear HK
                                        clear HB
                                        clear h0_ h1_ h2_ h3_ h4_ h5_
                                        have HO603 := n0_
                                        have HO_3 := n1_
                                        have HA_HO603 := n2_
                                        have HI0 := n3_
                                        have HK := n4_
                                        have HB := n5_
                                        clear n0_ n1_ n2_ n3_ n4_ n5_
                                        have hHeld := trivial
                                        obtain ⟨co38, eo38⟩ := HA_HO603.out
                                        clear HA_HO603
                                        subst eo38
                                        refine norm_ (a' := ?_) ?_ ?_
                                        rotate_left
                                        · simp only [putAll, Act.put, List.setIfInBounds_toArray, List.set_cons_zero, List.set_cons_succ]
                                          rfl
                                        refine one_ (i := 1) (N := some 35) #[true, true, true, true, false, false, false, true, true, true, true, true, false, false, false] rfl rfl (one_of HT_.out (by kernel_rfl)) (by decide) (fun K hK => ?_)
                                        refine Kd.R_lit_step Kd.string _ 9 ?hg (N := 35) ?hd (xs := ([(⟨#[]⟩ : ByteArray), (⟨#[97]⟩ : ByteArray), (⟨#[98]⟩ : ByteArray), (⟨#[99]⟩ : ByteArray), (⟨#[100]⟩ : ByteArray)] : List ByteArray)) (inner := [.string (⟨#[]⟩ : ByteArray), .string (⟨#[97]⟩ : ByteArray), .string (⟨#[98]⟩ : ByteArray), .string (⟨#[99]⟩ : ByteArray), .string (⟨#[100]⟩ : ByteArray)]) (ok := fun _ => True) (okp := fun _ => True) ?hr ?hp (fun _ hk => hk) trivial (Below.refl _ _) (Nat.le_refl _) (by simp) ?_; (case hd => rfl); (case hg => rfl); (case hr => first | (go_simp; done) | (go_simp; rfl)); (case hp => exact (Reps.one (show Kd.M Kd.string _ _ _ (⟨#[]⟩ : ByteArray) [.string (⟨#[]⟩ : ByteArray)] from rfl) (Reps.one (show Kd.M Kd.string _ _ _ (⟨#[97]⟩ : ByteArray) [.string (⟨#[97]⟩ : ByteArray)] from rfl) (Reps.one (show Kd.M Kd.string _ _ _ (⟨#[98]⟩ : ByteArray) [.string (⟨#[98]⟩ : ByteArray)] from rfl) (Reps.one (show Kd.M Kd.string _ _ _ (⟨#[99]⟩ : ByteArray) [.string (⟨#[99]⟩ : ByteArray)] from rfl) (Reps.one (show Kd.M Kd.string _ _ _ (⟨#[100]⟩ : ByteArray) [.string (⟨#[100]⟩ : ByteArray)] from rfl) (Reps.none _ _)))))))
                                        intro v598 w39 ho40 hb hg_ hnew_
                                        clear hg_ hnew_
                                        (first | rw [← Ny597.out] at ho40 | (simp only [Int.reduceToNat] at ho40; rw [← Ny597.out] at ho40))
                                        have n0_ := Aside0.mk (Kd.R_elder' (by (with_reducible repeat (first | apply Kd.R_alloc | apply Kd.R_drewN | apply Kd.R_drew)); exact HO_3.out) (Kd.R_base ho40) hb)
                                        have n1_ := Aside0.mk (Kd.R_elder' (by (with_reducible repeat (first | apply Kd.R_alloc | apply Kd.R_drewN | apply Kd.R_drew)); exact HO603.out) (Kd.R_base ho40) hb)
                                        have n2_ := Aside0.mk (Kd.R_lower (Kd.R_new' (Kd.R_new' ho40 (Kd.R_lt (by (with_reducible repeat (first | apply Kd.R_alloc | apply Kd.R_drewN | apply Kd.R_drew)); exact HO_3.out))) (Kd.R_lt (by (with_reducible repeat (first | apply Kd.R_alloc | apply Kd.R_drewN | apply Kd.R_drew)); exact HO603.out))) (keep_size (w := w) (g := g) (row := none) (by repeat (first | (with_reducible first | exact HK.out | apply KeepBut.set_ | apply keep_drewN | apply keep_drew | apply keep_alloc) | exact HK.out))))
                                        have n3_ := Aside0.mk (IsS109.below (by repeat (first | (with_reducible first | exact HI0.out | apply IsS109.alloc | apply IsS109.drewN | apply IsS109.drew | apply IsS109.set_1) | exact HI0.out)) hb)
                                        have n4_ := Aside0.mk (KeepBut.trans (by repeat (first | (with_reducible first | exact HK.out | apply KeepBut.set_ | apply keep_drewN | apply keep_drew | apply keep_alloc) | exact HK.out)) (KeepBut.of_below hb g none) (.inl rfl))
                                        have n5_ := Aside0.mk (below_step (by repeat (first | (with_reducible first | exact HB.out | apply below_alloc | apply pw_below_drewN | apply below_drew1 | refine below_set ?_ (IsS109.ge HI0.out)) | exact HB.out)) hb)
                                        clear HO_3
                                        clear HO603
                                        clear HI0
                                        clear HK
                                        clear HB
                                        have HO_3 := n0_
                                        have HO603 := n1_
                                        have HO599 := n2_
                                        have HI0 := n3_
                                        have HK := n4_
                                        have HB := n5_
                                        clear n0_ n1_ n2_ n3_ n4_ n5_
                                        clear hb ho40
                                        obtain ⟨Ao41, co41, eo41⟩ := Kd.R_slice HO599.out
                                        subst eo41
                                        obtain ⟨ado41, fo41, _⟩ := Kd.at_string (Kd.R_reads' HO599.out).2.2 0 (by decide) (by rw [Ny597.out]; simp)
                                        cases fo41
                                        refine hK.out _ _ trivial (fun hHeld => ?_)
                                        clear hK K
                                        refine norm_ (a' := ?_) ?_ ?_
                                        rotate_left
                                        · show Act.put _ (some 35) _ = _
                                          simp only [Act.put, List.setIfInBounds_toArray, List.set_cons_zero, List.set_cons_succ, i64_w, i32_w]
                                          rfl
                                        refine pure_ (i := 4) (N := some 38) (v := ?_) (a' := ?_) #[true, true, true, true, true, false, false, true, true, true, true, true, false, false, false] rfl rfl (any_of HT_.out (by kernel_rfl)) (fun _ _ _ h => h) (Or.inl ⟨by rfl, ?_⟩) ?_ ?_
                                        rotate_left
                                        · intro w'
                                          go_simp
                                          with_reducible rfl
                                        rotate_left
                                        · simp only [Act.put, List.setIfInBounds_toArray, List.set_cons_zero, List.set_cons_succ, i64_w, i32_w]
                                          rfl
                                        exact norm_ (by first | (simp only [putAll, Act.put, List.setIfInBounds_toArray, List.set_cons_zero, List.set_cons_succ]; done) | (simp only [putAll, Act.put, List.setIfInBounds_toArray, List.set_cons_zero, List.set_cons_succ]; rfl)) (hJ1_7_11 (.slice (some ado41) y597.length co41, ado41, .slice (some adz_v602) y601.length co38, adz_v602) _ ⟨(by (with_reducible repeat (first | apply Kd.R_alloc | apply Kd.R_drewN | apply Kd.R_drew)); exact Kd.R_mono HO599.out (fun _ hk => ⟨hk.2, hk.1.2⟩)), (by (with_reducible repeat (first | apply Kd.R_alloc | apply Kd.R_drewN | apply Kd.R_drew)); exact Kd.R_mono HO603.out (fun _ hk => ⟨hk.2, hk.1⟩)), (by (with_reducible repeat (first | apply Kd.R_alloc | apply Kd.R_drewN | apply Kd.R_drew)); exact Kd.R_mono HO_3.out (fun _ hk => ⟨hk.2, hk.1⟩)), ⟨_, rfl⟩, ⟨_, rfl⟩, (by repeat (first | (with_reducible first | exact HI0.out | apply IsS109.alloc | apply IsS109.drewN | apply IsS109.drew | apply IsS109.set_1) | exact HI0.out)), (by repeat (first | (with_reducible first | exact HK.out | apply KeepBut.set_ | apply keep_drewN | apply keep_drew | apply keep_alloc) | exact HK.out)), (by repeat (first | (with_reducible first | exact HB.out | apply below_alloc | apply pw_below_drewN | apply below_drew1 | refine below_set ?_ (IsS109.ge HI0.out)) | exact HB.out))⟩)
                                    · skip
                                      rintro ⟨v598, adz_v598, v602, adz_v602⟩ w40 ⟨h0_, h1_, h2_, h3_, h4_, h5_, h6_, h7_⟩
                                      have n0_ : Aside0 (Kd.R Kd.string 9 w40 w.heap.size (fun k_ => some k_ ≠ (v602 : Value).ownBlock ∧ some k_ ≠ (.slice Ao32 x3_1.length co32 : Value).ownBlock) v598 y597) := ⟨h0_⟩
                                      have n1_ : Aside0 (Kd.R Kd.string 9 w40 w.heap.size (fun k_ => some k_ ≠ (v598 : Value).ownBlock ∧ some k_ ≠ (.slice Ao32 x3_1.length co32 : Value).ownBlock) v602 y601) := ⟨h1_⟩
                                      have n2_ : Aside0 (Kd.R Kd.string 9 w40 w.heap.size (fun k_ => some k_ ≠ (v598 : Value).ownBlock ∧ some k_ ≠ (v602 : Value).ownBlock) (.slice Ao32 x3_1.length co32) x3_1) := ⟨h2_⟩
                                      have n3_ : Aside0 (∃ c_, (v598 : Value) = .slice (some adz_v598) y597.length c_) := ⟨h3_⟩
                                      have n4_ : Aside0 (∃ c_, (v602 : Value) = .slice (some adz_v602) y601.length c_) := ⟨h4_⟩
                                      have n5_ : Aside0 (IsS109 w0 w40 g s0_0 t581) := ⟨h5_⟩
                                      have n6_ : Aside0 (KeepBut w w40 g none) := ⟨h6_⟩
                                      have n7_ : Aside0 (Below w0.heap.size w0 w40) := ⟨h7_⟩
                                      clear HO_3
                                      clear HI0
                                      clear HK
                                      clear HB
                                      clear h0_ h1_ h2_ h3_ h4_ h5_ h6_ h7_
                                      have HO599 := n0_
                                      have HO603 := n1_
                                      have HO_3 := n2_
                                      have HA_HO599 := n3_
                                      have HA_HO603 := n4_
                                      have HI0 := n5_
                                      have HK := n6_
                                      have HB := n7_
                                      clear n0_ n1_ n2_ n3_ n4_ n5_ n6_ n7_
                                      have hHeld := trivial
                                      obtain ⟨co41, eo41⟩ := HA_HO599.out
                                      clear HA_HO599
                                      subst eo41
                                      obtain ⟨co42, eo42⟩ := HA_HO603.out
                                      clear HA_HO603
                                      subst eo42
                                      refine norm_ (a' := ?_) ?_ ?_
                                      rotate_left
                                      · simp only [putAll, Act.put, List.setIfInBounds_toArray, List.set_cons_zero, List.set_cons_succ]
                                        rfl
                                      refine two_ (i := 5) (j := 11) (Ni := some 39) (Nj := some 45) #[true, true, true, true, true, true, false, true, true, true, true, false, false, false, false] #[true, true, true, true, true, false, false, true, true, true, true, true, false, false, false] rfl rfl rfl rfl (two_of HT_.out (by kernel_rfl)) (by decide) (by decide) (fun K hK => ?_) (fun K hK => ?_)
                                      · skip
                                        (have p600 : 0 ≤ ((ji23) : Int) := of_decide_eq_true (by first | (with_reducible assumption) | assumption); have q600 : (ji23) < (y597.length : Int) := of_decide_eq_true (by first | (with_reducible assumption) | assumption); obtain ⟨ad600, e600, hx600_0⟩ := Kd.at_string (Kd.R_reads' HO599.out).2.2 (ji23) p600 q600; obtain rfl : adz_v598 = ad600 := (by injection e600))
                                        refine value_ (w1 := ?_) (v := ?_) (by rfl) rfl ?_ ?_
                                        rotate_left 2
                                        · go_simp
                                          constructor
                                          · rfl
                                          · rfl
                                        clear hx600_0
                                        refine hK.out _ _ trivial (fun hHeld => ?_)
                                        clear hK K
                                        refine norm_ (a' := ?_) ?_ ?_
                                        rotate_left
                                        · show Act.put _ (some 39) _ = _
                                          simp only [Act.put, List.setIfInBounds_toArray, List.set_cons_zero, List.set_cons_succ, i64_w, i32_w]
                                          rfl
                                        refine pure_ (i := 6) (N := some 40) (v := ?_) (a' := ?_) #[true, true, true, true, true, true, true, true, true, true, true, false, false, false, false] rfl rfl (any_of HT_.out (by kernel_rfl)) (fun _ _ _ h => h) (Or.inl ⟨by rfl, ?_⟩) ?_ ?_
                                        rotate_left
                                        · intro w'
                                          go_simp
                                          with_reducible rfl
                                        rotate_left
                                        · simp only [Act.put, List.setIfInBounds_toArray, List.set_cons_zero, List.set_cons_succ, i64_w, i32_w]
                                          rfl
                                        exact norm_ (by first | (simp only [putAll, Act.put, List.setIfInBounds_toArray, List.set_cons_zero, List.set_cons_succ]; done) | (simp only [putAll, Act.put, List.setIfInBounds_toArray, List.set_cons_zero, List.set_cons_succ]; rfl)) (hJ1_5_7 (.slice (some adz_v598) y597.length co41, adz_v598, .slice (some adz_v602) y601.length co42, adz_v602) _ ⟨(by (with_reducible repeat (first | apply Kd.R_alloc | apply Kd.R_drewN | apply Kd.R_drew)); exact HO599.out), (by (with_reducible repeat (first | apply Kd.R_alloc | apply Kd.R_drewN | apply Kd.R_drew)); exact HO603.out), (by (with_reducible repeat (first | apply Kd.R_alloc | apply Kd.R_drewN | apply Kd.R_drew)); exact HO_3.out), ⟨_, rfl⟩, ⟨_, rfl⟩, (by repeat (first | (with_reducible first | exact HI0.out | apply IsS109.alloc | apply IsS109.drewN | apply IsS109.drew | apply IsS109.set_1) | exact HI0.out)), (by repeat (first | (with_reducible first | exact HK.out | apply KeepBut.set_ | apply keep_drewN | apply keep_drew | apply keep_alloc) | exact HK.out)), (by repeat (first | (with_reducible first | exact HB.out | apply below_alloc | apply pw_below_drewN | apply below_drew1 | refine below_set ?_ (IsS109.ge HI0.out)) | exact HB.out))⟩)
                                      · skip
                                        (have p604 : 0 ≤ ((ji27) : Int) := of_decide_eq_true (by first | (with_reducible assumption) | assumption); have q604 : (ji27) < (y601.length : Int) := of_decide_eq_true (by first | (with_reducible assumption) | assumption); obtain ⟨ad604, e604, hx604_0⟩ := Kd.at_string (Kd.R_reads' HO603.out).2.2 (ji27) p604 q604; obtain rfl : adz_v602 = ad604 := (by injection e604))
                                        refine value_ (w1 := ?_) (v := ?_) (by rfl) rfl ?_ ?_
                                        rotate_left 2
                                        · go_simp
                                          constructor
                                          · rfl
                                          · rfl
                                        clear hx604_0
                                        refine hK.out _ _ trivial (fun hHeld => ?_)
                                        clear hK K
                                        refine norm_ (a' := ?_) ?_ ?_
                                        rotate_left
                                        · show Act.put _ (some 45) _ = _
                                          simp only [Act.put, List.setIfInBounds_toArray, List.set_cons_zero, List.set_cons_succ, i64_w, i32_w]
                                          rfl
                                        exact norm_ (by first | (simp only [putAll, Act.put, List.setIfInBounds_toArray, List.set_cons_zero, List.set_cons_succ]; done) | (simp only [putAll, Act.put, List.setIfInBounds_toArray, List.set_cons_zero, List.set_cons_succ]; rfl)) (hJ1_7_11 (.slice (some adz_v598) y597.length co41, adz_v598, .slice (some adz_v602) y601.length co42, adz_v602) _ ⟨(by (with_reducible repeat (first | apply Kd.R_alloc | apply Kd.R_drewN | apply Kd.R_drew)); exact HO599.out), (by (with_reducible repeat (first | apply Kd.R_alloc | apply Kd.R_drewN | apply Kd.R_drew)); exact HO603.out), (by (with_reducible repeat (first | apply Kd.R_alloc | apply Kd.R_drewN | apply Kd.R_drew)); exact HO_3.out), ⟨_, rfl⟩, ⟨_, rfl⟩, (by repeat (first | (with_reducible first | exact HI0.out | apply IsS109.alloc | apply IsS109.drewN | apply IsS109.drew | apply IsS109.set_1) | exact HI0.out)), (by repeat (first | (with_reducible first | exact HK.out | apply KeepBut.set_ | apply keep_drewN | apply keep_drew | apply keep_alloc) | exact HK.out)), (by repeat (first | (with_reducible first | exact HB.out | apply below_alloc | apply pw_below_drewN | apply below_drew1 | refine below_set ?_ (IsS109.ge HI0.out)) | exact HB.out))⟩)
                                  · skip
                                    rintro ⟨v598, adz_v598⟩ w37 ⟨h0_, h1_, h2_, h3_, h4_, h5_⟩
                                    have n0_ : Aside0 (Kd.R Kd.string 9 w37 w.heap.size (fun k_ => some k_ ≠ (.slice Ao32 x3_1.length co32 : Value).ownBlock) v598 y597) := ⟨h0_⟩
                                    have n1_ : Aside0 (Kd.R Kd.string 9 w37 w.heap.size (fun k_ => some k_ ≠ (v598 : Value).ownBlock) (.slice Ao32 x3_1.length co32) x3_1) := ⟨h1_⟩
                                    have n2_ : Aside0 (∃ c_, (v598 : Value) = .slice (some adz_v598) y597.length c_) := ⟨h2_⟩
                                    have n3_ : Aside0 (IsS109 w0 w37 g s0_0 t581) := ⟨h3_⟩
                                    have n4_ : Aside0 (KeepBut w w37 g none) := ⟨h4_⟩
                                    have n5_ : Aside0 (Below w0.heap.size w0 w37) := ⟨h5_⟩
                                    clear HO_3
                                    clear HI0
                                    clear HK
                                    clear HB
                                    clear h0_ h1_ h2_ h3_ h4_ h5_
                                    have HO599 := n0_
                                    have HO_3 := n1_
                                    have HA_HO599 := n2_
                                    have HI0 := n3_
                                    have HK := n4_
                                    have HB := n5_
                                    clear n0_ n1_ n2_ n3_ n4_ n5_
                                    have hHeld := trivial
                                    obtain ⟨co38, eo38⟩ := HA_HO599.out
                                    clear HA_HO599
                                    subst eo38
                                    refine norm_ (a' := ?_) ?_ ?_
                                    rotate_left
                                    · simp only [putAll, Act.put, List.setIfInBounds_toArray, List.set_cons_zero, List.set_cons_succ]
                                      rfl
                                    refine one_ (i := 7) (N := some 41) #[true, true, true, true, true, true, true, true, true, true, false, false, false, false, false] rfl rfl (one_of HT_.out (by kernel_rfl)) (by decide) (fun K hK => ?_)
                                    refine Kd.R_lit_step Kd.string _ 9 ?hg (N := 41) ?hd (xs := ([(⟨#[]⟩ : ByteArray), (⟨#[97]⟩ : ByteArray), (⟨#[98]⟩ : ByteArray), (⟨#[99]⟩ : ByteArray), (⟨#[100]⟩ : ByteArray), (⟨#[100, 97]⟩ : ByteArray)] : List ByteArray)) (inner := [.string (⟨#[]⟩ : ByteArray), .string (⟨#[97]⟩ : ByteArray), .string (⟨#[98]⟩ : ByteArray), .string (⟨#[99]⟩ : ByteArray), .string (⟨#[100]⟩ : ByteArray), .string (⟨#[100, 97]⟩ : ByteArray)]) (ok := fun _ => True) (okp := fun _ => True) ?hr ?hp (fun _ hk => hk) trivial (Below.refl _ _) (Nat.le_refl _) (by simp) ?_; (case hd => rfl); (case hg => rfl); (case hr => first | (go_simp; done) | (go_simp; rfl)); (case hp => exact (Reps.one (show Kd.M Kd.string _ _ _ (⟨#[]⟩ : ByteArray) [.string (⟨#[]⟩ : ByteArray)] from rfl) (Reps.one (show Kd.M Kd.string _ _ _ (⟨#[97]⟩ : ByteArray) [.string (⟨#[97]⟩ : ByteArray)] from rfl) (Reps.one (show Kd.M Kd.string _ _ _ (⟨#[98]⟩ : ByteArray) [.string (⟨#[98]⟩ : ByteArray)] from rfl) (Reps.one (show Kd.M Kd.string _ _ _ (⟨#[99]⟩ : ByteArray) [.string (⟨#[99]⟩ : ByteArray)] from rfl) (Reps.one (show Kd.M Kd.string _ _ _ (⟨#[100]⟩ : ByteArray) [.string (⟨#[100]⟩ : ByteArray)] from rfl) (Reps.one (show Kd.M Kd.string _ _ _ (⟨#[100, 97]⟩ : ByteArray) [.string (⟨#[100, 97]⟩ : ByteArray)] from rfl) (Reps.none _ _))))))))
                                    intro v602 w39 ho40 hb hg_ hnew_
                                    clear hg_ hnew_
                                    (first | rw [← Ny601.out] at ho40 | (simp only [Int.reduceToNat] at ho40; rw [← Ny601.out] at ho40))
                                    have n0_ := Aside0.mk (Kd.R_elder' (by (with_reducible repeat (first | apply Kd.R_alloc | apply Kd.R_drewN | apply Kd.R_drew)); exact HO_3.out) (Kd.R_base ho40) hb)
                                    have n1_ := Aside0.mk (Kd.R_elder' (by (with_reducible repeat (first | apply Kd.R_alloc | apply Kd.R_drewN | apply Kd.R_drew)); exact HO599.out) (Kd.R_base ho40) hb)
                                    have n2_ := Aside0.mk (Kd.R_lower (Kd.R_new' (Kd.R_new' ho40 (Kd.R_lt (by (with_reducible repeat (first | apply Kd.R_alloc | apply Kd.R_drewN | apply Kd.R_drew)); exact HO_3.out))) (Kd.R_lt (by (with_reducible repeat (first | apply Kd.R_alloc | apply Kd.R_drewN | apply Kd.R_drew)); exact HO599.out))) (keep_size (w := w) (g := g) (row := none) (by repeat (first | (with_reducible first | exact HK.out | apply KeepBut.set_ | apply keep_drewN | apply keep_drew | apply keep_alloc) | exact HK.out))))
                                    have n3_ := Aside0.mk (IsS109.below (by repeat (first | (with_reducible first | exact HI0.out | apply IsS109.alloc | apply IsS109.drewN | apply IsS109.drew | apply IsS109.set_1) | exact HI0.out)) hb)
                                    have n4_ := Aside0.mk (KeepBut.trans (by repeat (first | (with_reducible first | exact HK.out | apply KeepBut.set_ | apply keep_drewN | apply keep_drew | apply keep_alloc) | exact HK.out)) (KeepBut.of_below hb g none) (.inl rfl))
                                    have n5_ := Aside0.mk (below_step (by repeat (first | (with_reducible first | exact HB.out | apply below_alloc | apply pw_below_drewN | apply below_drew1 | refine below_set ?_ (IsS109.ge HI0.out)) | exact HB.out)) hb)
                                    clear HO_3
                                    clear HO599
                                    clear HI0
                                    clear HK
                                    clear HB
                                    have HO_3 := n0_
                                    have HO599 := n1_
                                    have HO603 := n2_
                                    have HI0 := n3_
                                    have HK := n4_
                                    have HB := n5_
                                    clear n0_ n1_ n2_ n3_ n4_ n5_
                                    clear hb ho40
                                    obtain ⟨Ao41, co41, eo41⟩ := Kd.R_slice HO603.out
                                    subst eo41
                                    obtain ⟨ado41, fo41, _⟩ := Kd.at_string (Kd.R_reads' HO603.out).2.2 0 (by decide) (by rw [Ny601.out]; simp)
                                    cases fo41
                                    refine hK.out _ _ trivial (fun hHeld => ?_)
                                    clear hK K
                                    refine norm_ (a' := ?_) ?_ ?_
                                    rotate_left
                                    · show Act.put _ (some 41) _ = _
                                      simp only [Act.put, List.setIfInBounds_toArray, List.set_cons_zero, List.set_cons_succ, i64_w, i32_w]
                                      rfl
                                    refine pure_ (i := 10) (N := some 44) (v := ?_) (a' := ?_) #[true, true, true, true, true, true, true, true, true, true, true, false, false, false, false] rfl rfl (any_of HT_.out (by kernel_rfl)) (fun _ _ _ h => h) (Or.inl ⟨by rfl, ?_⟩) ?_ ?_
                                    rotate_left
                                    · intro w'
                                      go_simp
                                      with_reducible rfl
                                    rotate_left
                                    · simp only [Act.put, List.setIfInBounds_toArray, List.set_cons_zero, List.set_cons_succ, i64_w, i32_w]
                                      rfl
                                    exact norm_ (by first | (simp only [putAll, Act.put, List.setIfInBounds_toArray, List.set_cons_zero, List.set_cons_succ]; done) | (simp only [putAll, Act.put, List.setIfInBounds_toArray, List.set_cons_zero, List.set_cons_succ]; rfl)) (hJ1_5_7 (.slice (some adz_v598) y597.length co38, adz_v598, .slice (some ado41) y601.length co41, ado41) _ ⟨(by (with_reducible repeat (first | apply Kd.R_alloc | apply Kd.R_drewN | apply Kd.R_drew)); exact Kd.R_mono HO599.out (fun _ hk => ⟨hk.2, hk.1⟩)), (by (with_reducible repeat (first | apply Kd.R_alloc | apply Kd.R_drewN | apply Kd.R_drew)); exact Kd.R_mono HO603.out (fun _ hk => ⟨hk.2, hk.1.2⟩)), (by (with_reducible repeat (first | apply Kd.R_alloc | apply Kd.R_drewN | apply Kd.R_drew)); exact HO_3.out), ⟨_, rfl⟩, ⟨_, rfl⟩, (by repeat (first | (with_reducible first | exact HI0.out | apply IsS109.alloc | apply IsS109.drewN | apply IsS109.drew | apply IsS109.set_1) | exact HI0.out)), (by repeat (first | (with_reducible first | exact HK.out | apply KeepBut.set_ | apply keep_drewN | apply keep_drew | apply keep_alloc) | exact HK.out)), (by repeat (first | (with_reducible first | exact HB.out | apply below_alloc | apply pw_below_drewN | apply below_drew1 | refine below_set ?_ (IsS109.ge HI0.out)) | exact HB.out))⟩)
                                · skip
                                  rintro ⟨v598, adz_v598, v602, adz_v602⟩ w40 ⟨h0_, h1_, h2_, h3_, h4_, h5_, h6_, h7_⟩
                                  have n0_ : Aside0 (Kd.R Kd.string 9 w40 w.heap.size (fun k_ => some k_ ≠ (v602 : Value).ownBlock ∧ some k_ ≠ (.slice Ao32 x3_1.length co32 : Value).ownBlock) v598 y597) := ⟨h0_⟩
                                  have n1_ : Aside0 (Kd.R Kd.string 9 w40 w.heap.size (fun k_ => some k_ ≠ (v598 : Value).ownBlock ∧ some k_ ≠ (.slice Ao32 x3_1.length co32 : Value).ownBlock) v602 y601) := ⟨h1_⟩
                                  have n2_ : Aside0 (Kd.R Kd.string 9 w40 w.heap.size (fun k_ => some k_ ≠ (v598 : Value).ownBlock ∧ some k_ ≠ (v602 : Value).ownBlock) (.slice Ao32 x3_1.length co32) x3_1) := ⟨h2_⟩
                                  have n3_ : Aside0 (∃ c_, (v598 : Value) = .slice (some adz_v598) y597.length c_) := ⟨h3_⟩
                                  have n4_ : Aside0 (∃ c_, (v602 : Value) = .slice (some adz_v602) y601.length c_) := ⟨h4_⟩
                                  have n5_ : Aside0 (IsS109 w0 w40 g s0_0 t581) := ⟨h5_⟩
                                  have n6_ : Aside0 (KeepBut w w40 g none) := ⟨h6_⟩
                                  have n7_ : Aside0 (Below w0.heap.size w0 w40) := ⟨h7_⟩
                                  clear HO_3
                                  clear HI0
                                  clear HK
                                  clear HB
                                  clear h0_ h1_ h2_ h3_ h4_ h5_ h6_ h7_
                                  have HO599 := n0_
                                  have HO603 := n1_
                                  have HO_3 := n2_
                                  have HA_HO599 := n3_
                                  have HA_HO603 := n4_
                                  have HI0 := n5_
                                  have HK := n6_
                                  have HB := n7_
                                  clear n0_ n1_ n2_ n3_ n4_ n5_ n6_ n7_
                                  have hHeld := trivial
                                  obtain ⟨co41, eo41⟩ := HA_HO599.out
                                  clear HA_HO599
                                  subst eo41
                                  obtain ⟨co42, eo42⟩ := HA_HO603.out
                                  clear HA_HO603
                                  subst eo42
                                  refine norm_ (a' := ?_) ?_ ?_
                                  rotate_left
                                  · simp only [putAll, Act.put, List.setIfInBounds_toArray, List.set_cons_zero, List.set_cons_succ]
                                    rfl
                                  refine one_ (i := 5) (N := some 39) #[true, true, true, true, true, true, false, true, true, true, true, true, false, false, false] rfl rfl (one_of HT_.out (by kernel_rfl)) (by decide) (fun K hK => ?_)
                                  (have p600 : 0 ≤ ((ji23) : Int) := of_decide_eq_true (by first | (with_reducible assumption) | assumption); have q600 : (ji23) < (y597.length : Int) := of_decide_eq_true (by first | (with_reducible assumption) | assumption); obtain ⟨ad600, e600, hx600_0⟩ := Kd.at_string (Kd.R_reads' HO599.out).2.2 (ji23) p600 q600; obtain rfl : adz_v598 = ad600 := (by injection e600))
                                  refine value_ (w1 := ?_) (v := ?_) (by rfl) rfl ?_ ?_
                                  rotate_left 2
                                  · go_simp
                                    constructor
                                    · rfl
                                    · rfl
                                  clear hx600_0
                                  refine hK.out _ _ trivial (fun hHeld => ?_)
                                  clear hK K
                                  refine norm_ (a' := ?_) ?_ ?_
                                  rotate_left
                                  · show Act.put _ (some 39) _ = _
                                    simp only [Act.put, List.setIfInBounds_toArray, List.set_cons_zero, List.set_cons_succ, i64_w, i32_w]
                                    rfl
                                  refine pure_ (i := 6) (N := some 40) (v := ?_) (a' := ?_) #[true, true, true, true, true, true, true, true, true, true, true, true, false, false, false] rfl rfl (any_of HT_.out (by kernel_rfl)) (fun _ _ _ h => h) (Or.inl ⟨by rfl, ?_⟩) ?_ ?_
                                  rotate_left
                                  · intro w'
                                    go_simp
                                    with_reducible rfl
                                  rotate_left
                                  · simp only [Act.put, List.setIfInBounds_toArray, List.set_cons_zero, List.set_cons_succ, i64_w, i32_w]
                                    rfl
                                  exact norm_ (by first | (simp only [putAll, Act.put, List.setIfInBounds_toArray, List.set_cons_zero, List.set_cons_succ]; done) | (simp only [putAll, Act.put, List.setIfInBounds_toArray, List.set_cons_zero, List.set_cons_succ]; rfl)) (hJ1_5_7_11 (.slice (some adz_v598) y597.length co41, adz_v598, .slice (some adz_v602) y601.length co42, adz_v602) _ ⟨(by (with_reducible repeat (first | apply Kd.R_alloc | apply Kd.R_drewN | apply Kd.R_drew)); exact HO599.out), (by (with_reducible repeat (first | apply Kd.R_alloc | apply Kd.R_drewN | apply Kd.R_drew)); exact HO603.out), (by (with_reducible repeat (first | apply Kd.R_alloc | apply Kd.R_drewN | apply Kd.R_drew)); exact HO_3.out), ⟨_, rfl⟩, ⟨_, rfl⟩, (by repeat (first | (with_reducible first | exact HI0.out | apply IsS109.alloc | apply IsS109.drewN | apply IsS109.drew | apply IsS109.set_1) | exact HI0.out)), (by repeat (first | (with_reducible first | exact HK.out | apply KeepBut.set_ | apply keep_drewN | apply keep_drew | apply keep_alloc) | exact HK.out)), (by repeat (first | (with_reducible first | exact HB.out | apply below_alloc | apply pw_below_drewN | apply below_drew1 | refine below_set ?_ (IsS109.ge HI0.out)) | exact HB.out))⟩)
                              · skip
                                rintro ⟨v598, adz_v598, v602, adz_v602⟩ w40 ⟨h0_, h1_, h2_, h3_, h4_, h5_, h6_, h7_⟩
                                have n0_ : Aside0 (Kd.R Kd.string 9 w40 w.heap.size (fun k_ => some k_ ≠ (v602 : Value).ownBlock ∧ some k_ ≠ (.slice Ao32 x3_1.length co32 : Value).ownBlock) v598 y597) := ⟨h0_⟩
                                have n1_ : Aside0 (Kd.R Kd.string 9 w40 w.heap.size (fun k_ => some k_ ≠ (v598 : Value).ownBlock ∧ some k_ ≠ (.slice Ao32 x3_1.length co32 : Value).ownBlock) v602 y601) := ⟨h1_⟩
                                have n2_ : Aside0 (Kd.R Kd.string 9 w40 w.heap.size (fun k_ => some k_ ≠ (v598 : Value).ownBlock ∧ some k_ ≠ (v602 : Value).ownBlock) (.slice Ao32 x3_1.length co32) x3_1) := ⟨h2_⟩
                                have n3_ : Aside0 (∃ c_, (v598 : Value) = .slice (some adz_v598) y597.length c_) := ⟨h3_⟩
                                have n4_ : Aside0 (∃ c_, (v602 : Value) = .slice (some adz_v602) y601.length c_) := ⟨h4_⟩
                                have n5_ : Aside0 (IsS109 w0 w40 g s0_0 t581) := ⟨h5_⟩
                                have n6_ : Aside0 (KeepBut w w40 g none) := ⟨h6_⟩
                                have n7_ : Aside0 (Below w0.heap.size w0 w40) := ⟨h7_⟩
                                clear HO_3
                                clear HI0
                                clear HK
                                clear HB
                                clear h0_ h1_ h2_ h3_ h4_ h5_ h6_ h7_
                                have HO599 := n0_
                                have HO603 := n1_
                                have HO_3 := n2_
                                have HA_HO599 := n3_
                                have HA_HO603 := n4_
                                have HI0 := n5_
                                have HK := n6_
                                have HB := n7_
                                clear n0_ n1_ n2_ n3_ n4_ n5_ n6_ n7_
                                have hHeld := trivial
                                obtain ⟨co41, eo41⟩ := HA_HO599.out
                                clear HA_HO599
                                subst eo41
                                obtain ⟨co42, eo42⟩ := HA_HO603.out
                                clear HA_HO603
                                subst eo42
                                refine norm_ (a' := ?_) ?_ ?_
                                rotate_left
                                · simp only [putAll, Act.put, List.setIfInBounds_toArray, List.set_cons_zero, List.set_cons_succ]
                                  rfl
                                refine one_ (i := 11) (N := some 45) #[true, true, true, true, true, true, true, true, true, true, true, true, false, false, false] rfl rfl (one_of HT_.out (by kernel_rfl)) (by decide) (fun K hK => ?_)
                                (have p604 : 0 ≤ ((ji27) : Int) := of_decide_eq_true (by first | (with_reducible assumption) | assumption); have q604 : (ji27) < (y601.length : Int) := of_decide_eq_true (by first | (with_reducible assumption) | assumption); obtain ⟨ad604, e604, hx604_0⟩ := Kd.at_string (Kd.R_reads' HO603.out).2.2 (ji27) p604 q604; obtain rfl : adz_v602 = ad604 := (by injection e604))
                                refine value_ (w1 := ?_) (v := ?_) (by rfl) rfl ?_ ?_
                                rotate_left 2
                                · go_simp
                                  constructor
                                  · rfl
                                  · rfl
                                clear hx604_0
                                refine hK.out _ _ trivial (fun hHeld => ?_)
                                clear hK K
                                refine norm_ (a' := ?_) ?_ ?_
                                rotate_left
                                · show Act.put _ (some 45) _ = _
                                  simp only [Act.put, List.setIfInBounds_toArray, List.set_cons_zero, List.set_cons_succ, i64_w, i32_w]
                                  rfl
                                exact norm_ (by first | (simp only [putAll, Act.put, List.setIfInBounds_toArray, List.set_cons_zero, List.set_cons_succ]; done) | (simp only [putAll, Act.put, List.setIfInBounds_toArray, List.set_cons_zero, List.set_cons_succ]; rfl)) (hJ1_5_7_11 (.slice (some adz_v598) y597.length co41, adz_v598, .slice (some adz_v602) y601.length co42, adz_v602) _ ⟨(by (with_reducible repeat (first | apply Kd.R_alloc | apply Kd.R_drewN | apply Kd.R_drew)); exact HO599.out), (by (with_reducible repeat (first | apply Kd.R_alloc | apply Kd.R_drewN | apply Kd.R_drew)); exact HO603.out), (by (with_reducible repeat (first | apply Kd.R_alloc | apply Kd.R_drewN | apply Kd.R_drew)); exact HO_3.out), ⟨_, rfl⟩, ⟨_, rfl⟩, (by repeat (first | (with_reducible first | exact HI0.out | apply IsS109.alloc | apply IsS109.drewN | apply IsS109.drew | apply IsS109.set_1) | exact HI0.out)), (by repeat (first | (with_reducible first | exact HK.out | apply KeepBut.set_ | apply keep_drewN | apply keep_drew | apply keep_alloc) | exact HK.out)), (by repeat (first | (with_reducible first | exact HB.out | apply below_alloc | apply pw_below_drewN | apply below_drew1 | refine below_set ?_ (IsS109.ge HI0.out)) | exact HB.out))⟩)
                            rintro ⟨v598, adz_v598, v602, adz_v602⟩ w40 ⟨h0_, h1_, h2_, h3_, h4_, h5_, h6_, h7_⟩
                            have n0_ : Aside0 (Kd.R Kd.string 9 w40 w.heap.size (fun k_ => some k_ ≠ (v602 : Value).ownBlock ∧ some k_ ≠ (.slice Ao32 x3_1.length co32 : Value).ownBlock) v598 y597) := ⟨h0_⟩
                            have n1_ : Aside0 (Kd.R Kd.string 9 w40 w.heap.size (fun k_ => some k_ ≠ (v598 : Value).ownBlock ∧ some k_ ≠ (.slice Ao32 x3_1.length co32 : Value).ownBlock) v602 y601) := ⟨h1_⟩
                            have n2_ : Aside0 (Kd.R Kd.string 9 w40 w.heap.size (fun k_ => some k_ ≠ (v598 : Value).ownBlock ∧ some k_ ≠ (v602 : Value).ownBlock) (.slice Ao32 x3_1.length co32) x3_1) := ⟨h2_⟩
                            have n3_ : Aside0 (∃ c_, (v598 : Value) = .slice (some adz_v598) y597.length c_) := ⟨h3_⟩
                            have n4_ : Aside0 (∃ c_, (v602 : Value) = .slice (some adz_v602) y601.length c_) := ⟨h4_⟩
                            have n5_ : Aside0 (IsS109 w0 w40 g s0_0 t581) := ⟨h5_⟩
                            have n6_ : Aside0 (KeepBut w w40 g none) := ⟨h6_⟩
                            have n7_ : Aside0 (Below w0.heap.size w0 w40) := ⟨h7_⟩
                            clear HO_3
                            clear HI0
                            clear HK
                            clear HB
                            clear h0_ h1_ h2_ h3_ h4_ h5_ h6_ h7_
                            have HO599 := n0_
                            have HO603 := n1_
                            have HO_3 := n2_
                            have HA_HO599 := n3_
                            have HA_HO603 := n4_
                            have HI0 := n5_
                            have HK := n6_
                            have HB := n7_
                            clear n0_ n1_ n2_ n3_ n4_ n5_ n6_ n7_
                            have hHeld := trivial
                            obtain ⟨co41, eo41⟩ := HA_HO599.out
                            clear HA_HO599
                            subst eo41
                            obtain ⟨co42, eo42⟩ := HA_HO603.out
                            clear HA_HO603
                            subst eo42
                            refine norm_ (a' := ?_) ?_ ?_
                            rotate_left
                            · simp only [putAll, Act.put, List.setIfInBounds_toArray, List.set_cons_zero, List.set_cons_succ]
                              rfl
                            refine pure_ (i := 12) (N := some 46) (v := ?_) (a' := ?_) #[true, true, true, true, true, true, true, true, true, true, true, true, true, false, false] rfl rfl (any_of HT_.out (by kernel_rfl)) (fun _ _ _ h => h) (Or.inl ⟨by rfl, ?_⟩) ?_ ?_
                            rotate_left
                            · intro w'
                              go_simp
                              with_reducible rfl
                            rotate_left
                            · simp only [Act.put, List.setIfInBounds_toArray, List.set_cons_zero, List.set_cons_succ, i64_w, i32_w]
                              rfl
                            refine one_ (i := 13) (N := some 47) #[true, true, true, true, true, true, true, true, true, true, true, true, true, true, false] rfl rfl (one_of HT_.out (by kernel_rfl)) (by decide) (fun K hK => ?_)
                            refine goes_ Try.func127 (by kernel_rfl) rfl #[.slice Ao32 x3_1.length co32, .string (((⟨#[100]⟩ : ByteArray) ++ (rdOf ByteArray.empty y597 (ji23))) ++ (rdOf ByteArray.empty y601 (ji27)))] (by rfl) rfl rfl (by (try simp only [List.map_toArray, List.map_cons, List.map_nil]); first | done | (simp only [hji23, hji27]; rfl) | rfl | (simp only [List.length_drop, List.length_take]; rfl)) ?_
                            with_reducible refine (spec_l2Put.calls k1 (fun k_ => some k_ = (.slice Ao32 x3_1.length co32 : Value).ownBlock) (.slice Ao32 x3_1.length co32) x3_1 (((⟨#[100]⟩ : ByteArray) ++ (rdOf ByteArray.empty y597 (ji23))) ++ (rdOf ByteArray.empty y601 (ji27))) t605 w0 _ ?side1 ?side2 A31.out).mono ?_
                            (case side1 => repeat (first | (with_reducible first | exact HB.out | apply below_alloc | apply pw_below_drewN | apply below_drew1 | refine below_set ?_ (IsS109.ge HI0.out)) | exact HB.out))
                            (case side2 => exact Kd.R_lower (Kd.R_tight rfl HO_3.out) HL.out)
                            rintro e w43 ⟨v606, rfl, ho0, hb, hkp⟩
                            refine ⟨_, rfl, ?_⟩
                            have n0_ := Aside0.mk (IsS109.kept (by repeat (first | (with_reducible first | exact HI0.out | apply IsS109.alloc | apply IsS109.drewN | apply IsS109.drew | apply IsS109.set_1) | exact HI0.out)) hkp (fun hs_ => (fun e_ => (IsS109.own_ne HI0.out HO_3.out (by decide)) e_) hs_))
                            have n1_ := Aside0.mk (Kd.R_mono (ok' := fun k_ => some k_ ≠ (.slice (some adz_v602) y601.length co42 : Value).ownBlock ∧ some k_ ≠ (v606 : Value).ownBlock) (Kd.R_keptB (HO599.out) hkp (fun k_ hk_ hs_ => (hk_.2) hs_)) (fun k_ hk_ => ⟨hk_.1.1, fun e_ => Or.elim (ho0.1 k_ e_.symm) (fun hs_ => hk_.2.1 hs_) (fun hn_ => Nat.not_le.2 hk_.2.2 hn_)⟩))
                            have n2_ := Aside0.mk (Kd.R_mono (ok' := fun k_ => some k_ ≠ (.slice (some adz_v598) y597.length co41 : Value).ownBlock ∧ some k_ ≠ (v606 : Value).ownBlock) (Kd.R_keptB (HO603.out) hkp (fun k_ hk_ hs_ => (hk_.2) hs_)) (fun k_ hk_ => ⟨hk_.1.1, fun e_ => Or.elim (ho0.1 k_ e_.symm) (fun hs_ => hk_.2.1 hs_) (fun hn_ => Nat.not_le.2 hk_.2.2 hn_)⟩))
                            have n3_ := Aside0.mk (Kd.R_mono (ok' := fun k_ => some k_ ≠ (.slice (some adz_v598) y597.length co41 : Value).ownBlock ∧ some k_ ≠ (.slice (some adz_v602) y601.length co42 : Value).ownBlock) (Kd.R_raise (d := Kd.string) (b := w0.heap.size) (b' := w.heap.size) (fun _ _ _ _ h_ => h_) ho0 (fun k_ e_ => Or.elim (ho0.1 k_ e_) (fun hs_ => (fun e_ => Kd.R_base HO_3.out k_ e_.symm) hs_) (fun hn_ => Nat.le_trans (keep_size (w := w) (g := g) (row := none) (by repeat (first | (with_reducible first | exact HK.out | apply KeepBut.set_ | apply keep_drewN | apply keep_drew | apply keep_alloc) | exact HK.out))) hn_))) (fun k_ hk_ => ⟨Or.elim hk_ (fun hs_ => fun e_ => (((HO599.out).1 k_ e_.symm).2) hs_) (fun hn_ => (Kd.fresh' (Kd.R_lt (by (with_reducible repeat (first | apply Kd.R_alloc | apply Kd.R_drewN | apply Kd.R_drew)); exact HO599.out)) k_ hn_)), Or.elim hk_ (fun hs_ => fun e_ => (((HO603.out).1 k_ e_.symm).2) hs_) (fun hn_ => (Kd.fresh' (Kd.R_lt (by (with_reducible repeat (first | apply Kd.R_alloc | apply Kd.R_drewN | apply Kd.R_drew)); exact HO603.out)) k_ hn_))⟩))
                            have n4_ := Aside0.mk (Kept.keepG (by repeat (first | (with_reducible first | exact HK.out | apply KeepBut.set_ | apply keep_drewN | apply keep_drew | apply keep_alloc) | exact HK.out)) hkp (fun k_ hs_ => (fun e_ => .inr (Kd.R_base HO_3.out k_ e_.symm)) hs_))
                            have n5_ := Aside0.mk (hb)
                            clear HI0
                            clear HO599
                            clear HO603
                            clear HK
                            clear HB
                            clear HO_3
                            have HI0 := n0_
                            have HO599 := n1_
                            have HO603 := n2_
                            have HO607 := n3_
                            have HK := n4_
                            have HB := n5_
                            clear n0_ n1_ n2_ n3_ n4_ n5_
                            (try clear hb)
                            (try clear hkp)
                            (try clear ho0)
                            refine hK.out _ _ trivial (fun hHeld => ?_)
                            clear hK K
                            refine norm_ (a' := ?_) ?_ ?_
                            rotate_left
                            · show Act.put _ (some 47) _ = _
                              simp only [Act.put, List.setIfInBounds_toArray, List.set_cons_zero, List.set_cons_succ, i64_w, i32_w]
                              rfl
                            refine pure_ (i := 14) (N := some 3) (v := ?_) (a' := ?_) #[true, true, true, true, true, true, true, true, true, true, true, true, true, true, true] rfl rfl (any_of HT_.out (by kernel_rfl)) (fun _ _ _ h => h) (Or.inl ⟨by rfl, ?_⟩) ?_ ?_
                            rotate_left
                            · intro w'
                              go_simp
                              with_reducible rfl
                            rotate_left
                            · simp only [Act.put, List.setIfInBounds_toArray, List.set_cons_zero, List.set_cons_succ, i64_w, i32_w]
                              rfl
                            refine done_ (done_of HT_.out (by kernel_rfl)) ?_
                            try go_wp2
                            go_roundg k1
                            case measure => have := HK1.out; omega
                            case rel => exact ⟨(t605), (wrap64 (x4_1 + 1)), (by first | rfl | (simp; done) | (simp [*]; done)), H', ⟨by have := HK1.out; omega⟩, ⟨by (with_reducible repeat (first | apply Kd.R_alloc | apply Kd.R_drewN | apply Kd.R_drew)); exact Kd.R_mono HO607.out (fun _ hk => trivial)⟩, ⟨by repeat (first | (with_reducible first | exact HI0.out | apply IsS109.alloc | apply IsS109.drewN | apply IsS109.drew | apply IsS109.set_1) | exact HI0.out)⟩, ⟨by repeat (first | (with_reducible first | exact HK.out | apply KeepBut.set_ | apply keep_drewN | apply keep_drew | apply keep_alloc) | exact HK.out)⟩, ⟨by repeat (first | (with_reducible first | exact HB.out | apply below_alloc | apply pw_below_drewN | apply below_drew1 | refine below_set ?_ (IsS109.ge HI0.out)) | exact HB.out)⟩⟩
                          · rw [if_neg c30] at H
                            exact absurd H (by simp)
                        · rw [if_neg c29] at H
                          exact absurd H (by simp)
                      · rw [if_neg c28] at H
                        exact absurd H (by simp)
                    · rw [if_neg c26] at H
                      exact absurd H (by simp)
                  · rw [if_neg c25] at H
                    exact absurd H (by simp)
                · rw [if_neg c24] at H
                  exact absurd H (by simp)
              · rw [if_neg c22] at H
                have c22b0 : decide (x4_1 < 30) = false := decide_eq_false c22
                clear c22
                simp only [Option.some.injEq, Prod.mk.injEq] at H
                obtain ⟨rfl, rfl⟩ := H
                go_wp2
                go_ret
                exact ⟨_, by first | rfl | (simp [errW_none, errW_some] <;> rfl) | (simp [*, errW_none, errW_some] <;> rfl), by (with_reducible repeat (first | apply Kd.R_alloc | apply Kd.R_drewN | apply Kd.R_drew)); exact HO_3.out, by repeat (first | (with_reducible first | exact HI0.out | apply IsS109.alloc | apply IsS109.drewN | apply IsS109.drew | apply IsS109.set_1) | exact HI0.out), by repeat (first | (with_reducible first | exact HB.out | apply below_alloc | apply pw_below_drewN | apply below_drew1 | refine below_set ?_ (IsS109.ge HI0.out)) | exact HB.out), by repeat (first | (with_reducible first | exact HK.out | apply KeepBut.set_ | apply keep_drewN | apply keep_drew | apply keep_alloc) | exact HK.out)⟩
        · rw [if_neg c21] at H
          have c21b0 : (t580 == 3) = false := beq_eq_false_iff_ne.mpr c21
          have c21b1 : (t580 != 3) = true := bne_iff_ne.mpr c21
          simp only [Option.some.injEq, Prod.mk.injEq] at H
          obtain ⟨rfl, rfl⟩ := H
          go_wp2
          go_ret
          exact ⟨_, by first | rfl | (simp [errW_none, errW_some] <;> rfl) | (simp [*, errW_none, errW_some] <;> rfl), by (with_reducible repeat (first | apply Kd.R_alloc | apply Kd.R_drewN | apply Kd.R_drew)); exact HO578.out, by repeat (first | (with_reducible first | exact HI0.out | apply IsS109.alloc | apply IsS109.drewN | apply IsS109.drew | apply IsS109.set_1) | exact HI0.out), by repeat (first | (with_reducible first | exact HB.out | apply below_alloc | apply pw_below_drewN | apply below_drew1 | refine below_set ?_ (IsS109.ge HI0.out)) | exact HB.out), by repeat (first | (with_reducible first | exact HK.out | apply KeepBut.set_ | apply keep_drewN | apply keep_drew | apply keep_alloc) | exact HK.out)⟩
end Go.Proofs.Ytonagfbadoacjaa.Q
end
section
namespace Go.Proofs.Ytonagfbadoacjaa.Q
open Go.RowKit Go.Proofs.YtonagfbadoacjaaW.PrintWords Go.Proofs.YtonagfbadoacjaaW.PrintLast Go.Proofs.YtonagfbadoacjaaW.PrintMore
attribute [local go_sem] max2_int min2_int max_two min_two max_three min_three max_four min_four   
set_option linter.unusedVariables false
set_option linter.unusedSimpArgs false
def spec_DrawKeyFirst.f (k : Nat) (l0 : List Int) : Option (List ByteArray × ByteArray) := (spec_l6Open.f l0).bind fun bt736 => ((spec_l71Keys.f k bt736.1 bt736.2 10).bind fun bt739 => ((spec_l6Rd_pick.f k bt736.1 bt739.2 12).bind fun bt743 => (if bt743.1 = 0 then ((spec_l71Mess.f k bt736.1 bt743.2).bind fun bt745 => ((spec_l71Near.f k bt736.1 bt745.2 bt745.1).bind fun bt749 => (some (bt745.1, bt749.1)))) else ((spec_l71Near.f k bt736.1 bt743.2 bt739.1).bind fun bt751 => (some (bt739.1, bt751.1))))))
theorem spec_DrawKeyFirst.mono : ∀ a0 k, LeO (spec_DrawKeyFirst.f k a0) (spec_DrawKeyFirst.f (k + 1) a0) := by
  intro a0 k
  unfold spec_DrawKeyFirst.f
  repeat' first
      | (with_reducible exact spec_l6Rd_pick.mono _ _ _ _)
      | (with_reducible exact spec_l71Keys.mono _ _ _ _)
      | (with_reducible exact spec_l71Mess.mono _ _ _)
      | (with_reducible exact spec_l71Near.mono _ _ _ _)
      | (with_reducible exact LeO.refl _)
      | (with_reducible exact LeO.none _)
      | (with_reducible refine LeO.ite ?_ ?_)
      | (with_reducible refine LeO.bind ?_ (fun _ => ?_))
      | exact spec_l6Rd_pick.mono _ _ _ _
      | exact spec_l71Keys.mono _ _ _ _
      | exact spec_l71Mess.mono _ _ _
      | exact spec_l71Near.mono _ _ _ _
      | exact LeO.none _
      | refine LeO.ite ?_ ?_
      | refine LeO.bind ?_ (fun _ => ?_)
set_option maxHeartbeats 8000000 in
set_option maxRecDepth 100000 in
theorem spec_DrawKeyFirst.calls (k : Nat) (A0 : Option Addr) (c0 : Nat) (l0 : List Int) (r1 : List ByteArray) (r2 : ByteArray) (w : World) (hr0 : Kd.C (Kd.int .u8) w A0 l0.length l0) (hc0 : l0.length ≤ c0) (h : spec_DrawKeyFirst.f k l0 = some (r1, r2)) :
    Calls Try.prog 64 #[.slice A0 l0.length c0] w fun e w' => ∃ v0_ : Value, e = .returned (.tuple #[v0_, .string r2]) ∧ Kd.R Kd.string 9 w' w.heap.size (fun _ => True) v0_ r1 ∧ Below w.heap.size w w' := by
  have HR0 := Aside0.mk hr0
  have HC0 := Aside0.mk hc0
  clear hr0 hc0
  have HB := Aside0.mk (Below.refl w.heap.size w)
  have H : ((spec_l6Open.f l0).bind fun bt736 => ((spec_l71Keys.f k bt736.1 bt736.2 10).bind fun bt739 => ((spec_l6Rd_pick.f k bt736.1 bt739.2 12).bind fun bt743 => (if bt743.1 = 0 then ((spec_l71Mess.f k bt736.1 bt743.2).bind fun bt745 => ((spec_l71Near.f k bt736.1 bt745.2 bt745.1).bind fun bt749 => (some (bt745.1, bt749.1)))) else ((spec_l71Near.f k bt736.1 bt743.2 bt739.1).bind fun bt751 => (some (bt739.1, bt751.1))))))) = some (r1, r2) := h
  clear h
  replace H := Option.bind_eq_some_iff.mp H
  obtain ⟨⟨t736, t737⟩, A20, H⟩ := H
  (try dsimp only at H)
  have A2 := Aside0.mk A20
  clear A20
  replace H := Option.bind_eq_some_iff.mp H
  obtain ⟨⟨t739, t742⟩, A30, H⟩ := H
  (try dsimp only at H)
  have A3 := Aside0.mk A30
  clear A30
  replace H := Option.bind_eq_some_iff.mp H
  obtain ⟨⟨t743, t744⟩, A40, H⟩ := H
  (try dsimp only at H)
  have A4 := Aside0.mk A40
  clear A40
  go_enter Try.func64, Try.ntmps64
  go_upto_if 12 with (first | ((with_reducible refine gate_callee (f := 102) rfl ?_); refine goesL_ (some 7) rfl rfl Try.func102 (by kernel_rfl) rfl #[.slice A0 l0.length c0] rfl (by (try simp only [List.map_toArray, List.map_cons, List.map_nil]); first | done | rfl | (simp only [List.length_drop, List.length_take]; rfl)) ?_; (with_reducible refine (spec_l6Open.calls _ _ l0 t736 t737 w _ ?side1 ?side2 ?side3 A2.out).mono ?_); (case side1 => repeat (first | (with_reducible first | exact HB.out | apply below_alloc | apply pw_below_drewN | apply below_drew1) | exact HB.out)); (case side2 => exact HR0.out); (case side3 => exact HC0.out); rintro e w5 ⟨g738, rfl, hi, hb, hb2⟩; refine ⟨_, rfl, ?_⟩; have n0_ := Aside0.mk (hb); have n1_ := Aside0.mk (hi); clear HB; have HB := n0_; have HI738 := n1_; clear n0_ n1_; (try clear hb); (try clear hb2); (try clear hk); (try clear hi)) | ((with_reducible refine gate_callee (f := 112) rfl ?_); refine goesL_ (some 9) rfl rfl Try.func112 (by kernel_rfl) rfl #[.pointer (some ⟨g738, 0, none⟩), .int .i64 10] rfl (by (try simp only [List.map_toArray, List.map_cons, List.map_nil]); first | done | rfl | (simp only [List.length_drop, List.length_take]; rfl)) ?_; (with_reducible refine (spec_l71Keys.calls k g738 t736 t737 10 t739 t742 w _ ?side1 ?side2 A3.out).mono ?_); (case side1 => repeat (first | (with_reducible first | exact HI738.out | apply IsS109.alloc | apply IsS109.drewN | apply IsS109.drew | apply IsS109.set_1) | exact HI738.out)); (case side2 => repeat (first | (with_reducible first | exact HB.out | apply below_alloc | apply pw_below_drewN | apply below_drew1 | refine below_set ?_ (IsS109.ge HI738.out)) | exact HB.out)); rintro e w6 ⟨v740, rfl, ho0, hi, hb, hk⟩; refine ⟨_, rfl, ?_⟩; have n0_ := Aside0.mk (Kd.R_lower ho0 (below_size (by repeat (first | (with_reducible first | exact HB.out | apply below_alloc | apply pw_below_drewN | apply below_drew1 | refine below_set ?_ (IsS109.ge HI738.out)) | exact HB.out)))); have n1_ := Aside0.mk (hb); have n2_ := Aside0.mk (hi); clear HB; clear HI738; have HO741 := n0_; have HB := n1_; have HI738 := n2_; clear n0_ n1_ n2_; (try clear hb); (try clear hb2); (try clear hk); (try clear hi); (try clear ho0)) | ((with_reducible refine gate_callee (f := 113) rfl ?_); refine goesL_ (some 11) rfl rfl Try.func113 (by kernel_rfl) rfl #[.pointer (some ⟨g738, 0, none⟩), .int .i64 12] rfl (by (try simp only [List.map_toArray, List.map_cons, List.map_nil]); first | done | rfl | (simp only [List.length_drop, List.length_take]; rfl)) ?_; (with_reducible refine (spec_l6Rd_pick.calls k g738 t736 t742 12 t743 t744 w _ ?side1 ?side2 A4.out).mono ?_); (case side1 => repeat (first | (with_reducible first | exact HI738.out | apply IsS109.alloc | apply IsS109.drewN | apply IsS109.drew | apply IsS109.set_1) | exact HI738.out)); (case side2 => repeat (first | (with_reducible first | exact HB.out | apply below_alloc | apply pw_below_drewN | apply below_drew1 | refine below_set ?_ (IsS109.ge HI738.out)) | exact HB.out)); rintro e w7 ⟨rfl, hi, hb, hk⟩; refine ⟨_, rfl, ?_⟩; have n0_ := Aside0.mk (Kd.R_mono (Kd.R_keep (IsS109.apart (show IsS109 w _ g738 t736 t742 from by repeat (first | (with_reducible first | exact HI738.out | apply IsS109.alloc | apply IsS109.drewN | apply IsS109.drew | apply IsS109.set_1) | exact HI738.out)) (by (with_reducible repeat (first | apply Kd.R_alloc | apply Kd.R_drewN | apply Kd.R_drew)); exact HO741.out) (by decide)) hk (fun _ h => h.2)) (fun _ h => h.1)); have n1_ := Aside0.mk (hb); have n2_ := Aside0.mk (hi); clear HO741; clear HB; clear HI738; have HO741 := n0_; have HB := n1_; have HI738 := n2_; clear n0_ n1_ n2_; (try clear hb); (try clear hb2); (try clear hk); (try clear hi)))
  by_cases c8 : t743 = 0
  · rw [if_pos c8] at H
    have c8b0 : (t743 == 0) = true := beq_iff_eq.mpr c8
    have c8b1 : (t743 != 0) = false := bne_eq_false_iff_eq.mpr c8
    clear c8
    (first | rw [c8b0] | (simp only [i64_w, i32_w]; rw [c8b0]) | simp only [*, Bool.not_true, Bool.not_false] | skip)
    replace H := Option.bind_eq_some_iff.mp H
    obtain ⟨⟨t745, t748⟩, A90, H⟩ := H
    (try dsimp only at H)
    have A9 := Aside0.mk A90
    clear A90
    replace H := Option.bind_eq_some_iff.mp H
    obtain ⟨⟨t749, t750⟩, A100, H⟩ := H
    (try dsimp only at H)
    have A10 := Aside0.mk A100
    clear A100
    simp only [Option.some.injEq, Prod.mk.injEq] at H
    obtain ⟨rfl, rfl⟩ := H
    go_wp2_with (first | ((with_reducible refine gate_callee (f := 114) rfl ?_); refine goesL_ (some 14) rfl rfl Try.func114 (by kernel_rfl) rfl #[.pointer (some ⟨g738, 0, none⟩)] rfl (by (try simp only [List.map_toArray, List.map_cons, List.map_nil]); first | done | rfl | (simp only [List.length_drop, List.length_take]; rfl)) ?_; (with_reducible refine (spec_l71Mess.calls k g738 t736 t744 t745 t748 w _ ?side1 ?side2 A9.out).mono ?_); (case side1 => repeat (first | (with_reducible first | exact HI738.out | apply IsS109.alloc | apply IsS109.drewN | apply IsS109.drew | apply IsS109.set_1) | exact HI738.out)); (case side2 => repeat (first | (with_reducible first | exact HB.out | apply below_alloc | apply pw_below_drewN | apply below_drew1 | refine below_set ?_ (IsS109.ge HI738.out)) | exact HB.out)); rintro e w11 ⟨v746, rfl, ho0, hi, hb, hk⟩; refine ⟨_, rfl, ?_⟩; have n0_ := Aside0.mk (Kd.R_mono (Kd.R_told (Kd.R_oldK (IsS109.apart (show IsS109 w _ g738 t736 t744 from by repeat (first | (with_reducible first | exact HI738.out | apply IsS109.alloc | apply IsS109.drewN | apply IsS109.drew | apply IsS109.set_1) | exact HI738.out)) (by (with_reducible repeat (first | apply Kd.R_alloc | apply Kd.R_drewN | apply Kd.R_drew)); exact HO741.out) (by decide)) hk) (Kd.R_base ho0)) (fun _ h_ => h_.1)); have n1_ := Aside0.mk (Kd.R_lower (Kd.R_new' ho0 (Kd.R_lt (by (with_reducible repeat (first | apply Kd.R_alloc | apply Kd.R_drewN | apply Kd.R_drew)); exact HO741.out))) (below_size (by repeat (first | (with_reducible first | exact HB.out | apply below_alloc | apply pw_below_drewN | apply below_drew1 | refine below_set ?_ (IsS109.ge HI738.out)) | exact HB.out)))); have n2_ := Aside0.mk (hb); have n3_ := Aside0.mk (hi); clear HO741; clear HB; clear HI738; have HO741 := n0_; have HO747 := n1_; have HB := n2_; have HI738 := n3_; clear n0_ n1_ n2_ n3_; (try clear hb); (try clear hb2); (try clear hk); (try clear hi); (try clear ho0); obtain ⟨Ao12, co12, eo12⟩ := Kd.R_slice HO747.out; subst eo12) | ((with_reducible refine gate_callee (f := 104) rfl ?_); refine goesL_ (some 18) rfl rfl Try.func104 (by kernel_rfl) rfl #[.pointer (some ⟨g738, 0, none⟩), .slice Ao12 t745.length co12] rfl (by (try simp only [List.map_toArray, List.map_cons, List.map_nil]); first | done | rfl | (simp only [List.length_drop, List.length_take]; rfl)) ?_; (with_reducible refine (spec_l71Near.calls k g738 t736 t748 _ _ t745 t749 t750 w _ ?side1 ?side2 ?side3 ?side4 ?side5 A10.out).mono ?_); (case side1 => repeat (first | (with_reducible first | exact HI738.out | apply IsS109.alloc | apply IsS109.drewN | apply IsS109.drew | apply IsS109.set_1) | exact HI738.out)); (case side2 => repeat (first | (with_reducible first | exact HB.out | apply below_alloc | apply pw_below_drewN | apply below_drew1 | refine below_set ?_ (IsS109.ge HI738.out)) | exact HB.out)); (case side3 => repeat (first | exact (Kd.R_reads' HO747.out).2.2 | (with_reducible refine Kd.C_alloc ?_ _) | (with_reducible refine Kd.C_drewN ?_ _) | (with_reducible refine Kd.C_drew ?_))); (case side4 => exact (Kd.R_reads' HO747.out).2.1); (case side5 => exact far_slice (IsS109.own_ne HI738.out HO747.out (by decide))); rintro e w13 ⟨rfl, hi, hb, hk⟩; refine ⟨_, rfl, ?_⟩; have n0_ := Aside0.mk (Kd.R_mono (Kd.R_keep (IsS109.apart (show IsS109 w _ g738 t736 t748 from by repeat (first | (with_reducible first | exact HI738.out | apply IsS109.alloc | apply IsS109.drewN | apply IsS109.drew | apply IsS109.set_1) | exact HI738.out)) (by (with_reducible repeat (first | apply Kd.R_alloc | apply Kd.R_drewN | apply Kd.R_drew)); exact HO741.out) (by decide)) hk (fun _ h => h.2)) (fun _ h => h.1)); have n1_ := Aside0.mk (Kd.R_mono (Kd.R_keep (IsS109.apart (show IsS109 w _ g738 t736 t748 from by repeat (first | (with_reducible first | exact HI738.out | apply IsS109.alloc | apply IsS109.drewN | apply IsS109.drew | apply IsS109.set_1) | exact HI738.out)) (by (with_reducible repeat (first | apply Kd.R_alloc | apply Kd.R_drewN | apply Kd.R_drew)); exact HO747.out) (by decide)) hk (fun _ h => h.2)) (fun _ h => h.1)); have n2_ := Aside0.mk (hb); have n3_ := Aside0.mk (hi); clear HO741; clear HO747; clear HB; clear HI738; have HO741 := n0_; have HO747 := n1_; have HB := n2_; have HI738 := n3_; clear n0_ n1_ n2_ n3_; (try clear hb); (try clear hb2); (try clear hk); (try clear hi)))
    go_ret2
    exact ⟨_, by first | rfl | (simp [errW_none, errW_some] <;> rfl) | (simp [*, errW_none, errW_some] <;> rfl), by (with_reducible repeat (first | apply Kd.R_alloc | apply Kd.R_drewN | apply Kd.R_drew)); exact Kd.R_mono HO747.out (fun _ hk => trivial), by repeat (first | (with_reducible first | exact HB.out | apply below_alloc | apply pw_below_drewN | apply below_drew1 | refine below_set ?_ (IsS109.ge HI738.out)) | exact HB.out)⟩
  · rw [if_neg c8] at H
    have c8b0 : (t743 == 0) = false := beq_eq_false_iff_ne.mpr c8
    have c8b1 : (t743 != 0) = true := bne_iff_ne.mpr c8
    (first | rw [c8b0] | (simp only [i64_w, i32_w]; rw [c8b0]) | simp only [*, Bool.not_true, Bool.not_false] | skip)
    replace H := Option.bind_eq_some_iff.mp H
    obtain ⟨⟨t751, t752⟩, A140, H⟩ := H
    (try dsimp only at H)
    have A14 := Aside0.mk A140
    clear A140
    simp only [Option.some.injEq, Prod.mk.injEq] at H
    obtain ⟨rfl, rfl⟩ := H
    obtain ⟨Ao15, co15, eo15⟩ := Kd.R_slice HO741.out
    subst eo15
    go_wp2_with (first | ((with_reducible refine gate_callee (f := 104) rfl ?_); refine goesL_ (some 18) rfl rfl Try.func104 (by kernel_rfl) rfl #[.pointer (some ⟨g738, 0, none⟩), .slice Ao15 t739.length co15] rfl (by (try simp only [List.map_toArray, List.map_cons, List.map_nil]); first | done | rfl | (simp only [List.length_drop, List.length_take]; rfl)) ?_; (with_reducible refine (spec_l71Near.calls k g738 t736 t744 _ _ t739 t751 t752 w _ ?side1 ?side2 ?side3 ?side4 ?side5 A14.out).mono ?_); (case side1 => repeat (first | (with_reducible first | exact HI738.out | apply IsS109.alloc | apply IsS109.drewN | apply IsS109.drew | apply IsS109.set_1) | exact HI738.out)); (case side2 => repeat (first | (with_reducible first | exact HB.out | apply below_alloc | apply pw_below_drewN | apply below_drew1 | refine below_set ?_ (IsS109.ge HI738.out)) | exact HB.out)); (case side3 => repeat (first | exact (Kd.R_reads' HO741.out).2.2 | (with_reducible refine Kd.C_alloc ?_ _) | (with_reducible refine Kd.C_drewN ?_ _) | (with_reducible refine Kd.C_drew ?_))); (case side4 => exact (Kd.R_reads' HO741.out).2.1); (case side5 => exact far_slice (IsS109.own_ne HI738.out HO741.out (by decide))); rintro e w16 ⟨rfl, hi, hb, hk⟩; refine ⟨_, rfl, ?_⟩; have n0_ := Aside0.mk (Kd.R_mono (Kd.R_keep (IsS109.apart (show IsS109 w _ g738 t736 t744 from by repeat (first | (with_reducible first | exact HI738.out | apply IsS109.alloc | apply IsS109.drewN | apply IsS109.drew | apply IsS109.set_1) | exact HI738.out)) (by (with_reducible repeat (first | apply Kd.R_alloc | apply Kd.R_drewN | apply Kd.R_drew)); exact HO741.out) (by decide)) hk (fun _ h => h.2)) (fun _ h => h.1)); have n1_ := Aside0.mk (hb); have n2_ := Aside0.mk (hi); clear HO741; clear HB; clear HI738; have HO741 := n0_; have HB := n1_; have HI738 := n2_; clear n0_ n1_ n2_; (try clear hb); (try clear hb2); (try clear hk); (try clear hi)))
    go_ret2
    exact ⟨_, by first | rfl | (simp [errW_none, errW_some] <;> rfl) | (simp [*, errW_none, errW_some] <;> rfl), by (with_reducible repeat (first | apply Kd.R_alloc | apply Kd.R_drewN | apply Kd.R_drew)); exact HO741.out, by repeat (first | (with_reducible first | exact HB.out | apply below_alloc | apply pw_below_drewN | apply below_drew1 | refine below_set ?_ (IsS109.ge HI738.out)) | exact HB.out)⟩
end Go.Proofs.Ytonagfbadoacjaa.Q
end
section
namespace Go.Proofs.Ytonagfbadoacjaa.Q
open Go.RowKit Go.Proofs.YtonagfbadoacjaaW.PrintWords Go.Proofs.YtonagfbadoacjaaW.PrintLast Go.Proofs.YtonagfbadoacjaaW.PrintMore
attribute [local go_sem] max2_int min2_int max_two min_two max_three min_three max_four min_four   
set_option linter.unusedVariables false
set_option linter.unusedSimpArgs false
def laws_ltIn.l0 : Nat → List ByteArray → ByteArray → Int → Option (Bool)
  | 0, _, _, _ => none
  | k + 1, x0, x1, x5 => if x5 < (x0.length : Int) then (if 0 ≤ x5 then (if (rdOf ByteArray.empty x0 x5).toList = x1.toList then (some true) else (laws_ltIn.l0 k x0 x1 (wrap64 (x5 + 1)))) else (none)) else (some false)
def laws_ltIn.f (k : Nat) (l0 : List ByteArray) (a1 : ByteArray) : Option (Bool) := laws_ltIn.l0 k l0 a1 0
theorem laws_ltIn.mono_l : ∀ k, (∀ y0 y1 y2, LeO (laws_ltIn.l0 k y0 y1 y2) (laws_ltIn.l0 (k + 1) y0 y1 y2))
  | 0 => fun _ _ _ r h => by simp [laws_ltIn.l0] at h
  | k + 1 => by
    have ih0 := laws_ltIn.mono_l k
    · intro y0 y1 y2
      unfold laws_ltIn.l0
      repeat' first
      | (with_reducible exact ih0 _ _ _)
      | (with_reducible exact LeO.refl _)
      | (with_reducible exact LeO.none _)
      | (with_reducible refine LeO.ite ?_ ?_)
      | (with_reducible refine LeO.bind ?_ (fun _ => ?_))
      | exact ih0 _ _ _
      | exact LeO.none _
      | refine LeO.ite ?_ ?_
      | refine LeO.bind ?_ (fun _ => ?_)
theorem laws_ltIn.mono : ∀ a0 a1 k, LeO (laws_ltIn.f k a0 a1) (laws_ltIn.f (k + 1) a0 a1) := by
  intro a0 a1 k
  have ih0 := laws_ltIn.mono_l k
  unfold laws_ltIn.f
  repeat' first
      | (with_reducible exact ih0 _ _ _)
      | (with_reducible exact LeO.refl _)
      | (with_reducible exact LeO.none _)
      | (with_reducible refine LeO.ite ?_ ?_)
      | (with_reducible refine LeO.bind ?_ (fun _ => ?_))
      | exact ih0 _ _ _
      | exact LeO.none _
      | refine LeO.ite ?_ ?_
      | refine LeO.bind ?_ (fun _ => ?_)
set_option maxHeartbeats 8000000 in
set_option maxRecDepth 100000 in
theorem laws_ltIn.calls (k : Nat) (A0 : Option Addr) (c0 : Nat) (l0 : List ByteArray) (a1 : ByteArray) (r : Bool) (w : World) (hr0 : Kd.C Kd.string w A0 l0.length l0) (hc0 : l0.length ≤ c0) (h : laws_ltIn.f k l0 a1 = some r) :
    Calls Try.prog 65 #[.slice A0 l0.length c0, .string a1] w fun e w' => e = .returned (.bool r) ∧ Drawn0 w w' := by
  have HR0 := Aside0.mk hr0
  have HC0 := Aside0.mk hc0
  clear hr0 hc0
  have H : (laws_ltIn.l0 k l0 a1 0) = some r := h
  clear h
  have H' := Aside0.mk H
  clear H
  go_enter Try.func65, Try.ntmps65
  go_wp2
  go_loopg [5] k (fun kq v5 w' => ∃ (x5_1 : Int), v5 = .int .i64 x5_1 ∧ Aside0 (laws_ltIn.l0 kq l0 a1 x5_1 = some r) ∧ Aside0 (kq ≤ k) ∧ Drawn0 w w')
  case atStart => exact ⟨(0), (by first | rfl | (simp; done) | (simp [*]; done)), H', ⟨Nat.le_refl _⟩, by repeat (first | exact Drawn0.refl _ | apply Drawn0.step)⟩
  case round =>
    clear H'
    try clear p2
    obtain ⟨x5_1, rfl, HA, HK1, ⟨m1, rfl⟩⟩ := hrel
    cases gk with
    | zero => exact absurd HA.out (by simp [laws_ltIn.l0])
    | succ k1 =>
      have H := HA.out
      clear HA
      simp only [laws_ltIn.l0] at H
      by_cases c3 : x5_1 < (l0.length : Int)
      · rw [if_pos c3] at H
        have c3b0 : decide (x5_1 < (l0.length : Int)) = true := decide_eq_true c3
        clear c3
        by_cases c4 : 0 ≤ x5_1
        · rw [if_pos c4] at H
          have c4b0 : decide (0 ≤ x5_1) = true := decide_eq_true c4
          clear c4
          by_cases c5 : (rdOf ByteArray.empty l0 x5_1).toList = a1.toList
          · rw [if_pos c5] at H
            have c5b0 : ((rdOf ByteArray.empty l0 x5_1).toList == a1.toList) = true := beq_iff_eq.mpr c5
            have c5b1 : ((rdOf ByteArray.empty l0 x5_1).toList != a1.toList) = false := bne_eq_false_iff_eq.mpr c5
            clear c5
            obtain rfl := Option.some.inj H
            have p753 : 0 ≤ (x5_1 : Int) := of_decide_eq_true (by first | (with_reducible assumption) | assumption)
            have q753 : x5_1 < (l0.length : Int) := of_decide_eq_true (by first | (with_reducible assumption) | assumption)
            obtain ⟨ad753, e753, hx753_0⟩ := Kd.at_string HR0.out x5_1 p753 q753
            cases e753
            replace p753 := eq_true p753
            replace q753 := eq_true q753
            go_wp2
            go_ret
            exact ⟨by first | rfl | (simp; done) | (simp [*]; done), by repeat (first | exact Drawn0.refl _ | apply Drawn0.step)⟩
          · rw [if_neg c5] at H
            have c5b0 : ((rdOf ByteArray.empty l0 x5_1).toList == a1.toList) = false := beq_eq_false_iff_ne.mpr c5
            have c5b1 : ((rdOf ByteArray.empty l0 x5_1).toList != a1.toList) = true := bne_iff_ne.mpr c5
            have H' := Aside0.mk H
            clear H
            have p753 : 0 ≤ (x5_1 : Int) := of_decide_eq_true (by first | (with_reducible assumption) | assumption)
            have q753 : x5_1 < (l0.length : Int) := of_decide_eq_true (by first | (with_reducible assumption) | assumption)
            obtain ⟨ad753, e753, hx753_0⟩ := Kd.at_string HR0.out x5_1 p753 q753
            cases e753
            replace p753 := eq_true p753
            replace q753 := eq_true q753
            go_wp2
            go_roundg k1
            case measure => have := HK1.out; omega
            case rel => exact ⟨(wrap64 (x5_1 + 1)), (by first | rfl | (simp; done) | (simp [*]; done)), H', ⟨by have := HK1.out; omega⟩, by repeat (first | exact Drawn0.refl _ | apply Drawn0.step)⟩
        · rw [if_neg c4] at H
          exact absurd H (by simp)
      · rw [if_neg c3] at H
        have c3b0 : decide (x5_1 < (l0.length : Int)) = false := decide_eq_false c3
        clear c3
        obtain rfl := Option.some.inj H
        go_wp2
        go_ret
        exact ⟨by first | rfl | (simp; done) | (simp [*]; done), by repeat (first | exact Drawn0.refl _ | apply Drawn0.step)⟩
end Go.Proofs.Ytonagfbadoacjaa.Q
end
section
set_option linter.unusedVariables false
set_option linter.unusedSimpArgs false
namespace Go.Proofs.Ytonagfbadoacjaa.Pb
open Go Go.RowKit Go.Proofs.YtonagfbadoacjaaW.PrintWords Go.Proofs.YtonagfbadoacjaaW.PrintLast Go.Proofs.YtonagfbadoacjaaW.PrintMore Go.Proofs.Ytonagfbadoacjaa.Trie Go.Proofs.Ytonagfbadoacjaa.Q
def putN (k : Key) : List Key → List Key
  | [] => [k]
  | y :: l => if k < y then k :: y :: l else y :: putN k l
def putB (K : List Key) (k : Key) : List Key := if k ∈ K then K else putN k K
theorem L_eq_iff {a b : ByteArray} : a.toList = b.toList ↔ L a = L b := by rw [toList_L, toList_L]
theorem l2Put_true (x0 : List ByteArray) (x1 : ByteArray) (hn : x0.length ≤ 2000000) (d : Nat) : ∀ (x5 : List ByteArray) (i : Nat), i ≤ x0.length → x0.length - i = d → x5.length ≤ i + 1 →
    ∃ r, Ev (fun k => spec_l2Put.l0 k x0 x1 x5 true (i : Int)) r ∧ LL r = if L x1 ∈ (LL x0).drop i then LL x0 else LL x5 ++ (LL x0).drop i := by
  have hz := LL_length x0
  induction d with
  | zero =>
    intro x5 i h1 h2 h3
    refine ⟨x5, ev_succ ?_, ?_⟩
    · simp only [spec_l2Put.l0]
      exact ev_neg (by omega) (ev_pos trivial (ev_some rfl))
    · rw [List.drop_eq_nil_of_le (by omega)]; simp
  | succ d ih =>
    intro x5 i h1 h2 h3
    have hr := L_rd x0 i
    obtain ⟨y, hy⟩ : ∃ y, rdOf ByteArray.empty x0 (i : Int) = y := ⟨_, rfl⟩
    rw [hy] at hr
    have hdrop : (LL x0).drop i = L y :: (LL x0).drop (i + 1) := by rw [drop_cons [] (by omega), ← hr]
    by_cases e : L y = L x1
    · refine ⟨x0, ev_succ ?_, ?_⟩
      · simp only [spec_l2Put.l0, hy]
        exact ev_pos (by omega) (ev_pos (by omega) (ev_pos (L_eq_iff.2 e) (ev_some rfl)))
      · rw [hdrop, if_pos (by simp [e])]
    · obtain ⟨r, hr, he⟩ := ih (x5 ++ [y]) (i + 1) (by omega) (by omega) (by simp; omega)
      refine ⟨r, ev_succ ?_, ?_⟩
      · simp only [spec_l2Put.l0, hy]
        refine ev_pos (by omega) (ev_pos (by omega) (ev_neg (fun q => e (L_eq_iff.1 q)) (ev_pos trivial (ev_pos (by omega) ?_))))
        rw [w64 (by omega) (by omega)]; exact hr
      · rw [he, hdrop]
        have hm : (L x1 ∈ L y :: (LL x0).drop (i + 1)) ↔ L x1 ∈ (LL x0).drop (i + 1) := by
          rw [List.mem_cons]
          exact ⟨fun h => h.resolve_left (fun q => e q.symm), .inr⟩
        by_cases m : L x1 ∈ (LL x0).drop (i + 1)
        · rw [if_pos m, if_pos (hm.2 m)]
        · rw [if_neg m, if_neg (fun q => m (hm.1 q)), LL_append]
          simp [LL]
theorem l2Put_false (x0 : List ByteArray) (x1 : ByteArray) (hn : x0.length ≤ 2000000) (d : Nat) : ∀ (x5 : List ByteArray) (i : Nat), i ≤ x0.length → x0.length - i = d → x5.length ≤ i →
    ∃ r, Ev (fun k => spec_l2Put.l0 k x0 x1 x5 false (i : Int)) r ∧ LL r = if L x1 ∈ (LL x0).drop i then LL x0 else LL x5 ++ putN (L x1) ((LL x0).drop i) := by
  have hz := LL_length x0
  induction d with
  | zero =>
    intro x5 i h1 h2 h3
    refine ⟨x5 ++ [x1], ev_succ ?_, ?_⟩
    · simp only [spec_l2Put.l0]
      exact ev_neg (by omega) (ev_neg (by simp) (ev_pos (by omega) (ev_some rfl)))
    · rw [List.drop_eq_nil_of_le (by omega), LL_append]
      simp [putN, LL]
  | succ d ih =>
    intro x5 i h1 h2 h3
    have hr := L_rd x0 i
    obtain ⟨y, hy⟩ : ∃ y, rdOf ByteArray.empty x0 (i : Int) = y := ⟨_, rfl⟩
    rw [hy] at hr
    have hdrop : (LL x0).drop i = L y :: (LL x0).drop (i + 1) := by rw [drop_cons [] (by omega), ← hr]
    by_cases e : L y = L x1
    · refine ⟨x0, ev_succ ?_, ?_⟩
      · simp only [spec_l2Put.l0, hy]
        exact ev_pos (by omega) (ev_pos (by omega) (ev_pos (L_eq_iff.2 e) (ev_some rfl)))
      · rw [hdrop, if_pos (by simp [e])]
    · have hm : (L x1 ∈ L y :: (LL x0).drop (i + 1)) ↔ L x1 ∈ (LL x0).drop (i + 1) := by
        rw [List.mem_cons]
        exact ⟨fun h => h.resolve_left (fun q => e q.symm), .inr⟩
      by_cases lt : L x1 < L y
      · obtain ⟨r, hr, he⟩ := l2Put_true x0 x1 hn d (x5 ++ [x1] ++ [y]) (i + 1) (by omega) (by omega) (by simp; omega)
        refine ⟨r, ev_succ ?_, ?_⟩
        · simp only [spec_l2Put.l0, hy]
          refine ev_pos (by omega) (ev_pos (by omega) (ev_neg (fun q => e (L_eq_iff.1 q)) (ev_neg (by simp) (ev_pos (by rw [less_L, decide_eq_true_eq, toList_L, toList_L]; exact lt) (ev_pos (by omega) (ev_bindc rfl (ev_pos (by simp; omega) ?_)))))))
          rw [w64 (by omega) (by omega)]; exact hr
        · rw [he, hdrop]
          by_cases m : L x1 ∈ (LL x0).drop (i + 1)
          · rw [if_pos m, if_pos (hm.2 m)]
          · rw [if_neg m, if_neg (fun q => m (hm.1 q)), putN, if_pos lt, LL_append, LL_append]
            simp [LL]
      · obtain ⟨r, hr, he⟩ := ih (x5 ++ [y]) (i + 1) (by omega) (by omega) (by simp; omega)
        refine ⟨r, ev_succ ?_, ?_⟩
        · simp only [spec_l2Put.l0, hy]
          refine ev_pos (by omega) (ev_pos (by omega) (ev_neg (fun q => e (L_eq_iff.1 q)) (ev_neg (by simp) (ev_neg (by rw [less_L, decide_eq_true_eq, toList_L, toList_L]; exact lt) (ev_pos (by omega) ?_)))))
          rw [w64 (by omega) (by omega)]; exact hr
        · rw [he, hdrop]
          by_cases m : L x1 ∈ (LL x0).drop (i + 1)
          · rw [if_pos m, if_pos (hm.2 m)]
          · rw [if_neg m, if_neg (fun q => m (hm.1 q)), putN, if_neg lt, LL_append]
            simp [LL]
theorem l2Put_ev (x0 : List ByteArray) (x1 : ByteArray) (hn : x0.length ≤ 2000000) : ∃ r, Ev (fun k => spec_l2Put.f k x0 x1) r ∧ LL r = putB (LL x0) (L x1) := by
  obtain ⟨r, hr, he⟩ := l2Put_false x0 x1 hn x0.length [] 0 (by omega) (by omega) (by simp)
  refine ⟨r, hr, ?_⟩
  rw [he, List.drop_zero]
  simp [putB, LL]
theorem putN_mem {k x : Key} {K : List Key} : x ∈ putN k K ↔ x = k ∨ x ∈ K := by
  induction K with
  | nil => simp [putN]
  | cons y l ih =>
    rw [putN]
    split
    · simp
    · simp only [List.mem_cons, ih]
      constructor
      · rintro (h | h | h)
        · exact .inr (.inl h)
        · exact .inl h
        · exact .inr (.inr h)
      · rintro (h | h | h)
        · exact .inr (.inl h)
        · exact .inl h
        · exact .inr (.inr h)
theorem putB_mem {k x : Key} {K : List Key} : x ∈ putB K k ↔ x = k ∨ x ∈ K := by
  unfold putB
  split
  · rename_i h
    exact ⟨.inr, fun q => q.elim (fun e => e ▸ h) id⟩
  · exact putN_mem
theorem putN_length {k : Key} {K : List Key} : (putN k K).length = K.length + 1 := by
  induction K with
  | nil => rfl
  | cons y l ih => rw [putN]; split <;> simp [ih]
theorem putB_length {k : Key} {K : List Key} : (putB K k).length ≤ K.length + 1 := by
  unfold putB
  split
  · omega
  · rw [putN_length]; omega
theorem putN_sorted {k : Key} {K : List Key} (hK : K.Pairwise (· < ·)) (hk : k ∉ K) : (putN k K).Pairwise (· < ·) := by
  induction K with
  | nil => simp [putN]
  | cons y l ih =>
    have h2 := List.pairwise_cons.1 hK
    rw [putN]
    by_cases c : k < y
    · rw [if_pos c]
      refine List.pairwise_cons.2 ⟨fun x hx => ?_, hK⟩
      rcases List.mem_cons.1 hx with rfl | hx
      · exact c
      · exact key_trans c (h2.1 x hx)
    · rw [if_neg c]
      refine List.pairwise_cons.2 ⟨fun x hx => ?_, ih h2.2 (fun q => hk (by simp [q]))⟩
      rcases putN_mem.1 hx with e | hx
      · rw [e]
        rcases key_le_total k y with h | h | h
        · exact absurd h c
        · exact absurd (by simp [h]) hk
        · exact h
      · exact h2.1 x hx
theorem putB_sorted {k : Key} {K : List Key} (hK : K.Pairwise (· < ·)) : (putB K k).Pairwise (· < ·) := by
  unfold putB
  split
  · exact hK
  · rename_i h; exact putN_sorted hK h
structure SOk (K : List Key) : Prop where
  ok : ∀ k ∈ K, KOk k
  sorted : K.Pairwise (· < ·)
end Go.Proofs.Ytonagfbadoacjaa.Pb
end
section
set_option linter.unusedVariables false
set_option linter.unusedSimpArgs false
namespace Go.Proofs.Ytonagfbadoacjaa.Pb
open Go Go.RowKit Go.Proofs.YtonagfbadoacjaaW.PrintWords Go.Proofs.YtonagfbadoacjaaW.PrintLast Go.Proofs.YtonagfbadoacjaaW.PrintMore Go.Proofs.Ytonagfbadoacjaa.Trie Go.Proofs.Ytonagfbadoacjaa.Q
theorem sz_l0 (l : List ByteArray) (hn : l.length ≤ 9223372036854775807) (hs : ∀ s ∈ l, s.size ≤ 9223372036854775807) (d : Nat) : ∀ (i : Nat) (a : Int), i ≤ l.length → l.length - i = d → 0 ≤ a → a ≤ 1048576 →
    ∃ r, Ev (fun k => laws_szStringS.l0 k l a (i : Int)) r ∧ (0 ≤ r → ∀ s ∈ l.drop i, s.size ≤ 1048576) := by
  induction d with
  | zero =>
    intro i a h1 h2 h3 h4
    refine ⟨a, ev_succ ?_, fun _ => by rw [List.drop_eq_nil_of_le (by omega)]; simp⟩
    simp only [laws_szStringS.l0]
    exact ev_neg (by omega) (ev_some rfl)
  | succ d ih =>
    intro i a h1 h2 h3 h4
    have hg : rdOf ByteArray.empty l (i : Int) = l.getD i ByteArray.empty := rfl
    have hmem : l.getD i ByteArray.empty ∈ l := by rw [getD_lt _ (by omega)]; exact List.getElem_mem _
    have hz := hs _ hmem
    by_cases c : a - ((l.getD i ByteArray.empty).size : Int) < 0
    · refine ⟨-1, ev_succ ?_, fun h => by omega⟩
      simp only [laws_szStringS.l0]
      rw [hg, w64 (i := a - ((l.getD i ByteArray.empty).size : Int)) (by omega) (by omega)]
      exact ev_pos (by omega) (ev_pos (by omega) (ev_pos c (ev_some rfl)))
    · obtain ⟨r, hr, g⟩ := ih (i + 1) (a - ((l.getD i ByteArray.empty).size : Int)) (by omega) (by omega) (by omega) (by omega)
      refine ⟨r, ev_succ ?_, fun h s hm => ?_⟩
      · simp only [laws_szStringS.l0]
        rw [hg, w64 (i := a - ((l.getD i ByteArray.empty).size : Int)) (by omega) (by omega)]
        refine ev_pos (by omega) (ev_pos (by omega) (ev_neg c ?_))
        rw [w64 (by omega) (by omega)]; exact hr
      · rw [drop_cons ByteArray.empty (by omega)] at hm
        rcases List.mem_cons.1 hm with e | hm
        · rw [e]; omega
        · exact g h s hm
theorem sz_ev (l : List ByteArray) (hn : l.length ≤ 9223372036854775807) (hs : ∀ s ∈ l, s.size ≤ 9223372036854775807) :
    ∃ r, Ev (fun k => laws_szStringS.f k l 1048576) r ∧ (0 ≤ r → l.length ≤ 1048576 ∧ ∀ s ∈ l, s.size ≤ 1048576) := by
  unfold laws_szStringS.f
  rw [w64 (i := 1048576 - (l.length : Int)) (by omega) (by omega)]
  by_cases c : 1048576 - (l.length : Int) < 0
  · exact ⟨-1, ev_pos c (ev_some rfl), fun h => by omega⟩
  · obtain ⟨r, hr, g⟩ := sz_l0 l hn hs l.length 0 (1048576 - (l.length : Int)) (by omega) (by omega) (by omega) (by omega)
    exact ⟨r, ev_neg c hr, fun h => ⟨by omega, fun s hm => g h s (by simpa using hm)⟩⟩
theorem szl_small {l : List ByteArray} (h : l.length ≤ 1048576 ∧ ∀ s ∈ l, s.size ≤ 1048576) : SzL l := ⟨by omega, fun s hm => by have := h.2 s hm; omega⟩
theorem to_l0 (l : List ByteArray) (hn : l.length ≤ 1048576) (d : Nat) : ∀ (i : Nat) (x3 : List ByteArray), i ≤ l.length → l.length - i = d → x3.length = l.length → x3.take i = l.take i →
    Ev (fun k => laws_toStringS.l0 k l x3 (i : Int)) l := by
  induction d with
  | zero =>
    intro i x3 h1 h2 h3 h4
    refine ev_succ ?_
    simp only [laws_toStringS.l0]
    refine ev_neg (by omega) (ev_some ?_)
    rw [List.take_of_length_le (by omega), List.take_of_length_le (by omega)] at h4
    exact h4
  | succ d ih =>
    intro i x3 h1 h2 h3 h4
    refine ev_succ ?_
    simp only [laws_toStringS.l0]
    refine ev_pos (by omega) (ev_pos (by omega) (ev_pos (by omega) ?_))
    rw [w64 (by omega) (by omega), Int.toNat_natCast]
    refine ih (i + 1) _ (by omega) (by omega) (by simp [h3]) ?_
    have hg : rdOf ByteArray.empty l (i : Int) = l[i]'(by omega) := getD_lt _ (by omega)
    rw [hg]
    apply List.ext_getElem
    · simp; omega
    · intro j hj hj'
      simp only [List.length_take, List.length_set] at hj
      rw [List.getElem_take, List.getElem_take, List.getElem_set]
      by_cases e : i = j
      · subst e; rw [if_pos rfl]
      · rw [if_neg e]
        have hj2 : j < (x3.take i).length := by simp; omega
        have h5 : (x3.take i)[j]'hj2 = (l.take i)[j]'(by simp; omega) := by simp only [h4]
        rwa [List.getElem_take, List.getElem_take] at h5
theorem to_ev (l : List ByteArray) (hn : l.length ≤ 1048576) : Ev (fun k => laws_toStringS.f k l) l := by
  unfold laws_toStringS.f
  refine ev_pos (by omega) (ev_pos (by omega) ?_)
  exact to_l0 l hn l.length 0 _ (by omega) (by omega) (by simp) (by simp)
theorem eq_l0 (l : List ByteArray) (hn : l.length ≤ 1048576) (d : Nat) : ∀ i : Nat, i ≤ l.length → l.length - i = d → Ev (fun k => laws_eqStringS.l0 k l l (i : Int)) true := by
  induction d with
  | zero =>
    intro i h1 h2
    refine ev_succ ?_
    simp only [laws_eqStringS.l0]
    exact ev_neg (by omega) (ev_some rfl)
  | succ d ih =>
    intro i h1 h2
    refine ev_succ ?_
    simp only [laws_eqStringS.l0]
    refine ev_pos (by omega) (ev_pos (by omega) (ev_pos (by omega) (ev_pos trivial ?_)))
    rw [w64 (by omega) (by omega)]
    exact ih (i + 1) (by omega) (by omega)
theorem eq_ev (l : List ByteArray) (hn : l.length ≤ 1048576) : Ev (fun k => laws_eqStringS.f k l l) true := by
  unfold laws_eqStringS.f
  exact ev_pos rfl (eq_l0 l hn l.length 0 (by omega) (by omega))
end Go.Proofs.Ytonagfbadoacjaa.Pb
end
section
namespace Go.Proofs.Ytonagfbadoacjaa.Q
open Go.RowKit Go.Proofs.YtonagfbadoacjaaW.PrintWords Go.Proofs.YtonagfbadoacjaaW.PrintLast Go.Proofs.YtonagfbadoacjaaW.PrintMore
attribute [local go_sem] max2_int min2_int max_two min_two max_three min_three max_four min_four   
set_option linter.unusedVariables false
set_option linter.unusedSimpArgs false
def laws_ltSames.l0 : Nat → List ByteArray → List ByteArray → Int → Option (Bool)
  | 0, _, _, _ => none
  | k + 1, x0, x1, x5 => if x5 < (x0.length : Int) then (if 0 ≤ x5 then (if x5 < (x1.length : Int) then (if (rdOf ByteArray.empty x0 x5).toList = (rdOf ByteArray.empty x1 x5).toList then (laws_ltSames.l0 k x0 x1 (wrap64 (x5 + 1))) else (some false)) else (none)) else (none)) else (some true)
def laws_ltSames.f (k : Nat) (l0 : List ByteArray) (l1 : List ByteArray) : Option (Bool) := if (l0.length : Int) = (l1.length : Int) then (laws_ltSames.l0 k l0 l1 0) else (some false)
theorem laws_ltSames.mono_l : ∀ k, (∀ y0 y1 y2, LeO (laws_ltSames.l0 k y0 y1 y2) (laws_ltSames.l0 (k + 1) y0 y1 y2))
  | 0 => fun _ _ _ r h => by simp [laws_ltSames.l0] at h
  | k + 1 => by
    have ih0 := laws_ltSames.mono_l k
    · intro y0 y1 y2
      unfold laws_ltSames.l0
      repeat' first
      | (with_reducible exact ih0 _ _ _)
      | (with_reducible exact LeO.refl _)
      | (with_reducible exact LeO.none _)
      | (with_reducible refine LeO.ite ?_ ?_)
      | (with_reducible refine LeO.bind ?_ (fun _ => ?_))
      | exact ih0 _ _ _
      | exact LeO.none _
      | refine LeO.ite ?_ ?_
      | refine LeO.bind ?_ (fun _ => ?_)
theorem laws_ltSames.mono : ∀ a0 a1 k, LeO (laws_ltSames.f k a0 a1) (laws_ltSames.f (k + 1) a0 a1) := by
  intro a0 a1 k
  have ih0 := laws_ltSames.mono_l k
  unfold laws_ltSames.f
  repeat' first
      | (with_reducible exact ih0 _ _ _)
      | (with_reducible exact LeO.refl _)
      | (with_reducible exact LeO.none _)
      | (with_reducible refine LeO.ite ?_ ?_)
      | (with_reducible refine LeO.bind ?_ (fun _ => ?_))
      | exact ih0 _ _ _
      | exact LeO.none _
      | refine LeO.ite ?_ ?_
      | refine LeO.bind ?_ (fun _ => ?_)
set_option maxHeartbeats 8000000 in
set_option maxRecDepth 100000 in
theorem laws_ltSames.calls (k : Nat) (A0 : Option Addr) (c0 : Nat) (l0 : List ByteArray) (A1 : Option Addr) (c1 : Nat) (l1 : List ByteArray) (r : Bool) (w : World) (hr0 : Kd.C Kd.string w A0 l0.length l0) (hc0 : l0.length ≤ c0) (hr1 : Kd.C Kd.string w A1 l1.length l1) (hc1 : l1.length ≤ c1) (h : laws_ltSames.f k l0 l1 = some r) :
    Calls Try.prog 83 #[.slice A0 l0.length c0, .slice A1 l1.length c1] w fun e w' => e = .returned (.bool r) ∧ Drawn0 w w' := by
  have HR0 := Aside0.mk hr0
  have HC0 := Aside0.mk hc0
  clear hr0 hc0
  have HR1 := Aside0.mk hr1
  have HC1 := Aside0.mk hc1
  clear hr1 hc1
  have H : (if (l0.length : Int) = (l1.length : Int) then (laws_ltSames.l0 k l0 l1 0) else (some false)) = some r := h
  clear h
  by_cases c3 : (l0.length : Int) = (l1.length : Int)
  · rw [if_pos c3] at H
    have c3b0 : ((l0.length : Int) == (l1.length : Int)) = true := beq_iff_eq.mpr c3
    have c3b1 : ((l0.length : Int) != (l1.length : Int)) = false := bne_eq_false_iff_eq.mpr c3
    have c3b2 : (l0.length == l1.length) = true := by first | simpa using c3 | (simp at c3 ⊢; omega)
    clear c3
    have H' := Aside0.mk H
    clear H
    go_enter Try.func83, Try.ntmps83
    go_wp2
    repeat (go_quiet (fail); try go_wp2)
    go_loopg [5] k (fun kq v5 w' => ∃ (x5_1 : Int), v5 = .int .i64 x5_1 ∧ Aside0 (laws_ltSames.l0 kq l0 l1 x5_1 = some r) ∧ Aside0 (kq ≤ k) ∧ Drawn0 w w')
    case atStart => exact ⟨(0), (by first | rfl | (simp; done) | (simp [*]; done)), H', ⟨Nat.le_refl _⟩, by repeat (first | exact Drawn0.refl _ | apply Drawn0.step)⟩
    case round =>
      clear H'
      try clear c1
      try clear p2
      try clear c3
      try clear c3b0
      try clear c3b1
      try clear c3b2
      obtain ⟨x5_1, rfl, HA, HK1, ⟨m1, rfl⟩⟩ := hrel
      cases gk with
      | zero => exact absurd HA.out (by simp [laws_ltSames.l0])
      | succ k1 =>
        have H := HA.out
        clear HA
        simp only [laws_ltSames.l0] at H
        by_cases c4 : x5_1 < (l0.length : Int)
        · rw [if_pos c4] at H
          have c4b0 : decide (x5_1 < (l0.length : Int)) = true := decide_eq_true c4
          clear c4
          by_cases c5 : 0 ≤ x5_1
          · rw [if_pos c5] at H
            have c5b0 : decide (0 ≤ x5_1) = true := decide_eq_true c5
            clear c5
            by_cases c6 : x5_1 < (l1.length : Int)
            · rw [if_pos c6] at H
              have c6b0 : decide (x5_1 < (l1.length : Int)) = true := decide_eq_true c6
              clear c6
              by_cases c7 : (rdOf ByteArray.empty l0 x5_1).toList = (rdOf ByteArray.empty l1 x5_1).toList
              · rw [if_pos c7] at H
                have c7b0 : ((rdOf ByteArray.empty l0 x5_1).toList == (rdOf ByteArray.empty l1 x5_1).toList) = true := beq_iff_eq.mpr c7
                have c7b1 : ((rdOf ByteArray.empty l0 x5_1).toList != (rdOf ByteArray.empty l1 x5_1).toList) = false := bne_eq_false_iff_eq.mpr c7
                clear c7
                have H' := Aside0.mk H
                clear H
                have p655 : 0 ≤ (x5_1 : Int) := of_decide_eq_true (by first | (with_reducible assumption) | assumption)
                have q655 : x5_1 < (l0.length : Int) := of_decide_eq_true (by first | (with_reducible assumption) | assumption)
                obtain ⟨ad655, e655, hx655_0⟩ := Kd.at_string HR0.out x5_1 p655 q655
                cases e655
                replace p655 := eq_true p655
                replace q655 := eq_true q655
                have p656 : 0 ≤ (x5_1 : Int) := of_decide_eq_true (by first | (with_reducible assumption) | assumption)
                have q656 : x5_1 < (l1.length : Int) := of_decide_eq_true (by first | (with_reducible assumption) | assumption)
                obtain ⟨ad656, e656, hx656_0⟩ := Kd.at_string HR1.out x5_1 p656 q656
                cases e656
                replace p656 := eq_true p656
                replace q656 := eq_true q656
                go_wp2
                repeat (go_quiet (fail); try go_wp2)
                go_roundg k1
                case measure => have := HK1.out; omega
                case rel => exact ⟨(wrap64 (x5_1 + 1)), (by first | rfl | (simp; done) | (simp [*]; done)), H', ⟨by have := HK1.out; omega⟩, by repeat (first | exact Drawn0.refl _ | apply Drawn0.step)⟩
              · rw [if_neg c7] at H
                have c7b0 : ((rdOf ByteArray.empty l0 x5_1).toList == (rdOf ByteArray.empty l1 x5_1).toList) = false := beq_eq_false_iff_ne.mpr c7
                have c7b1 : ((rdOf ByteArray.empty l0 x5_1).toList != (rdOf ByteArray.empty l1 x5_1).toList) = true := bne_iff_ne.mpr c7
                obtain rfl := Option.some.inj H
                have p655 : 0 ≤ (x5_1 : Int) := of_decide_eq_true (by first | (with_reducible assumption) | assumption)
                have q655 : x5_1 < (l0.length : Int) := of_decide_eq_true (by first | (with_reducible assumption) | assumption)
                obtain ⟨ad655, e655, hx655_0⟩ := Kd.at_string HR0.out x5_1 p655 q655
                cases e655
                replace p655 := eq_true p655
                replace q655 := eq_true q655
                have p656 : 0 ≤ (x5_1 : Int) := of_decide_eq_true (by first | (with_reducible assumption) | assumption)
                have q656 : x5_1 < (l1.length : Int) := of_decide_eq_true (by first | (with_reducible assumption) | assumption)
                obtain ⟨ad656, e656, hx656_0⟩ := Kd.at_string HR1.out x5_1 p656 q656
                cases e656
                replace p656 := eq_true p656
                replace q656 := eq_true q656
                go_wp2
                repeat (go_quiet (fail); try go_wp2)
                go_ret
                exact ⟨by first | rfl | (simp; done) | (simp [*]; done), by repeat (first | exact Drawn0.refl _ | apply Drawn0.step)⟩
            · rw [if_neg c6] at H
              exact absurd H (by simp)
          · rw [if_neg c5] at H
            exact absurd H (by simp)
        · rw [if_neg c4] at H
          have c4b0 : decide (x5_1 < (l0.length : Int)) = false := decide_eq_false c4
          clear c4
          obtain rfl := Option.some.inj H
          go_wp2
          repeat (go_quiet (fail); try go_wp2)
          go_ret
          exact ⟨by first | rfl | (simp; done) | (simp [*]; done), by repeat (first | exact Drawn0.refl _ | apply Drawn0.step)⟩
  · rw [if_neg c3] at H
    have c3b0 : ((l0.length : Int) == (l1.length : Int)) = false := beq_eq_false_iff_ne.mpr c3
    have c3b1 : ((l0.length : Int) != (l1.length : Int)) = true := bne_iff_ne.mpr c3
    have c3b2 : (l0.length == l1.length) = false := by first | simpa using c3 | (simp at c3 ⊢; omega)
    obtain rfl := Option.some.inj H
    go_enter Try.func83, Try.ntmps83
    go_wp2
    repeat (go_quiet (fail); try go_wp2)
    go_ret
    exact ⟨by first | rfl | (simp; done) | (simp [*]; done), by repeat (first | exact Drawn0.refl _ | apply Drawn0.step)⟩
end Go.Proofs.Ytonagfbadoacjaa.Q
end
section
set_option linter.unusedVariables false
set_option linter.unusedSimpArgs false
namespace Go.Proofs.Ytonagfbadoacjaa.Pb
open Go Go.RowKit Go.Proofs.YtonagfbadoacjaaW.PrintWords Go.Proofs.YtonagfbadoacjaaW.PrintLast Go.Proofs.YtonagfbadoacjaaW.PrintMore Go.Proofs.Ytonagfbadoacjaa.Trie Go.Proofs.Ytonagfbadoacjaa.Q
theorem sorted_unique : ∀ {A B : List Key}, A.Pairwise (· < ·) → B.Pairwise (· < ·) → (∀ x, x ∈ A ↔ x ∈ B) → A = B := by
  intro A
  induction A with
  | nil =>
    intro B _ _ h
    cases B with
    | nil => rfl
    | cons b B => exact absurd ((h b).2 (by simp)) (by simp)
  | cons a A ih =>
    intro B hA hB h
    cases B with
    | nil => exact absurd ((h a).1 (by simp)) (by simp)
    | cons b B =>
      have pa := List.pairwise_cons.1 hA
      have pb := List.pairwise_cons.1 hB
      have hab : a = b := by
        have h1 := (h a).1 (by simp)
        have h2 := (h b).2 (by simp)
        rcases List.mem_cons.1 h1 with e | h1
        · exact e
        · rcases List.mem_cons.1 h2 with e | h2
          · exact e.symm
          · exact absurd (pb.1 a h1) (key_asymm (pa.1 b h2))
      subst hab
      congr 1
      refine ih pa.2 pb.2 (fun x => ?_)
      have hx := h x
      simp only [List.mem_cons] at hx
      constructor
      · intro q
        rcases hx.1 (.inr q) with e | e
        · subst e; exact absurd (pa.1 x q) (key_irrefl x)
        · exact e
      · intro q
        rcases hx.2 (.inr q) with e | e
        · subst e; exact absurd (pb.1 x q) (key_irrefl x)
        · exact e
theorem compact_spec (zs : List Key) (hs : ∀ i j, i ≤ j → j < zs.length → ¬ zs.toArray[j]! < zs.toArray[i]!) : ∀ m, m ≤ zs.length →
    (Lib.compactUpTo zs.toArray m).Pairwise (· < ·) ∧ ∀ x, x ∈ Lib.compactUpTo zs.toArray m ↔ ∃ j, j < m ∧ x = zs.toArray[j]! := by
  intro m
  induction m with
  | zero => intro _; simp [Lib.compactUpTo]
  | succ m ih =>
    intro h
    obtain ⟨h1, h2⟩ := ih (by omega)
    rw [Lib.compactUpTo_succ]
    by_cases k : m = 0 ∨ zs.toArray[m]! ≠ zs.toArray[m - 1]!
    · have hk : Lib.keeps zs.toArray m = true := by
        rcases k with k | k
        · exact Lib.keeps_lt_one _ _ (by omega)
        · exact Lib.keeps_pos k
      rw [hk, if_pos rfl]
      refine ⟨List.pairwise_append.2 ⟨h1, by simp, fun x hx y hy => ?_⟩, fun x => ?_⟩
      · obtain ⟨j, hj, rfl⟩ := (h2 x).1 hx
        rw [List.mem_singleton.1 hy]
        have a1 := hs j (m - 1) (by omega) (by omega)
        have a2 := hs (m - 1) m (by omega) (by omega)
        rcases k with k | k
        · omega
        · rcases key_le_total zs.toArray[m - 1]! zs.toArray[m]! with c | c | c
          · rcases key_le_total zs.toArray[j]! zs.toArray[m - 1]! with e | e | e
            · exact key_trans e c
            · rw [e]; exact c
            · exact absurd e a1
          · exact absurd c.symm k
          · exact absurd c a2
      · rw [List.mem_append, h2, List.mem_singleton]
        constructor
        · rintro (⟨j, hj, e⟩ | e)
          · exact ⟨j, by omega, e⟩
          · exact ⟨m, by omega, e⟩
        · rintro ⟨j, hj, e⟩
          by_cases q : j = m
          · subst q; exact .inr e
          · exact .inl ⟨j, by omega, e⟩
    · have hm : 0 < m := by omega
      have he : zs.toArray[m]! = zs.toArray[m - 1]! := Classical.byContradiction (fun q => k (.inr q))
      rw [Lib.keeps_neg hm he, if_neg (by simp), List.append_nil]
      refine ⟨h1, fun x => ?_⟩
      rw [h2]
      constructor
      · rintro ⟨j, hj, e⟩
        exact ⟨j, by omega, e⟩
      · rintro ⟨j, hj, e⟩
        by_cases q : j = m
        · subst q; exact ⟨j - 1, by omega, by rw [e, he]⟩
        · exact ⟨j, by omega, e⟩
theorem le_not {a b : Key} : decide (a ≤ b) = true ↔ ¬ b < a := by
  rw [decide_eq_true_eq]
  exact Iff.rfl
theorem sort_compact (K : List Key) : (Lib.compact (K.mergeSort fun x y => decide (x ≤ y))).Pairwise (· < ·) ∧ ∀ x, x ∈ Lib.compact (K.mergeSort fun x y => decide (x ≤ y)) ↔ x ∈ K := by
  have hp : (K.mergeSort fun x y => decide (x ≤ y)).Pairwise (fun a b => decide (a ≤ b) = true) := by
    apply List.pairwise_mergeSort
    · intro a b c h1 h2
      rw [le_not] at h1 h2 ⊢
      intro q
      rcases key_le_total a b with e | e | e
      · exact h2 (key_trans q e)
      · subst e; exact h2 q
      · exact h1 e
    · intro a b
      rw [Bool.or_eq_true, le_not, le_not]
      rcases key_le_total a b with e | e | e
      · exact .inl (key_asymm e)
      · subst e; exact .inl (key_irrefl _)
      · exact .inr (key_asymm e)
  have hm : ∀ x, x ∈ (K.mergeSort fun x y => decide (x ≤ y)) ↔ x ∈ K := fun x => List.mem_mergeSort
  generalize (K.mergeSort fun x y => decide (x ≤ y)) = zs at hp hm ⊢
  have hs : ∀ i j, i ≤ j → j < zs.length → ¬ zs.toArray[j]! < zs.toArray[i]! := by
    intro i j hij hj
    have e1 : zs.toArray[j]! = zs[j] := by simp [hj]
    have e2 : zs.toArray[i]! = zs[i]'(by omega) := by simp [show i < zs.length by omega]
    rw [e1, e2]
    by_cases q : i = j
    · subst q; exact key_irrefl _
    · exact le_not.1 (List.pairwise_iff_getElem.1 hp i j (by omega) hj (by omega))
  obtain ⟨h1, h2⟩ := compact_spec zs hs zs.length (Nat.le_refl _)
  refine ⟨h1, fun x => ?_⟩
  rw [← hm]
  have := h2 x
  unfold Lib.compact
  rw [this]
  constructor
  · rintro ⟨j, hj, e⟩
    rw [e, show zs.toArray[j]! = zs[j] by simp [hj]]
    exact List.getElem_mem _
  · intro h
    obtain ⟨j, hj, e⟩ := List.getElem_of_mem h
    exact ⟨j, hj, by rw [← e]; simp [hj]⟩
def keyS (s : ByteArray) : Bool := kokB (L s)
def mkS (l : List UInt8) : ByteArray := ⟨l.toArray⟩
theorem LL_mkS (zs : List Key) : LL (zs.map mkS) = zs := by
  simp only [LL, List.map_map]
  have : (L ∘ mkS) = id := by funext l; exact L_mk l
  rw [this, List.map_id]
def finS (m : List ByteArray) : List ByteArray := (Lib.compact ((LL m).mergeSort fun x y => decide (x ≤ y))).map mkS
theorem compact_few (zs : List Key) : (Lib.compact zs).length ≤ zs.length := by
  unfold Lib.compact Lib.compactUpTo
  rw [List.length_map]
  exact Nat.le_trans (List.length_filter_le _ _) (by simp)
theorem impl_KeysSort_l0 (l : List ByteArray) (hl : SzL l) (hn : l.length ≤ 2000000) (d : Nat) : ∀ (i : Nat) (x3 : List ByteArray), i ≤ l.length → l.length - i = d → x3.length ≤ i →
    Ev (fun k => impl_KeysSort.l0 k x3 l (l.length : Int) (i : Int)) (finS (x3 ++ (l.drop i).filter keyS)) := by
  induction d with
  | zero =>
    intro i x3 h1 h2 h3
    refine ev_succ ?_
    simp only [impl_KeysSort.l0]
    rw [List.drop_eq_nil_of_le (by omega), List.filter_nil, List.append_nil]
    have hz := LL_length x3
    have ms : ((LL x3).mergeSort fun x y => decide (x ≤ y)).length = x3.length := by rw [List.length_mergeSort, hz]
    have e1 : slices_Sort_string_string.f x3 = some (((LL x3).mergeSort fun x y => decide (x ≤ y)).map mkS) := by
      unfold slices_Sort_string_string.f
      rw [if_pos (by omega)]
      rfl
    have e2 : slices_Compact_string_string.f (((LL x3).mergeSort fun x y => decide (x ≤ y)).map mkS) = some (finS x3) := by
      unfold slices_Compact_string_string.f
      rw [if_pos (by rw [List.length_map]; omega)]
      have := LL_mkS ((LL x3).mergeSort fun x y => decide (x ≤ y))
      unfold LL at this
      have e3 : (((List.map L x3).mergeSort fun x y => decide (x ≤ y)).map mkS).map (fun s => s.data.toList) = ((List.map L x3).mergeSort fun x y => decide (x ≤ y)) := this
      unfold finS LL
      rw [e3]
      rfl
    have hf : (finS x3).length ≤ x3.length := by
      unfold finS
      rw [List.length_map]
      have := compact_few ((LL x3).mergeSort fun x y => decide (x ≤ y))
      omega
    refine ev_neg (by omega) (ev_bindc e1 (ev_bindc e2 (ev_pos (by simp only [List.length_nil]; omega) (ev_some (List.nil_append _)))))
  | succ d ih =>
    intro i x3 h1 h2 h3
    refine ev_succ ?_
    simp only [impl_KeysSort.l0]
    have hg : rdOf ByteArray.empty l (i : Int) = l.getD i ByteArray.empty := rfl
    refine ev_pos (by omega) (ev_pos (by omega) (ev_pos (by omega) (Ev.bind (impl_KeyOk_ev _ (rd_size hl i)) ?_)))
    rw [drop_cons ByteArray.empty (by omega), List.filter_cons, w64 (by omega) (by omega), hg]
    cases hk : kokB (L (l.getD i ByteArray.empty)) with
    | true =>
      refine ev_pos rfl (ev_pos (by omega) ?_)
      rw [if_pos (show keyS _ = true from hk)]
      have := ih (i + 1) (x3 ++ [l.getD i ByteArray.empty]) (by omega) (by omega) (by simp; omega)
      rwa [List.append_assoc] at this
    | false =>
      refine ev_neg (by simp) ?_
      rw [if_neg (by rw [show keyS _ = false from hk]; simp)]
      exact ih (i + 1) x3 (by omega) (by omega) (by omega)
theorem spec_KeysSort_l0 (l : List ByteArray) (hl : SzL l) (hn : l.length ≤ 2000000) (d : Nat) : ∀ (i : Nat) (x3 : List ByteArray), i ≤ l.length → l.length - i = d → x3.length ≤ i → (LL x3).Pairwise (· < ·) →
    ∃ r, Ev (fun k => spec_KeysSort.l0 k l x3 (i : Int)) r ∧ (LL r).Pairwise (· < ·) ∧ r.length ≤ l.length ∧ ∀ x, x ∈ LL r ↔ x ∈ LL x3 ∨ x ∈ LL ((l.drop i).filter keyS) := by
  induction d with
  | zero =>
    intro i x3 h1 h2 h3 h4
    refine ⟨x3, ev_succ ?_, h4, by omega, fun x => ?_⟩
    · simp only [spec_KeysSort.l0]
      exact ev_neg (by omega) (ev_some rfl)
    · rw [List.drop_eq_nil_of_le (by omega)]; simp [LL]
  | succ d ih =>
    intro i x3 h1 h2 h3 h4
    have hg : rdOf ByteArray.empty l (i : Int) = l.getD i ByteArray.empty := rfl
    rw [drop_cons ByteArray.empty (by omega), List.filter_cons]
    cases hk : kokB (L (l.getD i ByteArray.empty)) with
    | true =>
      obtain ⟨y, hy, he⟩ := l2Put_ev x3 (l.getD i ByteArray.empty) (by omega)
      have hyl : y.length ≤ x3.length + 1 := by
        have := putB_length (k := L (l.getD i ByteArray.empty)) (K := LL x3)
        rw [← he, LL_length, LL_length] at this; exact this
      obtain ⟨r, hr, g1, g2, g3⟩ := ih (i + 1) y (by omega) (by omega) (by omega) (by rw [he]; exact putB_sorted h4)
      refine ⟨r, ev_succ ?_, g1, g2, fun x => ?_⟩
      · simp only [spec_KeysSort.l0]
        refine ev_pos (by omega) (ev_pos (by omega) (Ev.bind (spec_KeyOk_ev _ (rd_size hl i)) ?_))
        rw [hg, hk, w64 (by omega) (by omega)]
        exact ev_pos rfl (Ev.bind hy hr)
      · rw [g3, he, putB_mem, if_pos (show keyS _ = true from hk)]
        simp only [LL, List.map_cons, List.mem_cons]
        constructor
        · rintro ((h | h) | h)
          · exact .inr (.inl h)
          · exact .inl h
          · exact .inr (.inr h)
        · rintro (h | h | h)
          · exact .inl (.inr h)
          · exact .inl (.inl h)
          · exact .inr h
    | false =>
      obtain ⟨r, hr, g1, g2, g3⟩ := ih (i + 1) x3 (by omega) (by omega) (by omega) h4
      refine ⟨r, ev_succ ?_, g1, g2, fun x => ?_⟩
      · simp only [spec_KeysSort.l0]
        refine ev_pos (by omega) (ev_pos (by omega) (Ev.bind (spec_KeyOk_ev _ (rd_size hl i)) ?_))
        rw [hg, hk, w64 (by omega) (by omega)]
        exact ev_neg (by simp) hr
      · rw [g3, if_neg (by rw [show keyS _ = false from hk]; simp)]
theorem KeysSort_ev (l : List ByteArray) (hl : SzL l) (hn : l.length ≤ 2000000) :
    ∃ r, Ev (fun k => impl_KeysSort.f k l) r ∧ Ev (fun k => spec_KeysSort.f k l) r ∧ (LL r).Pairwise (· < ·) ∧ r.length ≤ l.length ∧ ∀ x, x ∈ LL r ↔ x ∈ LL l ∧ kokB x = true := by
  have h1 := impl_KeysSort_l0 l hl hn l.length 0 [] (by omega) (by omega) (by simp)
  obtain ⟨r, h2, g1, g2, g3⟩ := spec_KeysSort_l0 l hl hn l.length 0 [] (by omega) (by omega) (by simp) (by simp [LL])
  rw [List.drop_zero, List.nil_append] at h1
  have hf : ∀ x, x ∈ LL (l.filter keyS) ↔ x ∈ LL l ∧ kokB x = true := by
    intro x
    simp only [LL, List.mem_map, List.mem_filter]
    constructor
    · rintro ⟨s, ⟨a, b⟩, rfl⟩; exact ⟨⟨s, a, rfl⟩, b⟩
    · rintro ⟨⟨s, a, rfl⟩, b⟩; exact ⟨s, ⟨a, b⟩, rfl⟩
  have hr : finS (l.filter keyS) = r := by
    apply LL_inj
    obtain ⟨s1, s2⟩ := sort_compact (LL (l.filter keyS))
    unfold finS
    rw [LL_mkS]
    refine sorted_unique s1 g1 (fun x => ?_)
    rw [s2, g3, List.drop_zero]
    simp [LL]
  rw [hr] at h1
  refine ⟨r, h1, h2, g1, g2, fun x => ?_⟩
  rw [g3, List.drop_zero, ← hf]
  simp [LL]
end Go.Proofs.Ytonagfbadoacjaa.Pb
end
section
set_option linter.unusedVariables false
set_option linter.unusedSimpArgs false
namespace Go.Proofs.Ytonagfbadoacjaa.Pb
open Go Go.RowKit Go.Proofs.YtonagfbadoacjaaW.PrintWords Go.Proofs.YtonagfbadoacjaaW.PrintLast Go.Proofs.YtonagfbadoacjaaW.PrintMore Go.Proofs.Ytonagfbadoacjaa.Trie Go.Proofs.Ytonagfbadoacjaa.Q
theorem strOfNums_one (x : Int) : (strOfNums [x]).size = 1 := by rfl
theorem markText_l0 : ∀ (n : Nat) (x3 : ByteArray), x3.size + n ≤ 1000000000 → ∃ r, Ev (fun k => laws_markText.l0 k (n : Int) x3) r := by
  intro n
  induction n using Nat.strongRecOn with
  | _ n ih =>
    intro x3 h
    by_cases c : (n : Int) > 0
    · have hd : wrap64 (Int.tdiv (n : Int) 10) = ((n / 10 : Nat) : Int) := by
        rw [Int.tdiv_eq_ediv_of_nonneg (by omega), w64 (by omega) (by omega)]; omega
      have hs := strOfNums_one ((wrap64 (48 + (Int.tmod (n : Int) 10))) % 256)
      obtain ⟨r, hr⟩ := ih (n / 10) (by omega) ((strOfNums [(wrap64 (48 + (Int.tmod (n : Int) 10))) % 256]) ++ x3) (by rw [ByteArray.size_append, hs]; omega)
      refine ⟨r, ev_succ ?_⟩
      simp only [laws_markText.l0]
      refine ev_pos c (ev_bindc rfl (ev_pos (by rw [hs]; omega) ?_))
      rw [hd]; exact hr
    · refine ⟨(⟨#[109]⟩ : ByteArray) ++ x3, ev_succ ?_⟩
      simp only [laws_markText.l0]
      exact ev_neg c (ev_pos (by omega) (ev_some rfl))
theorem markText_ev : ∃ t : Nat → ByteArray, ∀ n : Nat, n ≤ 100000000 → Ev (fun k => laws_markText.f k (n : Int)) (t n) := by
  have h : ∀ n : Nat, ∃ r, n ≤ 100000000 → Ev (fun k => laws_markText.f k (n : Int)) r := by
    intro n
    by_cases q : n ≤ 100000000
    · unfold laws_markText.f
      by_cases c : (n : Int) ≤ 0
      · exact ⟨_, fun _ => ev_pos c (ev_some rfl)⟩
      · obtain ⟨r, hr⟩ := markText_l0 n (⟨#[]⟩ : ByteArray) (by show 0 + n ≤ 1000000000; omega)
        exact ⟨r, fun _ => ev_neg c hr⟩
    · exact ⟨⟨#[]⟩, fun z => absurd z q⟩
  exact ⟨fun n => Classical.choose (h n), fun n hn => Classical.choose_spec (h n) hn⟩
theorem mark_l0 (t : Nat → ByteArray) (ht : ∀ n : Nat, n ≤ 100000000 → Ev (fun k => laws_markText.f k (n : Int)) (t n)) (N : Nat) (hN : N ≤ 2000000) (d : Nat) : ∀ (i : Nat) (x0 : List ByteArray), x0.length = N → i ≤ N → N - i = d → (∀ j, j < i → x0.getD j ByteArray.empty = t (j + 1)) →
    ∃ m, Ev (fun k => laws_markStringS.l0 k x0 ((i + 1 : Nat) : Int) (i : Int)) (((N + 1 : Nat) : Int), m) ∧ m.length = N ∧ ∀ j, j < N → m.getD j ByteArray.empty = t (j + 1) := by
  induction d with
  | zero =>
    intro i x0 h0 h1 h2 h3
    obtain rfl : i = N := by omega
    refine ⟨x0, ev_succ ?_, h0, h3⟩
    simp only [laws_markStringS.l0]
    exact ev_neg (by omega) (ev_some rfl)
  | succ d ih =>
    intro i x0 h0 h1 h2 h3
    obtain ⟨m, hm, g⟩ := ih (i + 1) (x0.set i (t (i + 1))) (by simp [h0]) (by omega) (by omega) (by
      intro j hj
      rw [List.getD_eq_getElem?_getD, List.getElem?_set]
      by_cases e : i = j
      · subst e
        rw [if_pos rfl, if_pos (by omega)]; rfl
      · rw [if_neg e, ← List.getD_eq_getElem?_getD]
        exact h3 j (by omega))
    refine ⟨m, ev_succ ?_, g⟩
    simp only [laws_markStringS.l0]
    refine ev_pos (by omega) (Ev.bind (ht (i + 1) (by omega)) (ev_pos (by omega) ?_))
    rw [w64 (by omega) (by omega), w64 (by omega) (by omega), Int.toNat_natCast]
    exact hm
theorem held_l0 (t : Nat → ByteArray) (ht : ∀ n : Nat, n ≤ 100000000 → Ev (fun k => laws_markText.f k (n : Int)) (t n)) (m : List ByteArray) (hN : m.length ≤ 2000000) (hm : ∀ j, j < m.length → m.getD j ByteArray.empty = t (j + 1)) (d : Nat) : ∀ i : Nat, i ≤ m.length → m.length - i = d →
    Ev (fun k => laws_heldStringS.l0 k m ((i + 1 : Nat) : Int) (i : Int)) ((m.length + 1 : Nat) : Int) := by
  induction d with
  | zero =>
    intro i h1 h2
    obtain rfl : i = m.length := by omega
    refine ev_succ ?_
    simp only [laws_heldStringS.l0]
    exact ev_neg (by omega) (ev_some rfl)
  | succ d ih =>
    intro i h1 h2
    refine ev_succ ?_
    simp only [laws_heldStringS.l0]
    have hg : rdOf ByteArray.empty m (i : Int) = m.getD i ByteArray.empty := rfl
    refine ev_pos (by omega) (ev_pos (by omega) (Ev.bind (ht (i + 1) (by omega)) ?_))
    rw [hg, hm i (by omega), w64 (by omega) (by omega), w64 (by omega) (by omega)]
    exact ev_pos rfl (ih (i + 1) (by omega) (by omega))
theorem mark_ev (l : List ByteArray) (hn : l.length ≤ 2000000) : ∃ m, Ev (fun k => laws_markStringS.f k l 1) (((l.length + 1 : Nat) : Int), m) ∧ Ev (fun k => laws_heldStringS.f k m 1) ((l.length + 1 : Nat) : Int) := by
  obtain ⟨t, ht⟩ := markText_ev
  obtain ⟨m, hm, hl, g⟩ := mark_l0 t ht l.length hn l.length 0 l rfl (by omega) (by omega) (by omega)
  refine ⟨m, hm, ?_⟩
  have := held_l0 t ht m (by omega) (by rw [hl]; exact g) m.length 0 (by omega) (by omega)
  rw [hl] at this
  exact this
end Go.Proofs.Ytonagfbadoacjaa.Pb
end
section
set_option linter.unusedVariables false
set_option linter.unusedSimpArgs false
namespace Go.Proofs.Ytonagfbadoacjaa.Pb
open Go Go.RowKit Go.Proofs.YtonagfbadoacjaaW.PrintWords Go.Proofs.YtonagfbadoacjaaW.PrintLast Go.Proofs.YtonagfbadoacjaaW.PrintMore Go.Proofs.Ytonagfbadoacjaa.Trie Go.Proofs.Ytonagfbadoacjaa.Q
def notLess (x : ByteArray) (y : ByteArray) : Bool := !decide (L y < L x)
def firstOf (o : Option ByteArray) : ByteArray × Bool := match o with | some y => (y, true) | none => ((⟨#[]⟩ : ByteArray), false)
def firstB (l : List ByteArray) (x : ByteArray) : ByteArray × Bool := if keysB (LL l) then firstOf (l.find? (notLess x)) else ((⟨#[]⟩ : ByteArray), false)
end Go.Proofs.Ytonagfbadoacjaa.Pb
end
section
namespace Go.Proofs.Ytonagfbadoacjaa.Q
open Go.RowKit Go.Proofs.YtonagfbadoacjaaW.PrintWords Go.Proofs.YtonagfbadoacjaaW.PrintLast Go.Proofs.YtonagfbadoacjaaW.PrintMore
attribute [local go_sem] max2_int min2_int max_two min_two max_three min_three max_four min_four   
set_option linter.unusedVariables false
set_option linter.unusedSimpArgs false
def spec_DrawKeysSort.l0 : Nat → List ByteArray → Int → List Int → Int → Option (List ByteArray)
  | 0, _, _, _, _ => none
  | k + 1, x4, x5, x1218000, x1218001 => if x5 > 0 then ((spec_l71Near.f k x1218000 x1218001 x4).bind fun bt1223 => (if x4.length < 8796093022208 then (spec_DrawKeysSort.l0 k (x4 ++ [bt1223.1]) (wrap64 (x5 - 1)) x1218000 bt1223.2) else (none))) else ((spec_l71Mess.f k x1218000 x1218001).bind fun bt1228 => (if x4.length + bt1228.1.length < 8796093022208 then (some (x4 ++ bt1228.1)) else (none)))
def spec_DrawKeysSort.f (k : Nat) (l0 : List Int) : Option (List ByteArray) := (spec_l6Open.f l0).bind fun bt1215 => ((spec_l6Rd_pick.f k bt1215.1 bt1215.2 10).bind fun bt1221 => (spec_DrawKeysSort.l0 k (([] : List ByteArray)) bt1221.1 bt1215.1 bt1221.2))
theorem spec_DrawKeysSort.mono_l : ∀ k, (∀ y0 y1 y2 y3, LeO (spec_DrawKeysSort.l0 k y0 y1 y2 y3) (spec_DrawKeysSort.l0 (k + 1) y0 y1 y2 y3))
  | 0 => fun _ _ _ _ r h => by simp [spec_DrawKeysSort.l0] at h
  | k + 1 => by
    have ih0 := spec_DrawKeysSort.mono_l k
    · intro y0 y1 y2 y3
      unfold spec_DrawKeysSort.l0
      repeat' first
      | (with_reducible exact ih0 _ _ _ _)
      | (with_reducible exact spec_l6Rd_pick.mono _ _ _ _)
      | (with_reducible exact spec_l71Mess.mono _ _ _)
      | (with_reducible exact spec_l71Near.mono _ _ _ _)
      | (with_reducible exact LeO.refl _)
      | (with_reducible exact LeO.none _)
      | (with_reducible refine LeO.ite ?_ ?_)
      | (with_reducible refine LeO.bind ?_ (fun _ => ?_))
      | exact ih0 _ _ _ _
      | exact spec_l6Rd_pick.mono _ _ _ _
      | exact spec_l71Mess.mono _ _ _
      | exact spec_l71Near.mono _ _ _ _
      | exact LeO.none _
      | refine LeO.ite ?_ ?_
      | refine LeO.bind ?_ (fun _ => ?_)
theorem spec_DrawKeysSort.mono : ∀ a0 k, LeO (spec_DrawKeysSort.f k a0) (spec_DrawKeysSort.f (k + 1) a0) := by
  intro a0 k
  have ih0 := spec_DrawKeysSort.mono_l k
  unfold spec_DrawKeysSort.f
  repeat' first
      | (with_reducible exact ih0 _ _ _ _)
      | (with_reducible exact spec_l6Rd_pick.mono _ _ _ _)
      | (with_reducible exact spec_l71Mess.mono _ _ _)
      | (with_reducible exact spec_l71Near.mono _ _ _ _)
      | (with_reducible exact LeO.refl _)
      | (with_reducible exact LeO.none _)
      | (with_reducible refine LeO.ite ?_ ?_)
      | (with_reducible refine LeO.bind ?_ (fun _ => ?_))
      | exact ih0 _ _ _ _
      | exact spec_l6Rd_pick.mono _ _ _ _
      | exact spec_l71Mess.mono _ _ _
      | exact spec_l71Near.mono _ _ _ _
      | exact LeO.none _
      | refine LeO.ite ?_ ?_
      | refine LeO.bind ?_ (fun _ => ?_)
set_option maxHeartbeats 8000000 in
set_option maxRecDepth 100000 in
theorem spec_DrawKeysSort.calls (k : Nat) (A0 : Option Addr) (c0 : Nat) (l0 : List Int) (r : List ByteArray) (w : World) (hr0 : Kd.C (Kd.int .u8) w A0 l0.length l0) (hc0 : l0.length ≤ c0) (h : spec_DrawKeysSort.f k l0 = some r) :
    Calls Try.prog 82 #[.slice A0 l0.length c0] w fun e w' => ∃ v0_ : Value, e = .returned (v0_) ∧ Kd.R Kd.string 9 w' w.heap.size (fun _ => True) v0_ r ∧ Below w.heap.size w w' := by
  have HR0 := Aside0.mk hr0
  have HC0 := Aside0.mk hc0
  clear hr0 hc0
  have HB := Aside0.mk (Below.refl w.heap.size w)
  have H : ((spec_l6Open.f l0).bind fun bt1215 => ((spec_l6Rd_pick.f k bt1215.1 bt1215.2 10).bind fun bt1221 => (spec_DrawKeysSort.l0 k (([] : List ByteArray)) bt1221.1 bt1215.1 bt1221.2))) = some r := h
  clear h
  replace H := Option.bind_eq_some_iff.mp H
  obtain ⟨⟨t1215, t1216⟩, A20, H⟩ := H
  (try dsimp only at H)
  have A2 := Aside0.mk A20
  clear A20
  obtain ⟨y1218, hy1218⟩ : ∃ y_ : List ByteArray, y_ = (([] : List ByteArray)) := ⟨_, rfl⟩
  replace H : ((spec_l6Rd_pick.f k t1215 t1216 10).bind fun bt1221 => (spec_DrawKeysSort.l0 k y1218 bt1221.1 t1215 bt1221.2)) = some r := by first | (rw [hy1218]; with_reducible exact H) | (have H2_ := (Option.bind_some _ _).symm.trans H; rw [hy1218]; with_reducible exact H2_) | (have H2_ := (Option.bind_some _ _).symm.trans H; with_reducible exact H2_) | with_reducible exact H | (rw [hy1218]; exact H) | exact H
  have Ny1218 := Aside0.mk hy1218
  clear hy1218
  replace H := Option.bind_eq_some_iff.mp H
  obtain ⟨⟨t1221, t1222⟩, A30, H⟩ := H
  (try dsimp only at H)
  have A3 := Aside0.mk A30
  clear A30
  have H' := Aside0.mk H
  clear H
  go_enter Try.func82, Try.ntmps82
  go_wp2_with (first | ((with_reducible refine gate_callee (f := 102) rfl ?_); refine goesL_ (some 7) rfl rfl Try.func102 (by kernel_rfl) rfl #[.slice A0 l0.length c0] rfl (by (try simp only [List.map_toArray, List.map_cons, List.map_nil]); first | done | rfl | (simp only [List.length_drop, List.length_take]; rfl)) ?_; (with_reducible refine (spec_l6Open.calls _ _ l0 t1215 t1216 w _ ?side1 ?side2 ?side3 A2.out).mono ?_); (case side1 => repeat (first | (with_reducible first | exact HB.out | apply below_alloc | apply pw_below_drewN | apply below_drew1) | exact HB.out)); (case side2 => exact HR0.out); (case side3 => exact HC0.out); rintro e w4 ⟨g1217, rfl, hi, hb, hb2⟩; refine ⟨_, rfl, ?_⟩; have n0_ := Aside0.mk (hb); have n1_ := Aside0.mk (hi); clear HB; have HB := n0_; have HI1217 := n1_; clear n0_ n1_; (try clear hb); (try clear hb2); (try clear hk); (try clear hi)) | ((with_reducible refine gate_dst (N := 8) rfl ?_); refine Kd.R_lit Kd.string _ 9 ?hg (N := 8) ?hd (xs := ([] : List ByteArray)) (inner := []) (ok := fun _ => True) (okp := fun _ => True) ?hr ?hp (fun _ hk => hk) trivial (Below.refl _ _) (Nat.le_refl _) (by simp) ?_; (case hd => rfl); (case hg => rfl); (case hr => first | (go_simp; done) | (go_simp; rfl)); (case hp => exact (Reps.none _ _)); intro v1219 w5 ho6 hb hg_ hnew_; clear hg_ hnew_; (first | rw [← Ny1218.out] at ho6 | (simp only [Int.reduceToNat] at ho6; rw [← Ny1218.out] at ho6)); have n0_ := Aside0.mk (Kd.R_lower ho6 (below_size (by repeat (first | (with_reducible first | exact HB.out | apply below_alloc | apply pw_below_drewN | apply below_drew1 | refine below_set ?_ (IsS109.ge HI1217.out)) | exact HB.out)))); have n1_ := Aside0.mk (IsS109.below (by repeat (first | (with_reducible first | exact HI1217.out | apply IsS109.alloc | apply IsS109.drewN | apply IsS109.drew | apply IsS109.set_1) | exact HI1217.out)) hb); have n2_ := Aside0.mk (below_step (by repeat (first | (with_reducible first | exact HB.out | apply below_alloc | apply pw_below_drewN | apply below_drew1 | refine below_set ?_ (IsS109.ge HI1217.out)) | exact HB.out)) hb); clear HI1217; clear HB; have HO1220 := n0_; have HI1217 := n1_; have HB := n2_; clear n0_ n1_ n2_; clear hb ho6) | ((with_reducible refine gate_callee (f := 113) rfl ?_); refine goesL_ (some 10) rfl rfl Try.func113 (by kernel_rfl) rfl #[.pointer (some ⟨g1217, 0, none⟩), .int .i64 10] rfl (by (try simp only [List.map_toArray, List.map_cons, List.map_nil]); first | done | rfl | (simp only [List.length_drop, List.length_take]; rfl)) ?_; (with_reducible refine (spec_l6Rd_pick.calls k g1217 t1215 t1216 10 t1221 t1222 w _ ?side1 ?side2 A3.out).mono ?_); (case side1 => repeat (first | (with_reducible first | exact HI1217.out | apply IsS109.alloc | apply IsS109.drewN | apply IsS109.drew | apply IsS109.set_1) | exact HI1217.out)); (case side2 => repeat (first | (with_reducible first | exact HB.out | apply below_alloc | apply pw_below_drewN | apply below_drew1 | refine below_set ?_ (IsS109.ge HI1217.out)) | exact HB.out)); rintro e w7 ⟨rfl, hi, hb, hk⟩; refine ⟨_, rfl, ?_⟩; have n0_ := Aside0.mk (Kd.R_mono (Kd.R_keep (IsS109.apart (show IsS109 w _ g1217 t1215 t1216 from by repeat (first | (with_reducible first | exact HI1217.out | apply IsS109.alloc | apply IsS109.drewN | apply IsS109.drew | apply IsS109.set_1) | exact HI1217.out)) (by (with_reducible repeat (first | apply Kd.R_alloc | apply Kd.R_drewN | apply Kd.R_drew)); exact HO1220.out) (by decide)) hk (fun _ h => h.2)) (fun _ h => h.1)); have n1_ := Aside0.mk (hb); have n2_ := Aside0.mk (hi); clear HO1220; clear HB; clear HI1217; have HO1220 := n0_; have HB := n1_; have HI1217 := n2_; clear n0_ n1_ n2_; (try clear hb); (try clear hb2); (try clear hk); (try clear hi)))
  go_loopg [4, 5] k (fun kq v4 v5 w' => ∃ (x4_1 : List ByteArray) (x5_1 : Int) (x1218001_1 : Int), v5 = .int .i64 x5_1 ∧ Aside0 (spec_DrawKeysSort.l0 kq x4_1 x5_1 t1215 x1218001_1 = some r) ∧ Aside0 (kq ≤ k) ∧ Aside0 (Kd.R Kd.string 9 w' w.heap.size (fun _ => True) v4 x4_1) ∧ Aside0 (IsS109 w w' g1217 t1215 x1218001_1) ∧ Aside0 (Below w.heap.size w w'))
  case atStart => exact ⟨(y1218), (t1221), (t1222), (by first | rfl | (simp; done) | (simp [*]; done)), H', ⟨Nat.le_refl _⟩, ⟨by (with_reducible repeat (first | apply Kd.R_alloc | apply Kd.R_drewN | apply Kd.R_drew)); exact HO1220.out⟩, ⟨by repeat (first | (with_reducible first | exact HI1217.out | apply IsS109.alloc | apply IsS109.drewN | apply IsS109.drew | apply IsS109.set_1) | exact HI1217.out)⟩, ⟨by repeat (first | (with_reducible first | exact HB.out | apply below_alloc | apply pw_below_drewN | apply below_drew1 | refine below_set ?_ (IsS109.ge HI1217.out)) | exact HB.out)⟩⟩
  case round =>
    clear H'
    try clear c1
    try clear p2
    obtain ⟨x4_1, x5_1, x1218001_1, rfl, HA, HK1, HO_4, HI1217, HB⟩ := hrel
    cases gk with
    | zero => exact absurd HA.out (by simp [spec_DrawKeysSort.l0])
    | succ k1 =>
      have H := HA.out
      clear HA
      simp only [spec_DrawKeysSort.l0] at H
      by_cases c8 : x5_1 > 0
      · rw [if_pos c8] at H
        have c8b0 : decide (0 < x5_1) = true := decide_eq_true c8
        clear c8
        replace H := Option.bind_eq_some_iff.mp H
        obtain ⟨⟨t1223, t1224⟩, A90, H⟩ := H
        (try dsimp only at H)
        have A9 := Aside0.mk A90
        clear A90
        by_cases c10 : x4_1.length < 8796093022208
        · rw [if_pos c10] at H
          have LMc10 := Aside0.mk c10
          clear c10
          obtain ⟨y1225, hy1225⟩ : ∃ y_ : List ByteArray, y_ = (x4_1 ++ [t1223]) := ⟨_, rfl⟩
          replace H : (spec_DrawKeysSort.l0 k1 y1225 (wrap64 (x5_1 - 1)) t1215 t1224) = some r := by first | (rw [hy1225]; with_reducible exact H) | (have H2_ := (Option.bind_some _ _).symm.trans H; rw [hy1225]; with_reducible exact H2_) | (have H2_ := (Option.bind_some _ _).symm.trans H; with_reducible exact H2_) | with_reducible exact H | (rw [hy1225]; exact H) | exact H
          have Ny1225 := Aside0.mk hy1225
          clear hy1225
          have H' := Aside0.mk H
          clear H
          obtain ⟨Ao11, co11, eo11⟩ := Kd.R_slice HO_4.out
          subst eo11
          go_wp2_with (first | ((with_reducible refine gate_callee (f := 104) rfl ?_); refine goesL_ (some 18) rfl rfl Try.func104 (by kernel_rfl) rfl #[.pointer (some ⟨g1217, 0, none⟩), .slice Ao11 x4_1.length co11] rfl (by (try simp only [List.map_toArray, List.map_cons, List.map_nil]); first | done | rfl | (simp only [List.length_drop, List.length_take]; rfl)) ?_; (with_reducible refine (spec_l71Near.calls k1 g1217 t1215 x1218001_1 _ _ x4_1 t1223 t1224 w _ ?side1 ?side2 ?side3 ?side4 ?side5 A9.out).mono ?_); (case side1 => repeat (first | (with_reducible first | exact HI1217.out | apply IsS109.alloc | apply IsS109.drewN | apply IsS109.drew | apply IsS109.set_1) | exact HI1217.out)); (case side2 => repeat (first | (with_reducible first | exact HB.out | apply below_alloc | apply pw_below_drewN | apply below_drew1 | refine below_set ?_ (IsS109.ge HI1217.out)) | exact HB.out)); (case side3 => repeat (first | exact (Kd.R_reads' HO_4.out).2.2 | (with_reducible refine Kd.C_alloc ?_ _) | (with_reducible refine Kd.C_drewN ?_ _) | (with_reducible refine Kd.C_drew ?_))); (case side4 => exact (Kd.R_reads' HO_4.out).2.1); (case side5 => exact far_slice (IsS109.own_ne HI1217.out HO_4.out (by decide))); rintro e w12 ⟨rfl, hi, hb, hk⟩; refine ⟨_, rfl, ?_⟩; have n0_ := Aside0.mk (Kd.R_mono (Kd.R_keep (IsS109.apart (show IsS109 w _ g1217 t1215 x1218001_1 from by repeat (first | (with_reducible first | exact HI1217.out | apply IsS109.alloc | apply IsS109.drewN | apply IsS109.drew | apply IsS109.set_1) | exact HI1217.out)) (by (with_reducible repeat (first | apply Kd.R_alloc | apply Kd.R_drewN | apply Kd.R_drew)); exact HO_4.out) (by decide)) hk (fun _ h => h.2)) (fun _ h => h.1)); have n1_ := Aside0.mk (hb); have n2_ := Aside0.mk (hi); clear HO_4; clear HB; clear HI1217; have HO_4 := n0_; have HB := n1_; have HI1217 := n2_; clear n0_ n1_ n2_; (try clear hb); (try clear hb2); (try clear hk); (try clear hi)) | ((with_reducible refine gate_builtin (b := .append) (xs := #[.tmp 15, .tmp 19]) rfl ?_); at_builtin; refine Kd.R_append Kd.string (w0 := w) w.heap.size rfl (.tmp 15) (.tmp 19) 26 9 (.string ⟨#[]⟩) 16 rfl Try.underlying26 info9 rfl (by decide) (by omega) (.slice Ao11 x4_1.length co11) x4_1 t1223 [.string t1223] (fun _ => True) (fun _ => False) rfl rfl ?aP (fun _ hk => hk.elim) ?aF ?aO ?aB ?aS ?aL ?_; (case aP => exact rfl); (case aB => exact (by repeat (first | (with_reducible first | exact HB.out | apply below_alloc | apply pw_below_drewN | apply below_drew1 | refine below_set ?_ (IsS109.ge HI1217.out)) | exact HB.out))); (case aF => exact (fun _ _ => trivial)); (case aO => exact (by (with_reducible repeat (first | apply Kd.R_alloc | apply Kd.R_drewN | apply Kd.R_drew)); exact HO_4.out)); (case aS => exact (below_size (by repeat (first | (with_reducible first | exact HB.out | apply below_alloc | apply pw_below_drewN | apply below_drew1 | refine below_set ?_ (IsS109.ge HI1217.out)) | exact HB.out)))); (case aL => have := LMc10.out; omega); intro v1226 w13 ho hb hg hat; rw [← Ny1225.out] at ho; have n0_ := Aside0.mk (IsS109.grown (by repeat (first | (with_reducible first | exact HI1217.out | apply IsS109.alloc | apply IsS109.drewN | apply IsS109.drew | apply IsS109.set_1) | exact HI1217.out)) hg (IsS109.own_ne HI1217.out HO_4.out (by decide))); have n1_ := Aside0.mk (hb); have n2_ := Aside0.mk (ho); clear HI1217; clear HB; clear HO_4; have HI1217 := n0_; have HB := n1_; have HO1227 := n2_; clear n0_ n1_ n2_; clear ho hb hg hat))
          go_roundg k1
          case measure => have := HK1.out; omega
          case rel => exact ⟨(y1225), (wrap64 (x5_1 - 1)), (t1224), (by first | rfl | (simp; done) | (simp [*]; done)), H', ⟨by have := HK1.out; omega⟩, ⟨by (with_reducible repeat (first | apply Kd.R_alloc | apply Kd.R_drewN | apply Kd.R_drew)); exact HO1227.out⟩, ⟨by repeat (first | (with_reducible first | exact HI1217.out | apply IsS109.alloc | apply IsS109.drewN | apply IsS109.drew | apply IsS109.set_1) | exact HI1217.out)⟩, ⟨by repeat (first | (with_reducible first | exact HB.out | apply below_alloc | apply pw_below_drewN | apply below_drew1 | refine below_set ?_ (IsS109.ge HI1217.out)) | exact HB.out)⟩⟩
        · rw [if_neg c10] at H
          exact absurd H (by simp)
      · rw [if_neg c8] at H
        have c8b0 : decide (0 < x5_1) = false := decide_eq_false c8
        clear c8
        replace H := Option.bind_eq_some_iff.mp H
        obtain ⟨⟨t1228, t1231⟩, A140, H⟩ := H
        (try dsimp only at H)
        have A14 := Aside0.mk A140
        clear A140
        by_cases c15 : x4_1.length + t1228.length < 8796093022208
        · rw [if_pos c15] at H
          have LMc15 := Aside0.mk c15
          clear c15
          obtain ⟨y1232, hy1232⟩ : ∃ y_ : List ByteArray, y_ = (x4_1 ++ t1228) := ⟨_, rfl⟩
          replace H : (some y1232) = some r := by first | (rw [hy1232]; with_reducible exact H) | (have H2_ := (Option.bind_some _ _).symm.trans H; rw [hy1232]; with_reducible exact H2_) | (have H2_ := (Option.bind_some _ _).symm.trans H; with_reducible exact H2_) | with_reducible exact H | (rw [hy1232]; exact H) | exact H
          have Ny1232 := Aside0.mk hy1232
          clear hy1232
          obtain rfl := Option.some.inj H
          go_wp2_with (first | ((with_reducible refine gate_callee (f := 114) rfl ?_); refine goesL_ (some 23) rfl rfl Try.func114 (by kernel_rfl) rfl #[.pointer (some ⟨g1217, 0, none⟩)] rfl (by (try simp only [List.map_toArray, List.map_cons, List.map_nil]); first | done | rfl | (simp only [List.length_drop, List.length_take]; rfl)) ?_; (with_reducible refine (spec_l71Mess.calls k1 g1217 t1215 x1218001_1 t1228 t1231 w _ ?side1 ?side2 A14.out).mono ?_); (case side1 => repeat (first | (with_reducible first | exact HI1217.out | apply IsS109.alloc | apply IsS109.drewN | apply IsS109.drew | apply IsS109.set_1) | exact HI1217.out)); (case side2 => repeat (first | (with_reducible first | exact HB.out | apply below_alloc | apply pw_below_drewN | apply below_drew1 | refine below_set ?_ (IsS109.ge HI1217.out)) | exact HB.out)); rintro e w16 ⟨v1229, rfl, ho0, hi, hb, hk⟩; refine ⟨_, rfl, ?_⟩; have n0_ := Aside0.mk (Kd.R_mono (Kd.R_told (Kd.R_oldK (IsS109.apart (show IsS109 w _ g1217 t1215 x1218001_1 from by repeat (first | (with_reducible first | exact HI1217.out | apply IsS109.alloc | apply IsS109.drewN | apply IsS109.drew | apply IsS109.set_1) | exact HI1217.out)) (by (with_reducible repeat (first | apply Kd.R_alloc | apply Kd.R_drewN | apply Kd.R_drew)); exact HO_4.out) (by decide)) hk) (Kd.R_base ho0)) (fun _ h_ => h_.1)); have n1_ := Aside0.mk (Kd.R_lower (Kd.R_new' ho0 (Kd.R_lt (by (with_reducible repeat (first | apply Kd.R_alloc | apply Kd.R_drewN | apply Kd.R_drew)); exact HO_4.out))) (below_size (by repeat (first | (with_reducible first | exact HB.out | apply below_alloc | apply pw_below_drewN | apply below_drew1 | refine below_set ?_ (IsS109.ge HI1217.out)) | exact HB.out)))); have n2_ := Aside0.mk (hb); have n3_ := Aside0.mk (hi); clear HO_4; clear HB; clear HI1217; have HO_4 := n0_; have HO1230 := n1_; have HB := n2_; have HI1217 := n3_; clear n0_ n1_ n2_ n3_; (try clear hb); (try clear hb2); (try clear hk); (try clear hi); (try clear ho0); obtain ⟨Ao18, co18, eo18⟩ := Kd.R_slice HO1230.out; subst eo18) | ((with_reducible refine gate_builtin (b := .append) (xs := #[.tmp 21, .tmp 23]) rfl ?_); at_builtin; refine Kd.R_append_rows Kd.string (w0 := w) w.heap.size rfl (.tmp 21) (.tmp 23) 26 9 (.string ⟨#[]⟩) 16 rfl Try.underlying26 info9 rfl (by decide) (by omega) u4 x4_1 t1228 _ _ _ (fun k_ => some k_ ≠ (.slice Ao18 t1228.length co18 : Value).ownBlock) (fun _ => False) rfl rfl ?aO ?aR (fun _ _ h => h) (fun _ h => h.elim) ?aF ?aB ?aS ?aL ?_; (case aR => repeat (first | exact (Kd.R_reads' HO1230.out).2.2 | (with_reducible refine Kd.C_alloc ?_ _) | (with_reducible refine Kd.C_drewN ?_ _) | (with_reducible refine Kd.C_drew ?_))); (case aB => exact (by repeat (first | (with_reducible first | exact HB.out | apply below_alloc | apply pw_below_drewN | apply below_drew1 | refine below_set ?_ (IsS109.ge HI1217.out)) | exact HB.out))); (case aF => exact (fun k_ hk => Kd.fresh' (Kd.R_lt (by (with_reducible repeat (first | apply Kd.R_alloc | apply Kd.R_drewN | apply Kd.R_drew)); exact HO1230.out)) k_ hk)); (case aO => exact (by (with_reducible repeat (first | apply Kd.R_alloc | apply Kd.R_drewN | apply Kd.R_drew)); exact Kd.R_mono HO_4.out (fun _ hk => hk.2))); (case aS => exact (below_size (by repeat (first | (with_reducible first | exact HB.out | apply below_alloc | apply pw_below_drewN | apply below_drew1 | refine below_set ?_ (IsS109.ge HI1217.out)) | exact HB.out)))); (case aL => have := LMc15.out; omega); intro v1233 w17 ho hb hg hat; rw [← Ny1232.out] at ho; have n0_ := Aside0.mk (IsS109.grown (by repeat (first | (with_reducible first | exact HI1217.out | apply IsS109.alloc | apply IsS109.drewN | apply IsS109.drew | apply IsS109.set_1) | exact HI1217.out)) hg (IsS109.own_ne HI1217.out HO_4.out (by decide))); have n1_ := Aside0.mk (Kd.R_after (ok := (fun _ => True)) (by (with_reducible repeat (first | apply Kd.R_alloc | apply Kd.R_drewN | apply Kd.R_drew)); exact HO1230.out) hg hat); have n2_ := Aside0.mk (hb); have n3_ := Aside0.mk (ho); clear HI1217; clear HO1230; clear HB; clear HO_4; have HI1217 := n0_; have HO1230 := n1_; have HB := n2_; have HO1234 := n3_; clear n0_ n1_ n2_ n3_; clear ho hb hg hat))
          go_ret
          exact ⟨_, by first | rfl | (simp [errW_none, errW_some] <;> rfl) | (simp [*, errW_none, errW_some] <;> rfl), by (with_reducible repeat (first | apply Kd.R_alloc | apply Kd.R_drewN | apply Kd.R_drew)); exact Kd.R_mono HO1234.out (fun _ hk => trivial), by repeat (first | (with_reducible first | exact HB.out | apply below_alloc | apply pw_below_drewN | apply below_drew1 | refine below_set ?_ (IsS109.ge HI1217.out)) | exact HB.out)⟩
        · rw [if_neg c15] at H
          exact absurd H (by simp)
end Go.Proofs.Ytonagfbadoacjaa.Q
end
section
namespace Go.Proofs.Ytonagfbadoacjaa.Q
open Go.RowKit Go.Proofs.YtonagfbadoacjaaW.PrintWords Go.Proofs.YtonagfbadoacjaaW.PrintLast Go.Proofs.YtonagfbadoacjaaW.PrintMore
attribute [local go_sem] max2_int min2_int max_two min_two max_three min_three max_four min_four   
set_option linter.unusedVariables false
set_option linter.unusedSimpArgs false
def spec_DrawKeysOk.f (k : Nat) (l0 : List Int) : Option (List ByteArray) := (spec_l6Open.f l0).bind fun bt1286 => ((spec_l6Rd_pick.f k bt1286.1 bt1286.2 2).bind fun bt1289 => (if bt1289.1 = 0 then ((spec_l71Keys.f k bt1286.1 bt1289.2 10).bind fun bt1291 => (some bt1291.1)) else ((spec_l71Mess.f k bt1286.1 bt1289.2).bind fun bt1295 => (some bt1295.1))))
theorem spec_DrawKeysOk.mono : ∀ a0 k, LeO (spec_DrawKeysOk.f k a0) (spec_DrawKeysOk.f (k + 1) a0) := by
  intro a0 k
  unfold spec_DrawKeysOk.f
  repeat' first
      | (with_reducible exact spec_l6Rd_pick.mono _ _ _ _)
      | (with_reducible exact spec_l71Keys.mono _ _ _ _)
      | (with_reducible exact spec_l71Mess.mono _ _ _)
      | (with_reducible exact LeO.refl _)
      | (with_reducible exact LeO.none _)
      | (with_reducible refine LeO.ite ?_ ?_)
      | (with_reducible refine LeO.bind ?_ (fun _ => ?_))
      | exact spec_l6Rd_pick.mono _ _ _ _
      | exact spec_l71Keys.mono _ _ _ _
      | exact spec_l71Mess.mono _ _ _
      | exact LeO.none _
      | refine LeO.ite ?_ ?_
      | refine LeO.bind ?_ (fun _ => ?_)
set_option maxHeartbeats 8000000 in
set_option maxRecDepth 100000 in
theorem spec_DrawKeysOk.calls (k : Nat) (A0 : Option Addr) (c0 : Nat) (l0 : List Int) (r : List ByteArray) (w : World) (hr0 : Kd.C (Kd.int .u8) w A0 l0.length l0) (hc0 : l0.length ≤ c0) (h : spec_DrawKeysOk.f k l0 = some r) :
    Calls Try.prog 84 #[.slice A0 l0.length c0] w fun e w' => ∃ v0_ : Value, e = .returned (v0_) ∧ Kd.R Kd.string 9 w' w.heap.size (fun _ => True) v0_ r ∧ Below w.heap.size w w' := by
  have HR0 := Aside0.mk hr0
  have HC0 := Aside0.mk hc0
  clear hr0 hc0
  have HB := Aside0.mk (Below.refl w.heap.size w)
  have H : ((spec_l6Open.f l0).bind fun bt1286 => ((spec_l6Rd_pick.f k bt1286.1 bt1286.2 2).bind fun bt1289 => (if bt1289.1 = 0 then ((spec_l71Keys.f k bt1286.1 bt1289.2 10).bind fun bt1291 => (some bt1291.1)) else ((spec_l71Mess.f k bt1286.1 bt1289.2).bind fun bt1295 => (some bt1295.1))))) = some r := h
  clear h
  replace H := Option.bind_eq_some_iff.mp H
  obtain ⟨⟨t1286, t1287⟩, A20, H⟩ := H
  (try dsimp only at H)
  have A2 := Aside0.mk A20
  clear A20
  replace H := Option.bind_eq_some_iff.mp H
  obtain ⟨⟨t1289, t1290⟩, A30, H⟩ := H
  (try dsimp only at H)
  have A3 := Aside0.mk A30
  clear A30
  go_enter Try.func84, Try.ntmps84
  go_upto_if 8 with (first | ((with_reducible refine gate_callee (f := 102) rfl ?_); refine goesL_ (some 5) rfl rfl Try.func102 (by kernel_rfl) rfl #[.slice A0 l0.length c0] rfl (by (try simp only [List.map_toArray, List.map_cons, List.map_nil]); first | done | rfl | (simp only [List.length_drop, List.length_take]; rfl)) ?_; (with_reducible refine (spec_l6Open.calls _ _ l0 t1286 t1287 w _ ?side1 ?side2 ?side3 A2.out).mono ?_); (case side1 => repeat (first | (with_reducible first | exact HB.out | apply below_alloc | apply pw_below_drewN | apply below_drew1) | exact HB.out)); (case side2 => exact HR0.out); (case side3 => exact HC0.out); rintro e w4 ⟨g1288, rfl, hi, hb, hb2⟩; refine ⟨_, rfl, ?_⟩; have n0_ := Aside0.mk (hb); have n1_ := Aside0.mk (hi); clear HB; have HB := n0_; have HI1288 := n1_; clear n0_ n1_; (try clear hb); (try clear hb2); (try clear hk); (try clear hi)) | ((with_reducible refine gate_callee (f := 113) rfl ?_); refine goesL_ (some 7) rfl rfl Try.func113 (by kernel_rfl) rfl #[.pointer (some ⟨g1288, 0, none⟩), .int .i64 2] rfl (by (try simp only [List.map_toArray, List.map_cons, List.map_nil]); first | done | rfl | (simp only [List.length_drop, List.length_take]; rfl)) ?_; (with_reducible refine (spec_l6Rd_pick.calls k g1288 t1286 t1287 2 t1289 t1290 w _ ?side1 ?side2 A3.out).mono ?_); (case side1 => repeat (first | (with_reducible first | exact HI1288.out | apply IsS109.alloc | apply IsS109.drewN | apply IsS109.drew | apply IsS109.set_1) | exact HI1288.out)); (case side2 => repeat (first | (with_reducible first | exact HB.out | apply below_alloc | apply pw_below_drewN | apply below_drew1 | refine below_set ?_ (IsS109.ge HI1288.out)) | exact HB.out)); rintro e w5 ⟨rfl, hi, hb, hk⟩; refine ⟨_, rfl, ?_⟩; have n0_ := Aside0.mk (hb); have n1_ := Aside0.mk (hi); clear HB; clear HI1288; have HB := n0_; have HI1288 := n1_; clear n0_ n1_; (try clear hb); (try clear hb2); (try clear hk); (try clear hi)))
  by_cases c6 : t1289 = 0
  · rw [if_pos c6] at H
    have c6b0 : (t1289 == 0) = true := beq_iff_eq.mpr c6
    have c6b1 : (t1289 != 0) = false := bne_eq_false_iff_eq.mpr c6
    clear c6
    (first | rw [c6b0] | (simp only [i64_w, i32_w]; rw [c6b0]) | simp only [*, Bool.not_true, Bool.not_false] | skip)
    replace H := Option.bind_eq_some_iff.mp H
    obtain ⟨⟨t1291, t1294⟩, A70, H⟩ := H
    (try dsimp only at H)
    have A7 := Aside0.mk A70
    clear A70
    obtain rfl := Option.some.inj H
    go_wp2_with (first | ((with_reducible refine gate_callee (f := 112) rfl ?_); refine goesL_ (some 10) rfl rfl Try.func112 (by kernel_rfl) rfl #[.pointer (some ⟨g1288, 0, none⟩), .int .i64 10] rfl (by (try simp only [List.map_toArray, List.map_cons, List.map_nil]); first | done | rfl | (simp only [List.length_drop, List.length_take]; rfl)) ?_; (with_reducible refine (spec_l71Keys.calls k g1288 t1286 t1290 10 t1291 t1294 w _ ?side1 ?side2 A7.out).mono ?_); (case side1 => repeat (first | (with_reducible first | exact HI1288.out | apply IsS109.alloc | apply IsS109.drewN | apply IsS109.drew | apply IsS109.set_1) | exact HI1288.out)); (case side2 => repeat (first | (with_reducible first | exact HB.out | apply below_alloc | apply pw_below_drewN | apply below_drew1 | refine below_set ?_ (IsS109.ge HI1288.out)) | exact HB.out)); rintro e w8 ⟨v1292, rfl, ho0, hi, hb, hk⟩; refine ⟨_, rfl, ?_⟩; have n0_ := Aside0.mk (Kd.R_lower ho0 (below_size (by repeat (first | (with_reducible first | exact HB.out | apply below_alloc | apply pw_below_drewN | apply below_drew1 | refine below_set ?_ (IsS109.ge HI1288.out)) | exact HB.out)))); have n1_ := Aside0.mk (hb); have n2_ := Aside0.mk (hi); clear HB; clear HI1288; have HO1293 := n0_; have HB := n1_; have HI1288 := n2_; clear n0_ n1_ n2_; (try clear hb); (try clear hb2); (try clear hk); (try clear hi); (try clear ho0)))
    go_ret
    exact ⟨_, by first | rfl | (simp [errW_none, errW_some] <;> rfl) | (simp [*, errW_none, errW_some] <;> rfl), by (with_reducible repeat (first | apply Kd.R_alloc | apply Kd.R_drewN | apply Kd.R_drew)); exact HO1293.out, by repeat (first | (with_reducible first | exact HB.out | apply below_alloc | apply pw_below_drewN | apply below_drew1 | refine below_set ?_ (IsS109.ge HI1288.out)) | exact HB.out)⟩
  · rw [if_neg c6] at H
    have c6b0 : (t1289 == 0) = false := beq_eq_false_iff_ne.mpr c6
    have c6b1 : (t1289 != 0) = true := bne_iff_ne.mpr c6
    (first | rw [c6b0] | (simp only [i64_w, i32_w]; rw [c6b0]) | simp only [*, Bool.not_true, Bool.not_false] | skip)
    replace H := Option.bind_eq_some_iff.mp H
    obtain ⟨⟨t1295, t1298⟩, A90, H⟩ := H
    (try dsimp only at H)
    have A9 := Aside0.mk A90
    clear A90
    obtain rfl := Option.some.inj H
    go_wp2_with (first | ((with_reducible refine gate_callee (f := 114) rfl ?_); refine goesL_ (some 12) rfl rfl Try.func114 (by kernel_rfl) rfl #[.pointer (some ⟨g1288, 0, none⟩)] rfl (by (try simp only [List.map_toArray, List.map_cons, List.map_nil]); first | done | rfl | (simp only [List.length_drop, List.length_take]; rfl)) ?_; (with_reducible refine (spec_l71Mess.calls k g1288 t1286 t1290 t1295 t1298 w _ ?side1 ?side2 A9.out).mono ?_); (case side1 => repeat (first | (with_reducible first | exact HI1288.out | apply IsS109.alloc | apply IsS109.drewN | apply IsS109.drew | apply IsS109.set_1) | exact HI1288.out)); (case side2 => repeat (first | (with_reducible first | exact HB.out | apply below_alloc | apply pw_below_drewN | apply below_drew1 | refine below_set ?_ (IsS109.ge HI1288.out)) | exact HB.out)); rintro e w10 ⟨v1296, rfl, ho0, hi, hb, hk⟩; refine ⟨_, rfl, ?_⟩; have n0_ := Aside0.mk (Kd.R_lower ho0 (below_size (by repeat (first | (with_reducible first | exact HB.out | apply below_alloc | apply pw_below_drewN | apply below_drew1 | refine below_set ?_ (IsS109.ge HI1288.out)) | exact HB.out)))); have n1_ := Aside0.mk (hb); have n2_ := Aside0.mk (hi); clear HB; clear HI1288; have HO1297 := n0_; have HB := n1_; have HI1288 := n2_; clear n0_ n1_ n2_; (try clear hb); (try clear hb2); (try clear hk); (try clear hi); (try clear ho0)))
    go_ret
    exact ⟨_, by first | rfl | (simp [errW_none, errW_some] <;> rfl) | (simp [*, errW_none, errW_some] <;> rfl), by (with_reducible repeat (first | apply Kd.R_alloc | apply Kd.R_drewN | apply Kd.R_drew)); exact HO1297.out, by repeat (first | (with_reducible first | exact HB.out | apply below_alloc | apply pw_below_drewN | apply below_drew1 | refine below_set ?_ (IsS109.ge HI1288.out)) | exact HB.out)⟩
end Go.Proofs.Ytonagfbadoacjaa.Q
end
section
set_option linter.unusedVariables false
set_option linter.unusedSimpArgs false
namespace Go.Proofs.Ytonagfbadoacjaa.Pb
open Go Go.RowKit Go.Proofs.YtonagfbadoacjaaW.PrintWords Go.Proofs.YtonagfbadoacjaaW.PrintLast Go.Proofs.YtonagfbadoacjaaW.PrintMore Go.Proofs.Ytonagfbadoacjaa.Trie Go.Proofs.Ytonagfbadoacjaa.Q
end Go.Proofs.Ytonagfbadoacjaa.Pb
end
section
set_option linter.unusedVariables false
set_option linter.unusedSimpArgs false
namespace Go.Proofs.Ytonagfbadoacjaa.Pure
open Go Go.RowKit Go.Proofs.YtonagfbadoacjaaW.PrintWords Go.Proofs.YtonagfbadoacjaaW.PrintLast Go.Proofs.YtonagfbadoacjaaW.PrintMore Go.Proofs.Ytonagfbadoacjaa.Trie Go.Proofs.Ytonagfbadoacjaa.Q Go.Proofs.Ytonagfbadoacjaa.Pb
theorem FnExactKeysSort (l : List ByteArray) (hn : l.length ≤ 9223372036854775807) (hs : ∀ s ∈ l, s.size ≤ 9223372036854775807) : ∃ k, laws_FnExactKeysSort.f k l = some true := by
  refine Ev.rounds ?_
  unfold laws_FnExactKeysSort.f
  obtain ⟨z, hr, g⟩ := sz_ev l hn hs
  refine Ev.bind hr ?_
  by_cases c : z < 0
  · exact ev_pos c (ev_some rfl)
  · have g := g (by omega)
    have hz := szl_small g
    obtain ⟨r, i1, i2, sr, nr, mr⟩ := KeysSort_ev l hz (by omega)
    obtain ⟨m, hm, _⟩ := mark_ev l (by omega)
    obtain ⟨m', hm', hh'⟩ := mark_ev r (by omega)
    have tl := to_ev l g.1
    have er := eq_ev r (by omega)
    refine ev_neg c (Ev.bind tl (Ev.bind i2 (Ev.bind tl (Ev.bind i1 (Ev.bind er (ev_pos rfl (Ev.bind tl (Ev.bind (eq_ev l g.1) (ev_pos rfl (Ev.bind hm (ev_neg (by simp only []; omega) (Ev.bind er (ev_succ ?_)))))))))))))
    simp only [laws_FnExactKeysSort.j0]
    exact ev_neg (by simp) (Ev.bind hm' (Ev.bind hh' (ev_neg (by omega) (ev_pos rfl (Ev.bind tl (Ev.bind i1 (Ev.bind er (ev_pos rfl (Ev.bind hh' (ev_neg (by omega) (ev_pos rfl (ev_some rfl))))))))))))
end Go.Proofs.Ytonagfbadoacjaa.Pure
end
