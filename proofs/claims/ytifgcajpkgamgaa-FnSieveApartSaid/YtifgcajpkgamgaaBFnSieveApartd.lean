/- What the law FnSieveApart needs, part 4: the kit's printed words, the printed functions with their proofs, and plain facts on them. -/
import Derived.Test.YtifgcajpkgamgaaBFnSieveApartc
section
namespace Go.Proofs.Ytifgcajpkgamgaa.Q
open Go.RowKit Go.Proofs.YtifgcajpkgamgaaW.PrintWords Go.Proofs.YtifgcajpkgamgaaW.PrintLast Go.Proofs.YtifgcajpkgamgaaW.PrintMore
attribute [local go_sem] max2_int min2_int max_two min_two max_three min_three max_four min_four   
set_option linter.unusedVariables false
set_option linter.unusedSimpArgs false
theorem impl_sieveOf.mono_l : ∀ k, (∀ y0 y1 y2 y3 y4 y5 y6, LeO (impl_sieveOf.l0 k y0 y1 y2 y3 y4 y5 y6) (impl_sieveOf.l0 (k + 1) y0 y1 y2 y3 y4 y5 y6)) ∧ (∀ y0 y1 y2 y3 y4 y5 y6 y7 y8 y9, LeO (impl_sieveOf.l1 k y0 y1 y2 y3 y4 y5 y6 y7 y8 y9) (impl_sieveOf.l1 (k + 1) y0 y1 y2 y3 y4 y5 y6 y7 y8 y9)) ∧ (∀ y0 y1 y2 y3 y4 y5 y6 y7 y8 y9 y10, LeO (impl_sieveOf.l2 k y0 y1 y2 y3 y4 y5 y6 y7 y8 y9 y10) (impl_sieveOf.l2 (k + 1) y0 y1 y2 y3 y4 y5 y6 y7 y8 y9 y10)) ∧ (∀ y0 y1 y2 y3 y4 y5 y6 y7 y8 y9 y10, LeO (impl_sieveOf.l3 k y0 y1 y2 y3 y4 y5 y6 y7 y8 y9 y10) (impl_sieveOf.l3 (k + 1) y0 y1 y2 y3 y4 y5 y6 y7 y8 y9 y10))
  | 0 => ⟨fun _ _ _ _ _ _ _ r h => by simp [impl_sieveOf.l0] at h, fun _ _ _ _ _ _ _ _ _ _ r h => by simp [impl_sieveOf.l1] at h, fun _ _ _ _ _ _ _ _ _ _ _ r h => by simp [impl_sieveOf.l2] at h, fun _ _ _ _ _ _ _ _ _ _ _ r h => by simp [impl_sieveOf.l3] at h⟩
  | k + 1 => by
    obtain ⟨ih0, ih1, ih2, ih3⟩ := impl_sieveOf.mono_l k
    refine ⟨?_, ?_, ?_, ?_⟩
    · intro y0 y1 y2 y3 y4 y5 y6
      unfold impl_sieveOf.l0
      repeat' first
      | (with_reducible exact ih0 _ _ _ _ _ _ _)
      | (with_reducible exact ih1 _ _ _ _ _ _ _ _ _ _)
      | (with_reducible exact ih2 _ _ _ _ _ _ _ _ _ _ _)
      | (with_reducible exact ih3 _ _ _ _ _ _ _ _ _ _ _)
      | (with_reducible exact LeO.refl _)
      | (with_reducible exact LeO.none _)
      | (with_reducible refine LeO.ite ?_ ?_)
      | (with_reducible refine LeO.bind ?_ (fun _ => ?_))
      | exact ih0 _ _ _ _ _ _ _
      | exact ih1 _ _ _ _ _ _ _ _ _ _
      | exact ih2 _ _ _ _ _ _ _ _ _ _ _
      | exact ih3 _ _ _ _ _ _ _ _ _ _ _
      | exact LeO.none _
      | refine LeO.ite ?_ ?_
      | refine LeO.bind ?_ (fun _ => ?_)
    · intro y0 y1 y2 y3 y4 y5 y6 y7 y8 y9
      unfold impl_sieveOf.l1
      repeat' first
      | (with_reducible exact ih0 _ _ _ _ _ _ _)
      | (with_reducible exact ih1 _ _ _ _ _ _ _ _ _ _)
      | (with_reducible exact ih2 _ _ _ _ _ _ _ _ _ _ _)
      | (with_reducible exact ih3 _ _ _ _ _ _ _ _ _ _ _)
      | (with_reducible exact LeO.refl _)
      | (with_reducible exact LeO.none _)
      | (with_reducible refine LeO.ite ?_ ?_)
      | (with_reducible refine LeO.bind ?_ (fun _ => ?_))
      | exact ih0 _ _ _ _ _ _ _
      | exact ih1 _ _ _ _ _ _ _ _ _ _
      | exact ih2 _ _ _ _ _ _ _ _ _ _ _
      | exact ih3 _ _ _ _ _ _ _ _ _ _ _
      | exact LeO.none _
      | refine LeO.ite ?_ ?_
      | refine LeO.bind ?_ (fun _ => ?_)
    · intro y0 y1 y2 y3 y4 y5 y6 y7 y8 y9 y10
      unfold impl_sieveOf.l2
      repeat' first
      | (with_reducible exact ih0 _ _ _ _ _ _ _)
      | (with_reducible exact ih1 _ _ _ _ _ _ _ _ _ _)
      | (with_reducible exact ih2 _ _ _ _ _ _ _ _ _ _ _)
      | (with_reducible exact ih3 _ _ _ _ _ _ _ _ _ _ _)
      | (with_reducible exact LeO.refl _)
      | (with_reducible exact LeO.none _)
      | (with_reducible refine LeO.ite ?_ ?_)
      | (with_reducible refine LeO.bind ?_ (fun _ => ?_))
      | exact ih0 _ _ _ _ _ _ _
      | exact ih1 _ _ _ _ _ _ _ _ _ _
      | exact ih2 _ _ _ _ _ _ _ _ _ _ _
      | exact ih3 _ _ _ _ _ _ _ _ _ _ _
      | exact LeO.none _
      | refine LeO.ite ?_ ?_
      | refine LeO.bind ?_ (fun _ => ?_)
    · intro y0 y1 y2 y3 y4 y5 y6 y7 y8 y9 y10
      unfold impl_sieveOf.l3
      repeat' first
      | (with_reducible exact ih0 _ _ _ _ _ _ _)
      | (with_reducible exact ih1 _ _ _ _ _ _ _ _ _ _)
      | (with_reducible exact ih2 _ _ _ _ _ _ _ _ _ _ _)
      | (with_reducible exact ih3 _ _ _ _ _ _ _ _ _ _ _)
      | (with_reducible exact LeO.refl _)
      | (with_reducible exact LeO.none _)
      | (with_reducible refine LeO.ite ?_ ?_)
      | (with_reducible refine LeO.bind ?_ (fun _ => ?_))
      | exact ih0 _ _ _ _ _ _ _
      | exact ih1 _ _ _ _ _ _ _ _ _ _
      | exact ih2 _ _ _ _ _ _ _ _ _ _ _
      | exact ih3 _ _ _ _ _ _ _ _ _ _ _
      | exact LeO.none _
      | refine LeO.ite ?_ ?_
      | refine LeO.bind ?_ (fun _ => ?_)
theorem impl_sieveOf.mono : ∀ a0 a1 k, LeO (impl_sieveOf.f k a0 a1) (impl_sieveOf.f (k + 1) a0 a1) := by
  intro a0 a1 k
  obtain ⟨ih0, ih1, ih2, ih3⟩ := impl_sieveOf.mono_l k
  unfold impl_sieveOf.f
  repeat' first
      | (with_reducible exact ih0 _ _ _ _ _ _ _)
      | (with_reducible exact ih1 _ _ _ _ _ _ _ _ _ _)
      | (with_reducible exact ih2 _ _ _ _ _ _ _ _ _ _ _)
      | (with_reducible exact ih3 _ _ _ _ _ _ _ _ _ _ _)
      | (with_reducible exact LeO.refl _)
      | (with_reducible exact LeO.none _)
      | (with_reducible refine LeO.ite ?_ ?_)
      | (with_reducible refine LeO.bind ?_ (fun _ => ?_))
      | exact ih0 _ _ _ _ _ _ _
      | exact ih1 _ _ _ _ _ _ _ _ _ _
      | exact ih2 _ _ _ _ _ _ _ _ _ _ _
      | exact ih3 _ _ _ _ _ _ _ _ _ _ _
      | exact LeO.none _
      | refine LeO.ite ?_ ?_
      | refine LeO.bind ?_ (fun _ => ?_)
theorem impl_sieveOf.calls (k : Nat) (A0 : Option Addr) (c0 : Nat) (l0 : List ByteArray) (a1 : Int) (r1 : ByteArray) (r2 : ByteArray) (r3 : ByteArray) (r4 : List ByteArray) (r5 : Int) (w : World) (hr0 : Kd.C Kd.string w A0 l0.length l0) (hc0 : l0.length ≤ c0) (h : impl_sieveOf.f k l0 a1 = some (r1, r2, r3, r4, r5)) :
    Calls Try.prog 75 #[.slice A0 l0.length c0, .int .i64 a1] w fun e w' => ∃ v3_ : Value, e = .returned (.agg #[.string r1, .string r2, .string r3, v3_, .int .i64 r5]) ∧ Kd.R Kd.string 9 w' w.heap.size (fun _ => True) v3_ r4 ∧ Below w.heap.size w w' :=
  (Hand.sieveOf k A0 c0 l0 a1 (r1, r2, r3, r4, r5) w hr0 hc0 h).mono fun e w' h => h
end Go.Proofs.Ytifgcajpkgamgaa.Q
end
section
namespace Go.Proofs.Ytifgcajpkgamgaa.Q
open Go.RowKit Go.Proofs.YtifgcajpkgamgaaW.PrintWords Go.Proofs.YtifgcajpkgamgaaW.PrintLast Go.Proofs.YtifgcajpkgamgaaW.PrintMore
attribute [local go_sem] max2_int min2_int max_two min_two max_three min_three max_four min_four   
set_option linter.unusedVariables false
set_option linter.unusedSimpArgs false
theorem impl_SieveOf.mono : ∀ a0 a1 k, LeO (impl_SieveOf.f k a0 a1) (impl_SieveOf.f (k + 1) a0 a1) := by
  intro a0 a1 k
  unfold impl_SieveOf.f
  repeat' first
      | (with_reducible exact impl_KeysOk.mono _ _)
      | (with_reducible exact impl_sieveOf.mono _ _ _)
      | (with_reducible exact LeO.refl _)
      | (with_reducible exact LeO.none _)
      | (with_reducible refine LeO.ite ?_ ?_)
      | (with_reducible refine LeO.bind ?_ (fun _ => ?_))
      | exact impl_KeysOk.mono _ _
      | exact impl_sieveOf.mono _ _ _
      | exact LeO.none _
      | refine LeO.ite ?_ ?_
      | refine LeO.bind ?_ (fun _ => ?_)
set_option maxHeartbeats 8000000 in
set_option maxRecDepth 100000 in
theorem impl_SieveOf.calls (k : Nat) (A0 : Option Addr) (c0 : Nat) (l0 : List ByteArray) (a1 : Int) (r1 : ByteArray) (r2 : ByteArray) (r3 : ByteArray) (r4 : List ByteArray) (r5 : Int) (r6 : Bool) (w : World) (hr0 : Kd.C Kd.string w A0 l0.length l0) (hc0 : l0.length ≤ c0) (h : impl_SieveOf.f k l0 a1 = some (r1, r2, r3, r4, r5, r6)) :
    Calls Try.prog 30 #[.slice A0 l0.length c0, .int .i64 a1] w fun e w' => ∃ v3_ : Value, e = .returned (.tuple #[.agg #[.string r1, .string r2, .string r3, v3_, .int .i64 r5], .bool r6]) ∧ Kd.R Kd.string 9 w' w.heap.size (fun _ => True) v3_ r4 ∧ Below w.heap.size w w' := by
 have hu25 := Try.underlying25; have HR0 := Aside0.mk hr0; have HC0 := Aside0.mk hc0; clear hr0 hc0; have HB := z0 (Below.refl w.heap.size w); have H : ((impl_KeysOk.f k l0).bind fun t321 => (if t321 = true then ((impl_isKeep.f a1).bind fun t322 => (if t322 = true then ((impl_sieveOf.f k l0 a1).bind fun bt323 => (some (bt323.1, bt323.2.1, bt323.2.2.1, bt323.2.2.2.1, bt323.2.2.2.2, true))) else (some ((⟨#[]⟩ : ByteArray), (⟨#[]⟩ : ByteArray), (⟨#[]⟩ : ByteArray), ([] : List ByteArray), 0, false)))) else (some ((⟨#[]⟩ : ByteArray), (⟨#[]⟩ : ByteArray), (⟨#[]⟩ : ByteArray), ([] : List ByteArray), 0, false)))) = some (r1, r2, r3, r4, r5, r6) := h; clear h; replace H := zi H; obtain ⟨t321, A3, H⟩ := H
 by_cases c4 : t321 = true
 ·subst c4
  have H1 : ((impl_isKeep.f a1).bind fun t322 => (if t322 = true then ((impl_sieveOf.f k l0 a1).bind fun bt323 => (some (bt323.1, bt323.2.1, bt323.2.2.1, bt323.2.2.2.1, bt323.2.2.2.2, true))) else (some ((⟨#[]⟩ : ByteArray), (⟨#[]⟩ : ByteArray), (⟨#[]⟩ : ByteArray), ([] : List ByteArray), 0, false)))) = some (r1, r2, r3, r4, r5, r6) := by rw [if_pos rfl] at H; exact H
  clear H; have H := H1; clear H1; replace H := zi H; obtain ⟨t322, A5, H⟩ := H
  by_cases c6 : t322 = true
  ·subst c6
   have H1 : ((impl_sieveOf.f k l0 a1).bind fun bt323 => (some (bt323.1, bt323.2.1, bt323.2.2.1, bt323.2.2.2.1, bt323.2.2.2.2, true))) = some (r1, r2, r3, r4, r5, r6) := by rw [if_pos rfl] at H; exact H
   clear H; have H := H1; clear H1; replace H := zi H; obtain ⟨⟨t323, t324, t325, t326, t329⟩, A7, H⟩ := H; (try dsimp only at H); simp only [Option.some.injEq, Prod.mk.injEq] at H; obtain ⟨rfl, rfl, rfl, rfl, rfl, rfl⟩ := H; go_enter Try.func30, Try.ntmps30
   go_wp2_with (first | ((with_reducible refine gd 4 ?_); refine box_event zh (N := 4) zh (cs := #[.string (⟨#[]⟩ : ByteArray), .string (⟨#[]⟩ : ByteArray), .string (⟨#[]⟩ : ByteArray), .slice none 0 0, .int .i64 0]) (t := 25) zg ?_; intro gb320 hg w8 hbox hb; have BK320 := z0 (hbox); have GE320 := zG hg HB; replace HB := zH HB hb; clear hb hbox hg) | ((with_reducible refine gc 73 ?_); refine zL (some 7) Try.func73 #[.slice A0 l0.length c0] ?_; (with_reducible refine (impl_KeysOk.calls k _ _ l0 true _ ?side1 ?side2 A3.out).mono ?_); (case side1 => repeat (first | exact (Kd.C_below HR0.out HB.out) | (with_reducible refine Kd.C_alloc ?_ _) | (with_reducible refine Kd.C_drewN ?_ _) | (with_reducible refine Kd.C_drew ?_))); (case side2 => exact HC0.out); rintro e w' ⟨rfl, ⟨nd, rfl⟩⟩; refine ⟨_, rfl, ?_⟩; (try (rw [drewN_self w8]; generalize hq_ : World.drewN w8 _ = w8; have n0_ : Aside0 (w8.heap[gb320]? = some (.cells #[.string (⟨#[]⟩ : ByteArray), .string (⟨#[]⟩ : ByteArray), .string (⟨#[]⟩ : ByteArray), .slice none 0 0, .int .i64 0] 25 (0, 0))) := ⟨by rw [← hq_]; exact (zl BK320.out)⟩; have n1_ : Aside0 (Below w.heap.size w w8) := ⟨by rw [← hq_]; exact (zb HB.out)⟩; clear BK320 HB hq_; have BK320 := n0_; have HB := n1_; clear n0_ n1_))) | (go_at_call 74; (with_reducible refine (impl_isKeep.calls a1 true _ A5.out).mono ?_); rintro e w' ⟨rfl, ⟨nd, rfl⟩⟩; (try (rw [drewN_self w8]; generalize hq_ : World.drewN w8 _ = w8; have n0_ : Aside0 (w8.heap[gb320]? = some (.cells #[.string (⟨#[]⟩ : ByteArray), .string (⟨#[]⟩ : ByteArray), .string (⟨#[]⟩ : ByteArray), .slice none 0 0, .int .i64 0] 25 (0, 0))) := ⟨by rw [← hq_]; exact (zl BK320.out)⟩; have n1_ : Aside0 (Below w.heap.size w w8) := ⟨by rw [← hq_]; exact (zb HB.out)⟩; clear BK320 HB hq_; have BK320 := n0_; have HB := n1_; clear n0_ n1_))) | ((with_reducible refine gc 75 ?_); refine zL (some 17) Try.func75 #[.slice A0 l0.length c0, .int .i64 a1] ?_; (with_reducible refine (impl_sieveOf.calls k _ _ l0 a1 t323 t324 t325 t326 t329 _ (zC (Kd.C_below HR0.out HB.out)) HC0.out A7.out).mono ?_); rintro e w9 ⟨v327, rfl, ho0, hb⟩; refine zv ?_; have HO328 := z0 (Kd.R_lower ho0 (below_size (zb HB.out))); replace BK320 := zK BK320 hb; replace HB := zH HB hb; (try clear hb ho0); have hcz10 := zc5 BK320.out; obtain ⟨Ao11, co11, eo11⟩ := Kd.R_slice HO328.out; subst eo11))
   refine bodyPost_ret (results_ct rfl _ _ gb320 25 #[.string t323, .string t324, .string t325, .slice Ao11 t326.length co11, .int .i64 t329] (0, 0) _ rfl (zp BK320.out) Try.underlying25 rfl (by kernel_rfl)) rfl ?_; exact ⟨_, ze, Kd.R_mono (zt HO328.out BK320.out) (fun _ hk => trivial), zb HB.out⟩
  ·replace c6 := Bool.eq_false_iff.mpr c6; subst c6
   have H1 : (some ((⟨#[]⟩ : ByteArray), (⟨#[]⟩ : ByteArray), (⟨#[]⟩ : ByteArray), ([] : List ByteArray), 0, false)) = some (r1, r2, r3, r4, r5, r6) := by rw [if_neg (show ¬ (false = true) by decide)] at H; exact H
   clear H; have H := H1; clear H1; simp only [Option.some.injEq, Prod.mk.injEq] at H; obtain ⟨rfl, rfl, rfl, rfl, rfl, rfl⟩ := H; go_enter Try.func30, Try.ntmps30
   go_wp2_with (first | ((with_reducible refine gd 4 ?_); refine box_event zh (N := 4) zh (cs := #[.string (⟨#[]⟩ : ByteArray), .string (⟨#[]⟩ : ByteArray), .string (⟨#[]⟩ : ByteArray), .slice none 0 0, .int .i64 0]) (t := 25) zg ?_; intro gb320 hg w12 hbox hb; have BK320 := z0 (hbox); have GE320 := zG hg HB; replace HB := zH HB hb; clear hb hbox hg) | ((with_reducible refine gc 73 ?_); refine zL (some 7) Try.func73 #[.slice A0 l0.length c0] ?_; (with_reducible refine (impl_KeysOk.calls k _ _ l0 true _ ?side1 ?side2 A3.out).mono ?_); (case side1 => repeat (first | exact (Kd.C_below HR0.out HB.out) | (with_reducible refine Kd.C_alloc ?_ _) | (with_reducible refine Kd.C_drewN ?_ _) | (with_reducible refine Kd.C_drew ?_))); (case side2 => exact HC0.out); rintro e w' ⟨rfl, ⟨nd, rfl⟩⟩; refine ⟨_, rfl, ?_⟩; (try (rw [drewN_self w12]; generalize hq_ : World.drewN w12 _ = w12; have n0_ : Aside0 (w12.heap[gb320]? = some (.cells #[.string (⟨#[]⟩ : ByteArray), .string (⟨#[]⟩ : ByteArray), .string (⟨#[]⟩ : ByteArray), .slice none 0 0, .int .i64 0] 25 (0, 0))) := ⟨by rw [← hq_]; exact (zl BK320.out)⟩; have n1_ : Aside0 (Below w.heap.size w w12) := ⟨by rw [← hq_]; exact (zb HB.out)⟩; clear BK320 HB hq_; have BK320 := n0_; have HB := n1_; clear n0_ n1_))) | (go_at_call 74; (with_reducible refine (impl_isKeep.calls a1 false _ A5.out).mono ?_); rintro e w' ⟨rfl, ⟨nd, rfl⟩⟩; (try (rw [drewN_self w12]; generalize hq_ : World.drewN w12 _ = w12; have n0_ : Aside0 (w12.heap[gb320]? = some (.cells #[.string (⟨#[]⟩ : ByteArray), .string (⟨#[]⟩ : ByteArray), .string (⟨#[]⟩ : ByteArray), .slice none 0 0, .int .i64 0] 25 (0, 0))) := ⟨by rw [← hq_]; exact (zl BK320.out)⟩; have n1_ : Aside0 (Below w.heap.size w w12) := ⟨by rw [← hq_]; exact (zb HB.out)⟩; clear BK320 HB hq_; have BK320 := n0_; have HB := n1_; clear n0_ n1_)); have hcz13 := zc5 BK320.out))
   refine bodyPost_ret (results_ct rfl _ _ gb320 25 #[.string (⟨#[]⟩ : ByteArray), .string (⟨#[]⟩ : ByteArray), .string (⟨#[]⟩ : ByteArray), .slice none 0 0, .int .i64 0] (0, 0) _ rfl (zp BK320.out) Try.underlying25 rfl (by kernel_rfl)) rfl ?_; exact ⟨_, ze, by first | exact Kd.R_nil _ _ _ _ _ | exact Kd.N_nil _ _ _ _ _ | exact Kd.V_nil _ _ _ _ _ | exact Kd.Q_nil _ _ _ _ _ | exact Kd.S_nil _ _ _ _ _, zb HB.out⟩
 ·replace c4 := Bool.eq_false_iff.mpr c4; subst c4
  have H1 : (some ((⟨#[]⟩ : ByteArray), (⟨#[]⟩ : ByteArray), (⟨#[]⟩ : ByteArray), ([] : List ByteArray), 0, false)) = some (r1, r2, r3, r4, r5, r6) := by rw [if_neg (show ¬ (false = true) by decide)] at H; exact H
  clear H; have H := H1; clear H1; simp only [Option.some.injEq, Prod.mk.injEq] at H; obtain ⟨rfl, rfl, rfl, rfl, rfl, rfl⟩ := H; go_enter Try.func30, Try.ntmps30
  go_wp2_with (first | ((with_reducible refine gd 4 ?_); refine box_event zh (N := 4) zh (cs := #[.string (⟨#[]⟩ : ByteArray), .string (⟨#[]⟩ : ByteArray), .string (⟨#[]⟩ : ByteArray), .slice none 0 0, .int .i64 0]) (t := 25) zg ?_; intro gb320 hg w14 hbox hb; have BK320 := z0 (hbox); have GE320 := zG hg HB; replace HB := zH HB hb; clear hb hbox hg) | ((with_reducible refine gc 73 ?_); refine zL (some 7) Try.func73 #[.slice A0 l0.length c0] ?_; (with_reducible refine (impl_KeysOk.calls k _ _ l0 false _ ?side1 ?side2 A3.out).mono ?_); (case side1 => repeat (first | exact (Kd.C_below HR0.out HB.out) | (with_reducible refine Kd.C_alloc ?_ _) | (with_reducible refine Kd.C_drewN ?_ _) | (with_reducible refine Kd.C_drew ?_))); (case side2 => exact HC0.out); rintro e w' ⟨rfl, ⟨nd, rfl⟩⟩; refine ⟨_, rfl, ?_⟩; (try (rw [drewN_self w14]; generalize hq_ : World.drewN w14 _ = w14; have n0_ : Aside0 (w14.heap[gb320]? = some (.cells #[.string (⟨#[]⟩ : ByteArray), .string (⟨#[]⟩ : ByteArray), .string (⟨#[]⟩ : ByteArray), .slice none 0 0, .int .i64 0] 25 (0, 0))) := ⟨by rw [← hq_]; exact (zl BK320.out)⟩; have n1_ : Aside0 (Below w.heap.size w w14) := ⟨by rw [← hq_]; exact (zb HB.out)⟩; clear BK320 HB hq_; have BK320 := n0_; have HB := n1_; clear n0_ n1_)); have hcz15 := zc5 BK320.out))
  refine bodyPost_ret (results_ct rfl _ _ gb320 25 #[.string (⟨#[]⟩ : ByteArray), .string (⟨#[]⟩ : ByteArray), .string (⟨#[]⟩ : ByteArray), .slice none 0 0, .int .i64 0] (0, 0) _ rfl (zp BK320.out) Try.underlying25 rfl (by kernel_rfl)) rfl ?_; exact ⟨_, ze, by first | exact Kd.R_nil _ _ _ _ _ | exact Kd.N_nil _ _ _ _ _ | exact Kd.V_nil _ _ _ _ _ | exact Kd.Q_nil _ _ _ _ _ | exact Kd.S_nil _ _ _ _ _, zb HB.out⟩
end Go.Proofs.Ytifgcajpkgamgaa.Q
end
section
namespace Go.Proofs.Ytifgcajpkgamgaa.Q
open Go.RowKit Go.Proofs.YtifgcajpkgamgaaW.PrintWords Go.Proofs.YtifgcajpkgamgaaW.PrintLast Go.Proofs.YtifgcajpkgamgaaW.PrintMore
attribute [local go_sem] max2_int min2_int max_two min_two max_three min_three max_four min_four   
set_option linter.unusedVariables false
set_option linter.unusedSimpArgs false
set_option maxHeartbeats 8000000 in
set_option maxRecDepth 100000 in
theorem stringslite_HasPrefix.calls (a0 : ByteArray) (a1 : ByteArray) (r : Bool) (w : World) (h : stringslite_HasPrefix.f a0 a1 = some r) :
    Calls Try.prog 120 #[.string a0, .string a1] w fun e w' => e = .returned (.bool r) ∧ Drawn0 w w' := by
 have H : (if (a0.size : Int) ≥ (a1.size : Int) then (if 0 ≤ (a1.size : Int) then (if (a1.size : Int) ≤ (a0.size : Int) then (some ((a0.extract 0 ((a1.size : Int) : Int).toNat).toList == a1.toList)) else (none)) else (none)) else (some false)) = some r := h; clear h
 by_cases c3 : (a0.size : Int) ≥ (a1.size : Int)
 ·rw [if_pos c3] at H; have c3b0 : decide ((a1.size : Int) ≤ (a0.size : Int)) = true := decide_eq_true c3; have c3b1 : decide (a1.size ≤ a0.size) = true := decide_eq_true (Int.ofNat_le.mp c3); clear c3; replace H := zn H; obtain ⟨c4, H⟩ := H; have c4b0 := eq_true c4; have c4b1 : decide (0 ≤ (a1.size : Int)) = true := decide_eq_true c4; clear c4; replace H := zn H; obtain ⟨c5, H⟩ := H; have c5b0 := eq_true c5; have c5b1 : decide ((a1.size : Int) ≤ (a0.size : Int)) = true := decide_eq_true c5; clear c5; obtain rfl := Option.some.inj H; go_enter Try.func120, Try.ntmps120; go_wp2; go_ret; exact ⟨zf, by repeat (first | exact Drawn0.refl _ | apply Drawn0.step)⟩
 ·rw [if_neg c3] at H; have c3b0 : decide ((a1.size : Int) ≤ (a0.size : Int)) = false := decide_eq_false c3; have c3b1 : decide (a1.size ≤ a0.size) = false := decide_eq_false (fun h => c3 (Int.ofNat_le.mpr h)); clear c3; obtain rfl := Option.some.inj H; go_enter Try.func120, Try.ntmps120; go_wp2; go_ret; exact ⟨zf, by repeat (first | exact Drawn0.refl _ | apply Drawn0.step)⟩
end Go.Proofs.Ytifgcajpkgamgaa.Q
end
section
namespace Go.Proofs.Ytifgcajpkgamgaa.Q
open Go.RowKit Go.Proofs.YtifgcajpkgamgaaW.PrintWords Go.Proofs.YtifgcajpkgamgaaW.PrintLast Go.Proofs.YtifgcajpkgamgaaW.PrintMore
attribute [local go_sem] max2_int min2_int max_two min_two max_three min_three max_four min_four   
set_option linter.unusedVariables false
set_option linter.unusedSimpArgs false
set_option maxHeartbeats 8000000 in
set_option maxRecDepth 100000 in
theorem strings_HasPrefix.calls (a0 : ByteArray) (a1 : ByteArray) (r : Bool) (w : World) (h : strings_HasPrefix.f a0 a1 = some r) :
    Calls Try.prog 91 #[.string a0, .string a1] w fun e w' => e = .returned (.bool r) ∧ Drawn0 w w' := by
 have H : ((stringslite_HasPrefix.f a0 a1).bind fun t394 => (some t394)) = some r := h; clear h; replace H := zi H; obtain ⟨t394, A3, H⟩ := H; obtain rfl := Option.some.inj H; go_enter Try.func91, Try.ntmps91
 go_wp2_with (first | ((with_reducible refine gc 120 ?_); refine zL (some 7) Try.func120 #[.string a0, .string a1] ?_; (with_reducible refine (stringslite_HasPrefix.calls a0 a1 t394 _ A3.out).mono ?_); rintro e w' ⟨rfl, ⟨nd, rfl⟩⟩; refine ⟨_, rfl, ?_⟩))
 go_ret; exact ⟨zf, by repeat (first | exact Drawn0.refl _ | apply Drawn0.step)⟩
end Go.Proofs.Ytifgcajpkgamgaa.Q
end
section
namespace Go.Proofs.Ytifgcajpkgamgaa.Q
open Go.RowKit Go.Proofs.YtifgcajpkgamgaaW.PrintWords Go.Proofs.YtifgcajpkgamgaaW.PrintLast Go.Proofs.YtifgcajpkgamgaaW.PrintMore
attribute [local go_sem] max2_int min2_int max_two min_two max_three min_three max_four min_four   
set_option linter.unusedVariables false
set_option linter.unusedSimpArgs false
set_option maxHeartbeats 8000000 in
set_option maxRecDepth 100000 in
theorem impl_KeyBegins.calls (a0 : ByteArray) (a1 : ByteArray) (r : Bool) (w : World) (h : impl_KeyBegins.f a0 a1 = some r) :
    Calls Try.prog 42 #[.string a0, .string a1] w fun e w' => e = .returned (.bool r) ∧ Drawn0 w w' := by
 have H : ((strings_HasPrefix.f a0 a1).bind fun t395 => (some t395)) = some r := h; clear h; replace H := zi H; obtain ⟨t395, A3, H⟩ := H; obtain rfl := Option.some.inj H; go_enter Try.func42, Try.ntmps42
 go_wp2_with (first | ((with_reducible refine gc 91 ?_); refine zL (some 7) Try.func91 #[.string a0, .string a1] ?_; (with_reducible refine (strings_HasPrefix.calls a0 a1 t395 _ A3.out).mono ?_); rintro e w' ⟨rfl, ⟨nd, rfl⟩⟩; refine ⟨_, rfl, ?_⟩))
 go_ret; exact ⟨zf, by repeat (first | exact Drawn0.refl _ | apply Drawn0.step)⟩
end Go.Proofs.Ytifgcajpkgamgaa.Q
end
section
namespace Go.Proofs.Ytifgcajpkgamgaa.Q
open Go.RowKit Go.Proofs.YtifgcajpkgamgaaW.PrintWords Go.Proofs.YtifgcajpkgamgaaW.PrintLast Go.Proofs.YtifgcajpkgamgaaW.PrintMore
attribute [local go_sem] max2_int min2_int max_two min_two max_three min_three max_four min_four   
set_option linter.unusedVariables false
set_option linter.unusedSimpArgs false
def IsS98 (w0 W : World) (g : Nat) (f0 : List Int) (f1 : Int) : Prop := ∃ A0 c0, W.heap[g]? = some (.cells #[.slice A0 f0.length c0, .int .i64 f1] 98 (0, 0)) ∧ w0.heap.size ≤ g ∧ Kd.C (Kd.int .u8) w0 A0 f0.length f0
theorem IsS98.grown {w0 W : World} {g : Nat} {f0 : List Int} {f1 : Int} {W1 : World} {row : Option Nat} (h : IsS98 w0 W g f0 f1) (hw : W.grownBy W1 row) (hne : some g ≠ row) : IsS98 w0 W1 g f0 f1 := by
  obtain ⟨A0, c0, hb, hg, hr0⟩ := h
  exact ⟨A0, c0, blk_grown hb hw hne, hg, hr0⟩
theorem IsS98.kept {w0 W : World} {g : Nat} {f0 : List Int} {f1 : Int} {W1 : World} {S : Nat → Prop} (h : IsS98 w0 W g f0 f1) (hk : Kept W W1 S) (hne : ¬ S g) : IsS98 w0 W1 g f0 f1 := by
  obtain ⟨A0, c0, hb, hg, hr0⟩ := h
  exact ⟨A0, c0, blk_kept hb hk hne, hg, hr0⟩
theorem IsS98.below {w0 W : World} {g : Nat} {f0 : List Int} {f1 : Int} {W1 : World} (h : IsS98 w0 W g f0 f1) (hw : Below W.heap.size W W1) : IsS98 w0 W1 g f0 f1 := h.grown (grown_of_below hw none) (by simp)
theorem IsS98.alloc {w0 W : World} {g : Nat} {f0 : List Int} {f1 : Int} (h : IsS98 w0 W g f0 f1) (o : Obj) : IsS98 w0 (W.alloc o) g f0 f1 := h.below (below_alloc (Below.refl _ _) o)
theorem IsS98.drewN {w0 W : World} {g : Nat} {f0 : List Int} {f1 : Int} (h : IsS98 w0 W g f0 f1) (m : Nat) : IsS98 w0 (W.drewN m) g f0 f1 := h
theorem IsS98.drew {w0 W : World} {g : Nat} {f0 : List Int} {f1 : Int} (h : IsS98 w0 W g f0 f1) : IsS98 w0 W.drew g f0 f1 := h
theorem IsS98.at_ {w0 W : World} {g : Nat} {f0 : List Int} {f1 : Int} {w' : World} {m : Nat} (hq : W.drewN m = w') (h : IsS98 w0 W g f0 f1) : IsS98 w0 w' g f0 f1 := by subst hq; exact IsS98.drewN h m
theorem IsS98.apart {w0 W : World} {g : Nat} {f0 : List Int} {f1 : Int} {α : Type} {d : Kd α} {e : Nat} {base : Nat} {ok : Nat → Prop} {v : Value} {xs : List α} (h : IsS98 w0 W g f0 f1) (ho : d.R e W base ok v xs) (ht : ∀ q, q ∈ e :: d.E → q ≠ 98) : d.R e W base (fun k => ok k ∧ k ≠ g) v xs := by
  obtain ⟨A0, c0, hb, hg, hr0⟩ := h
  exact Kd.R_types ho hb ht
theorem IsS98.own_ne {w0 W : World} {g : Nat} {f0 : List Int} {f1 : Int} {α : Type} {d : Kd α} {e : Nat} {base : Nat} {ok : Nat → Prop} {v : Value} {xs : List α} (h : IsS98 w0 W g f0 f1) (ho : d.R e W base ok v xs) (ht : e ≠ 98) : some g ≠ v.ownBlock := by
  obtain ⟨A0, c0, hb, hg, hr0⟩ := h
  exact Kd.R_ne ho hb ht
theorem IsS98.lt {w0 W : World} {g : Nat} {f0 : List Int} {f1 : Int} (h : IsS98 w0 W g f0 f1) : g < W.heap.size := by
  obtain ⟨A0, c0, hb, hg, hr0⟩ := h
  exact blk_lt hb
theorem IsS98.ge {w0 W : World} {g : Nat} {f0 : List Int} {f1 : Int} (h : IsS98 w0 W g f0 f1) : w0.heap.size ≤ g := by
  obtain ⟨A0, c0, hb, hg, hr0⟩ := h
  exact hg
theorem IsS98.far {w0 W : World} {g : Nat} {f0 : List Int} {f1 : Int} {p : Addr} (h : IsS98 w0 W g f0 f1) (hne : g ≠ p.block) (u : Value) : IsS98 w0 (W.setCell p u) g f0 f1 := by
  obtain ⟨A0, c0, hb, hg, hr0⟩ := h
  exact ⟨A0, c0, blk_far hb hne u, hg, hr0⟩
theorem cellS98_0 {W : World} {g : Nat} {A0 : Option Addr} {c0 : Nat} {f0 : List Int} {f1 : Int} (h : W.heap[g]? = some (.cells #[.slice A0 f0.length c0, .int .i64 f1] 98 (0, 0))) : W.cell? ⟨g, 0, none⟩ = some (.slice A0 f0.length c0) := (blk_cell h 0).trans rfl
theorem cellS98_1 {W : World} {g : Nat} {A0 : Option Addr} {c0 : Nat} {f0 : List Int} {f1 : Int} (h : W.heap[g]? = some (.cells #[.slice A0 f0.length c0, .int .i64 f1] 98 (0, 0))) : W.cell? ⟨g, 1, none⟩ = some (.int .i64 f1) := (blk_cell h 1).trans rfl
theorem IsS98.set_1 {w0 W : World} {g : Nat} {f0 : List Int} {f1 : Int} (h : IsS98 w0 W g f0 f1) (x : Int) : IsS98 w0 (W.setCell ⟨g, 1, none⟩ (.int .i64 x)) g f0 x := by
  obtain ⟨A0, c0, hb, hg, hr0⟩ := h
  exact ⟨A0, c0, by simpa using blk_set hb 1 (.int .i64 x), hg, hr0⟩
theorem IsS98.zI {w0 W : World} {g : Nat} {f0 : List Int} {f1 : Int} {W1 : World} {f0' : List Int} {f1' : Int} (h : IsS98 w0 W g f0 f1) (c : IsS98 w0 W g f0 f1 → IsS98 w0 W1 g f0' f1' := by (intro h_; repeat (first | (with_reducible first | exact h_ | apply IsS98.alloc | apply IsS98.drewN | apply IsS98.drew | apply IsS98.set_1 | refine IsS98.far ?_ (Aside0.out (by assumption)) _) | exact h_))) : IsS98 w0 W1 g f0' f1' := c h
theorem IsS98.zb {w0 W : World} {g : Nat} {f0 : List Int} {f1 : Int} (i : IsS98 w0 W g f0 f1) {w1 w2 : World} (h : Below w0.heap.size w0 w1) (c : w0.heap.size ≤ g → Below w0.heap.size w0 w1 → Below w0.heap.size w0 w2 := by (intro i_ h_; repeat (first | (with_reducible first | exact h_ | apply below_alloc | apply pw_below_drewN | apply below_drew1 | refine below_set ?_ i_ | refine below_set ?_ (Aside0.out (by assumption))) | exact h_))) : Below w0.heap.size w0 w2 := c (IsS98.ge i) h
set_option maxHeartbeats 8000000 in
set_option maxRecDepth 100000 in
theorem spec_l6Open.calls (A0 : Option Addr) (c0 : Nat) (l0 : List Int) (r1 : List Int) (r2 : Int) (w0 w : World) (hB : Below w0.heap.size w0 w) (hr0 : Kd.C (Kd.int .u8) w0 A0 l0.length l0) (hc0 : l0.length ≤ c0) (h : spec_l6Open.f l0 = some (r1, r2)) :
    Calls Try.prog 64 #[.slice A0 l0.length c0] w fun e w' => ∃ g_ : Nat, e = .returned (.pointer (some ⟨g_, 0, none⟩)) ∧ IsS98 w0 w' g_ r1 r2 ∧ Below w0.heap.size w0 w' ∧ Below w.heap.size w w' := by
 have hu98 := Try.underlying98; have HR0 := Aside0.mk hr0; have HC0 := Aside0.mk hc0; clear hr0 hc0; have HBW := z0 (Below.refl w.heap.size w); have HW0 := Aside0.mk hB.size; have HB := Aside0.mk hB; clear hB; have H : (if (l0.length : Int) > 2000 then (if 2000 ≤ (l0.length : Int) then (some (l0.take 2000, 0)) else (none)) else (some (l0, 0))) = some (r1, r2) := h; clear h
 by_cases c2 : (l0.length : Int) > 2000
 ·rw [if_pos c2] at H; have c2b0 : decide (2000 < (l0.length : Int)) = true := decide_eq_true c2; have c2b1 : decide (2000 < l0.length) = true := decide_eq_true (by omega); clear c2; replace H := zn H; obtain ⟨c3, H⟩ := H; have c3b0 := eq_true c3; have c3b1 : decide (2000 ≤ (l0.length : Int)) = true := decide_eq_true c3; clear c3; simp only [Option.some.injEq, Prod.mk.injEq] at H; obtain ⟨rfl, rfl⟩ := H; obtain ⟨i04, hi04, _, hsz4, _⟩ := info_parts info5; obtain ⟨hcut4, hA4, hC4⟩ := print_take_of (P := Try.prog) (Value.int .u8) 0 22 5 .i64 Try.underlying22 hi04 hsz4 A0 c0 l0 2000 (by omega) (zd) HC0.out; have HR101 := z0 (Kd.C_of_reads (h1 := fun _ => rfl) (hA4 _ (Kd.reads_of_C HR0.out))); have HC101 := Aside0.mk hC4; clear hA4 hC4 hi04 hsz4; go_enter Try.func64, Try.ntmps64
  go_wp2_with (first | ((with_reducible refine gd 10 ?_); refine box_event zh (N := 10) zh (cs := #[.slice A0 (l0.take 2000).length c0, .int .i64 0]) (t := 98) zg ?_; intro gb102 hg w5 hbox hb; replace HB := zH HB hb; have BK102 := z0 (hbox); have GW102 := z0 ((by rw [hg]; exact (below_size (by repeat (first | (with_reducible first | exact HBW.out | apply below_alloc | apply pw_below_drewN | apply below_drew1) | exact HBW.out))) : w.heap.size ≤ gb102)); have GE102 := z0 ((Nat.le_trans HW0.out (by rw [hg]; exact (below_size (by repeat (first | (with_reducible first | exact HBW.out | apply below_alloc | apply pw_below_drewN | apply below_drew1) | exact HBW.out))) : w.heap.size ≤ gb102) : w0.heap.size ≤ gb102)); replace HBW := z0 (below_step HBW.out hb); clear hb hbox hg))
  go_ret; exact ⟨_, rfl, (show IsS98 w0 _ gb102 (l0.take 2000) 0 from ⟨_, _, zl BK102.out, GE102.out, HR101.out⟩), zb HB.out, by repeat (first | (with_reducible first | exact HBW.out | apply below_alloc | apply pw_below_drewN | apply below_drew1 | refine below_set ?_ GW102.out) | exact HBW.out)⟩
 ·rw [if_neg c2] at H; have c2b0 : decide (2000 < (l0.length : Int)) = false := decide_eq_false c2; have c2b1 : decide (2000 < l0.length) = false := decide_eq_false (by omega); clear c2; simp only [Option.some.injEq, Prod.mk.injEq] at H; obtain ⟨rfl, rfl⟩ := H; go_enter Try.func64, Try.ntmps64
  go_wp2_with (first | ((with_reducible refine gd 10 ?_); refine box_event zh (N := 10) zh (cs := #[.slice A0 l0.length c0, .int .i64 0]) (t := 98) zg ?_; intro gb103 hg w6 hbox hb; replace HB := zH HB hb; have BK103 := z0 (hbox); have GW103 := z0 ((by rw [hg]; exact (below_size (by repeat (first | (with_reducible first | exact HBW.out | apply below_alloc | apply pw_below_drewN | apply below_drew1) | exact HBW.out))) : w.heap.size ≤ gb103)); have GE103 := z0 ((Nat.le_trans HW0.out (by rw [hg]; exact (below_size (by repeat (first | (with_reducible first | exact HBW.out | apply below_alloc | apply pw_below_drewN | apply below_drew1) | exact HBW.out))) : w.heap.size ≤ gb103) : w0.heap.size ≤ gb103)); replace HBW := z0 (below_step HBW.out hb); clear hb hbox hg))
  go_ret; exact ⟨_, rfl, (show IsS98 w0 _ gb103 l0 0 from ⟨_, _, zl BK103.out, GE103.out, HR0.out⟩), zb HB.out, by repeat (first | (with_reducible first | exact HBW.out | apply below_alloc | apply pw_below_drewN | apply below_drew1 | refine below_set ?_ GW103.out) | exact HBW.out)⟩
end Go.Proofs.Ytifgcajpkgamgaa.Q
end
section
namespace Go.Proofs.Ytifgcajpkgamgaa.Q
open Go.RowKit Go.Proofs.YtifgcajpkgamgaaW.PrintWords Go.Proofs.YtifgcajpkgamgaaW.PrintLast Go.Proofs.YtifgcajpkgamgaaW.PrintMore
attribute [local go_sem] max2_int min2_int max_two min_two max_three min_three max_four min_four   
set_option linter.unusedVariables false
set_option linter.unusedSimpArgs false
theorem spec_l6Rd_pick.mono_l : ∀ k, (∀ y0 y1 y2 y3, LeO (spec_l6Rd_pick.j0 k y0 y1 y2 y3) (spec_l6Rd_pick.j0 (k + 1) y0 y1 y2 y3))
  | 0 => fun _ _ _ _ r h => by simp [spec_l6Rd_pick.j0] at h
  | k + 1 => by
    have ih0 := spec_l6Rd_pick.mono_l k
    · intro y0 y1 y2 y3
      unfold spec_l6Rd_pick.j0
      repeat' first
      | (with_reducible exact ih0 _ _ _ _)
      | (with_reducible exact LeO.refl _)
      | (with_reducible exact LeO.none _)
      | (with_reducible refine LeO.ite ?_ ?_)
      | (with_reducible refine LeO.bind ?_ (fun _ => ?_))
      | exact ih0 _ _ _ _
      | exact LeO.none _
      | refine LeO.ite ?_ ?_
      | refine LeO.bind ?_ (fun _ => ?_)
theorem spec_l6Rd_pick.mono : ∀ a0 a1 a2 k, LeO (spec_l6Rd_pick.f k a0 a1 a2) (spec_l6Rd_pick.f (k + 1) a0 a1 a2) := by
  intro a0 a1 a2 k
  have ih0 := spec_l6Rd_pick.mono_l k
  unfold spec_l6Rd_pick.f
  repeat' first
      | (with_reducible exact ih0 _ _ _ _)
      | (with_reducible exact LeO.refl _)
      | (with_reducible exact LeO.none _)
      | (with_reducible refine LeO.ite ?_ ?_)
      | (with_reducible refine LeO.bind ?_ (fun _ => ?_))
      | exact ih0 _ _ _ _
      | exact LeO.none _
      | refine LeO.ite ?_ ?_
      | refine LeO.bind ?_ (fun _ => ?_)
set_option maxHeartbeats 8000000 in
set_option maxRecDepth 100000 in
theorem spec_l6Rd_pick.calls (k : Nat) (g : Nat) (s0_0 : List Int) (s0_1 : Int) (a1 : Int) (r1 : Int) (r2 : Int) (w0 w : World) (hI : IsS98 w0 w g s0_0 s0_1) (hB : Below w0.heap.size w0 w) (h : spec_l6Rd_pick.f k s0_0 s0_1 a1 = some (r1, r2)) :
    Calls Try.prog 78 #[.pointer (some ⟨g, 0, none⟩), .int .i64 a1] w fun e w' => e = .returned (.int .i64 r1) ∧ IsS98 w0 w' g s0_0 r2 ∧ Below w0.heap.size w0 w' ∧ KeepBut w w' g none := by
 have HI0 := Aside0.mk hI; have HK := z0 (KeepBut.refl w g none); have HL := Aside0.mk hB.size; clear hI; have HW0 := Aside0.mk hB.size; have HB := Aside0.mk hB; clear hB; have H : (if a1 < 1 then (spec_l6Rd_pick.j0 k a1 true s0_0 (wrap64 (s0_1 + 1))) else (spec_l6Rd_pick.j0 k a1 ((s0_0.length : Int) == 0) s0_0 (wrap64 (s0_1 + 1)))) = some (r1, r2) := h; clear h; have HC3 := Aside0.mk H; clear H; obtain ⟨ASz4_0, cSz4_0, HGz4, hgz4, HSz4_0⟩ := HI0.out; have hcz4_0 := cellS98_0 HGz4; have hcz4_1 := cellS98_1 HGz4; have hfz4_1 := blk_frozen HGz4 1; clear HGz4 hgz4; go_enter Try.func78, Try.ntmps78
 go_upto_region 2 with (fail)
 repeat (go_quiet (fail); go_upto_region 2 with (fail))
 go_cut [24] (fun v24 wc => ∃ (kq : Nat) (x24_2 : Bool), v24 = .bool x24_2 ∧ Aside0 (spec_l6Rd_pick.j0 kq a1 x24_2 s0_0 (wrap64 (s0_1 + 1)) = some (r1, r2)) ∧ Aside0 (kq ≤ k) ∧ Aside0 (IsS98 w0 wc g s0_0 (wrap64 (s0_1 + 1))) ∧ Aside0 (KeepBut w wc g none) ∧ Aside0 (Below w0.heap.size w0 wc))
 case first =>
  have H := HC3.out; clear HC3
  by_cases c5 : a1 < 1
  ·rw [if_pos c5] at H; have c5b0 : decide (a1 < 1) = true := decide_eq_true c5; clear c5; (first | rw [c5b0] | (simp only [i64_w, i32_w]; rw [c5b0]) | simp only [*, Bool.not_true, Bool.not_false] | skip); have H' := Aside0.mk H; clear H; go_wp2
   repeat (go_quiet (fail); try go_wp2)
   go_meet
   case rel => exact ⟨_, (true), zf, H', ⟨by first | omega | exact Nat.le_refl _⟩, ⟨HI0.out.zI⟩, ⟨zq HK.out⟩, ⟨HI0.out.zb HB.out⟩⟩
  ·rw [if_neg c5] at H; have c5b0 : decide (a1 < 1) = false := decide_eq_false c5; clear c5; (first | rw [c5b0] | (simp only [i64_w, i32_w]; rw [c5b0]) | simp only [*, Bool.not_true, Bool.not_false] | skip); have H' := Aside0.mk H; clear H; obtain ⟨ASz6_0, cSz6_0, HGz6, hgz6, HSz6_0⟩ := HI0.out; have hcz6_0 := cellS98_0 HGz6; have hcz6_1 := cellS98_1 HGz6; have hfz6_1 := blk_frozen HGz6 1; clear HGz6 hgz6; go_wp2
   repeat (go_quiet (fail); try go_wp2)
   go_meet
   case rel => exact ⟨_, (((s0_0.length : Int) == 0)), zf, H', ⟨by first | omega | exact Nat.le_refl _⟩, ⟨HI0.out.zI⟩, ⟨zq HK.out⟩, ⟨HI0.out.zb HB.out⟩⟩
 case rest =>
  clear HC3
  try clear p2
  try clear c5
  try clear c5b0
  try clear p6
  try clear hcz4
  try clear hcz6
  obtain ⟨kq, x24_2, rfl, HA, HJ2, HI0, HK, HB⟩ := hcut
  cases kq with
  | zero => exact absurd HA.out (by simp [spec_l6Rd_pick.j0])
  | succ kj2 =>
   have H := HA.out; clear HA; simp only [spec_l6Rd_pick.j0] at H
   by_cases c7 : x24_2 = true
   ·subst c7
    have H1 : (some (0, (wrap64 (s0_1 + 1)))) = some (r1, r2) := by rw [if_pos rfl] at H; exact H
    clear H; have H := H1; clear H1; simp only [Option.some.injEq, Prod.mk.injEq] at H; obtain ⟨rfl, rfl⟩ := H; go_wp2
    repeat (go_quiet (fail); try go_wp2)
    go_ret; exact ⟨ze, HI0.out.zI, HI0.out.zb HB.out, zq HK.out⟩
   ·replace c7 := Bool.eq_false_iff.mpr c7; subst c7
    have H1 : (if (wrap64 ((wrap64 (s0_1 + 1)) - 1)) < (s0_0.length : Int) then (if 0 ≤ (wrap64 ((wrap64 (s0_1 + 1)) - 1)) then (if a1 = 0 then (none) else (some (Int.tmod (wrap64 (rd s0_0 (wrap64 ((wrap64 (s0_1 + 1)) - 1)))) a1, (wrap64 (s0_1 + 1))))) else (none)) else (if (s0_0.length : Int) = 0 then (none) else (if 0 ≤ (Int.tmod (wrap64 ((wrap64 (s0_1 + 1)) - 1)) (s0_0.length : Int)) then (if (Int.tmod (wrap64 ((wrap64 (s0_1 + 1)) - 1)) (s0_0.length : Int)) < (s0_0.length : Int) then (if 0 ≤ (Int.tmod (wrap64 ((wrap64 ((wrap64 ((wrap64 (s0_1 + 1)) - 1)) * 7)) + 3)) (s0_0.length : Int)) then (if (Int.tmod (wrap64 ((wrap64 ((wrap64 ((wrap64 (s0_1 + 1)) - 1)) * 7)) + 3)) (s0_0.length : Int)) < (s0_0.length : Int) then (if a1 = 0 then (none) else (some (Int.tmod (Go.bits .xor .i64 (wrap64 ((wrap64 ((wrap64 ((wrap64 ((wrap64 (rd s0_0 (Int.tmod (wrap64 ((wrap64 (s0_1 + 1)) - 1)) (s0_0.length : Int)))) * 131)) + (wrap64 ((wrap64 (rd s0_0 (Int.tmod (wrap64 ((wrap64 ((wrap64 ((wrap64 (s0_1 + 1)) - 1)) * 7)) + 3)) (s0_0.length : Int)))) * 1117)))) + (wrap64 ((wrap64 ((wrap64 (s0_1 + 1)) - 1)) * 29)))) + (wrap64 ((wrap64 (Int.tdiv (wrap64 ((wrap64 (s0_1 + 1)) - 1)) (s0_0.length : Int))) * 53)))) (wrap64 (Int.tdiv (wrap64 ((wrap64 ((wrap64 ((wrap64 ((wrap64 (rd s0_0 (Int.tmod (wrap64 ((wrap64 (s0_1 + 1)) - 1)) (s0_0.length : Int)))) * 131)) + (wrap64 ((wrap64 (rd s0_0 (Int.tmod (wrap64 ((wrap64 ((wrap64 ((wrap64 (s0_1 + 1)) - 1)) * 7)) + 3)) (s0_0.length : Int)))) * 1117)))) + (wrap64 ((wrap64 ((wrap64 (s0_1 + 1)) - 1)) * 29)))) + (wrap64 ((wrap64 (Int.tdiv (wrap64 ((wrap64 (s0_1 + 1)) - 1)) (s0_0.length : Int))) * 53)))) 64))) a1, (wrap64 (s0_1 + 1))))) else (none)) else (none)) else (none)) else (none)))) = some (r1, r2) := by rw [if_neg (show ¬ (false = true) by decide)] at H; exact H
    clear H; have H := H1; clear H1
    by_cases c8 : (wrap64 ((wrap64 (s0_1 + 1)) - 1)) < (s0_0.length : Int)
    ·rw [if_pos c8] at H; have c8b0 : decide ((wrap64 ((wrap64 (s0_1 + 1)) - 1)) < (s0_0.length : Int)) = true := decide_eq_true c8; clear c8; obtain ⟨ji9, hji9⟩ : ∃ j_ : Int, (wrap64 ((wrap64 (s0_1 + 1)) - 1)) = j_ := ⟨_, rfl⟩
     replace H : (if 0 ≤ (ji9) then (if a1 = 0 then (none) else (some (Int.tmod (wrap64 (rd s0_0 (ji9))) a1, (wrap64 (s0_1 + 1))))) else (none)) = some (r1, r2) := by first | (rw [hji9] at H; exact H) | (simp only [hji9] at H ⊢; exact H)
     (try rw [hji9] at c8b0); have hji9w : (IntKind.i64.wrap ((wrap64 (s0_1 + 1)) - 1)) = ji9 := (i64_w _).trans hji9; replace H := zn H; obtain ⟨c10, H⟩ := H; have c10b0 : decide (0 ≤ (ji9)) = true := decide_eq_true c10; clear c10
     by_cases c11 : a1 = 0
     ·rw [if_pos c11] at H; exact absurd H (by simp)
     ·rw [if_neg c11] at H; have c11b0 : (a1 == 0) = false := beq_eq_false_iff_ne.mpr c11; have c11b1 : (a1 != 0) = true := bne_iff_ne.mpr c11; simp only [Option.some.injEq, Prod.mk.injEq] at H; obtain ⟨rfl, rfl⟩ := H; obtain ⟨ASz12_0, cSz12_0, HGz12, hgz12, HSz12_0⟩ := HI0.out; have hcz12_0 := cellS98_0 HGz12; have hcz12_1 := cellS98_1 HGz12; have hfz12_1 := blk_frozen HGz12 1; clear HGz12 hgz12; have p104 : 0 ≤ ((ji9) : Int) := zd; have q104 : (ji9) < (s0_0.length : Int) := zd; obtain ⟨ad104, e104, hx104_0⟩ := Kd.at_int HSz12_0 (ji9) p104 q104; cases e104; replace hx104_0 := pw_cell_below HB.out hx104_0; replace p104 := eq_true p104; replace q104 := eq_true q104; go_wp2
      repeat (go_quiet (fail); try go_wp2)
      go_ret; exact ⟨by first | rfl | (simp [errW_none, errW_some] <;> rfl) | (simp only [← hji9]; first | rfl | (simp [errW_none, errW_some] <;> rfl)) | (simp [*, errW_none, errW_some] <;> rfl), HI0.out.zI, HI0.out.zb HB.out, zq HK.out⟩
    ·rw [if_neg c8] at H; have c8b0 : decide ((wrap64 ((wrap64 (s0_1 + 1)) - 1)) < (s0_0.length : Int)) = false := decide_eq_false c8; clear c8
     by_cases c13 : (s0_0.length : Int) = 0
     ·rw [if_pos c13] at H; exact absurd H (by simp)
     ·rw [if_neg c13] at H; have c13b0 : ((s0_0.length : Int) == 0) = false := beq_eq_false_iff_ne.mpr c13; have c13b1 : ((s0_0.length : Int) != 0) = true := bne_iff_ne.mpr c13; have c13b2 : ¬ (s0_0 = []) := fun h_ => c13 (by rw [h_]; rfl); obtain ⟨ji14, hji14⟩ : ∃ j_ : Int, (Int.tmod (wrap64 ((wrap64 (s0_1 + 1)) - 1)) (s0_0.length : Int)) = j_ := ⟨_, rfl⟩
      replace H : (if 0 ≤ (ji14) then (if (ji14) < (s0_0.length : Int) then (if 0 ≤ (Int.tmod (wrap64 ((wrap64 ((wrap64 ((wrap64 (s0_1 + 1)) - 1)) * 7)) + 3)) (s0_0.length : Int)) then (if (Int.tmod (wrap64 ((wrap64 ((wrap64 ((wrap64 (s0_1 + 1)) - 1)) * 7)) + 3)) (s0_0.length : Int)) < (s0_0.length : Int) then (if a1 = 0 then (none) else (some (Int.tmod (Go.bits .xor .i64 (wrap64 ((wrap64 ((wrap64 ((wrap64 ((wrap64 (rd s0_0 (ji14))) * 131)) + (wrap64 ((wrap64 (rd s0_0 (Int.tmod (wrap64 ((wrap64 ((wrap64 ((wrap64 (s0_1 + 1)) - 1)) * 7)) + 3)) (s0_0.length : Int)))) * 1117)))) + (wrap64 ((wrap64 ((wrap64 (s0_1 + 1)) - 1)) * 29)))) + (wrap64 ((wrap64 (Int.tdiv (wrap64 ((wrap64 (s0_1 + 1)) - 1)) (s0_0.length : Int))) * 53)))) (wrap64 (Int.tdiv (wrap64 ((wrap64 ((wrap64 ((wrap64 ((wrap64 (rd s0_0 (ji14))) * 131)) + (wrap64 ((wrap64 (rd s0_0 (Int.tmod (wrap64 ((wrap64 ((wrap64 ((wrap64 (s0_1 + 1)) - 1)) * 7)) + 3)) (s0_0.length : Int)))) * 1117)))) + (wrap64 ((wrap64 ((wrap64 (s0_1 + 1)) - 1)) * 29)))) + (wrap64 ((wrap64 (Int.tdiv (wrap64 ((wrap64 (s0_1 + 1)) - 1)) (s0_0.length : Int))) * 53)))) 64))) a1, (wrap64 (s0_1 + 1))))) else (none)) else (none)) else (none)) else (none)) = some (r1, r2) := by first | (rw [hji14] at H; exact H) | (simp only [hji14] at H ⊢; exact H)
      replace H := zn H; obtain ⟨c15, H⟩ := H; have c15b0 : decide (0 ≤ (ji14)) = true := decide_eq_true c15; clear c15; replace H := zn H; obtain ⟨c16, H⟩ := H; have c16b0 : decide ((ji14) < (s0_0.length : Int)) = true := decide_eq_true c16; clear c16; obtain ⟨ji17, hji17⟩ : ∃ j_ : Int, (Int.tmod (wrap64 ((wrap64 ((wrap64 ((wrap64 (s0_1 + 1)) - 1)) * 7)) + 3)) (s0_0.length : Int)) = j_ := ⟨_, rfl⟩
      replace H : (if 0 ≤ (ji17) then (if (ji17) < (s0_0.length : Int) then (if a1 = 0 then (none) else (some (Int.tmod (Go.bits .xor .i64 (wrap64 ((wrap64 ((wrap64 ((wrap64 ((wrap64 (rd s0_0 (ji14))) * 131)) + (wrap64 ((wrap64 (rd s0_0 (ji17))) * 1117)))) + (wrap64 ((wrap64 ((wrap64 (s0_1 + 1)) - 1)) * 29)))) + (wrap64 ((wrap64 (Int.tdiv (wrap64 ((wrap64 (s0_1 + 1)) - 1)) (s0_0.length : Int))) * 53)))) (wrap64 (Int.tdiv (wrap64 ((wrap64 ((wrap64 ((wrap64 ((wrap64 (rd s0_0 (ji14))) * 131)) + (wrap64 ((wrap64 (rd s0_0 (ji17))) * 1117)))) + (wrap64 ((wrap64 ((wrap64 (s0_1 + 1)) - 1)) * 29)))) + (wrap64 ((wrap64 (Int.tdiv (wrap64 ((wrap64 (s0_1 + 1)) - 1)) (s0_0.length : Int))) * 53)))) 64))) a1, (wrap64 (s0_1 + 1))))) else (none)) else (none)) = some (r1, r2) := by first | (rw [hji17] at H; exact H) | (simp only [hji17] at H ⊢; exact H)
      replace H := zn H; obtain ⟨c18, H⟩ := H; have c18b0 : decide (0 ≤ (ji17)) = true := decide_eq_true c18; clear c18; replace H := zn H; obtain ⟨c19, H⟩ := H; have c19b0 : decide ((ji17) < (s0_0.length : Int)) = true := decide_eq_true c19; clear c19
      by_cases c20 : a1 = 0
      ·rw [if_pos c20] at H; exact absurd H (by simp)
      ·rw [if_neg c20] at H; have c20b0 : (a1 == 0) = false := beq_eq_false_iff_ne.mpr c20; have c20b1 : (a1 != 0) = true := bne_iff_ne.mpr c20; simp only [Option.some.injEq, Prod.mk.injEq] at H; obtain ⟨rfl, rfl⟩ := H; obtain ⟨ASz21_0, cSz21_0, HGz21, hgz21, HSz21_0⟩ := HI0.out; have hcz21_0 := cellS98_0 HGz21; have hcz21_1 := cellS98_1 HGz21; have hfz21_1 := blk_frozen HGz21 1; clear HGz21 hgz21; have p105 : 0 ≤ ((ji14) : Int) := zd; have q105 : (ji14) < (s0_0.length : Int) := zd; obtain ⟨ad105, e105, hx105_0⟩ := Kd.at_int HSz21_0 (ji14) p105 q105; cases e105; replace hx105_0 := pw_cell_below HB.out hx105_0; replace p105 := eq_true p105; replace q105 := eq_true q105; have p106 : 0 ≤ ((ji17) : Int) := zd; have q106 : (ji17) < (s0_0.length : Int) := zd; obtain ⟨ad106, e106, hx106_0⟩ := Kd.at_int HSz21_0 (ji17) p106 q106; obtain rfl : ad105 = ad106 := (by injection e106); replace hx106_0 := pw_cell_below HB.out hx106_0; replace p106 := eq_true p106; replace q106 := eq_true q106; go_wp2
       repeat (go_quiet (fail); try go_wp2)
       go_ret; exact ⟨by first | rfl | (simp [errW_none, errW_some] <;> rfl) | (simp only [← hji14, ← hji17]; first | rfl | (simp [errW_none, errW_some] <;> rfl)) | (simp [*, errW_none, errW_some] <;> rfl), HI0.out.zI, HI0.out.zb HB.out, zq HK.out⟩
end Go.Proofs.Ytifgcajpkgamgaa.Q
end
section
namespace Go.Proofs.Ytifgcajpkgamgaa.Q
open Go.RowKit Go.Proofs.YtifgcajpkgamgaaW.PrintWords Go.Proofs.YtifgcajpkgamgaaW.PrintLast Go.Proofs.YtifgcajpkgamgaaW.PrintMore
attribute [local go_sem] max2_int min2_int max_two min_two max_three min_three max_four min_four   
set_option linter.unusedVariables false
set_option linter.unusedSimpArgs false
theorem spec_l6Rd_of.mono : ∀ a0 a1 a2 k, LeO (spec_l6Rd_of.f k a0 a1 a2) (spec_l6Rd_of.f (k + 1) a0 a1 a2) := by
  intro a0 a1 a2 k
  unfold spec_l6Rd_of.f
  repeat' first
      | (with_reducible exact spec_l6Rd_pick.mono _ _ _ _)
      | (with_reducible exact LeO.refl _)
      | (with_reducible exact LeO.none _)
      | (with_reducible refine LeO.ite ?_ ?_)
      | (with_reducible refine LeO.bind ?_ (fun _ => ?_))
      | exact spec_l6Rd_pick.mono _ _ _ _
      | exact LeO.none _
      | refine LeO.ite ?_ ?_
      | refine LeO.bind ?_ (fun _ => ?_)
set_option maxHeartbeats 8000000 in
set_option maxRecDepth 100000 in
theorem spec_l6Rd_of.calls (k : Nat) (g : Nat) (s0_0 : List Int) (s0_1 : Int) (A1 : Option Addr) (c1 : Nat) (l1 : List ByteArray) (r1 : ByteArray) (r2 : Int) (w0 w : World) (hI : IsS98 w0 w g s0_0 s0_1) (hB : Below w0.heap.size w0 w) (hr1 : Kd.C Kd.string w A1 l1.length l1) (hc1 : l1.length ≤ c1) (hf1 : ∀ ad, A1 = some ad → 0 < l1.length → ad.block ≠ g) (h : spec_l6Rd_of.f k s0_0 s0_1 l1 = some (r1, r2)) :
    Calls Try.prog 97 #[.pointer (some ⟨g, 0, none⟩), .slice A1 l1.length c1] w fun e w' => e = .returned (.string r1) ∧ IsS98 w0 w' g s0_0 r2 ∧ Below w0.heap.size w0 w' ∧ KeepBut w w' g none := by
 have HR1 := Aside0.mk hr1; have HC1 := Aside0.mk hc1; clear hr1 hc1; have HI0 := Aside0.mk hI; have HK := z0 (KeepBut.refl w g none); have HL := Aside0.mk hB.size; clear hI; have HW0 := Aside0.mk hB.size; have HB := Aside0.mk hB; clear hB; have H : ((spec_l6Rd_pick.f k s0_0 s0_1 (l1.length : Int)).bind fun bt191 => (if 0 ≤ bt191.1 then (if bt191.1 < (l1.length : Int) then (some (rdOf ByteArray.empty l1 bt191.1, bt191.2)) else (none)) else (none))) = some (r1, r2) := h; clear h; replace H := zi H; obtain ⟨⟨t191, t192⟩, A3, H⟩ := H; (try dsimp only at H); replace H := zn H; obtain ⟨c4, H⟩ := H; have c4b0 : decide (0 ≤ t191) = true := decide_eq_true c4; clear c4; replace H := zn H; obtain ⟨c5, H⟩ := H; have c5b0 : decide (t191 < (l1.length : Int)) = true := decide_eq_true c5; clear c5; simp only [Option.some.injEq, Prod.mk.injEq] at H; obtain ⟨rfl, rfl⟩ := H; go_enter Try.func97, Try.ntmps97
 go_wp2_with (first | ((with_reducible refine gc 78 ?_); refine zL (some 9) Try.func78 #[.pointer (some ⟨g, 0, none⟩), .int .i64 (l1.length : Int)] ?_; (with_reducible refine (spec_l6Rd_pick.calls k g s0_0 s0_1 (l1.length : Int) t191 t192 w0 _ ?side1 ?side2 A3.out).mono ?_); (case side1 => repeat (first | (with_reducible first | exact HI0.out | apply IsS98.alloc | apply IsS98.drewN | apply IsS98.drew | apply IsS98.set_1) | exact HI0.out)); (case side2 => repeat (first | (with_reducible first | exact HB.out | apply below_alloc | apply pw_below_drewN | apply below_drew1 | refine below_set ?_ (IsS98.ge HI0.out)) | exact HB.out)); rintro e w6 ⟨rfl, hi, hb, hk⟩; refine zv ?_; replace HK := z0 (KeepBut.trans (zq HK.out) hk (.inl rfl)); replace HB := z0 (hb); replace HI0 := z0 (hi); (try clear hb hk hi); have p193 : 0 ≤ (t191 : Int) := zd; have q193 : t191 < (l1.length : Int) := zd; obtain ⟨ad193, e193, hx193_0⟩ := Kd.at_string HR1.out t191 p193 q193; cases e193; replace hx193_0 := keep_cell HK.out hx193_0 (by first | (rw [add_block]; exact hf1 _ rfl (by omega)) | exact hf1 _ rfl (by omega) | exact hf1 ad193 rfl (by omega)); replace p193 := eq_true p193; replace q193 := eq_true q193))
 go_ret; exact ⟨ze, HI0.out.zI, HI0.out.zb HB.out, zq HK.out⟩
end Go.Proofs.Ytifgcajpkgamgaa.Q
end
section
namespace Go.Proofs.Ytifgcajpkgamgaa.Q
open Go.RowKit Go.Proofs.YtifgcajpkgamgaaW.PrintWords Go.Proofs.YtifgcajpkgamgaaW.PrintLast Go.Proofs.YtifgcajpkgamgaaW.PrintMore
attribute [local go_sem] max2_int min2_int max_two min_two max_three min_three max_four min_four   
set_option linter.unusedVariables false
set_option linter.unusedSimpArgs false
theorem spec_l71Key.mono_l : ∀ k, (∀ y0 y1 y2 y3, LeO (spec_l71Key.l0 k y0 y1 y2 y3) (spec_l71Key.l0 (k + 1) y0 y1 y2 y3))
  | 0 => fun _ _ _ _ r h => by simp [spec_l71Key.l0] at h
  | k + 1 => by
    have ih0 := spec_l71Key.mono_l k
    · intro y0 y1 y2 y3
      unfold spec_l71Key.l0
      repeat' first
      | (with_reducible exact ih0 _ _ _ _)
      | (with_reducible exact spec_l6Rd_of.mono _ _ _ _)
      | (with_reducible exact spec_l6Rd_pick.mono _ _ _ _)
      | (with_reducible exact LeO.refl _)
      | (with_reducible exact LeO.none _)
      | (with_reducible refine LeO.ite ?_ ?_)
      | (with_reducible refine LeO.bind ?_ (fun _ => ?_))
      | exact ih0 _ _ _ _
      | exact spec_l6Rd_of.mono _ _ _ _
      | exact spec_l6Rd_pick.mono _ _ _ _
      | exact LeO.none _
      | refine LeO.ite ?_ ?_
      | refine LeO.bind ?_ (fun _ => ?_)
theorem spec_l71Key.mono : ∀ a0 a1 k, LeO (spec_l71Key.f k a0 a1) (spec_l71Key.f (k + 1) a0 a1) := by
  intro a0 a1 k
  have ih0 := spec_l71Key.mono_l k
  unfold spec_l71Key.f
  repeat' first
      | (with_reducible exact ih0 _ _ _ _)
      | (with_reducible exact spec_l6Rd_of.mono _ _ _ _)
      | (with_reducible exact spec_l6Rd_pick.mono _ _ _ _)
      | (with_reducible exact LeO.refl _)
      | (with_reducible exact LeO.none _)
      | (with_reducible refine LeO.ite ?_ ?_)
      | (with_reducible refine LeO.bind ?_ (fun _ => ?_))
      | exact ih0 _ _ _ _
      | exact spec_l6Rd_of.mono _ _ _ _
      | exact spec_l6Rd_pick.mono _ _ _ _
      | exact LeO.none _
      | refine LeO.ite ?_ ?_
      | refine LeO.bind ?_ (fun _ => ?_)
set_option maxHeartbeats 8000000 in
set_option maxRecDepth 100000 in
theorem spec_l71Key.calls (k : Nat) (g : Nat) (s0_0 : List Int) (s0_1 : Int) (r1 : ByteArray) (r2 : Int) (w0 w : World) (hI : IsS98 w0 w g s0_0 s0_1) (hB : Below w0.heap.size w0 w) (h : spec_l71Key.f k s0_0 s0_1 = some (r1, r2)) :
    Calls Try.prog 86 #[.pointer (some ⟨g, 0, none⟩)] w fun e w' => e = .returned (.string r1) ∧ IsS98 w0 w' g s0_0 r2 ∧ Below w0.heap.size w0 w' ∧ KeepBut w w' g none := by
 have HI0 := Aside0.mk hI; have HK := z0 (KeepBut.refl w g none); have HL := Aside0.mk hB.size; clear hI; have HW0 := Aside0.mk hB.size; have HB := Aside0.mk hB; clear hB; have H : ((spec_l6Rd_pick.f k s0_0 s0_1 6).bind fun bt194 => (spec_l71Key.l0 k (⟨#[]⟩ : ByteArray) bt194.1 s0_0 bt194.2)) = some (r1, r2) := h; clear h; replace H := zi H; obtain ⟨⟨t194, t195⟩, A2, H⟩ := H; (try dsimp only at H); have H' := Aside0.mk H; clear H; go_enter Try.func86, Try.ntmps86
 go_wp2_with (first | ((with_reducible refine gc 78 ?_); refine zL (some 6) Try.func78 #[.pointer (some ⟨g, 0, none⟩), .int .i64 6] ?_; (with_reducible refine (spec_l6Rd_pick.calls k g s0_0 s0_1 6 t194 t195 w0 _ ?side1 ?side2 A2.out).mono ?_); (case side1 => repeat (first | (with_reducible first | exact HI0.out | apply IsS98.alloc | apply IsS98.drewN | apply IsS98.drew | apply IsS98.set_1) | exact HI0.out)); (case side2 => repeat (first | (with_reducible first | exact HB.out | apply below_alloc | apply pw_below_drewN | apply below_drew1 | refine below_set ?_ (IsS98.ge HI0.out)) | exact HB.out)); rintro e w3 ⟨rfl, hi, hb, hk⟩; refine zv ?_; replace HK := z0 (KeepBut.trans (zq HK.out) hk (.inl rfl)); replace HB := z0 (hb); replace HI0 := z0 (hi); (try clear hb hk hi)))
 go_loopg [3, 4] k (fun kq v3 v4 w' => ∃ (x3_1 : ByteArray) (x4_1 : Int) (x1001_1 : Int), v3 = .string x3_1 ∧ v4 = .int .i64 x4_1 ∧ Aside0 (spec_l71Key.l0 kq x3_1 x4_1 s0_0 x1001_1 = some (r1, r2)) ∧ Aside0 (kq ≤ k) ∧ Aside0 (IsS98 w0 w' g s0_0 x1001_1) ∧ Aside0 (KeepBut w w' g none) ∧ Aside0 (Below w0.heap.size w0 w'))
 case atStart => exact ⟨((⟨#[]⟩ : ByteArray)), (t194), (t195), zf, zf, H', ⟨Nat.le_refl _⟩, ⟨HI0.out.zI⟩, ⟨zq HK.out⟩, ⟨HI0.out.zb HB.out⟩⟩
 case round =>
  clear H'
  try clear p2
  obtain ⟨x3_1, x4_1, x1001_1, rfl, rfl, HA, HK1, HI0, HK, HB⟩ := hrel
  cases gk with
  | zero => exact absurd HA.out (by simp [spec_l71Key.l0])
  | succ k1 =>
   have H := HA.out; clear HA; simp only [spec_l71Key.l0] at H
   by_cases c4 : x4_1 > 0
   ·rw [if_pos c4] at H; have c4b0 : decide (0 < x4_1) = true := decide_eq_true c4; clear c4; obtain ⟨y196, hy196⟩ : ∃ y_ : List ByteArray, y_ = (([(⟨#[97]⟩ : ByteArray), (⟨#[98]⟩ : ByteArray), (⟨#[97]⟩ : ByteArray), (⟨#[99]⟩ : ByteArray), (⟨#[100]⟩ : ByteArray)] : List ByteArray)) := ⟨_, rfl⟩; replace H : ((spec_l6Rd_of.f k1 s0_0 x1001_1 y196).bind fun bt199 => (if x3_1.size + bt199.1.size ≤ 9223372036854775807 then (spec_l71Key.l0 k1 (x3_1 ++ bt199.1) (wrap64 (x4_1 - 1)) s0_0 bt199.2) else (none))) = some (r1, r2) := zH2 hy196 H; have Ny196 := Aside0.mk hy196; clear hy196; replace H := zi H; obtain ⟨⟨t199, t200⟩, A5, H⟩ := H; (try dsimp only at H); replace H := zn H; obtain ⟨c6, H⟩ := H; have c6b0 := eq_true c6; have c6b1 : decide (x3_1.size + t199.size ≤ 9223372036854775807) = true := decide_eq_true c6
    try have c6b2 : (9223372036854775807 < x3_1.size + t199.size) = False := eq_false (Nat.not_lt.2 c6)
    have H' := Aside0.mk H; clear H
    go_wp2_with (first | ((with_reducible refine gd 13 ?_); refine Kd.R_lit Kd.string _ 9 ?hg (N := 13) ?hd (xs := ([(⟨#[97]⟩ : ByteArray), (⟨#[98]⟩ : ByteArray), (⟨#[97]⟩ : ByteArray), (⟨#[99]⟩ : ByteArray), (⟨#[100]⟩ : ByteArray)] : List ByteArray)) (inner := [.string (⟨#[97]⟩ : ByteArray), .string (⟨#[98]⟩ : ByteArray), .string (⟨#[97]⟩ : ByteArray), .string (⟨#[99]⟩ : ByteArray), .string (⟨#[100]⟩ : ByteArray)]) (ok := fun _ => True) (okp := fun _ => True) ?hr ?hp (fun _ hk => hk) trivial (Below.refl _ _) (Nat.le_refl _) (by simp) ?_; (case hd => rfl); (case hg => rfl); (case hr => first | (go_simp; done) | (go_simp; rfl)); (case hp => exact (Reps.one (show Kd.M Kd.string _ _ _ (⟨#[97]⟩ : ByteArray) [.string (⟨#[97]⟩ : ByteArray)] from rfl) (Reps.one (show Kd.M Kd.string _ _ _ (⟨#[98]⟩ : ByteArray) [.string (⟨#[98]⟩ : ByteArray)] from rfl) (Reps.one (show Kd.M Kd.string _ _ _ (⟨#[97]⟩ : ByteArray) [.string (⟨#[97]⟩ : ByteArray)] from rfl) (Reps.one (show Kd.M Kd.string _ _ _ (⟨#[99]⟩ : ByteArray) [.string (⟨#[99]⟩ : ByteArray)] from rfl) (Reps.one (show Kd.M Kd.string _ _ _ (⟨#[100]⟩ : ByteArray) [.string (⟨#[100]⟩ : ByteArray)] from rfl) (Reps.none _ _))))))); intro v197 w7 ho8 hb hg_ hnew_; clear hg_ hnew_; (first | rw [← Ny196.out] at ho8 | (simp only [Int.reduceToNat] at ho8; rw [← Ny196.out] at ho8)); have HO198 := z0 (Kd.R_lower ho8 (keep_size (w := w) (g := g) (row := none) (zq HK.out))); replace HK := z0 (KeepBut.trans (zq HK.out) (KeepBut.of_below hb g none) (.inl rfl)); replace HB := z0 (below_step (HI0.out.zb HB.out) hb); replace HI0 := z0 (IsS98.below (HI0.out.zI) hb); clear hb ho8; obtain ⟨Ao9, co9, eo9⟩ := Kd.R_slice HO198.out; subst eo9) | ((with_reducible refine gc 97 ?_); refine zL (some 14) Try.func97 #[.pointer (some ⟨g, 0, none⟩), .slice Ao9 y196.length co9] ?_; (with_reducible refine (spec_l6Rd_of.calls k1 g s0_0 x1001_1 _ _ y196 t199 t200 w0 _ ?side1 ?side2 (zC ((Kd.R_reads' HO198.out).2.2)) ((Kd.R_reads' HO198.out).2.1) (far_slice (IsS98.own_ne HI0.out HO198.out (by decide))) A5.out).mono ?_); (case side1 => repeat (first | (with_reducible first | exact HI0.out | apply IsS98.alloc | apply IsS98.drewN | apply IsS98.drew | apply IsS98.set_1) | exact HI0.out)); (case side2 => repeat (first | (with_reducible first | exact HB.out | apply below_alloc | apply pw_below_drewN | apply below_drew1 | refine below_set ?_ (IsS98.ge HI0.out)) | exact HB.out)); rintro e w10 ⟨rfl, hi, hb, hk⟩; refine zv ?_; replace HO198 := z0 (Kd.R_mono (Kd.R_keep (IsS98.apart (show IsS98 w0 _ g s0_0 x1001_1 from HI0.out.zI) (zr HO198.out) (by decide)) hk (fun _ h => h.2)) (fun _ h => h.1)); replace HK := z0 (KeepBut.trans (zq HK.out) hk (.inl rfl)); replace HB := z0 (hb); replace HI0 := z0 (hi); (try clear hb hk hi)))
    go_roundg k1
    case measure => have := HK1.out; omega
    case rel => exact ⟨(x3_1 ++ t199), (wrap64 (x4_1 - 1)), (t200), zf, zf, H', ⟨by have := HK1.out; omega⟩, ⟨HI0.out.zI⟩, ⟨zq HK.out⟩, ⟨HI0.out.zb HB.out⟩⟩
   ·rw [if_neg c4] at H; have c4b0 : decide (0 < x4_1) = false := decide_eq_false c4; clear c4; simp only [Option.some.injEq, Prod.mk.injEq] at H; obtain ⟨rfl, rfl⟩ := H; go_wp2; go_ret; exact ⟨ze, HI0.out.zI, HI0.out.zb HB.out, zq HK.out⟩
end Go.Proofs.Ytifgcajpkgamgaa.Q
end
section
namespace Go.Proofs.Ytifgcajpkgamgaa.Q
open Go.RowKit Go.Proofs.YtifgcajpkgamgaaW.PrintWords Go.Proofs.YtifgcajpkgamgaaW.PrintLast Go.Proofs.YtifgcajpkgamgaaW.PrintMore
attribute [local go_sem] max2_int min2_int max_two min_two max_three min_three max_four min_four   
set_option linter.unusedVariables false
set_option linter.unusedSimpArgs false
theorem spec_l71Near.mono_l : ∀ k, (∀ y0 y1 y2 y3, LeO (spec_l71Near.j0 k y0 y1 y2 y3) (spec_l71Near.j0 (k + 1) y0 y1 y2 y3))
  | 0 => fun _ _ _ _ r h => by simp [spec_l71Near.j0] at h
  | k + 1 => by
    have ih0 := spec_l71Near.mono_l k
    · intro y0 y1 y2 y3
      unfold spec_l71Near.j0
      repeat' first
      | (with_reducible exact ih0 _ _ _ _)
      | (with_reducible exact spec_l6Rd_of.mono _ _ _ _)
      | (with_reducible exact spec_l6Rd_pick.mono _ _ _ _)
      | (with_reducible exact spec_l71Key.mono _ _ _)
      | (with_reducible exact LeO.refl _)
      | (with_reducible exact LeO.none _)
      | (with_reducible refine LeO.ite ?_ ?_)
      | (with_reducible refine LeO.bind ?_ (fun _ => ?_))
      | exact ih0 _ _ _ _
      | exact spec_l6Rd_of.mono _ _ _ _
      | exact spec_l6Rd_pick.mono _ _ _ _
      | exact spec_l71Key.mono _ _ _
      | exact LeO.none _
      | refine LeO.ite ?_ ?_
      | refine LeO.bind ?_ (fun _ => ?_)
theorem spec_l71Near.mono : ∀ a0 a1 a2 k, LeO (spec_l71Near.f k a0 a1 a2) (spec_l71Near.f (k + 1) a0 a1 a2) := by
  intro a0 a1 a2 k
  have ih0 := spec_l71Near.mono_l k
  unfold spec_l71Near.f
  repeat' first
      | (with_reducible exact ih0 _ _ _ _)
      | (with_reducible exact spec_l6Rd_of.mono _ _ _ _)
      | (with_reducible exact spec_l6Rd_pick.mono _ _ _ _)
      | (with_reducible exact spec_l71Key.mono _ _ _)
      | (with_reducible exact LeO.refl _)
      | (with_reducible exact LeO.none _)
      | (with_reducible refine LeO.ite ?_ ?_)
      | (with_reducible refine LeO.bind ?_ (fun _ => ?_))
      | exact ih0 _ _ _ _
      | exact spec_l6Rd_of.mono _ _ _ _
      | exact spec_l6Rd_pick.mono _ _ _ _
      | exact spec_l71Key.mono _ _ _
      | exact LeO.none _
      | refine LeO.ite ?_ ?_
      | refine LeO.bind ?_ (fun _ => ?_)
set_option maxHeartbeats 8000000 in
set_option maxRecDepth 100000 in
theorem spec_l71Near.calls (k : Nat) (g : Nat) (s0_0 : List Int) (s0_1 : Int) (A1 : Option Addr) (c1 : Nat) (l1 : List ByteArray) (r1 : ByteArray) (r2 : Int) (w0 w : World) (hI : IsS98 w0 w g s0_0 s0_1) (hB : Below w0.heap.size w0 w) (hr1 : Kd.C Kd.string w A1 l1.length l1) (hc1 : l1.length ≤ c1) (hf1 : ∀ ad, A1 = some ad → 0 < l1.length → ad.block ≠ g) (h : spec_l71Near.f k s0_0 s0_1 l1 = some (r1, r2)) :
    Calls Try.prog 66 #[.pointer (some ⟨g, 0, none⟩), .slice A1 l1.length c1] w fun e w' => e = .returned (.string r1) ∧ IsS98 w0 w' g s0_0 r2 ∧ Below w0.heap.size w0 w' ∧ KeepBut w w' g none := by
 have HR1 := Aside0.mk hr1; have HC1 := Aside0.mk hc1; clear hr1 hc1; have HI0 := Aside0.mk hI; have HK := z0 (KeepBut.refl w g none); have HL := Aside0.mk hB.size; clear hI; have HW0 := Aside0.mk hB.size; have HB := Aside0.mk hB; clear hB; have H : (if (l1.length : Int) = 0 then (spec_l71Near.j0 k l1 true s0_0 s0_1) else ((spec_l6Rd_pick.f k s0_0 s0_1 4).bind fun bt201 => (spec_l71Near.j0 k l1 (bt201.1 == 0) s0_0 bt201.2))) = some (r1, r2) := h; clear h; have HC3 := Aside0.mk H; clear H; go_enter Try.func66, Try.ntmps66
 go_upto_region 1 with (fail)
 go_cut [13] (fun v13 wc => ∃ (kq : Nat) (x13_2 : Bool) (x1001_2 : Int), v13 = .bool x13_2 ∧ Aside0 (spec_l71Near.j0 kq l1 x13_2 s0_0 x1001_2 = some (r1, r2)) ∧ Aside0 (kq ≤ k) ∧ Aside0 (IsS98 w0 wc g s0_0 x1001_2) ∧ Aside0 (KeepBut w wc g none) ∧ Aside0 (Below w0.heap.size w0 wc))
 case first =>
  have H := HC3.out; clear HC3
  by_cases c4 : (l1.length : Int) = 0
  ·rw [if_pos c4] at H; have c4b0 : ((l1.length : Int) == 0) = true := beq_iff_eq.mpr c4; have c4b1 : ((l1.length : Int) != 0) = false := bne_eq_false_iff_eq.mpr c4; clear c4; (first | rw [c4b0] | (simp only [i64_w, i32_w]; rw [c4b0]) | simp only [*, Bool.not_true, Bool.not_false] | skip); have H' := Aside0.mk H; clear H; go_wp2; go_meet
   case rel => exact ⟨_, (true), (s0_1), zf, H', ⟨by first | omega | exact Nat.le_refl _⟩, ⟨HI0.out.zI⟩, ⟨zq HK.out⟩, ⟨HI0.out.zb HB.out⟩⟩
  ·rw [if_neg c4] at H; have c4b0 : ((l1.length : Int) == 0) = false := beq_eq_false_iff_ne.mpr c4; have c4b1 : ((l1.length : Int) != 0) = true := bne_iff_ne.mpr c4; have c4b2 : ¬ (l1 = []) := fun h_ => c4 (by rw [h_]; rfl); (first | rw [c4b0] | (simp only [i64_w, i32_w]; rw [c4b0]) | simp only [*, Bool.not_true, Bool.not_false] | skip); replace H := zi H; obtain ⟨⟨t201, t202⟩, A5, H⟩ := H; (try dsimp only at H); have H' := Aside0.mk H; clear H
   go_wp2_with (first | (go_at_call 78; (with_reducible refine (spec_l6Rd_pick.calls k g s0_0 s0_1 4 t201 t202 w0 _ ?side1 ?side2 A5.out).mono ?_); (case side1 => repeat (first | (with_reducible first | exact HI0.out | apply IsS98.alloc | apply IsS98.drewN | apply IsS98.drew | apply IsS98.set_1) | exact HI0.out)); (case side2 => repeat (first | (with_reducible first | exact HB.out | apply below_alloc | apply pw_below_drewN | apply below_drew1 | refine below_set ?_ (IsS98.ge HI0.out)) | exact HB.out)); rintro e w6 ⟨rfl, hi, hb, hk⟩; replace HK := z0 (KeepBut.trans (zq HK.out) hk (.inl rfl)); replace HB := z0 (hb); replace HI0 := z0 (hi); (try clear hb hk hi)))
   go_meet
   case rel => exact ⟨_, ((t201 == 0)), (t202), zf, H', ⟨by first | omega | exact Nat.le_refl _⟩, ⟨HI0.out.zI⟩, ⟨zq HK.out⟩, ⟨HI0.out.zb HB.out⟩⟩
 case rest =>
  clear HC3
  try clear c1
  try clear p2
  try clear c4
  try clear c4b0
  try clear c4b1
  try clear c4b2
  try clear c6
  obtain ⟨kq, x13_2, x1001_2, rfl, HA, HJ2, HI0, HK, HB⟩ := hcut
  cases kq with
  | zero => exact absurd HA.out (by simp [spec_l71Near.j0])
  | succ kj2 =>
   have H := HA.out; clear HA; simp only [spec_l71Near.j0] at H
   by_cases c7 : x13_2 = true
   ·subst c7
    have H1 : ((spec_l71Key.f kj2 s0_0 x1001_2).bind fun bt203 => (some (bt203.1, bt203.2))) = some (r1, r2) := by rw [if_pos rfl] at H; exact H
    clear H; have H := H1; clear H1; replace H := zi H; obtain ⟨⟨t203, t204⟩, A8, H⟩ := H; (try dsimp only at H); simp only [Option.some.injEq, Prod.mk.injEq] at H; obtain ⟨rfl, rfl⟩ := H
    go_wp2_with (first | ((with_reducible refine gc 86 ?_); refine zL (some 15) Try.func86 #[.pointer (some ⟨g, 0, none⟩)] ?_; (with_reducible refine (spec_l71Key.calls kj2 g s0_0 x1001_2 t203 t204 w0 _ ?side1 ?side2 A8.out).mono ?_); (case side1 => repeat (first | (with_reducible first | exact HI0.out | apply IsS98.alloc | apply IsS98.drewN | apply IsS98.drew | apply IsS98.set_1) | exact HI0.out)); (case side2 => repeat (first | (with_reducible first | exact HB.out | apply below_alloc | apply pw_below_drewN | apply below_drew1 | refine below_set ?_ (IsS98.ge HI0.out)) | exact HB.out)); rintro e w9 ⟨rfl, hi, hb, hk⟩; refine zv ?_; replace HK := z0 (KeepBut.trans (zq HK.out) hk (.inl rfl)); replace HB := z0 (hb); replace HI0 := z0 (hi); (try clear hb hk hi)))
    go_ret; exact ⟨ze, HI0.out.zI, HI0.out.zb HB.out, zq HK.out⟩
   ·replace c7 := Bool.eq_false_iff.mpr c7; subst c7
    have H1 : ((spec_l6Rd_pick.f kj2 s0_0 x1001_2 (l1.length : Int)).bind fun bt205 => (if 0 ≤ bt205.1 then (if bt205.1 < (l1.length : Int) then ((spec_l6Rd_pick.f kj2 s0_0 bt205.2 4).bind fun bt208 => (if bt208.1 = 0 then ((spec_l6Rd_pick.f kj2 s0_0 bt208.2 (wrap64 (((rdOf ByteArray.empty l1 bt205.1).size : Int) + 1))).bind fun bt210 => (if 0 ≤ bt210.1 then (if bt210.1 ≤ ((rdOf ByteArray.empty l1 bt205.1).size : Int) then (some ((rdOf ByteArray.empty l1 bt205.1).extract 0 (bt210.1 : Int).toNat, bt210.2)) else (none)) else (none))) else (if bt208.1 = 1 then (if ((rdOf ByteArray.empty l1 bt205.1).size : Int) < 5 then ((spec_l6Rd_of.f kj2 s0_0 bt208.2 (([(⟨#[97]⟩ : ByteArray), (⟨#[98]⟩ : ByteArray), (⟨#[100]⟩ : ByteArray)] : List ByteArray))).bind fun bt215 => (if (rdOf ByteArray.empty l1 bt205.1).size + bt215.1.size ≤ 9223372036854775807 then (some ((rdOf ByteArray.empty l1 bt205.1) ++ bt215.1, bt215.2)) else (none))) else (some (rdOf ByteArray.empty l1 bt205.1, bt208.2))) else (some (rdOf ByteArray.empty l1 bt205.1, bt208.2))))) else (none)) else (none))) = some (r1, r2) := by rw [if_neg (show ¬ (false = true) by decide)] at H; exact H
    clear H; have H := H1; clear H1; replace H := zi H; obtain ⟨⟨t205, t206⟩, A10, H⟩ := H; (try dsimp only at H); replace H := zn H; obtain ⟨c11, H⟩ := H; have c11b0 : decide (0 ≤ t205) = true := decide_eq_true c11; clear c11; replace H := zn H; obtain ⟨c12, H⟩ := H; have c12b0 : decide (t205 < (l1.length : Int)) = true := decide_eq_true c12; clear c12; replace H := zi H; obtain ⟨⟨t208, t209⟩, A13, H⟩ := H; (try dsimp only at H)
    go_upto_if 25 with (first | ((with_reducible refine gc 78 ?_); refine zL (some 20) Try.func78 #[.pointer (some ⟨g, 0, none⟩), .int .i64 (l1.length : Int)] ?_; (with_reducible refine (spec_l6Rd_pick.calls kj2 g s0_0 x1001_2 (l1.length : Int) t205 t206 w0 _ ?side1 ?side2 A10.out).mono ?_); (case side1 => repeat (first | (with_reducible first | exact HI0.out | apply IsS98.alloc | apply IsS98.drewN | apply IsS98.drew | apply IsS98.set_1) | exact HI0.out)); (case side2 => repeat (first | (with_reducible first | exact HB.out | apply below_alloc | apply pw_below_drewN | apply below_drew1 | refine below_set ?_ (IsS98.ge HI0.out)) | exact HB.out)); rintro e w14 ⟨rfl, hi, hb, hk⟩; refine zv ?_; replace HK := z0 (KeepBut.trans (zq HK.out) hk (.inl rfl)); replace HB := z0 (hb); replace HI0 := z0 (hi); (try clear hb hk hi); have p207 : 0 ≤ (t205 : Int) := zd; have q207 : t205 < (l1.length : Int) := zd; obtain ⟨ad207, e207, hx207_0⟩ := Kd.at_string HR1.out t205 p207 q207; cases e207; replace hx207_0 := keep_cell HK.out hx207_0 (by first | (rw [add_block]; exact hf1 _ rfl (by omega)) | exact hf1 _ rfl (by omega) | exact hf1 ad207 rfl (by omega)); replace p207 := eq_true p207; replace q207 := eq_true q207) | ((with_reducible refine gc 78 ?_); refine zL (some 24) Try.func78 #[.pointer (some ⟨g, 0, none⟩), .int .i64 4] ?_; (with_reducible refine (spec_l6Rd_pick.calls kj2 g s0_0 t206 4 t208 t209 w0 _ ?side1 ?side2 A13.out).mono ?_); (case side1 => repeat (first | (with_reducible first | exact HI0.out | apply IsS98.alloc | apply IsS98.drewN | apply IsS98.drew | apply IsS98.set_1) | exact HI0.out)); (case side2 => repeat (first | (with_reducible first | exact HB.out | apply below_alloc | apply pw_below_drewN | apply below_drew1 | refine below_set ?_ (IsS98.ge HI0.out)) | exact HB.out)); rintro e w15 ⟨rfl, hi, hb, hk⟩; refine zv ?_; replace HK := z0 (KeepBut.trans (zq HK.out) hk (.inl rfl)); replace HB := z0 (hb); replace HI0 := z0 (hi); (try clear hb hk hi)))
    by_cases c16 : t208 = 0
    ·rw [if_pos c16] at H; have c16b0 : (t208 == 0) = true := beq_iff_eq.mpr c16; have c16b1 : (t208 != 0) = false := bne_eq_false_iff_eq.mpr c16; clear c16; (first | rw [c16b0] | (simp only [i64_w, i32_w]; rw [c16b0]) | simp only [*, Bool.not_true, Bool.not_false] | skip); replace H := zi H; obtain ⟨⟨t210, t211⟩, A17, H⟩ := H; (try dsimp only at H); replace H := zn H; obtain ⟨c18, H⟩ := H; have c18b0 := eq_true c18; have c18b1 : decide (0 ≤ t210) = true := decide_eq_true c18; clear c18; replace H := zn H; obtain ⟨c19, H⟩ := H; have c19b0 := eq_true c19; have c19b1 : decide (t210 ≤ ((rdOf ByteArray.empty l1 t205).size : Int)) = true := decide_eq_true c19; clear c19; simp only [Option.some.injEq, Prod.mk.injEq] at H; obtain ⟨rfl, rfl⟩ := H
     go_wp2_with (first | ((with_reducible refine gc 78 ?_); refine zL (some 32) Try.func78 #[.pointer (some ⟨g, 0, none⟩), .int .i64 (wrap64 (((rdOf ByteArray.empty l1 t205).size : Int) + 1))] ?_; (with_reducible refine (spec_l6Rd_pick.calls kj2 g s0_0 t209 (wrap64 (((rdOf ByteArray.empty l1 t205).size : Int) + 1)) t210 t211 w0 _ ?side1 ?side2 A17.out).mono ?_); (case side1 => repeat (first | (with_reducible first | exact HI0.out | apply IsS98.alloc | apply IsS98.drewN | apply IsS98.drew | apply IsS98.set_1) | exact HI0.out)); (case side2 => repeat (first | (with_reducible first | exact HB.out | apply below_alloc | apply pw_below_drewN | apply below_drew1 | refine below_set ?_ (IsS98.ge HI0.out)) | exact HB.out)); rintro e w20 ⟨rfl, hi, hb, hk⟩; refine zv ?_; replace HK := z0 (KeepBut.trans (zq HK.out) hk (.inl rfl)); replace HB := z0 (hb); replace HI0 := z0 (hi); (try clear hb hk hi)))
     go_ret; exact ⟨ze, HI0.out.zI, HI0.out.zb HB.out, zq HK.out⟩
    ·rw [if_neg c16] at H; have c16b0 : (t208 == 0) = false := beq_eq_false_iff_ne.mpr c16; have c16b1 : (t208 != 0) = true := bne_iff_ne.mpr c16; (first | rw [c16b0] | (simp only [i64_w, i32_w]; rw [c16b0]) | simp only [*, Bool.not_true, Bool.not_false] | skip)
     by_cases c21 : t208 = 1
     ·rw [if_pos c21] at H; have c21b0 : (t208 == 1) = true := beq_iff_eq.mpr c21; have c21b1 : (t208 != 1) = false := bne_eq_false_iff_eq.mpr c21; clear c21
      by_cases c22 : ((rdOf ByteArray.empty l1 t205).size : Int) < 5
      ·rw [if_pos c22] at H; have c22b0 : decide (((rdOf ByteArray.empty l1 t205).size : Int) < 5) = true := decide_eq_true c22; have c22b1 : decide ((rdOf ByteArray.empty l1 t205).size < 5) = true := decide_eq_true (by omega); clear c22; obtain ⟨y212, hy212⟩ : ∃ y_ : List ByteArray, y_ = (([(⟨#[97]⟩ : ByteArray), (⟨#[98]⟩ : ByteArray), (⟨#[100]⟩ : ByteArray)] : List ByteArray)) := ⟨_, rfl⟩; replace H : ((spec_l6Rd_of.f kj2 s0_0 t209 y212).bind fun bt215 => (if (rdOf ByteArray.empty l1 t205).size + bt215.1.size ≤ 9223372036854775807 then (some ((rdOf ByteArray.empty l1 t205) ++ bt215.1, bt215.2)) else (none))) = some (r1, r2) := zH2 hy212 H; have Ny212 := Aside0.mk hy212; clear hy212; replace H := zi H; obtain ⟨⟨t215, t216⟩, A23, H⟩ := H; (try dsimp only at H); replace H := zn H; obtain ⟨c24, H⟩ := H; have c24b0 := eq_true c24; have c24b1 : decide ((rdOf ByteArray.empty l1 t205).size + t215.size ≤ 9223372036854775807) = true := decide_eq_true c24
       try have c24b2 : (9223372036854775807 < (rdOf ByteArray.empty l1 t205).size + t215.size) = False := eq_false (Nat.not_lt.2 c24)
       simp only [Option.some.injEq, Prod.mk.injEq] at H; obtain ⟨rfl, rfl⟩ := H
       go_wp2_with (first | ((with_reducible refine gd 41 ?_); refine Kd.R_lit Kd.string _ 9 ?hg (N := 41) ?hd (xs := ([(⟨#[97]⟩ : ByteArray), (⟨#[98]⟩ : ByteArray), (⟨#[100]⟩ : ByteArray)] : List ByteArray)) (inner := [.string (⟨#[97]⟩ : ByteArray), .string (⟨#[98]⟩ : ByteArray), .string (⟨#[100]⟩ : ByteArray)]) (ok := fun _ => True) (okp := fun _ => True) ?hr ?hp (fun _ hk => hk) trivial (Below.refl _ _) (Nat.le_refl _) (by simp) ?_; (case hd => rfl); (case hg => rfl); (case hr => first | (go_simp; done) | (go_simp; rfl)); (case hp => exact (Reps.one (show Kd.M Kd.string _ _ _ (⟨#[97]⟩ : ByteArray) [.string (⟨#[97]⟩ : ByteArray)] from rfl) (Reps.one (show Kd.M Kd.string _ _ _ (⟨#[98]⟩ : ByteArray) [.string (⟨#[98]⟩ : ByteArray)] from rfl) (Reps.one (show Kd.M Kd.string _ _ _ (⟨#[100]⟩ : ByteArray) [.string (⟨#[100]⟩ : ByteArray)] from rfl) (Reps.none _ _))))); intro v213 w25 ho26 hb hg_ hnew_; clear hg_ hnew_; (first | rw [← Ny212.out] at ho26 | (simp only [Int.reduceToNat] at ho26; rw [← Ny212.out] at ho26)); have HO214 := z0 (Kd.R_lower ho26 (keep_size (w := w) (g := g) (row := none) (zq HK.out))); replace HK := z0 (KeepBut.trans (zq HK.out) (KeepBut.of_below hb g none) (.inl rfl)); replace HB := z0 (below_step (HI0.out.zb HB.out) hb); replace HI0 := z0 (IsS98.below (HI0.out.zI) hb); clear hb ho26; obtain ⟨Ao27, co27, eo27⟩ := Kd.R_slice HO214.out; subst eo27) | ((with_reducible refine gc 97 ?_); refine zL (some 42) Try.func97 #[.pointer (some ⟨g, 0, none⟩), .slice Ao27 y212.length co27] ?_; (with_reducible refine (spec_l6Rd_of.calls kj2 g s0_0 t209 _ _ y212 t215 t216 w0 _ ?side1 ?side2 (zC ((Kd.R_reads' HO214.out).2.2)) ((Kd.R_reads' HO214.out).2.1) (far_slice (IsS98.own_ne HI0.out HO214.out (by decide))) A23.out).mono ?_); (case side1 => repeat (first | (with_reducible first | exact HI0.out | apply IsS98.alloc | apply IsS98.drewN | apply IsS98.drew | apply IsS98.set_1) | exact HI0.out)); (case side2 => repeat (first | (with_reducible first | exact HB.out | apply below_alloc | apply pw_below_drewN | apply below_drew1 | refine below_set ?_ (IsS98.ge HI0.out)) | exact HB.out)); rintro e w28 ⟨rfl, hi, hb, hk⟩; refine zv ?_; replace HO214 := z0 (Kd.R_mono (Kd.R_keep (IsS98.apart (show IsS98 w0 _ g s0_0 t209 from HI0.out.zI) (zr HO214.out) (by decide)) hk (fun _ h => h.2)) (fun _ h => h.1)); replace HK := z0 (KeepBut.trans (zq HK.out) hk (.inl rfl)); replace HB := z0 (hb); replace HI0 := z0 (hi); (try clear hb hk hi)))
       go_ret; exact ⟨ze, HI0.out.zI, HI0.out.zb HB.out, zq HK.out⟩
      ·rw [if_neg c22] at H; have c22b0 : decide (((rdOf ByteArray.empty l1 t205).size : Int) < 5) = false := decide_eq_false c22; have c22b1 : decide ((rdOf ByteArray.empty l1 t205).size < 5) = false := decide_eq_false (by omega); clear c22; simp only [Option.some.injEq, Prod.mk.injEq] at H; obtain ⟨rfl, rfl⟩ := H; go_wp2; go_ret; exact ⟨ze, HI0.out.zI, HI0.out.zb HB.out, zq HK.out⟩
     ·rw [if_neg c21] at H; have c21b0 : (t208 == 1) = false := beq_eq_false_iff_ne.mpr c21; have c21b1 : (t208 != 1) = true := bne_iff_ne.mpr c21; simp only [Option.some.injEq, Prod.mk.injEq] at H; obtain ⟨rfl, rfl⟩ := H; go_wp2; go_ret; exact ⟨ze, HI0.out.zI, HI0.out.zb HB.out, zq HK.out⟩
end Go.Proofs.Ytifgcajpkgamgaa.Q
end
section
namespace Go.Proofs.Ytifgcajpkgamgaa.Q
open Go.RowKit Go.Proofs.YtifgcajpkgamgaaW.PrintWords Go.Proofs.YtifgcajpkgamgaaW.PrintLast Go.Proofs.YtifgcajpkgamgaaW.PrintMore
attribute [local go_sem] max2_int min2_int max_two min_two max_three min_three max_four min_four   
set_option linter.unusedVariables false
set_option linter.unusedSimpArgs false
theorem spec_l2Put.mono_l : ∀ k, (∀ y0 y1 y2 y3 y4, LeO (spec_l2Put.l0 k y0 y1 y2 y3 y4) (spec_l2Put.l0 (k + 1) y0 y1 y2 y3 y4))
  | 0 => fun _ _ _ _ _ r h => by simp [spec_l2Put.l0] at h
  | k + 1 => by
    have ih0 := spec_l2Put.mono_l k
    · intro y0 y1 y2 y3 y4
      unfold spec_l2Put.l0
      repeat' first
      | (with_reducible exact ih0 _ _ _ _ _)
      | (with_reducible exact LeO.refl _)
      | (with_reducible exact LeO.none _)
      | (with_reducible refine LeO.ite ?_ ?_)
      | (with_reducible refine LeO.bind ?_ (fun _ => ?_))
      | exact ih0 _ _ _ _ _
      | exact LeO.none _
      | refine LeO.ite ?_ ?_
      | refine LeO.bind ?_ (fun _ => ?_)
theorem spec_l2Put.mono : ∀ a0 a1 k, LeO (spec_l2Put.f k a0 a1) (spec_l2Put.f (k + 1) a0 a1) := by
  intro a0 a1 k
  have ih0 := spec_l2Put.mono_l k
  unfold spec_l2Put.f
  repeat' first
      | (with_reducible exact ih0 _ _ _ _ _)
      | (with_reducible exact LeO.refl _)
      | (with_reducible exact LeO.none _)
      | (with_reducible refine LeO.ite ?_ ?_)
      | (with_reducible refine LeO.bind ?_ (fun _ => ?_))
      | exact ih0 _ _ _ _ _
      | exact LeO.none _
      | refine LeO.ite ?_ ?_
      | refine LeO.bind ?_ (fun _ => ?_)
set_option maxHeartbeats 8000000 in
set_option maxRecDepth 100000 in
theorem spec_l2Put.calls (k : Nat) (P0_ : Nat → Prop) (u9000_ : Value) (l0 : List ByteArray) (a1 : ByteArray) (r : List ByteArray) (w0 w : World) (hB : Below w0.heap.size w0 w) (ho0 : Kd.R Kd.string 9 w w0.heap.size P0_ u9000_ l0) (h : spec_l2Put.f k l0 a1 = some r) :
    Calls Try.prog 111 #[u9000_, .string a1] w fun e w' => ∃ v0_ : Value, e = .returned (v0_) ∧ Kd.R Kd.string 9 w' w0.heap.size (fun k_ => (P0_ k_ ∨ w.heap.size ≤ k_)) v0_ r ∧ Below w0.heap.size w0 w' ∧ Kept w w' (fun k_ => P0_ k_) := by
 have HO0 := z0 (show Kd.R Kd.string 9 w w0.heap.size (fun k_ => (P0_ k_ ∨ w.heap.size ≤ k_)) u9000_ l0 from Kd.R_mono ho0 (fun k_ hk => (.inl hk))); have HK := z0 (Kept.refl w (fun k_ => P0_ k_)); have HW0 := Aside0.mk hB.size; have HB := Aside0.mk hB; clear hB; have H : (spec_l2Put.l0 k l0 a1 (([] : List ByteArray)) false 0) = some r := h; clear h; obtain ⟨y217, hy217⟩ : ∃ y_ : List ByteArray, y_ = (([] : List ByteArray)) := ⟨_, rfl⟩; replace H : (spec_l2Put.l0 k l0 a1 y217 false 0) = some r := zH2 hy217 H; have Ny217 := Aside0.mk hy217; clear hy217; have H' := Aside0.mk H; clear H; go_enter Try.func111, Try.ntmps111
 go_wp2_with (first | ((with_reducible refine gd 8 ?_); refine Kd.R_lit Kd.string _ 9 ?hg (N := 8) ?hd (xs := ([] : List ByteArray)) (inner := []) (ok := fun _ => True) (okp := fun _ => True) ?hr ?hp (fun _ hk => hk) trivial (Below.refl _ _) (Nat.le_refl _) (by simp) ?_; (case hd => rfl); (case hg => rfl); (case hr => first | (go_simp; done) | (go_simp; rfl)); (case hp => exact (Reps.none _ _)); intro v218 w3 ho4 hb hg_ hnew_; clear hg_ hnew_; (first | rw [← Ny217.out] at ho4 | (simp only [Int.reduceToNat] at ho4; rw [← Ny217.out] at ho4)); have HO219 := z0 (Kd.R_lower (Kd.R_new' (Kd.R_newM (M := fun k_ => (P0_ k_ ∨ w.heap.size ≤ k_)) ho4 (by first | exact HK.out.1 | exact (show Kept w _ (fun k_ => P0_ k_) from zk HK.out).1) (fun k_ h_ => .inr h_)) (Kd.R_lt (zr HO0.out))) (below_size (zb HB.out))); replace HO0 := z0 (Kd.R_elder' (zr HO0.out) (Kd.R_base ho4) hb); replace HK := z0 (Kept.below (zk HK.out) hb); replace HB := zH HB hb; clear hb ho4))
 go_loopg [5, 6, 7] k (fun kq v5 v6 v7 w' => ∃ (x5_1 : List ByteArray) (x6_1 : Bool) (x7_1 : Int), v6 = .bool x6_1 ∧ v7 = .int .i64 x7_1 ∧ Aside0 (spec_l2Put.l0 kq l0 a1 x5_1 x6_1 x7_1 = some r) ∧ Aside0 (kq ≤ k) ∧ Aside0 (Kd.R Kd.string 9 w' w0.heap.size (fun k_ => (P0_ k_ ∨ w.heap.size ≤ k_) ∧ some k_ ≠ (v5 : Value).ownBlock) u9000_ l0) ∧ Aside0 (Kd.R Kd.string 9 w' w0.heap.size (fun k_ => (P0_ k_ ∨ w.heap.size ≤ k_) ∧ some k_ ≠ (u9000_ : Value).ownBlock) v5 x5_1) ∧ Aside0 (Kept w w' (fun k_ => P0_ k_)) ∧ Aside0 (Below w0.heap.size w0 w'))
 case atStart => exact ⟨(y217), (false), (0), zf, zf, H', ⟨Nat.le_refl _⟩, ⟨zr HO0.out⟩, ⟨Kd.R_mono (zr HO219.out) (fun _ hk => ⟨hk.1.1, hk.2⟩)⟩, ⟨zk HK.out⟩, ⟨zb HB.out⟩⟩
 case round =>
  clear H'
  try clear c1
  try clear p2
  obtain ⟨x5_1, x6_1, x7_1, rfl, rfl, HA, HK1, HO_0, HO_5, HK, HB⟩ := hrel
  cases gk with
  | zero => exact absurd HA.out (by simp [spec_l2Put.l0])
  | succ k1 =>
   have H := HA.out; clear HA; simp only [spec_l2Put.l0] at H
   by_cases c5 : x7_1 < (l0.length : Int)
   ·rw [if_pos c5] at H; have c5b0 : decide (x7_1 < (l0.length : Int)) = true := decide_eq_true c5; clear c5; replace H := zn H; obtain ⟨c6, H⟩ := H; have c6b0 : decide (0 ≤ x7_1) = true := decide_eq_true c6; clear c6
    by_cases c7 : (rdOf ByteArray.empty l0 x7_1).toList = a1.toList
    ·rw [if_pos c7] at H; have c7b0 : ((rdOf ByteArray.empty l0 x7_1).toList == a1.toList) = true := beq_iff_eq.mpr c7; have c7b1 : ((rdOf ByteArray.empty l0 x7_1).toList != a1.toList) = false := bne_eq_false_iff_eq.mpr c7; clear c7; obtain rfl := Option.some.inj H; obtain ⟨Ao8, co8, eo8⟩ := Kd.R_slice HO_0.out; subst eo8; have p223 : 0 ≤ (x7_1 : Int) := zd; have q223 : x7_1 < (l0.length : Int) := zd; obtain ⟨ad223, e223, hx223_0⟩ := Kd.at_string (Kd.R_reads' HO_0.out).2.2 x7_1 p223 q223; cases e223; replace p223 := eq_true p223; replace q223 := eq_true q223; go_wp2; go_ret; exact ⟨_, ze, Kd.R_mono (zr HO_0.out) (fun _ hk => hk.1), zb HB.out, zk HK.out⟩
    ·rw [if_neg c7] at H; have c7b0 : ((rdOf ByteArray.empty l0 x7_1).toList == a1.toList) = false := beq_eq_false_iff_ne.mpr c7; have c7b1 : ((rdOf ByteArray.empty l0 x7_1).toList != a1.toList) = true := bne_iff_ne.mpr c7
     by_cases c9 : x6_1 = true
     ·subst c9
      have H1 : (if x5_1.length < 8796093022208 then (spec_l2Put.l0 k1 l0 a1 (x5_1 ++ [rdOf ByteArray.empty l0 x7_1]) true (wrap64 (x7_1 + 1))) else (none)) = some r := by rw [if_pos rfl] at H; exact H
      clear H; have H := H1; clear H1; replace H := zn H; obtain ⟨c10, H⟩ := H; have LMc10 := Aside0.mk c10; clear c10; obtain ⟨y225, hy225⟩ : ∃ y_ : List ByteArray, y_ = (x5_1 ++ [rdOf ByteArray.empty l0 x7_1]) := ⟨_, rfl⟩; replace H : (spec_l2Put.l0 k1 l0 a1 y225 true (wrap64 (x7_1 + 1))) = some r := zH2 hy225 H; have Ny225 := Aside0.mk hy225; clear hy225; have H' := Aside0.mk H; clear H; obtain ⟨Ao11, co11, eo11⟩ := Kd.R_slice HO_0.out; subst eo11; have p223 : 0 ≤ (x7_1 : Int) := zd; have q223 : x7_1 < (l0.length : Int) := zd; obtain ⟨ad223, e223, hx223_0⟩ := Kd.at_string (Kd.R_reads' HO_0.out).2.2 x7_1 p223 q223; cases e223; replace p223 := eq_true p223; replace q223 := eq_true q223; have p224 : 0 ≤ (x7_1 : Int) := zd; have q224 : x7_1 < (l0.length : Int) := zd; obtain ⟨ad224, e224, hx224_0⟩ := Kd.at_string (Kd.R_reads' HO_0.out).2.2 x7_1 p224 q224; obtain rfl : ad223 = ad224 := (by injection e224); replace p224 := eq_true p224; replace q224 := eq_true q224
      go_wp2_with (first | ((with_reducible refine gate_builtin (b := .append) (xs := #[.tmp 36, .tmp 41]) rfl ?_); at_builtin; refine Kd.R_append Kd.string (w0 := w0) w0.heap.size rfl (.tmp 36) (.tmp 41) 23 9 (.string ⟨#[]⟩) 16 rfl Try.underlying23 info9 rfl (by decide) (by omega) u5 x5_1 (rdOf ByteArray.empty l0 x7_1) [.string (rdOf ByteArray.empty l0 x7_1)] (fun k_ => (P0_ k_ ∨ w.heap.size ≤ k_) ∧ some k_ ≠ (.slice (some ad223) l0.length co11 : Value).ownBlock) (fun _ => False) rfl rfl ?aP (fun _ hk => hk.elim) ?aF ?aO ?aB ?aS ?aL ?_; (case aP => exact rfl); (case aB => exact (zb HB.out)); (case aF => exact (fun k_ hk => ⟨(.inr (Nat.le_trans (by first | exact HK.out.1 | exact (show Kept w _ (fun k_ => P0_ k_) from zk HK.out).1) hk)), Kd.fresh' (Kd.R_lt (zr HO_0.out)) k_ hk⟩)); (case aO => exact (zr HO_5.out)); (case aS => exact (below_size (zb HB.out))); (case aL => have := LMc10.out; omega); intro v226 w12 ho hb hg hat; rw [← Ny225.out] at ho; replace HO_0 := z0 (Kd.R_after (ok := (fun k_ => (P0_ k_ ∨ w.heap.size ≤ k_))) (zr HO_0.out) hg hat); replace HB := z0 (hb); replace HK := z0 (Kept.of_grown (S := (fun k_ => P0_ k_)) hg (zk HK.out) (fun k_ e_ => (HO_5.out.1 k_ e_).1)); have HO227 := z0 (ho); clear HO_5; clear ho hb hg hat))
      go_roundg k1
      case measure => have := HK1.out; omega
      case rel => exact ⟨(y225), (true), (wrap64 (x7_1 + 1)), zf, zf, H', ⟨by have := HK1.out; omega⟩, ⟨zr HO_0.out⟩, ⟨zr HO227.out⟩, ⟨zk HK.out⟩, ⟨zb HB.out⟩⟩
     ·replace c9 := Bool.eq_false_iff.mpr c9; subst c9
      have H1 : (if (Op.bytesLess a1.toList ((rdOf ByteArray.empty l0 x7_1).toList)) = true then (if x5_1.length < 8796093022208 then ((some (x5_1 ++ [a1] : List ByteArray)).bind fun y229 => (if y229.length < 8796093022208 then (spec_l2Put.l0 k1 l0 a1 (y229 ++ [rdOf ByteArray.empty l0 x7_1]) true (wrap64 (x7_1 + 1))) else (none))) else (none)) else (if x5_1.length < 8796093022208 then (spec_l2Put.l0 k1 l0 a1 (x5_1 ++ [rdOf ByteArray.empty l0 x7_1]) false (wrap64 (x7_1 + 1))) else (none))) = some r := by rw [if_neg (show ¬ (false = true) by decide)] at H; exact H
      clear H; have H := H1; clear H1
      by_cases c13 : (Op.bytesLess a1.toList ((rdOf ByteArray.empty l0 x7_1).toList)) = true
      ·rw [if_pos c13] at H; have c13b0 : (Op.bytesLess a1.toList ((rdOf ByteArray.empty l0 x7_1).toList)) = true := c13; clear c13; replace H := zn H; obtain ⟨c14, H⟩ := H; have LMc14 := Aside0.mk c14; clear c14; obtain ⟨y229, hy229⟩ : ∃ y_ : List ByteArray, y_ = (x5_1 ++ [a1]) := ⟨_, rfl⟩; replace H : (if y229.length < 8796093022208 then (spec_l2Put.l0 k1 l0 a1 (y229 ++ [rdOf ByteArray.empty l0 x7_1]) true (wrap64 (x7_1 + 1))) else (none)) = some r := zH2 hy229 H; have Ny229 := Aside0.mk hy229; clear hy229; replace H := zn H; obtain ⟨c15, H⟩ := H; have LMc15 := Aside0.mk c15; clear c15; obtain ⟨y233, hy233⟩ : ∃ y_ : List ByteArray, y_ = (y229 ++ [rdOf ByteArray.empty l0 x7_1]) := ⟨_, rfl⟩; replace H : (spec_l2Put.l0 k1 l0 a1 y233 true (wrap64 (x7_1 + 1))) = some r := zH2 hy233 H; have Ny233 := Aside0.mk hy233; clear hy233; have H' := Aside0.mk H; clear H; obtain ⟨Ao16, co16, eo16⟩ := Kd.R_slice HO_0.out; subst eo16; have p223 : 0 ≤ (x7_1 : Int) := zd; have q223 : x7_1 < (l0.length : Int) := zd; obtain ⟨ad223, e223, hx223_0⟩ := Kd.at_string (Kd.R_reads' HO_0.out).2.2 x7_1 p223 q223; cases e223; replace p223 := eq_true p223; replace q223 := eq_true q223; have p228 : 0 ≤ (x7_1 : Int) := zd; have q228 : x7_1 < (l0.length : Int) := zd; obtain ⟨ad228, e228, hx228_0⟩ := Kd.at_string (Kd.R_reads' HO_0.out).2.2 x7_1 p228 q228; obtain rfl : ad223 = ad228 := (by injection e228); replace p228 := eq_true p228; replace q228 := eq_true q228
       go_wp2_with (first | ((with_reducible refine gate_builtin (b := .append) (xs := #[.tmp 32, .tmp 34]) rfl ?_); at_builtin; refine Kd.R_append Kd.string (w0 := w0) w0.heap.size rfl (.tmp 32) (.tmp 34) 23 9 (.string ⟨#[]⟩) 16 rfl Try.underlying23 info9 rfl (by decide) (by omega) u5 x5_1 a1 [.string a1] (fun k_ => (P0_ k_ ∨ w.heap.size ≤ k_) ∧ some k_ ≠ (.slice (some ad223) l0.length co16 : Value).ownBlock) (fun _ => False) rfl rfl ?aP (fun _ hk => hk.elim) ?aF ?aO ?aB ?aS ?aL ?_; (case aP => exact rfl); (case aB => exact (zb HB.out)); (case aF => exact (fun k_ hk => ⟨(.inr (Nat.le_trans (by first | exact HK.out.1 | exact (show Kept w _ (fun k_ => P0_ k_) from zk HK.out).1) hk)), Kd.fresh' (Kd.R_lt (zr HO_0.out)) k_ hk⟩)); (case aO => exact (zr HO_5.out)); (case aS => exact (below_size (zb HB.out))); (case aL => have := LMc14.out; omega); intro v230 w17 ho hb hg hat; rw [← Ny229.out] at ho; replace HO_0 := z0 (Kd.R_after (ok := (fun k_ => (P0_ k_ ∨ w.heap.size ≤ k_))) (zr HO_0.out) hg hat); replace HB := z0 (hb); replace HK := z0 (Kept.of_grown (S := (fun k_ => P0_ k_)) hg (zk HK.out) (fun k_ e_ => (HO_5.out.1 k_ e_).1)); have HO231 := z0 (ho); clear HO_5; clear ho hb hg hat; have p232 : 0 ≤ (x7_1 : Int) := zd; have q232 : x7_1 < (l0.length : Int) := zd; obtain ⟨ad232, e232, hx232_0⟩ := Kd.at_string (Kd.R_reads' HO_0.out).2.2 x7_1 p232 q232; obtain rfl : ad223 = ad232 := (by injection e232); replace p232 := eq_true p232; replace q232 := eq_true q232) | ((with_reducible refine gate_builtin (b := .append) (xs := #[.tmp 36, .tmp 41]) rfl ?_); at_builtin; refine Kd.R_append Kd.string (w0 := w0) w0.heap.size rfl (.tmp 36) (.tmp 41) 23 9 (.string ⟨#[]⟩) 16 rfl Try.underlying23 info9 rfl (by decide) (by omega) v230 y229 (rdOf ByteArray.empty l0 x7_1) [.string (rdOf ByteArray.empty l0 x7_1)] (fun k_ => (P0_ k_ ∨ w.heap.size ≤ k_) ∧ some k_ ≠ (.slice (some ad223) l0.length co16 : Value).ownBlock) (fun _ => False) rfl rfl ?aP (fun _ hk => hk.elim) ?aF ?aO ?aB ?aS ?aL ?_; (case aP => exact rfl); (case aB => exact (zb HB.out)); (case aF => exact (fun k_ hk => ⟨(.inr (Nat.le_trans (by first | exact HK.out.1 | exact (show Kept w _ (fun k_ => P0_ k_) from zk HK.out).1) hk)), Kd.fresh' (Kd.R_lt (zr HO_0.out)) k_ hk⟩)); (case aO => exact (zr HO231.out)); (case aS => exact (below_size (zb HB.out))); (case aL => have := LMc15.out; omega); intro v234 w18 ho hb hg hat; rw [← Ny233.out] at ho; replace HO_0 := z0 (Kd.R_after (ok := (fun k_ => (P0_ k_ ∨ w.heap.size ≤ k_))) (zr HO_0.out) hg hat); replace HB := z0 (hb); replace HK := z0 (Kept.of_grown (S := (fun k_ => P0_ k_)) hg (zk HK.out) (fun k_ e_ => (HO231.out.1 k_ e_).1)); have HO235 := z0 (ho); clear HO231; clear ho hb hg hat))
       go_roundg k1
       case measure => have := HK1.out; omega
       case rel => exact ⟨(y233), (true), (wrap64 (x7_1 + 1)), zf, zf, H', ⟨by have := HK1.out; omega⟩, ⟨zr HO_0.out⟩, ⟨zr HO235.out⟩, ⟨zk HK.out⟩, ⟨zb HB.out⟩⟩
      ·rw [if_neg c13] at H
       have c13b0 : (Op.bytesLess a1.toList ((rdOf ByteArray.empty l0 x7_1).toList)) = false := by simpa using c13
       clear c13; replace H := zn H; obtain ⟨c19, H⟩ := H; have LMc19 := Aside0.mk c19; clear c19; obtain ⟨y237, hy237⟩ : ∃ y_ : List ByteArray, y_ = (x5_1 ++ [rdOf ByteArray.empty l0 x7_1]) := ⟨_, rfl⟩; replace H : (spec_l2Put.l0 k1 l0 a1 y237 false (wrap64 (x7_1 + 1))) = some r := zH2 hy237 H; have Ny237 := Aside0.mk hy237; clear hy237; have H' := Aside0.mk H; clear H; obtain ⟨Ao20, co20, eo20⟩ := Kd.R_slice HO_0.out; subst eo20; have p223 : 0 ≤ (x7_1 : Int) := zd; have q223 : x7_1 < (l0.length : Int) := zd; obtain ⟨ad223, e223, hx223_0⟩ := Kd.at_string (Kd.R_reads' HO_0.out).2.2 x7_1 p223 q223; cases e223; replace p223 := eq_true p223; replace q223 := eq_true q223; have p228 : 0 ≤ (x7_1 : Int) := zd; have q228 : x7_1 < (l0.length : Int) := zd; obtain ⟨ad228, e228, hx228_0⟩ := Kd.at_string (Kd.R_reads' HO_0.out).2.2 x7_1 p228 q228; obtain rfl : ad223 = ad228 := (by injection e228); replace p228 := eq_true p228; replace q228 := eq_true q228; have p236 : 0 ≤ (x7_1 : Int) := zd; have q236 : x7_1 < (l0.length : Int) := zd; obtain ⟨ad236, e236, hx236_0⟩ := Kd.at_string (Kd.R_reads' HO_0.out).2.2 x7_1 p236 q236; obtain rfl : ad223 = ad236 := (by injection e236); replace p236 := eq_true p236; replace q236 := eq_true q236
       go_wp2_with (first | ((with_reducible refine gate_builtin (b := .append) (xs := #[.tmp 36, .tmp 41]) rfl ?_); at_builtin; refine Kd.R_append Kd.string (w0 := w0) w0.heap.size rfl (.tmp 36) (.tmp 41) 23 9 (.string ⟨#[]⟩) 16 rfl Try.underlying23 info9 rfl (by decide) (by omega) u5 x5_1 (rdOf ByteArray.empty l0 x7_1) [.string (rdOf ByteArray.empty l0 x7_1)] (fun k_ => (P0_ k_ ∨ w.heap.size ≤ k_) ∧ some k_ ≠ (.slice (some ad223) l0.length co20 : Value).ownBlock) (fun _ => False) rfl rfl ?aP (fun _ hk => hk.elim) ?aF ?aO ?aB ?aS ?aL ?_; (case aP => exact rfl); (case aB => exact (zb HB.out)); (case aF => exact (fun k_ hk => ⟨(.inr (Nat.le_trans (by first | exact HK.out.1 | exact (show Kept w _ (fun k_ => P0_ k_) from zk HK.out).1) hk)), Kd.fresh' (Kd.R_lt (zr HO_0.out)) k_ hk⟩)); (case aO => exact (zr HO_5.out)); (case aS => exact (below_size (zb HB.out))); (case aL => have := LMc19.out; omega); intro v238 w21 ho hb hg hat; rw [← Ny237.out] at ho; replace HO_0 := z0 (Kd.R_after (ok := (fun k_ => (P0_ k_ ∨ w.heap.size ≤ k_))) (zr HO_0.out) hg hat); replace HB := z0 (hb); replace HK := z0 (Kept.of_grown (S := (fun k_ => P0_ k_)) hg (zk HK.out) (fun k_ e_ => (HO_5.out.1 k_ e_).1)); have HO239 := z0 (ho); clear HO_5; clear ho hb hg hat))
       go_roundg k1
       case measure => have := HK1.out; omega
       case rel => exact ⟨(y237), (false), (wrap64 (x7_1 + 1)), zf, zf, H', ⟨by have := HK1.out; omega⟩, ⟨zr HO_0.out⟩, ⟨zr HO239.out⟩, ⟨zk HK.out⟩, ⟨zb HB.out⟩⟩
   ·rw [if_neg c5] at H; have c5b0 : decide (x7_1 < (l0.length : Int)) = false := decide_eq_false c5; clear c5
    by_cases c22 : x6_1 = true
    ·subst c22
     have H1 : (some x5_1) = some r := by rw [if_pos rfl] at H; exact H
     clear H; have H := H1; clear H1; obtain rfl := Option.some.inj H; obtain ⟨Ao23, co23, eo23⟩ := Kd.R_slice HO_0.out; subst eo23; go_wp2; go_ret; exact ⟨_, ze, Kd.R_mono (zr HO_5.out) (fun _ hk => hk.1), zb HB.out, zk HK.out⟩
    ·replace c22 := Bool.eq_false_iff.mpr c22; subst c22
     have H1 : (if x5_1.length < 8796093022208 then (some (x5_1 ++ [a1])) else (none)) = some r := by rw [if_neg (show ¬ (false = true) by decide)] at H; exact H
     clear H; have H := H1; clear H1; replace H := zn H; obtain ⟨c24, H⟩ := H; have LMc24 := Aside0.mk c24; clear c24; obtain ⟨y220, hy220⟩ : ∃ y_ : List ByteArray, y_ = (x5_1 ++ [a1]) := ⟨_, rfl⟩; replace H : (some y220) = some r := zH2 hy220 H; have Ny220 := Aside0.mk hy220; clear hy220; obtain rfl := Option.some.inj H; obtain ⟨Ao25, co25, eo25⟩ := Kd.R_slice HO_0.out; subst eo25
     go_wp2_with (first | ((with_reducible refine gate_builtin (b := .append) (xs := #[.tmp 45, .tmp 47]) rfl ?_); at_builtin; refine Kd.R_append Kd.string (w0 := w0) w0.heap.size rfl (.tmp 45) (.tmp 47) 23 9 (.string ⟨#[]⟩) 16 rfl Try.underlying23 info9 rfl (by decide) (by omega) u5 x5_1 a1 [.string a1] (fun k_ => (P0_ k_ ∨ w.heap.size ≤ k_) ∧ some k_ ≠ (.slice Ao25 l0.length co25 : Value).ownBlock) (fun _ => False) rfl rfl ?aP (fun _ hk => hk.elim) ?aF ?aO ?aB ?aS ?aL ?_; (case aP => exact rfl); (case aB => exact (zb HB.out)); (case aF => exact (fun k_ hk => ⟨(.inr (Nat.le_trans (by first | exact HK.out.1 | exact (show Kept w _ (fun k_ => P0_ k_) from zk HK.out).1) hk)), Kd.fresh' (Kd.R_lt (zr HO_0.out)) k_ hk⟩)); (case aO => exact (zr HO_5.out)); (case aS => exact (below_size (zb HB.out))); (case aL => have := LMc24.out; omega); intro v221 w26 ho hb hg hat; rw [← Ny220.out] at ho; replace HO_0 := z0 (Kd.R_after (ok := (fun k_ => (P0_ k_ ∨ w.heap.size ≤ k_))) (zr HO_0.out) hg hat); replace HB := z0 (hb); replace HK := z0 (Kept.of_grown (S := (fun k_ => P0_ k_)) hg (zk HK.out) (fun k_ e_ => (HO_5.out.1 k_ e_).1)); have HO222 := z0 (ho); clear HO_5; clear ho hb hg hat))
     go_ret; exact ⟨_, ze, Kd.R_mono (zr HO222.out) (fun _ hk => hk.1), zb HB.out, zk HK.out⟩
end Go.Proofs.Ytifgcajpkgamgaa.Q
end
section
namespace Go.Proofs.Ytifgcajpkgamgaa.Q
open Go.RowKit Go.Proofs.YtifgcajpkgamgaaW.PrintWords Go.Proofs.YtifgcajpkgamgaaW.PrintLast Go.Proofs.YtifgcajpkgamgaaW.PrintMore
attribute [local go_sem] max2_int min2_int max_two min_two max_three min_three max_four min_four   
set_option linter.unusedVariables false
set_option linter.unusedSimpArgs false
theorem spec_l71Keys.mono_l : ∀ k, (∀ y0 y1 y2 y3, LeO (spec_l71Keys.l0 k y0 y1 y2 y3) (spec_l71Keys.l0 (k + 1) y0 y1 y2 y3))
  | 0 => fun _ _ _ _ r h => by simp [spec_l71Keys.l0] at h
  | k + 1 => by
    have ih0 := spec_l71Keys.mono_l k
    · intro y0 y1 y2 y3
      unfold spec_l71Keys.l0
      repeat' first
      | (with_reducible exact ih0 _ _ _ _)
      | (with_reducible exact spec_l2Put.mono _ _ _)
      | (with_reducible exact spec_l6Rd_pick.mono _ _ _ _)
      | (with_reducible exact spec_l71Near.mono _ _ _ _)
      | (with_reducible exact LeO.refl _)
      | (with_reducible exact LeO.none _)
      | (with_reducible refine LeO.ite ?_ ?_)
      | (with_reducible refine LeO.bind ?_ (fun _ => ?_))
      | exact ih0 _ _ _ _
      | exact spec_l2Put.mono _ _ _
      | exact spec_l6Rd_pick.mono _ _ _ _
      | exact spec_l71Near.mono _ _ _ _
      | exact LeO.none _
      | refine LeO.ite ?_ ?_
      | refine LeO.bind ?_ (fun _ => ?_)
theorem spec_l71Keys.mono : ∀ a0 a1 a2 k, LeO (spec_l71Keys.f k a0 a1 a2) (spec_l71Keys.f (k + 1) a0 a1 a2) := by
  intro a0 a1 a2 k
  have ih0 := spec_l71Keys.mono_l k
  unfold spec_l71Keys.f
  repeat' first
      | (with_reducible exact ih0 _ _ _ _)
      | (with_reducible exact spec_l2Put.mono _ _ _)
      | (with_reducible exact spec_l6Rd_pick.mono _ _ _ _)
      | (with_reducible exact spec_l71Near.mono _ _ _ _)
      | (with_reducible exact LeO.refl _)
      | (with_reducible exact LeO.none _)
      | (with_reducible refine LeO.ite ?_ ?_)
      | (with_reducible refine LeO.bind ?_ (fun _ => ?_))
      | exact ih0 _ _ _ _
      | exact spec_l2Put.mono _ _ _
      | exact spec_l6Rd_pick.mono _ _ _ _
      | exact spec_l71Near.mono _ _ _ _
      | exact LeO.none _
      | refine LeO.ite ?_ ?_
      | refine LeO.bind ?_ (fun _ => ?_)
set_option maxHeartbeats 8000000 in
set_option maxRecDepth 100000 in
theorem spec_l71Keys.calls (k : Nat) (g : Nat) (s0_0 : List Int) (s0_1 : Int) (a1 : Int) (r1 : List ByteArray) (r2 : Int) (w0 w : World) (hI : IsS98 w0 w g s0_0 s0_1) (hB : Below w0.heap.size w0 w) (h : spec_l71Keys.f k s0_0 s0_1 a1 = some (r1, r2)) :
    Calls Try.prog 77 #[.pointer (some ⟨g, 0, none⟩), .int .i64 a1] w fun e w' => ∃ v0_ : Value, e = .returned (v0_) ∧ Kd.R Kd.string 9 w' w.heap.size (fun _ => True) v0_ r1 ∧ IsS98 w0 w' g s0_0 r2 ∧ Below w0.heap.size w0 w' ∧ KeepBut w w' g none := by
 have HI0 := Aside0.mk hI; have HK := z0 (KeepBut.refl w g none); have HL := Aside0.mk hB.size; clear hI; have HW0 := Aside0.mk hB.size; have HB := Aside0.mk hB; clear hB; have H : ((spec_l6Rd_pick.f k s0_0 s0_1 (wrap64 (a1 + 1))).bind fun bt243 => (spec_l71Keys.l0 k (([] : List ByteArray)) bt243.1 s0_0 bt243.2)) = some (r1, r2) := h; clear h; obtain ⟨y240, hy240⟩ : ∃ y_ : List ByteArray, y_ = (([] : List ByteArray)) := ⟨_, rfl⟩; replace H : ((spec_l6Rd_pick.f k s0_0 s0_1 (wrap64 (a1 + 1))).bind fun bt243 => (spec_l71Keys.l0 k y240 bt243.1 s0_0 bt243.2)) = some (r1, r2) := zH2 hy240 H; have Ny240 := Aside0.mk hy240; clear hy240; replace H := zi H; obtain ⟨⟨t243, t244⟩, A3, H⟩ := H; (try dsimp only at H); have H' := Aside0.mk H; clear H; go_enter Try.func77, Try.ntmps77
 go_wp2_with (first | ((with_reducible refine gd 7 ?_); refine Kd.R_lit Kd.string _ 9 ?hg (N := 7) ?hd (xs := ([] : List ByteArray)) (inner := []) (ok := fun _ => True) (okp := fun _ => True) ?hr ?hp (fun _ hk => hk) trivial (Below.refl _ _) (Nat.le_refl _) (by simp) ?_; (case hd => rfl); (case hg => rfl); (case hr => first | (go_simp; done) | (go_simp; rfl)); (case hp => exact (Reps.none _ _)); intro v241 w4 ho5 hb hg_ hnew_; clear hg_ hnew_; (first | rw [← Ny240.out] at ho5 | (simp only [Int.reduceToNat] at ho5; rw [← Ny240.out] at ho5)); have HO242 := z0 (Kd.R_lower ho5 (keep_size (w := w) (g := g) (row := none) (zq HK.out))); replace HK := z0 (KeepBut.trans (zq HK.out) (KeepBut.of_below hb g none) (.inl rfl)); replace HB := z0 (below_step (HI0.out.zb HB.out) hb); replace HI0 := z0 (IsS98.below (HI0.out.zI) hb); clear hb ho5) | ((with_reducible refine gc 78 ?_); refine zL (some 11) Try.func78 #[.pointer (some ⟨g, 0, none⟩), .int .i64 (wrap64 (a1 + 1))] ?_; (with_reducible refine (spec_l6Rd_pick.calls k g s0_0 s0_1 (wrap64 (a1 + 1)) t243 t244 w0 _ ?side1 ?side2 A3.out).mono ?_); (case side1 => repeat (first | (with_reducible first | exact HI0.out | apply IsS98.alloc | apply IsS98.drewN | apply IsS98.drew | apply IsS98.set_1) | exact HI0.out)); (case side2 => repeat (first | (with_reducible first | exact HB.out | apply below_alloc | apply pw_below_drewN | apply below_drew1 | refine below_set ?_ (IsS98.ge HI0.out)) | exact HB.out)); rintro e w6 ⟨rfl, hi, hb, hk⟩; refine zv ?_; replace HO242 := z0 (Kd.R_mono (Kd.R_keep (IsS98.apart (show IsS98 w0 _ g s0_0 s0_1 from HI0.out.zI) (zr HO242.out) (by decide)) hk (fun _ h => h.2)) (fun _ h => h.1)); replace HK := z0 (KeepBut.trans (zq HK.out) hk (.inl rfl)); replace HB := z0 (hb); replace HI0 := z0 (hi); (try clear hb hk hi)))
 go_loopg [5, 6] k (fun kq v5 v6 w' => ∃ (x5_1 : List ByteArray) (x6_1 : Int) (x1001_1 : Int), v6 = .int .i64 x6_1 ∧ Aside0 (spec_l71Keys.l0 kq x5_1 x6_1 s0_0 x1001_1 = some (r1, r2)) ∧ Aside0 (kq ≤ k) ∧ Aside0 (Kd.R Kd.string 9 w' w.heap.size (fun _ => True) v5 x5_1) ∧ Aside0 (IsS98 w0 w' g s0_0 x1001_1) ∧ Aside0 (KeepBut w w' g none) ∧ Aside0 (Below w0.heap.size w0 w'))
 case atStart => exact ⟨(y240), (t243), (t244), zf, H', ⟨Nat.le_refl _⟩, ⟨zr HO242.out⟩, ⟨HI0.out.zI⟩, ⟨zq HK.out⟩, ⟨HI0.out.zb HB.out⟩⟩
 case round =>
  clear H'
  try clear p2
  try clear p6
  obtain ⟨x5_1, x6_1, x1001_1, rfl, HA, HK1, HO_5, HI0, HK, HB⟩ := hrel
  cases gk with
  | zero => exact absurd HA.out (by simp [spec_l71Keys.l0])
  | succ k1 =>
   have H := HA.out; clear HA; simp only [spec_l71Keys.l0] at H
   by_cases c7 : x6_1 > 0
   ·rw [if_pos c7] at H; have c7b0 : decide (0 < x6_1) = true := decide_eq_true c7; clear c7; replace H := zi H; obtain ⟨⟨t245, t246⟩, A8, H⟩ := H; (try dsimp only at H); replace H := zi H; obtain ⟨t247, A9, H⟩ := H; have H' := Aside0.mk H; clear H; obtain ⟨Ao10, co10, eo10⟩ := Kd.R_slice HO_5.out; subst eo10
    go_wp2_with (first | ((with_reducible refine gc 66 ?_); refine zL (some 19) Try.func66 #[.pointer (some ⟨g, 0, none⟩), .slice Ao10 x5_1.length co10] ?_; (with_reducible refine (spec_l71Near.calls k1 g s0_0 x1001_1 _ _ x5_1 t245 t246 w0 _ ?side1 ?side2 (zC ((Kd.R_reads' HO_5.out).2.2)) ((Kd.R_reads' HO_5.out).2.1) (far_slice (IsS98.own_ne HI0.out HO_5.out (by decide))) A8.out).mono ?_); (case side1 => repeat (first | (with_reducible first | exact HI0.out | apply IsS98.alloc | apply IsS98.drewN | apply IsS98.drew | apply IsS98.set_1) | exact HI0.out)); (case side2 => repeat (first | (with_reducible first | exact HB.out | apply below_alloc | apply pw_below_drewN | apply below_drew1 | refine below_set ?_ (IsS98.ge HI0.out)) | exact HB.out)); rintro e w11 ⟨rfl, hi, hb, hk⟩; refine zv ?_; replace HO_5 := z0 (Kd.R_mono (Kd.R_keep (IsS98.apart (show IsS98 w0 _ g s0_0 x1001_1 from HI0.out.zI) (zr HO_5.out) (by decide)) hk (fun _ h => h.2)) (fun _ h => h.1)); replace HK := z0 (KeepBut.trans (zq HK.out) hk (.inl rfl)); replace HB := z0 (hb); replace HI0 := z0 (hi); (try clear hb hk hi)) | ((with_reducible refine gc 111 ?_); refine zL (some 20) Try.func111 #[.slice Ao10 x5_1.length co10, .string t245] ?_; (with_reducible refine (spec_l2Put.calls k1 (fun k_ => some k_ = (.slice Ao10 x5_1.length co10 : Value).ownBlock) (.slice Ao10 x5_1.length co10) x5_1 t245 t247 w0 _ ?side1 (Kd.R_lower (Kd.R_tight rfl HO_5.out) HL.out) A9.out).mono ?_); (case side1 => repeat (first | (with_reducible first | exact HB.out | apply below_alloc | apply pw_below_drewN | apply below_drew1 | refine below_set ?_ (IsS98.ge HI0.out)) | exact HB.out)); rintro e w12 ⟨v248, rfl, ho0, hb, hkp⟩; refine zv ?_; replace HI0 := z0 (IsS98.kept (HI0.out.zI) hkp (fun hs_ => (fun e_ => (IsS98.own_ne HI0.out HO_5.out (by decide)) e_) hs_)); have HO249 := z0 (Kd.R_mono (ok' := fun k_ => True) (Kd.R_raise (d := Kd.string) (b := w0.heap.size) (b' := w.heap.size) (fun _ _ _ _ h_ => h_) ho0 (fun k_ e_ => Or.elim (ho0.1 k_ e_) (fun hs_ => (fun e_ => Kd.R_base HO_5.out k_ e_.symm) hs_) (fun hn_ => Nat.le_trans (keep_size (w := w) (g := g) (row := none) (zq HK.out)) hn_))) (fun k_ hk_ => trivial)); replace HK := z0 (Kept.keepG (zq HK.out) hkp (fun k_ hs_ => (fun e_ => .inr (Kd.R_base HO_5.out k_ e_.symm)) hs_)); replace HB := z0 (hb); clear HO_5; (try clear hb); (try clear hkp); (try clear ho0)))
    go_roundg k1
    case measure => have := HK1.out; omega
    case rel => exact ⟨(t247), (wrap64 (x6_1 - 1)), (t246), zf, H', ⟨by have := HK1.out; omega⟩, ⟨zr HO249.out⟩, ⟨HI0.out.zI⟩, ⟨zq HK.out⟩, ⟨HI0.out.zb HB.out⟩⟩
   ·rw [if_neg c7] at H; have c7b0 : decide (0 < x6_1) = false := decide_eq_false c7; clear c7; simp only [Option.some.injEq, Prod.mk.injEq] at H; obtain ⟨rfl, rfl⟩ := H; go_wp2; go_ret; exact ⟨_, ze, zr HO_5.out, HI0.out.zI, HI0.out.zb HB.out, zq HK.out⟩
end Go.Proofs.Ytifgcajpkgamgaa.Q
end
section
namespace Go.Proofs.Ytifgcajpkgamgaa.Q
open Go.RowKit Go.Proofs.YtifgcajpkgamgaaW.PrintWords Go.Proofs.YtifgcajpkgamgaaW.PrintLast Go.Proofs.YtifgcajpkgamgaaW.PrintMore
attribute [local go_sem] max2_int min2_int max_two min_two max_three min_three max_four min_four   
set_option linter.unusedVariables false
set_option linter.unusedSimpArgs false
theorem spec_l6Many.mono_l : ∀ k, (∀ y0 y1 y2, LeO (spec_l6Many.l0 k y0 y1 y2) (spec_l6Many.l0 (k + 1) y0 y1 y2))
  | 0 => fun _ _ _ r h => by simp [spec_l6Many.l0] at h
  | k + 1 => by
    have ih0 := spec_l6Many.mono_l k
    · intro y0 y1 y2
      unfold spec_l6Many.l0
      repeat' first
      | (with_reducible exact ih0 _ _ _)
      | (with_reducible exact LeO.refl _)
      | (with_reducible exact LeO.none _)
      | (with_reducible refine LeO.ite ?_ ?_)
      | (with_reducible refine LeO.bind ?_ (fun _ => ?_))
      | exact ih0 _ _ _
      | exact LeO.none _
      | refine LeO.ite ?_ ?_
      | refine LeO.bind ?_ (fun _ => ?_)
theorem spec_l6Many.mono : ∀ a0 a1 k, LeO (spec_l6Many.f k a0 a1) (spec_l6Many.f (k + 1) a0 a1) := by
  intro a0 a1 k
  have ih0 := spec_l6Many.mono_l k
  unfold spec_l6Many.f
  repeat' first
      | (with_reducible exact ih0 _ _ _)
      | (with_reducible exact LeO.refl _)
      | (with_reducible exact LeO.none _)
      | (with_reducible refine LeO.ite ?_ ?_)
      | (with_reducible refine LeO.bind ?_ (fun _ => ?_))
      | exact ih0 _ _ _
      | exact LeO.none _
      | refine LeO.ite ?_ ?_
      | refine LeO.bind ?_ (fun _ => ?_)
set_option maxHeartbeats 8000000 in
set_option maxRecDepth 100000 in
theorem spec_l6Many.calls (k : Nat) (a0 : ByteArray) (a1 : Int) (r : ByteArray) (w : World) (h : spec_l6Many.f k a0 a1 = some r) :
    Calls Try.prog 112 #[.string a0, .int .i64 a1] w fun e w' => e = .returned (.string r) ∧ Drawn0 w w' := by
 have H : (spec_l6Many.l0 k a0 a1 (⟨#[]⟩ : ByteArray)) = some r := h; clear h; have H' := Aside0.mk H; clear H; go_enter Try.func112, Try.ntmps112; go_wp2
 go_loopg [0, 1, 5] k (fun kq v0 v1 v5 w' => ∃ (x0_1 : ByteArray) (x1_1 : Int) (x5_1 : ByteArray), v0 = .string x0_1 ∧ v1 = .int .i64 x1_1 ∧ v5 = .string x5_1 ∧ Aside0 (spec_l6Many.l0 kq x0_1 x1_1 x5_1 = some r) ∧ Aside0 (kq ≤ k) ∧ Drawn0 w w')
 case atStart => exact ⟨(a0), (a1), ((⟨#[]⟩ : ByteArray)), zf, zf, zf, H', ⟨Nat.le_refl _⟩, by repeat (first | exact Drawn0.refl _ | apply Drawn0.step)⟩
 case round =>
  clear H'
  try clear c1
  try clear p2
  obtain ⟨x0_1, x1_1, x5_1, rfl, rfl, rfl, HA, HK1, ⟨m1, rfl⟩⟩ := hrel
  cases gk with
  | zero => exact absurd HA.out (by simp [spec_l6Many.l0])
  | succ k1 =>
   have H := HA.out; clear HA; simp only [spec_l6Many.l0] at H
   by_cases c3 : x1_1 > 0
   ·rw [if_pos c3] at H; have c3b0 : decide (0 < x1_1) = true := decide_eq_true c3; clear c3
    by_cases c4 : (Int.tmod x1_1 2) = 1
    ·rw [if_pos c4] at H; have c4b0 : ((Int.tmod x1_1 2) == 1) = true := beq_iff_eq.mpr c4; have c4b1 : ((Int.tmod x1_1 2) != 1) = false := bne_eq_false_iff_eq.mpr c4; clear c4; replace H := zn H; obtain ⟨c5, H⟩ := H; have c5b0 := eq_true c5; have c5b1 : decide (x5_1.size + x0_1.size ≤ 9223372036854775807) = true := decide_eq_true c5
     try have c5b2 : (9223372036854775807 < x5_1.size + x0_1.size) = False := eq_false (Nat.not_lt.2 c5)
     replace H := zn H; obtain ⟨c6, H⟩ := H; have c6b0 := eq_true c6; have c6b1 : decide (x0_1.size + x0_1.size ≤ 9223372036854775807) = true := decide_eq_true c6
     try have c6b2 : (9223372036854775807 < x0_1.size + x0_1.size) = False := eq_false (Nat.not_lt.2 c6)
     have H' := Aside0.mk H; clear H; go_wp2; go_roundg k1
     case measure => have := HK1.out; omega
     case rel => exact ⟨(x0_1 ++ x0_1), (wrap64 (Int.tdiv x1_1 2)), (x5_1 ++ x0_1), zf, zf, zf, H', ⟨by have := HK1.out; omega⟩, by repeat (first | exact Drawn0.refl _ | apply Drawn0.step)⟩
    ·rw [if_neg c4] at H; have c4b0 : ((Int.tmod x1_1 2) == 1) = false := beq_eq_false_iff_ne.mpr c4; have c4b1 : ((Int.tmod x1_1 2) != 1) = true := bne_iff_ne.mpr c4; replace H := zn H; obtain ⟨c7, H⟩ := H; have c7b0 := eq_true c7; have c7b1 : decide (x0_1.size + x0_1.size ≤ 9223372036854775807) = true := decide_eq_true c7
     try have c7b2 : (9223372036854775807 < x0_1.size + x0_1.size) = False := eq_false (Nat.not_lt.2 c7)
     have H' := Aside0.mk H; clear H; go_wp2; go_roundg k1
     case measure => have := HK1.out; omega
     case rel => exact ⟨(x0_1 ++ x0_1), (wrap64 (Int.tdiv x1_1 2)), (x5_1), zf, zf, zf, H', ⟨by have := HK1.out; omega⟩, by repeat (first | exact Drawn0.refl _ | apply Drawn0.step)⟩
   ·rw [if_neg c3] at H; have c3b0 : decide (0 < x1_1) = false := decide_eq_false c3; clear c3; obtain rfl := Option.some.inj H; go_wp2; go_ret; exact ⟨zf, by repeat (first | exact Drawn0.refl _ | apply Drawn0.step)⟩
end Go.Proofs.Ytifgcajpkgamgaa.Q
end
section
namespace Go.Proofs.Ytifgcajpkgamgaa.Q
open Go.RowKit Go.Proofs.YtifgcajpkgamgaaW.PrintWords Go.Proofs.YtifgcajpkgamgaaW.PrintLast Go.Proofs.YtifgcajpkgamgaaW.PrintMore
attribute [local go_sem] max2_int min2_int max_two min_two max_three min_three max_four min_four   
set_option linter.unusedVariables false
set_option linter.unusedSimpArgs false
theorem spec_l71Mess.mono_l : ∀ k, (∀ y0 y1 y2 y3, LeO (spec_l71Mess.l0 k y0 y1 y2 y3) (spec_l71Mess.l0 (k + 1) y0 y1 y2 y3))
  | 0 => fun _ _ _ _ r h => by simp [spec_l71Mess.l0] at h
  | k + 1 => by
    have ih0 := spec_l71Mess.mono_l k
    · intro y0 y1 y2 y3
      unfold spec_l71Mess.l0
      repeat' first
      | (with_reducible exact ih0 _ _ _ _)
      | (with_reducible exact spec_l2Put.mono _ _ _)
      | (with_reducible exact spec_l6Many.mono _ _ _)
      | (with_reducible exact spec_l6Rd_pick.mono _ _ _ _)
      | (with_reducible exact spec_l71Keys.mono _ _ _ _)
      | (with_reducible exact LeO.refl _)
      | (with_reducible exact LeO.none _)
      | (with_reducible refine LeO.ite ?_ ?_)
      | (with_reducible refine LeO.bind ?_ (fun _ => ?_))
      | exact ih0 _ _ _ _
      | exact spec_l2Put.mono _ _ _
      | exact spec_l6Many.mono _ _ _
      | exact spec_l6Rd_pick.mono _ _ _ _
      | exact spec_l71Keys.mono _ _ _ _
      | exact LeO.none _
      | refine LeO.ite ?_ ?_
      | refine LeO.bind ?_ (fun _ => ?_)
theorem spec_l71Mess.mono : ∀ a0 a1 k, LeO (spec_l71Mess.f k a0 a1) (spec_l71Mess.f (k + 1) a0 a1) := by
  intro a0 a1 k
  have ih0 := spec_l71Mess.mono_l k
  unfold spec_l71Mess.f
  repeat' first
      | (with_reducible exact ih0 _ _ _ _)
      | (with_reducible exact spec_l2Put.mono _ _ _)
      | (with_reducible exact spec_l6Many.mono _ _ _)
      | (with_reducible exact spec_l6Rd_pick.mono _ _ _ _)
      | (with_reducible exact spec_l71Keys.mono _ _ _ _)
      | (with_reducible exact LeO.refl _)
      | (with_reducible exact LeO.none _)
      | (with_reducible refine LeO.ite ?_ ?_)
      | (with_reducible refine LeO.bind ?_ (fun _ => ?_))
      | exact ih0 _ _ _ _
      | exact spec_l2Put.mono _ _ _
      | exact spec_l6Many.mono _ _ _
      | exact spec_l6Rd_pick.mono _ _ _ _
      | exact spec_l71Keys.mono _ _ _ _
      | exact LeO.none _
      | refine LeO.ite ?_ ?_
      | refine LeO.bind ?_ (fun _ => ?_)
def spec_l71Mess.T13 : Bool × List (List Nat × List Nat) := (true, [([], []), ([], []), ([], []), ([2], [2]), ([1, 3], [1, 3]), ([4], [4]), ([5], [5]), ([], []), ([], []), ([8], [8]), ([7, 9], [7, 9]), ([10], [10]), ([6, 11], [6, 11]), ([0, 12], [0, 12]), ([13, 13, 0, 1, 2, 3, 4, 5, 6, 7, 8, 9, 10, 11, 12, 13], [0, 13])])
def spec_l71Mess.B13 : List Nat := [0, 0, 0, 4, 14, 30, 62, 0, 0, 256, 896, 1920, 4094, 8191, 16383]
theorem spec_l71Mess.tab13 : rtab .any (opsOf Try.f79 13) = spec_l71Mess.T13 := by kernel_rfl
theorem spec_l71Mess.bits13 : waitsOk spec_l71Mess.T13.2 spec_l71Mess.B13 = true := by kernel_rfl
set_option maxHeartbeats 8000000 in
set_option maxRecDepth 100000 in
theorem spec_l71Mess.calls (k : Nat) (g : Nat) (s0_0 : List Int) (s0_1 : Int) (r1 : List ByteArray) (r2 : Int) (w0 w : World) (hI : IsS98 w0 w g s0_0 s0_1) (hB : Below w0.heap.size w0 w) (h : spec_l71Mess.f k s0_0 s0_1 = some (r1, r2)) :
    Calls Try.prog 79 #[.pointer (some ⟨g, 0, none⟩)] w fun e w' => ∃ v0_ : Value, e = .returned (v0_) ∧ Kd.R Kd.string 9 w' w.heap.size (fun _ => True) v0_ r1 ∧ IsS98 w0 w' g s0_0 r2 ∧ Below w0.heap.size w0 w' ∧ KeepBut w w' g none := by
 have HI0 := Aside0.mk hI; have HK := z0 (KeepBut.refl w g none); have HL := Aside0.mk hB.size; clear hI; have HW0 := Aside0.mk hB.size; have HB := Aside0.mk hB; clear hB; have H : ((spec_l71Keys.f k s0_0 s0_1 8).bind fun bt526 => ((spec_l6Rd_pick.f k s0_0 bt526.2 5).bind fun bt530 => (if bt530.1 = 0 then (if bt526.1.length < 8796093022208 then (some ((bt526.1 ++ [(⟨#[97]⟩ : ByteArray)]), bt530.2)) else (none)) else (if bt530.1 = 1 then ((some (([(⟨#[120]⟩ : ByteArray), (⟨#[101]⟩ : ByteArray)] : List ByteArray) : List ByteArray)).bind fun y535 => (if bt526.1.length + y535.length < 8796093022208 then (some ((bt526.1 ++ y535), bt530.2)) else (none))) else (if bt530.1 = 2 then ((spec_l6Rd_pick.f k s0_0 bt530.2 2).bind fun bt541 => ((spec_l6Many.f k (⟨#[100]⟩ : ByteArray) (wrap64 (5 + bt541.1))).bind fun t543 => (if bt526.1.length < 8796093022208 then (some ((bt526.1 ++ [t543]), bt541.2)) else (none)))) else (if bt530.1 = 3 then (spec_l71Mess.l0 k bt526.1 0 s0_0 bt530.2) else (some (bt526.1, bt530.2)))))))) = some (r1, r2) := h; clear h; replace H := zi H; obtain ⟨⟨t526, t529⟩, A2, H⟩ := H; (try dsimp only at H); replace H := zi H; obtain ⟨⟨t530, t531⟩, A3, H⟩ := H; (try dsimp only at H); go_enter Try.func79, Try.ntmps79
 go_upto_if 9 with (first | ((with_reducible refine gc 77 ?_); refine zL (some 6) Try.func77 #[.pointer (some ⟨g, 0, none⟩), .int .i64 8] ?_; (with_reducible refine (spec_l71Keys.calls k g s0_0 s0_1 8 t526 t529 w0 _ ?side1 ?side2 A2.out).mono ?_); (case side1 => repeat (first | (with_reducible first | exact HI0.out | apply IsS98.alloc | apply IsS98.drewN | apply IsS98.drew | apply IsS98.set_1) | exact HI0.out)); (case side2 => repeat (first | (with_reducible first | exact HB.out | apply below_alloc | apply pw_below_drewN | apply below_drew1 | refine below_set ?_ (IsS98.ge HI0.out)) | exact HB.out)); rintro e w4 ⟨v527, rfl, ho0, hi, hb, hk⟩; refine zv ?_; have HO528 := z0 (Kd.R_lower ho0 (keep_size (w := w) (g := g) (row := none) (zq HK.out))); replace HK := z0 (KeepBut.trans (zq HK.out) hk (.inl rfl)); replace HB := z0 (hb); replace HI0 := z0 (hi); (try clear hb hk hi ho0)) | ((with_reducible refine gc 78 ?_); refine zL (some 8) Try.func78 #[.pointer (some ⟨g, 0, none⟩), .int .i64 5] ?_; (with_reducible refine (spec_l6Rd_pick.calls k g s0_0 t529 5 t530 t531 w0 _ ?side1 ?side2 A3.out).mono ?_); (case side1 => repeat (first | (with_reducible first | exact HI0.out | apply IsS98.alloc | apply IsS98.drewN | apply IsS98.drew | apply IsS98.set_1) | exact HI0.out)); (case side2 => repeat (first | (with_reducible first | exact HB.out | apply below_alloc | apply pw_below_drewN | apply below_drew1 | refine below_set ?_ (IsS98.ge HI0.out)) | exact HB.out)); rintro e w5 ⟨rfl, hi, hb, hk⟩; refine zv ?_; replace HO528 := z0 (Kd.R_mono (Kd.R_keep (IsS98.apart (show IsS98 w0 _ g s0_0 t529 from HI0.out.zI) (zr HO528.out) (by decide)) hk (fun _ h => h.2)) (fun _ h => h.1)); replace HK := z0 (KeepBut.trans (zq HK.out) hk (.inl rfl)); replace HB := z0 (hb); replace HI0 := z0 (hi); (try clear hb hk hi)))
 by_cases c6 : t530 = 0
 ·rw [if_pos c6] at H; have c6b0 : (t530 == 0) = true := beq_iff_eq.mpr c6; have c6b1 : (t530 != 0) = false := bne_eq_false_iff_eq.mpr c6; clear c6; (first | rw [c6b0] | (simp only [i64_w, i32_w]; rw [c6b0]) | simp only [*, Bool.not_true, Bool.not_false] | skip); replace H := zn H; obtain ⟨c7, H⟩ := H; have LMc7 := Aside0.mk c7; clear c7; obtain ⟨y532, hy532⟩ : ∃ y_ : List ByteArray, y_ = (t526 ++ [(⟨#[97]⟩ : ByteArray)]) := ⟨_, rfl⟩; replace H : (some (y532, t531)) = some (r1, r2) := zH2 hy532 H; have Ny532 := Aside0.mk hy532; clear hy532; simp only [Option.some.injEq, Prod.mk.injEq] at H; obtain ⟨rfl, rfl⟩ := H
  go_wp2_with (first | ((with_reducible refine gate_builtin (b := .append) (xs := #[.tmp 11, .tmp 12]) rfl ?_); at_builtin; refine Kd.R_append Kd.string w.heap.size rfl (.tmp 11) (.tmp 12) 23 9 (.string ⟨#[]⟩) 16 rfl Try.underlying23 info9 rfl (by decide) (by omega) v527 t526 (⟨#[97]⟩ : ByteArray) [.string (⟨#[97]⟩ : ByteArray)] (fun _ => True) (fun _ => False) rfl rfl ?aP (fun _ hk => hk.elim) ?aF ?aO (Below.refl _ _) ?aS ?aL ?_; (case aP => exact rfl); (case aF => exact (fun _ _ => trivial)); (case aO => exact (zr HO528.out)); (case aS => exact (keep_size (w := w) (g := g) (row := none) (zq HK.out))); (case aL => have := LMc7.out; omega); intro v533 w8 ho hb hg hat; rw [← Ny532.out] at ho; replace HB := z0 (below_weaken (HI0.out.zb HB.out) HL.out hb); replace HI0 := z0 (IsS98.grown (HI0.out.zI) hg (IsS98.own_ne HI0.out HO528.out (by decide))); replace HK := z0 (KeepBut.trans (zq HK.out) (KeepBut.of_grown hg g) (Kd.R_base2 HO528.out)); have HO534 := z0 (ho); clear HO528; clear ho hb hg hat))
  go_ret; exact ⟨_, ze, zr HO534.out, HI0.out.zI, HI0.out.zb HB.out, zq HK.out⟩
 ·rw [if_neg c6] at H; have c6b0 : (t530 == 0) = false := beq_eq_false_iff_ne.mpr c6; have c6b1 : (t530 != 0) = true := bne_iff_ne.mpr c6; (first | rw [c6b0] | (simp only [i64_w, i32_w]; rw [c6b0]) | simp only [*, Bool.not_true, Bool.not_false] | skip)
  by_cases c9 : t530 = 1
  ·rw [if_pos c9] at H; have c9b0 : (t530 == 1) = true := beq_iff_eq.mpr c9; have c9b1 : (t530 != 1) = false := bne_eq_false_iff_eq.mpr c9; clear c9; obtain ⟨y535, hy535⟩ : ∃ y_ : List ByteArray, y_ = (([(⟨#[120]⟩ : ByteArray), (⟨#[101]⟩ : ByteArray)] : List ByteArray)) := ⟨_, rfl⟩; replace H : (if t526.length + y535.length < 8796093022208 then (some ((t526 ++ y535), t531)) else (none)) = some (r1, r2) := zH2 hy535 H; have Ny535 := Aside0.mk hy535; clear hy535; replace H := zn H; obtain ⟨c10, H⟩ := H; have LMc10 := Aside0.mk c10; clear c10; obtain ⟨y538, hy538⟩ : ∃ y_ : List ByteArray, y_ = (t526 ++ y535) := ⟨_, rfl⟩; replace H : (some (y538, t531)) = some (r1, r2) := zH2 hy538 H; have Ny538 := Aside0.mk hy538; clear hy538; simp only [Option.some.injEq, Prod.mk.injEq] at H; obtain ⟨rfl, rfl⟩ := H
   go_wp2_with (first | ((with_reducible refine gd 17 ?_); refine Kd.R_lit Kd.string _ 9 ?hg (N := 17) ?hd (xs := ([(⟨#[120]⟩ : ByteArray), (⟨#[101]⟩ : ByteArray)] : List ByteArray)) (inner := [.string (⟨#[120]⟩ : ByteArray), .string (⟨#[101]⟩ : ByteArray)]) (ok := fun _ => True) (okp := fun _ => True) ?hr ?hp (fun _ hk => hk) trivial (Below.refl _ _) (Nat.le_refl _) (by simp) ?_; (case hd => rfl); (case hg => rfl); (case hr => first | (go_simp; done) | (go_simp; rfl)); (case hp => exact (Reps.one (show Kd.M Kd.string _ _ _ (⟨#[120]⟩ : ByteArray) [.string (⟨#[120]⟩ : ByteArray)] from rfl) (Reps.one (show Kd.M Kd.string _ _ _ (⟨#[101]⟩ : ByteArray) [.string (⟨#[101]⟩ : ByteArray)] from rfl) (Reps.none _ _)))); intro v536 w11 ho12 hb hg_ hnew_; clear hg_ hnew_; (first | rw [← Ny535.out] at ho12 | (simp only [Int.reduceToNat] at ho12; rw [← Ny535.out] at ho12)); have HO537 := z0 (Kd.R_lower (Kd.R_new' ho12 (Kd.R_lt (zr HO528.out))) (keep_size (w := w) (g := g) (row := none) (zq HK.out))); replace HO528 := z0 (Kd.R_elder' (zr HO528.out) (Kd.R_base ho12) hb); replace HK := z0 (KeepBut.trans (zq HK.out) (KeepBut.of_below hb g none) (.inl rfl)); replace HB := z0 (below_step (HI0.out.zb HB.out) hb); replace HI0 := z0 (IsS98.below (HI0.out.zI) hb); clear hb ho12; obtain ⟨Ao14, co14, eo14⟩ := Kd.R_slice HO537.out; subst eo14) | ((with_reducible refine gate_builtin (b := .append) (xs := #[.tmp 16, .tmp 17]) rfl ?_); at_builtin; refine Kd.R_append_rows Kd.string w.heap.size rfl (.tmp 16) (.tmp 17) 23 9 (.string ⟨#[]⟩) 16 rfl Try.underlying23 info9 rfl (by decide) (by omega) v527 t526 y535 _ _ _ (fun k_ => some k_ ≠ (.slice Ao14 y535.length co14 : Value).ownBlock) (fun _ => False) rfl rfl ?aO ?aR (fun _ _ h => h) (fun _ h => h.elim) ?aF (Below.refl _ _) ?aS ?aL ?_; (case aR => repeat (first | exact (Kd.R_reads' HO537.out).2.2 | (with_reducible refine Kd.C_alloc ?_ _) | (with_reducible refine Kd.C_drewN ?_ _) | (with_reducible refine Kd.C_drew ?_))); (case aF => exact (fun k_ hk => Kd.fresh' (Kd.R_lt (zr HO537.out)) k_ hk)); (case aO => exact (Kd.R_mono (zr HO528.out) (fun _ hk => hk.2))); (case aS => exact (keep_size (w := w) (g := g) (row := none) (zq HK.out))); (case aL => have := LMc10.out; omega); intro v539 w13 ho hb hg hat; rw [← Ny538.out] at ho; replace HO537 := z0 (Kd.R_after (ok := (fun _ => True)) (zr HO537.out) hg hat); replace HB := z0 (below_weaken (HI0.out.zb HB.out) HL.out hb); replace HI0 := z0 (IsS98.grown (HI0.out.zI) hg (IsS98.own_ne HI0.out HO528.out (by decide))); replace HK := z0 (KeepBut.trans (zq HK.out) (KeepBut.of_grown hg g) (Kd.R_base2 HO528.out)); have HO540 := z0 (ho); clear HO528; clear ho hb hg hat))
   go_ret; exact ⟨_, ze, Kd.R_mono (zr HO540.out) (fun _ hk => trivial), HI0.out.zI, HI0.out.zb HB.out, zq HK.out⟩
  ·rw [if_neg c9] at H; have c9b0 : (t530 == 1) = false := beq_eq_false_iff_ne.mpr c9; have c9b1 : (t530 != 1) = true := bne_iff_ne.mpr c9
   by_cases c15 : t530 = 2
   ·rw [if_pos c15] at H; have c15b0 : (t530 == 2) = true := beq_iff_eq.mpr c15; have c15b1 : (t530 != 2) = false := bne_eq_false_iff_eq.mpr c15; clear c15; replace H := zi H; obtain ⟨⟨t541, t542⟩, A16, H⟩ := H; (try dsimp only at H); replace H := zi H; obtain ⟨t543, A17, H⟩ := H; replace H := zn H; obtain ⟨c18, H⟩ := H; have LMc18 := Aside0.mk c18; clear c18; obtain ⟨y544, hy544⟩ : ∃ y_ : List ByteArray, y_ = (t526 ++ [t543]) := ⟨_, rfl⟩; replace H : (some (y544, t542)) = some (r1, r2) := zH2 hy544 H; have Ny544 := Aside0.mk hy544; clear hy544; simp only [Option.some.injEq, Prod.mk.injEq] at H; obtain ⟨rfl, rfl⟩ := H
    go_wp2_with (first | ((with_reducible refine gc 78 ?_); refine zL (some 23) Try.func78 #[.pointer (some ⟨g, 0, none⟩), .int .i64 2] ?_; (with_reducible refine (spec_l6Rd_pick.calls k g s0_0 t531 2 t541 t542 w0 _ ?side1 ?side2 A16.out).mono ?_); (case side1 => repeat (first | (with_reducible first | exact HI0.out | apply IsS98.alloc | apply IsS98.drewN | apply IsS98.drew | apply IsS98.set_1) | exact HI0.out)); (case side2 => repeat (first | (with_reducible first | exact HB.out | apply below_alloc | apply pw_below_drewN | apply below_drew1 | refine below_set ?_ (IsS98.ge HI0.out)) | exact HB.out)); rintro e w19 ⟨rfl, hi, hb, hk⟩; refine zv ?_; replace HO528 := z0 (Kd.R_mono (Kd.R_keep (IsS98.apart (show IsS98 w0 _ g s0_0 t531 from HI0.out.zI) (zr HO528.out) (by decide)) hk (fun _ h => h.2)) (fun _ h => h.1)); replace HK := z0 (KeepBut.trans (zq HK.out) hk (.inl rfl)); replace HB := z0 (hb); replace HI0 := z0 (hi); (try clear hb hk hi)) | ((with_reducible refine gc 112 ?_); refine zL (some 25) Try.func112 #[.string (⟨#[100]⟩ : ByteArray), .int .i64 (wrap64 (5 + t541))] ?_; (with_reducible refine (spec_l6Many.calls k (⟨#[100]⟩ : ByteArray) (wrap64 (5 + t541)) t543 _ A17.out).mono ?_); rintro e w' ⟨rfl, ⟨nd, rfl⟩⟩; refine ⟨_, rfl, ?_⟩) | ((with_reducible refine gate_builtin (b := .append) (xs := #[.tmp 21, .tmp 26]) rfl ?_); at_builtin; refine Kd.R_append Kd.string w.heap.size rfl (.tmp 21) (.tmp 26) 23 9 (.string ⟨#[]⟩) 16 rfl Try.underlying23 info9 rfl (by decide) (by omega) v527 t526 t543 [.string t543] (fun _ => True) (fun _ => False) rfl rfl ?aP (fun _ hk => hk.elim) ?aF ?aO (Below.refl _ _) ?aS ?aL ?_; (case aP => exact rfl); (case aF => exact (fun _ _ => trivial)); (case aO => exact (zr HO528.out)); (case aS => exact (keep_size (w := w) (g := g) (row := none) (zq HK.out))); (case aL => have := LMc18.out; omega); intro v545 w20 ho hb hg hat; rw [← Ny544.out] at ho; replace HB := z0 (below_weaken (HI0.out.zb HB.out) HL.out hb); replace HI0 := z0 (IsS98.grown (HI0.out.zI) hg (IsS98.own_ne HI0.out HO528.out (by decide))); replace HK := z0 (KeepBut.trans (zq HK.out) (KeepBut.of_grown hg g) (Kd.R_base2 HO528.out)); have HO546 := z0 (ho); clear HO528; clear ho hb hg hat))
    go_ret; exact ⟨_, ze, zr HO546.out, HI0.out.zI, HI0.out.zb HB.out, zq HK.out⟩
   ·rw [if_neg c15] at H; have c15b0 : (t530 == 2) = false := beq_eq_false_iff_ne.mpr c15; have c15b1 : (t530 != 2) = true := bne_iff_ne.mpr c15
    by_cases c21 : t530 = 3
    ·rw [if_pos c21] at H; have c21b0 : (t530 == 3) = true := beq_iff_eq.mpr c21; have c21b1 : (t530 != 3) = false := bne_eq_false_iff_eq.mpr c21; clear c21; have H' := Aside0.mk H; clear H; go_wp2
     go_loopg [3, 4] k (fun kq v3 v4 w' => ∃ (x3_1 : List ByteArray) (x4_1 : Int), v4 = .int .i64 x4_1 ∧ Aside0 (spec_l71Mess.l0 kq x3_1 x4_1 s0_0 t531 = some (r1, r2)) ∧ Aside0 (kq ≤ k) ∧ Aside0 (Kd.R Kd.string 9 w' w.heap.size (fun _ => True) v3 x3_1) ∧ Aside0 (IsS98 w0 w' g s0_0 t531) ∧ Aside0 (KeepBut w w' g none) ∧ Aside0 (Below w0.heap.size w0 w'))
     case atStart => exact ⟨(t526), (0), zf, H', ⟨Nat.le_refl _⟩, ⟨zr HO528.out⟩, ⟨HI0.out.zI⟩, ⟨zq HK.out⟩, ⟨HI0.out.zb HB.out⟩⟩
     case round =>
      clear H'
      try clear c1
      try clear c2
      try clear p2
      try clear c6
      try clear c6b0
      try clear c6b1
      try clear p6
      try clear c7
      try clear c9
      try clear c9b0
      try clear c9b1
      try clear c10
      try clear c11
      try clear c15
      try clear c15b0
      try clear c15b1
      try clear c18
      try clear c21
      try clear c21b0
      try clear c21b1
      obtain ⟨x3_1, x4_1, rfl, HA, HK1, HO_3, HI0, HK, HB⟩ := hrel
      cases gk with
      | zero => exact absurd HA.out (by simp [spec_l71Mess.l0])
      | succ k1 =>
       have H := HA.out; clear HA; simp only [spec_l71Mess.l0] at H
       by_cases c22 : x4_1 < 30
       ·rw [if_pos c22] at H; have c22b0 : decide (x4_1 < 30) = true := decide_eq_true c22; clear c22; obtain ⟨y547, hy547⟩ : ∃ y_ : List ByteArray, y_ = (([(⟨#[]⟩ : ByteArray), (⟨#[97]⟩ : ByteArray), (⟨#[98]⟩ : ByteArray), (⟨#[99]⟩ : ByteArray), (⟨#[100]⟩ : ByteArray)] : List ByteArray)) := ⟨_, rfl⟩; replace H : (if 0 ≤ (Int.tmod x4_1 5) then (if (Int.tmod x4_1 5) < (y547.length : Int) then (if 1 + (rdOf ByteArray.empty y547 (Int.tmod x4_1 5)).size ≤ 9223372036854775807 then ((some (([(⟨#[]⟩ : ByteArray), (⟨#[97]⟩ : ByteArray), (⟨#[98]⟩ : ByteArray), (⟨#[99]⟩ : ByteArray), (⟨#[100]⟩ : ByteArray), (⟨#[100, 97]⟩ : ByteArray)] : List ByteArray) : List ByteArray)).bind fun y551 => (if 0 ≤ (wrap64 (Int.tdiv x4_1 5)) then (if (wrap64 (Int.tdiv x4_1 5)) < (y551.length : Int) then (if ((⟨#[100]⟩ : ByteArray) ++ (rdOf ByteArray.empty y547 (Int.tmod x4_1 5))).size + (rdOf ByteArray.empty y551 (wrap64 (Int.tdiv x4_1 5))).size ≤ 9223372036854775807 then ((spec_l2Put.f k1 x3_1 (((⟨#[100]⟩ : ByteArray) ++ (rdOf ByteArray.empty y547 (Int.tmod x4_1 5))) ++ (rdOf ByteArray.empty y551 (wrap64 (Int.tdiv x4_1 5))))).bind fun t555 => (spec_l71Mess.l0 k1 t555 (wrap64 (x4_1 + 1)) s0_0 t531)) else (none)) else (none)) else (none))) else (none)) else (none)) else (none)) = some (r1, r2) := zH2 hy547 H; have Ny547 := Aside0.mk hy547; clear hy547; obtain ⟨ji23, hji23⟩ : ∃ j_ : Int, (Int.tmod x4_1 5) = j_ := ⟨_, rfl⟩
        replace H : (if 0 ≤ (ji23) then (if (ji23) < (y547.length : Int) then (if 1 + (rdOf ByteArray.empty y547 (ji23)).size ≤ 9223372036854775807 then ((some (([(⟨#[]⟩ : ByteArray), (⟨#[97]⟩ : ByteArray), (⟨#[98]⟩ : ByteArray), (⟨#[99]⟩ : ByteArray), (⟨#[100]⟩ : ByteArray), (⟨#[100, 97]⟩ : ByteArray)] : List ByteArray) : List ByteArray)).bind fun y551 => (if 0 ≤ (wrap64 (Int.tdiv x4_1 5)) then (if (wrap64 (Int.tdiv x4_1 5)) < (y551.length : Int) then (if ((⟨#[100]⟩ : ByteArray) ++ (rdOf ByteArray.empty y547 (ji23))).size + (rdOf ByteArray.empty y551 (wrap64 (Int.tdiv x4_1 5))).size ≤ 9223372036854775807 then ((spec_l2Put.f k1 x3_1 (((⟨#[100]⟩ : ByteArray) ++ (rdOf ByteArray.empty y547 (ji23))) ++ (rdOf ByteArray.empty y551 (wrap64 (Int.tdiv x4_1 5))))).bind fun t555 => (spec_l71Mess.l0 k1 t555 (wrap64 (x4_1 + 1)) s0_0 t531)) else (none)) else (none)) else (none))) else (none)) else (none)) else (none)) = some (r1, r2) := by first | (rw [hji23] at H; exact H) | (simp only [hji23] at H ⊢; exact H)
        replace H := zn H; obtain ⟨c24, H⟩ := H; have c24b0 : decide (0 ≤ (ji23)) = true := decide_eq_true c24; clear c24; replace H := zn H; obtain ⟨c25, H⟩ := H; have c25b0 : decide ((ji23) < (y547.length : Int)) = true := decide_eq_true c25; clear c25; replace H := zn H; obtain ⟨c26, H⟩ := H; have c26b0 := eq_true c26; have c26b1 : decide (1 + (rdOf ByteArray.empty y547 (ji23)).size ≤ 9223372036854775807) = true := decide_eq_true c26
        try have c26b2 : (9223372036854775807 < 1 + (rdOf ByteArray.empty y547 (ji23)).size) = False := eq_false (Nat.not_lt.2 c26)
        obtain ⟨y551, hy551⟩ : ∃ y_ : List ByteArray, y_ = (([(⟨#[]⟩ : ByteArray), (⟨#[97]⟩ : ByteArray), (⟨#[98]⟩ : ByteArray), (⟨#[99]⟩ : ByteArray), (⟨#[100]⟩ : ByteArray), (⟨#[100, 97]⟩ : ByteArray)] : List ByteArray)) := ⟨_, rfl⟩; replace H : (if 0 ≤ (wrap64 (Int.tdiv x4_1 5)) then (if (wrap64 (Int.tdiv x4_1 5)) < (y551.length : Int) then (if ((⟨#[100]⟩ : ByteArray) ++ (rdOf ByteArray.empty y547 (ji23))).size + (rdOf ByteArray.empty y551 (wrap64 (Int.tdiv x4_1 5))).size ≤ 9223372036854775807 then ((spec_l2Put.f k1 x3_1 (((⟨#[100]⟩ : ByteArray) ++ (rdOf ByteArray.empty y547 (ji23))) ++ (rdOf ByteArray.empty y551 (wrap64 (Int.tdiv x4_1 5))))).bind fun t555 => (spec_l71Mess.l0 k1 t555 (wrap64 (x4_1 + 1)) s0_0 t531)) else (none)) else (none)) else (none)) = some (r1, r2) := zH2 hy551 H; have Ny551 := Aside0.mk hy551; clear hy551; obtain ⟨ji27, hji27⟩ : ∃ j_ : Int, (wrap64 (Int.tdiv x4_1 5)) = j_ := ⟨_, rfl⟩
        replace H : (if 0 ≤ (ji27) then (if (ji27) < (y551.length : Int) then (if ((⟨#[100]⟩ : ByteArray) ++ (rdOf ByteArray.empty y547 (ji23))).size + (rdOf ByteArray.empty y551 (ji27)).size ≤ 9223372036854775807 then ((spec_l2Put.f k1 x3_1 (((⟨#[100]⟩ : ByteArray) ++ (rdOf ByteArray.empty y547 (ji23))) ++ (rdOf ByteArray.empty y551 (ji27)))).bind fun t555 => (spec_l71Mess.l0 k1 t555 (wrap64 (x4_1 + 1)) s0_0 t531)) else (none)) else (none)) else (none)) = some (r1, r2) := by first | (rw [hji27] at H; exact H) | (simp only [hji27] at H ⊢; exact H)
        have hji27w : (IntKind.i64.wrap (Int.tdiv x4_1 5)) = ji27 := (i64_w _).trans hji27; replace H := zn H; obtain ⟨c28, H⟩ := H; have c28b0 : decide (0 ≤ (ji27)) = true := decide_eq_true c28; clear c28; replace H := zn H; obtain ⟨c29, H⟩ := H; have c29b0 : decide ((ji27) < (y551.length : Int)) = true := decide_eq_true c29; clear c29; replace H := zn H; obtain ⟨c30, H⟩ := H; have c30b0 := eq_true c30; have c30b1 : decide (((⟨#[100]⟩ : ByteArray) ++ (rdOf ByteArray.empty y547 (ji23))).size + (rdOf ByteArray.empty y551 (ji27)).size ≤ 9223372036854775807) = true := decide_eq_true c30
        try have c30b2 : (9223372036854775807 < ((⟨#[100]⟩ : ByteArray) ++ (rdOf ByteArray.empty y547 (ji23))).size + (rdOf ByteArray.empty y551 (ji27)).size) = False := eq_false (Nat.not_lt.2 c30)
        (try (have c30b3 := c30b2; rw [ByteArray.size_append] at c30b3; try simp only [show ∀ b_ : UInt8, (⟨#[b_]⟩ : ByteArray).size = 1 from fun _ => rfl] at c30b3)); replace H := zi H; obtain ⟨t555, A31, H⟩ := H; have H' := Aside0.mk H; clear H; obtain ⟨Ao32, co32, eo32⟩ := Kd.R_slice HO_3.out; subst eo32
        try go_wp2
        have pi550 : (0 ≤ ((ji23) : Int)) = True := eq_true (zd); have qi550 : ((ji23) < (y547.length : Int)) = True := eq_true (zd); have pi554 : (0 ≤ ((ji27) : Int)) = True := eq_true (zd); have qi554 : ((ji27) < (y551.length : Int)) = True := eq_true (zd); replace HO_3 := z0 (Kd.R_drew HO_3.out); replace HI0 := z0 (IsS98.drew HI0.out); replace HK := z0 (keep_drew HK.out); replace HB := z0 (below_drew1 HB.out); refine start_ (n := 15) (S := fun w' => True) (ds := []) (fb 15 0) (by kernel_rfl) rfl rfl trivial (fun hHeld => ?_); refine with_tabW spec_l71Mess.tab13 spec_l71Mess.bits13 (fun HT_ HW_ => ?_); generalize wr.drew = w33 at HO_3 HI0 HK HB hHeld ⊢; refine zu 0 1 ?_; refine zu 2 5 ?_; refine zu 3 13 ?_; refine zu 8 269 ?_; refine zu 9 781 ?_; refine join_ (σ := Value × Addr × Value × Addr) 3 (fb 15 4095) (fun s_ => [(35, s_.1), (39, .string (rdOf ByteArray.empty y547 (ji23))), (41, s_.2.2.1), (45, .string (rdOf ByteArray.empty y551 (ji27))), (38, .pointer (some (s_.2.1.add ((ji23)).toNat))), (40, .string ((⟨#[100]⟩ : ByteArray) ++ (rdOf ByteArray.empty y547 (ji23)))), (44, .pointer (some (s_.2.2.2.add ((ji27)).toNat)))]) (fun s_ w' => (Kd.R Kd.string 9 w' w.heap.size (fun k_ => some k_ ≠ (s_.2.2.1 : Value).ownBlock ∧ some k_ ≠ (.slice Ao32 x3_1.length co32 : Value).ownBlock) s_.1 y547) ∧ (Kd.R Kd.string 9 w' w.heap.size (fun k_ => some k_ ≠ (s_.1 : Value).ownBlock ∧ some k_ ≠ (.slice Ao32 x3_1.length co32 : Value).ownBlock) s_.2.2.1 y551) ∧ (Kd.R Kd.string 9 w' w.heap.size (fun k_ => some k_ ≠ (s_.1 : Value).ownBlock ∧ some k_ ≠ (s_.2.2.1 : Value).ownBlock) (.slice Ao32 x3_1.length co32) x3_1) ∧ (∃ c_, (s_.1 : Value) = .slice (some s_.2.1) y547.length c_) ∧ (∃ c_, (s_.2.2.1 : Value) = .slice (some s_.2.2.2) y551.length c_) ∧ (IsS98 w0 w' g s0_0 t531) ∧ (KeepBut w w' g none) ∧ (Below w0.heap.size w0 w')) ?_ ?_; rotate_left
        ·intro hJ1_5_7_11; refine join_ (σ := Value × Addr × Value × Addr) 4 (fb 15 2047) (fun s_ => [(35, s_.1), (39, .string (rdOf ByteArray.empty y547 (ji23))), (41, s_.2.2.1), (38, .pointer (some (s_.2.1.add ((ji23)).toNat))), (40, .string ((⟨#[100]⟩ : ByteArray) ++ (rdOf ByteArray.empty y547 (ji23)))), (44, .pointer (some (s_.2.2.2.add ((ji27)).toNat)))]) (fun s_ w' => (Kd.R Kd.string 9 w' w.heap.size (fun k_ => some k_ ≠ (s_.2.2.1 : Value).ownBlock ∧ some k_ ≠ (.slice Ao32 x3_1.length co32 : Value).ownBlock) s_.1 y547) ∧ (Kd.R Kd.string 9 w' w.heap.size (fun k_ => some k_ ≠ (s_.1 : Value).ownBlock ∧ some k_ ≠ (.slice Ao32 x3_1.length co32 : Value).ownBlock) s_.2.2.1 y551) ∧ (Kd.R Kd.string 9 w' w.heap.size (fun k_ => some k_ ≠ (s_.1 : Value).ownBlock ∧ some k_ ≠ (s_.2.2.1 : Value).ownBlock) (.slice Ao32 x3_1.length co32) x3_1) ∧ (∃ c_, (s_.1 : Value) = .slice (some s_.2.1) y547.length c_) ∧ (∃ c_, (s_.2.2.1 : Value) = .slice (some s_.2.2.2) y551.length c_) ∧ (IsS98 w0 w' g s0_0 t531) ∧ (KeepBut w w' g none) ∧ (Below w0.heap.size w0 w')) ?_ ?_; rotate_left
         ·intro hJ1_5_7; refine join_ (σ := Value × Addr × Value × Addr) 5 (fb 15 3999) (fun s_ => [(35, s_.1), (41, s_.2.2.1), (45, .string (rdOf ByteArray.empty y551 (ji27))), (38, .pointer (some (s_.2.1.add ((ji23)).toNat))), (44, .pointer (some (s_.2.2.2.add ((ji27)).toNat)))]) (fun s_ w' => (Kd.R Kd.string 9 w' w.heap.size (fun k_ => some k_ ≠ (s_.2.2.1 : Value).ownBlock ∧ some k_ ≠ (.slice Ao32 x3_1.length co32 : Value).ownBlock) s_.1 y547) ∧ (Kd.R Kd.string 9 w' w.heap.size (fun k_ => some k_ ≠ (s_.1 : Value).ownBlock ∧ some k_ ≠ (.slice Ao32 x3_1.length co32 : Value).ownBlock) s_.2.2.1 y551) ∧ (Kd.R Kd.string 9 w' w.heap.size (fun k_ => some k_ ≠ (s_.1 : Value).ownBlock ∧ some k_ ≠ (s_.2.2.1 : Value).ownBlock) (.slice Ao32 x3_1.length co32) x3_1) ∧ (∃ c_, (s_.1 : Value) = .slice (some s_.2.1) y547.length c_) ∧ (∃ c_, (s_.2.2.1 : Value) = .slice (some s_.2.2.2) y551.length c_) ∧ (IsS98 w0 w' g s0_0 t531) ∧ (KeepBut w w' g none) ∧ (Below w0.heap.size w0 w')) ?_ ?_; rotate_left
          ·intro hJ1_7_11; refine join_ (σ := Value × Addr) 6 (fb 15 895) (fun s_ => [(35, s_.1), (39, .string (rdOf ByteArray.empty y547 (ji23))), (38, .pointer (some (s_.2.add ((ji23)).toNat))), (40, .string ((⟨#[100]⟩ : ByteArray) ++ (rdOf ByteArray.empty y547 (ji23))))]) (fun s_ w' => (Kd.R Kd.string 9 w' w.heap.size (fun k_ => some k_ ≠ (.slice Ao32 x3_1.length co32 : Value).ownBlock) s_.1 y547) ∧ (Kd.R Kd.string 9 w' w.heap.size (fun k_ => some k_ ≠ (s_.1 : Value).ownBlock) (.slice Ao32 x3_1.length co32) x3_1) ∧ (∃ c_, (s_.1 : Value) = .slice (some s_.2) y547.length c_) ∧ (IsS98 w0 w' g s0_0 t531) ∧ (KeepBut w w' g none) ∧ (Below w0.heap.size w0 w')) ?_ ?_; rotate_left
           ·intro hJ1_5; refine join_ (σ := Value × Addr × Value × Addr) 6 (fb 15 1951) (fun s_ => [(35, s_.1), (41, s_.2.2.1), (38, .pointer (some (s_.2.1.add ((ji23)).toNat))), (44, .pointer (some (s_.2.2.2.add ((ji27)).toNat)))]) (fun s_ w' => (Kd.R Kd.string 9 w' w.heap.size (fun k_ => some k_ ≠ (s_.2.2.1 : Value).ownBlock ∧ some k_ ≠ (.slice Ao32 x3_1.length co32 : Value).ownBlock) s_.1 y547) ∧ (Kd.R Kd.string 9 w' w.heap.size (fun k_ => some k_ ≠ (s_.1 : Value).ownBlock ∧ some k_ ≠ (.slice Ao32 x3_1.length co32 : Value).ownBlock) s_.2.2.1 y551) ∧ (Kd.R Kd.string 9 w' w.heap.size (fun k_ => some k_ ≠ (s_.1 : Value).ownBlock ∧ some k_ ≠ (s_.2.2.1 : Value).ownBlock) (.slice Ao32 x3_1.length co32) x3_1) ∧ (∃ c_, (s_.1 : Value) = .slice (some s_.2.1) y547.length c_) ∧ (∃ c_, (s_.2.2.1 : Value) = .slice (some s_.2.2.2) y551.length c_) ∧ (IsS98 w0 w' g s0_0 t531) ∧ (KeepBut w w' g none) ∧ (Below w0.heap.size w0 w')) ?_ ?_; rotate_left
            ·intro hJ1_7; refine join_ (σ := Value × Addr) 7 (fb 15 3981) (fun s_ => [(41, s_.1), (45, .string (rdOf ByteArray.empty y551 (ji27))), (44, .pointer (some (s_.2.add ((ji27)).toNat)))]) (fun s_ w' => (Kd.R Kd.string 9 w' w.heap.size (fun k_ => some k_ ≠ (.slice Ao32 x3_1.length co32 : Value).ownBlock) s_.1 y551) ∧ (Kd.R Kd.string 9 w' w.heap.size (fun k_ => some k_ ≠ (s_.1 : Value).ownBlock) (.slice Ao32 x3_1.length co32) x3_1) ∧ (∃ c_, (s_.1 : Value) = .slice (some s_.2) y551.length c_) ∧ (IsS98 w0 w' g s0_0 t531) ∧ (KeepBut w w' g none) ∧ (Below w0.heap.size w0 w')) ?_ ?_; rotate_left
             ·intro hJ7_11; refine join_ (σ := Value × Addr) 8 (fb 15 799) (fun s_ => [(35, s_.1), (38, .pointer (some (s_.2.add ((ji23)).toNat)))]) (fun s_ w' => (Kd.R Kd.string 9 w' w.heap.size (fun k_ => some k_ ≠ (.slice Ao32 x3_1.length co32 : Value).ownBlock) s_.1 y547) ∧ (Kd.R Kd.string 9 w' w.heap.size (fun k_ => some k_ ≠ (s_.1 : Value).ownBlock) (.slice Ao32 x3_1.length co32) x3_1) ∧ (∃ c_, (s_.1 : Value) = .slice (some s_.2) y547.length c_) ∧ (IsS98 w0 w' g s0_0 t531) ∧ (KeepBut w w' g none) ∧ (Below w0.heap.size w0 w')) ?_ ?_; rotate_left
              ·intro hJ1; refine join_ (σ := Value × Addr) 8 (fb 15 1933) (fun s_ => [(41, s_.1), (44, .pointer (some (s_.2.add ((ji27)).toNat)))]) (fun s_ w' => (Kd.R Kd.string 9 w' w.heap.size (fun k_ => some k_ ≠ (.slice Ao32 x3_1.length co32 : Value).ownBlock) s_.1 y551) ∧ (Kd.R Kd.string 9 w' w.heap.size (fun k_ => some k_ ≠ (s_.1 : Value).ownBlock) (.slice Ao32 x3_1.length co32) x3_1) ∧ (∃ c_, (s_.1 : Value) = .slice (some s_.2) y551.length c_) ∧ (IsS98 w0 w' g s0_0 t531) ∧ (KeepBut w w' g none) ∧ (Below w0.heap.size w0 w')) ?_ ?_; rotate_left
               ·intro hJ7; refine two_ (i := 1) (j := 7) (Ni := some 35) (Nj := some 41) (fb 15 783) (fb 15 909) rfl rfl rfl rfl (two_of HT_.out (by kernel_rfl)) (by decide) (by decide) (fun K hK => ?_) (fun K hK => ?_)
                ·skip
                 refine Kd.R_lit_step Kd.string _ 9 ?hg (N := 35) ?hd (xs := ([(⟨#[]⟩ : ByteArray), (⟨#[97]⟩ : ByteArray), (⟨#[98]⟩ : ByteArray), (⟨#[99]⟩ : ByteArray), (⟨#[100]⟩ : ByteArray)] : List ByteArray)) (inner := [.string (⟨#[]⟩ : ByteArray), .string (⟨#[97]⟩ : ByteArray), .string (⟨#[98]⟩ : ByteArray), .string (⟨#[99]⟩ : ByteArray), .string (⟨#[100]⟩ : ByteArray)]) (ok := fun _ => True) (okp := fun _ => True) ?hr ?hp (fun _ hk => hk) trivial (Below.refl _ _) (Nat.le_refl _) (by simp) ?_; (case hd => rfl); (case hg => rfl); (case hr => first | (go_simp; done) | (go_simp; rfl)); (case hp => exact (Reps.one (show Kd.M Kd.string _ _ _ (⟨#[]⟩ : ByteArray) [.string (⟨#[]⟩ : ByteArray)] from rfl) (Reps.one (show Kd.M Kd.string _ _ _ (⟨#[97]⟩ : ByteArray) [.string (⟨#[97]⟩ : ByteArray)] from rfl) (Reps.one (show Kd.M Kd.string _ _ _ (⟨#[98]⟩ : ByteArray) [.string (⟨#[98]⟩ : ByteArray)] from rfl) (Reps.one (show Kd.M Kd.string _ _ _ (⟨#[99]⟩ : ByteArray) [.string (⟨#[99]⟩ : ByteArray)] from rfl) (Reps.one (show Kd.M Kd.string _ _ _ (⟨#[100]⟩ : ByteArray) [.string (⟨#[100]⟩ : ByteArray)] from rfl) (Reps.none _ _))))))); intro v548 w34 ho35 hb hg_ hnew_; clear hg_ hnew_; (first | rw [← Ny547.out] at ho35 | (simp only [Int.reduceToNat] at ho35; rw [← Ny547.out] at ho35)); have HO549 := z0 (Kd.R_lower (Kd.R_new' ho35 (Kd.R_lt (zr HO_3.out))) (keep_size (w := w) (g := g) (row := none) (zq HK.out))); replace HO_3 := z0 (Kd.R_elder' (zr HO_3.out) (Kd.R_base ho35) hb); replace HK := z0 (KeepBut.trans (zq HK.out) (KeepBut.of_below hb g none) (.inl rfl)); replace HB := z0 (below_step (HI0.out.zb HB.out) hb); replace HI0 := z0 (IsS98.below (HI0.out.zI) hb); clear hb ho35; obtain ⟨Ao36, co36, eo36⟩ := Kd.R_slice HO549.out; subst eo36; obtain ⟨ado36, fo36, _⟩ := Kd.at_string (Kd.R_reads' HO549.out).2.2 0 (by decide) (by rw [Ny547.out]; simp)
                 cases fo36
                 refine hK.out _ _ trivial (fun hHeld => ?_); clear hK K; refine znm ?_; refine zu 4 799 ?_; exact norm_ (by first | (simp only [putAll, Act.put, List.setIfInBounds_toArray, List.set_cons_zero, List.set_cons_succ]; done) | (simp only [putAll, Act.put, List.setIfInBounds_toArray, List.set_cons_zero, List.set_cons_succ]; rfl)) (hJ1 (.slice (some ado36) y547.length co36, ado36) _ ⟨(Kd.R_mono (zr HO549.out) (fun _ hk => hk.2)), (Kd.R_mono (zr HO_3.out) (fun _ hk => hk.2)), ⟨_, rfl⟩, (HI0.out.zI), (zq HK.out), (HI0.out.zb HB.out)⟩)
                ·skip
                 refine Kd.R_lit_step Kd.string _ 9 ?hg (N := 41) ?hd (xs := ([(⟨#[]⟩ : ByteArray), (⟨#[97]⟩ : ByteArray), (⟨#[98]⟩ : ByteArray), (⟨#[99]⟩ : ByteArray), (⟨#[100]⟩ : ByteArray), (⟨#[100, 97]⟩ : ByteArray)] : List ByteArray)) (inner := [.string (⟨#[]⟩ : ByteArray), .string (⟨#[97]⟩ : ByteArray), .string (⟨#[98]⟩ : ByteArray), .string (⟨#[99]⟩ : ByteArray), .string (⟨#[100]⟩ : ByteArray), .string (⟨#[100, 97]⟩ : ByteArray)]) (ok := fun _ => True) (okp := fun _ => True) ?hr ?hp (fun _ hk => hk) trivial (Below.refl _ _) (Nat.le_refl _) (by simp) ?_; (case hd => rfl); (case hg => rfl); (case hr => first | (go_simp; done) | (go_simp; rfl)); (case hp => exact (Reps.one (show Kd.M Kd.string _ _ _ (⟨#[]⟩ : ByteArray) [.string (⟨#[]⟩ : ByteArray)] from rfl) (Reps.one (show Kd.M Kd.string _ _ _ (⟨#[97]⟩ : ByteArray) [.string (⟨#[97]⟩ : ByteArray)] from rfl) (Reps.one (show Kd.M Kd.string _ _ _ (⟨#[98]⟩ : ByteArray) [.string (⟨#[98]⟩ : ByteArray)] from rfl) (Reps.one (show Kd.M Kd.string _ _ _ (⟨#[99]⟩ : ByteArray) [.string (⟨#[99]⟩ : ByteArray)] from rfl) (Reps.one (show Kd.M Kd.string _ _ _ (⟨#[100]⟩ : ByteArray) [.string (⟨#[100]⟩ : ByteArray)] from rfl) (Reps.one (show Kd.M Kd.string _ _ _ (⟨#[100, 97]⟩ : ByteArray) [.string (⟨#[100, 97]⟩ : ByteArray)] from rfl) (Reps.none _ _)))))))); intro v552 w34 ho35 hb hg_ hnew_; clear hg_ hnew_; (first | rw [← Ny551.out] at ho35 | (simp only [Int.reduceToNat] at ho35; rw [← Ny551.out] at ho35)); have HO553 := z0 (Kd.R_lower (Kd.R_new' ho35 (Kd.R_lt (zr HO_3.out))) (keep_size (w := w) (g := g) (row := none) (zq HK.out))); replace HO_3 := z0 (Kd.R_elder' (zr HO_3.out) (Kd.R_base ho35) hb); replace HK := z0 (KeepBut.trans (zq HK.out) (KeepBut.of_below hb g none) (.inl rfl)); replace HB := z0 (below_step (HI0.out.zb HB.out) hb); replace HI0 := z0 (IsS98.below (HI0.out.zI) hb); clear hb ho35; obtain ⟨Ao36, co36, eo36⟩ := Kd.R_slice HO553.out; subst eo36; obtain ⟨ado36, fo36, _⟩ := Kd.at_string (Kd.R_reads' HO553.out).2.2 0 (by decide) (by rw [Ny551.out]; simp)
                 cases fo36
                 refine hK.out _ _ trivial (fun hHeld => ?_); clear hK K; refine znm ?_; refine zu 10 1933 ?_; exact norm_ (by first | (simp only [putAll, Act.put, List.setIfInBounds_toArray, List.set_cons_zero, List.set_cons_succ]; done) | (simp only [putAll, Act.put, List.setIfInBounds_toArray, List.set_cons_zero, List.set_cons_succ]; rfl)) (hJ7 (.slice (some ado36) y551.length co36, ado36) _ ⟨(Kd.R_mono (zr HO553.out) (fun _ hk => hk.2)), (Kd.R_mono (zr HO_3.out) (fun _ hk => hk.2)), ⟨_, rfl⟩, (HI0.out.zI), (zq HK.out), (HI0.out.zb HB.out)⟩)
               ·skip
                rintro ⟨v552, adz_v552⟩ w37 ⟨h0_, h1_, h2_, h3_, h4_, h5_⟩; have n0_ : Aside0 (Kd.R Kd.string 9 w37 w.heap.size (fun k_ => some k_ ≠ (.slice Ao32 x3_1.length co32 : Value).ownBlock) v552 y551) := ⟨h0_⟩; have n1_ : Aside0 (Kd.R Kd.string 9 w37 w.heap.size (fun k_ => some k_ ≠ (v552 : Value).ownBlock) (.slice Ao32 x3_1.length co32) x3_1) := ⟨h1_⟩; have n2_ : Aside0 (∃ c_, (v552 : Value) = .slice (some adz_v552) y551.length c_) := ⟨h2_⟩; have n3_ : Aside0 (IsS98 w0 w37 g s0_0 t531) := ⟨h3_⟩; have n4_ : Aside0 (KeepBut w w37 g none) := ⟨h4_⟩; have n5_ : Aside0 (Below w0.heap.size w0 w37) := ⟨h5_⟩; clear HO_3; clear HI0; clear HK; clear HB; clear h0_ h1_ h2_ h3_ h4_ h5_; have HO553 := n0_; have HO_3 := n1_; have HA_HO553 := n2_; have HI0 := n3_; have HK := n4_; have HB := n5_; clear n0_ n1_ n2_ n3_ n4_ n5_; have hHeld := trivial; obtain ⟨co38, eo38⟩ := HA_HO553.out; clear HA_HO553; subst eo38; refine norm_ (a' := ?_) ?_ ?_; rotate_left
                ·simp only [putAll, Act.put, List.setIfInBounds_toArray, List.set_cons_zero, List.set_cons_succ]
                 rfl
                refine two_ (i := 1) (j := 11) (Ni := some 35) (Nj := some 45) (fb 15 1935) (fb 15 3981) rfl rfl rfl rfl (two_of HT_.out (by kernel_rfl)) (by decide) (by decide) (fun K hK => ?_) (fun K hK => ?_)
                ·skip
                 refine Kd.R_lit_step Kd.string _ 9 ?hg (N := 35) ?hd (xs := ([(⟨#[]⟩ : ByteArray), (⟨#[97]⟩ : ByteArray), (⟨#[98]⟩ : ByteArray), (⟨#[99]⟩ : ByteArray), (⟨#[100]⟩ : ByteArray)] : List ByteArray)) (inner := [.string (⟨#[]⟩ : ByteArray), .string (⟨#[97]⟩ : ByteArray), .string (⟨#[98]⟩ : ByteArray), .string (⟨#[99]⟩ : ByteArray), .string (⟨#[100]⟩ : ByteArray)]) (ok := fun _ => True) (okp := fun _ => True) ?hr ?hp (fun _ hk => hk) trivial (Below.refl _ _) (Nat.le_refl _) (by simp) ?_; (case hd => rfl); (case hg => rfl); (case hr => first | (go_simp; done) | (go_simp; rfl)); (case hp => exact (Reps.one (show Kd.M Kd.string _ _ _ (⟨#[]⟩ : ByteArray) [.string (⟨#[]⟩ : ByteArray)] from rfl) (Reps.one (show Kd.M Kd.string _ _ _ (⟨#[97]⟩ : ByteArray) [.string (⟨#[97]⟩ : ByteArray)] from rfl) (Reps.one (show Kd.M Kd.string _ _ _ (⟨#[98]⟩ : ByteArray) [.string (⟨#[98]⟩ : ByteArray)] from rfl) (Reps.one (show Kd.M Kd.string _ _ _ (⟨#[99]⟩ : ByteArray) [.string (⟨#[99]⟩ : ByteArray)] from rfl) (Reps.one (show Kd.M Kd.string _ _ _ (⟨#[100]⟩ : ByteArray) [.string (⟨#[100]⟩ : ByteArray)] from rfl) (Reps.none _ _))))))); intro v548 w39 ho40 hb hg_ hnew_; clear hg_ hnew_; (first | rw [← Ny547.out] at ho40 | (simp only [Int.reduceToNat] at ho40; rw [← Ny547.out] at ho40)); have HO549 := z0 (Kd.R_lower (Kd.R_new' (Kd.R_new' ho40 (Kd.R_lt (zr HO_3.out))) (Kd.R_lt (zr HO553.out))) (keep_size (w := w) (g := g) (row := none) (zq HK.out))); replace HO_3 := z0 (Kd.R_elder' (zr HO_3.out) (Kd.R_base ho40) hb); replace HO553 := z0 (Kd.R_elder' (zr HO553.out) (Kd.R_base ho40) hb); replace HK := z0 (KeepBut.trans (zq HK.out) (KeepBut.of_below hb g none) (.inl rfl)); replace HB := z0 (below_step (HI0.out.zb HB.out) hb); replace HI0 := z0 (IsS98.below (HI0.out.zI) hb); clear hb ho40; obtain ⟨Ao41, co41, eo41⟩ := Kd.R_slice HO549.out; subst eo41; obtain ⟨ado41, fo41, _⟩ := Kd.at_string (Kd.R_reads' HO549.out).2.2 0 (by decide) (by rw [Ny547.out]; simp)
                 cases fo41
                 refine hK.out _ _ trivial (fun hHeld => ?_); clear hK K; refine znm ?_; refine zu 4 1951 ?_; exact norm_ (by first | (simp only [putAll, Act.put, List.setIfInBounds_toArray, List.set_cons_zero, List.set_cons_succ]; done) | (simp only [putAll, Act.put, List.setIfInBounds_toArray, List.set_cons_zero, List.set_cons_succ]; rfl)) (hJ1_7 (.slice (some ado41) y547.length co41, ado41, .slice (some adz_v552) y551.length co38, adz_v552) _ ⟨(Kd.R_mono (zr HO549.out) (fun _ hk => ⟨hk.2, hk.1.2⟩)), (Kd.R_mono (zr HO553.out) (fun _ hk => ⟨hk.2, hk.1⟩)), (Kd.R_mono (zr HO_3.out) (fun _ hk => ⟨hk.2, hk.1⟩)), ⟨_, rfl⟩, ⟨_, rfl⟩, (HI0.out.zI), (zq HK.out), (HI0.out.zb HB.out)⟩)
                ·skip
                 (have p554 : 0 ≤ ((ji27) : Int) := zd; have q554 : (ji27) < (y551.length : Int) := zd; obtain ⟨ad554, e554, hx554_0⟩ := Kd.at_string (Kd.R_reads' HO553.out).2.2 (ji27) p554 q554; obtain rfl : adz_v552 = ad554 := (by injection e554)); refine value_ (w1 := ?_) (v := ?_) (by rfl) rfl ?_ ?_; rotate_left 2
                 ·go_simp
                  constructor
                  ·rfl
                  ·rfl
                 clear hx554_0; refine hK.out _ _ trivial (fun hHeld => ?_); clear hK K; refine znm ?_; exact norm_ (by first | (simp only [putAll, Act.put, List.setIfInBounds_toArray, List.set_cons_zero, List.set_cons_succ]; done) | (simp only [putAll, Act.put, List.setIfInBounds_toArray, List.set_cons_zero, List.set_cons_succ]; rfl)) (hJ7_11 (.slice (some adz_v552) y551.length co38, adz_v552) _ ⟨(zr HO553.out), (zr HO_3.out), ⟨_, rfl⟩, (HI0.out.zI), (zq HK.out), (HI0.out.zb HB.out)⟩)
              ·skip
               rintro ⟨v548, adz_v548⟩ w37 ⟨h0_, h1_, h2_, h3_, h4_, h5_⟩; have n0_ : Aside0 (Kd.R Kd.string 9 w37 w.heap.size (fun k_ => some k_ ≠ (.slice Ao32 x3_1.length co32 : Value).ownBlock) v548 y547) := ⟨h0_⟩; have n1_ : Aside0 (Kd.R Kd.string 9 w37 w.heap.size (fun k_ => some k_ ≠ (v548 : Value).ownBlock) (.slice Ao32 x3_1.length co32) x3_1) := ⟨h1_⟩; have n2_ : Aside0 (∃ c_, (v548 : Value) = .slice (some adz_v548) y547.length c_) := ⟨h2_⟩; have n3_ : Aside0 (IsS98 w0 w37 g s0_0 t531) := ⟨h3_⟩; have n4_ : Aside0 (KeepBut w w37 g none) := ⟨h4_⟩; have n5_ : Aside0 (Below w0.heap.size w0 w37) := ⟨h5_⟩; clear HO_3; clear HI0; clear HK; clear HB; clear h0_ h1_ h2_ h3_ h4_ h5_; have HO549 := n0_; have HO_3 := n1_; have HA_HO549 := n2_; have HI0 := n3_; have HK := n4_; have HB := n5_; clear n0_ n1_ n2_ n3_ n4_ n5_; have hHeld := trivial; obtain ⟨co38, eo38⟩ := HA_HO549.out; clear HA_HO549; subst eo38; refine norm_ (a' := ?_) ?_ ?_; rotate_left
               ·simp only [putAll, Act.put, List.setIfInBounds_toArray, List.set_cons_zero, List.set_cons_succ]
                rfl
               refine two_ (i := 5) (j := 7) (Ni := some 39) (Nj := some 41) (fb 15 831) (fb 15 927) rfl rfl rfl rfl (two_of HT_.out (by kernel_rfl)) (by decide) (by decide) (fun K hK => ?_) (fun K hK => ?_)
               ·skip
                (have p550 : 0 ≤ ((ji23) : Int) := zd; have q550 : (ji23) < (y547.length : Int) := zd; obtain ⟨ad550, e550, hx550_0⟩ := Kd.at_string (Kd.R_reads' HO549.out).2.2 (ji23) p550 q550; obtain rfl : adz_v548 = ad550 := (by injection e550)); refine value_ (w1 := ?_) (v := ?_) (by rfl) rfl ?_ ?_; rotate_left 2
                ·go_simp
                 constructor
                 ·rfl
                 ·rfl
                clear hx550_0; refine hK.out _ _ trivial (fun hHeld => ?_); clear hK K; refine znm ?_; refine zu 6 895 ?_; exact norm_ (by first | (simp only [putAll, Act.put, List.setIfInBounds_toArray, List.set_cons_zero, List.set_cons_succ]; done) | (simp only [putAll, Act.put, List.setIfInBounds_toArray, List.set_cons_zero, List.set_cons_succ]; rfl)) (hJ1_5 (.slice (some adz_v548) y547.length co38, adz_v548) _ ⟨(zr HO549.out), (zr HO_3.out), ⟨_, rfl⟩, (HI0.out.zI), (zq HK.out), (HI0.out.zb HB.out)⟩)
               ·skip
                refine Kd.R_lit_step Kd.string _ 9 ?hg (N := 41) ?hd (xs := ([(⟨#[]⟩ : ByteArray), (⟨#[97]⟩ : ByteArray), (⟨#[98]⟩ : ByteArray), (⟨#[99]⟩ : ByteArray), (⟨#[100]⟩ : ByteArray), (⟨#[100, 97]⟩ : ByteArray)] : List ByteArray)) (inner := [.string (⟨#[]⟩ : ByteArray), .string (⟨#[97]⟩ : ByteArray), .string (⟨#[98]⟩ : ByteArray), .string (⟨#[99]⟩ : ByteArray), .string (⟨#[100]⟩ : ByteArray), .string (⟨#[100, 97]⟩ : ByteArray)]) (ok := fun _ => True) (okp := fun _ => True) ?hr ?hp (fun _ hk => hk) trivial (Below.refl _ _) (Nat.le_refl _) (by simp) ?_; (case hd => rfl); (case hg => rfl); (case hr => first | (go_simp; done) | (go_simp; rfl)); (case hp => exact (Reps.one (show Kd.M Kd.string _ _ _ (⟨#[]⟩ : ByteArray) [.string (⟨#[]⟩ : ByteArray)] from rfl) (Reps.one (show Kd.M Kd.string _ _ _ (⟨#[97]⟩ : ByteArray) [.string (⟨#[97]⟩ : ByteArray)] from rfl) (Reps.one (show Kd.M Kd.string _ _ _ (⟨#[98]⟩ : ByteArray) [.string (⟨#[98]⟩ : ByteArray)] from rfl) (Reps.one (show Kd.M Kd.string _ _ _ (⟨#[99]⟩ : ByteArray) [.string (⟨#[99]⟩ : ByteArray)] from rfl) (Reps.one (show Kd.M Kd.string _ _ _ (⟨#[100]⟩ : ByteArray) [.string (⟨#[100]⟩ : ByteArray)] from rfl) (Reps.one (show Kd.M Kd.string _ _ _ (⟨#[100, 97]⟩ : ByteArray) [.string (⟨#[100, 97]⟩ : ByteArray)] from rfl) (Reps.none _ _)))))))); intro v552 w39 ho40 hb hg_ hnew_; clear hg_ hnew_; (first | rw [← Ny551.out] at ho40 | (simp only [Int.reduceToNat] at ho40; rw [← Ny551.out] at ho40)); have HO553 := z0 (Kd.R_lower (Kd.R_new' (Kd.R_new' ho40 (Kd.R_lt (zr HO_3.out))) (Kd.R_lt (zr HO549.out))) (keep_size (w := w) (g := g) (row := none) (zq HK.out))); replace HO_3 := z0 (Kd.R_elder' (zr HO_3.out) (Kd.R_base ho40) hb); replace HO549 := z0 (Kd.R_elder' (zr HO549.out) (Kd.R_base ho40) hb); replace HK := z0 (KeepBut.trans (zq HK.out) (KeepBut.of_below hb g none) (.inl rfl)); replace HB := z0 (below_step (HI0.out.zb HB.out) hb); replace HI0 := z0 (IsS98.below (HI0.out.zI) hb); clear hb ho40; obtain ⟨Ao41, co41, eo41⟩ := Kd.R_slice HO553.out; subst eo41; obtain ⟨ado41, fo41, _⟩ := Kd.at_string (Kd.R_reads' HO553.out).2.2 0 (by decide) (by rw [Ny551.out]; simp)
                cases fo41
                refine hK.out _ _ trivial (fun hHeld => ?_); clear hK K; refine znm ?_; refine zu 10 1951 ?_; exact norm_ (by first | (simp only [putAll, Act.put, List.setIfInBounds_toArray, List.set_cons_zero, List.set_cons_succ]; done) | (simp only [putAll, Act.put, List.setIfInBounds_toArray, List.set_cons_zero, List.set_cons_succ]; rfl)) (hJ1_7 (.slice (some adz_v548) y547.length co38, adz_v548, .slice (some ado41) y551.length co41, ado41) _ ⟨(Kd.R_mono (zr HO549.out) (fun _ hk => ⟨hk.2, hk.1⟩)), (Kd.R_mono (zr HO553.out) (fun _ hk => ⟨hk.2, hk.1.2⟩)), (zr HO_3.out), ⟨_, rfl⟩, ⟨_, rfl⟩, (HI0.out.zI), (zq HK.out), (HI0.out.zb HB.out)⟩)
             ·skip
              rintro ⟨v552, adz_v552⟩ w37 ⟨h0_, h1_, h2_, h3_, h4_, h5_⟩; have n0_ : Aside0 (Kd.R Kd.string 9 w37 w.heap.size (fun k_ => some k_ ≠ (.slice Ao32 x3_1.length co32 : Value).ownBlock) v552 y551) := ⟨h0_⟩; have n1_ : Aside0 (Kd.R Kd.string 9 w37 w.heap.size (fun k_ => some k_ ≠ (v552 : Value).ownBlock) (.slice Ao32 x3_1.length co32) x3_1) := ⟨h1_⟩; have n2_ : Aside0 (∃ c_, (v552 : Value) = .slice (some adz_v552) y551.length c_) := ⟨h2_⟩; have n3_ : Aside0 (IsS98 w0 w37 g s0_0 t531) := ⟨h3_⟩; have n4_ : Aside0 (KeepBut w w37 g none) := ⟨h4_⟩; have n5_ : Aside0 (Below w0.heap.size w0 w37) := ⟨h5_⟩; clear HO_3; clear HI0; clear HK; clear HB; clear h0_ h1_ h2_ h3_ h4_ h5_; have HO553 := n0_; have HO_3 := n1_; have HA_HO553 := n2_; have HI0 := n3_; have HK := n4_; have HB := n5_; clear n0_ n1_ n2_ n3_ n4_ n5_; have hHeld := trivial; obtain ⟨co38, eo38⟩ := HA_HO553.out; clear HA_HO553; subst eo38; refine norm_ (a' := ?_) ?_ ?_; rotate_left
              ·simp only [putAll, Act.put, List.setIfInBounds_toArray, List.set_cons_zero, List.set_cons_succ]
               rfl
              refine zone 1 3983 (fun K hK => ?_); refine Kd.R_lit_step Kd.string _ 9 ?hg (N := 35) ?hd (xs := ([(⟨#[]⟩ : ByteArray), (⟨#[97]⟩ : ByteArray), (⟨#[98]⟩ : ByteArray), (⟨#[99]⟩ : ByteArray), (⟨#[100]⟩ : ByteArray)] : List ByteArray)) (inner := [.string (⟨#[]⟩ : ByteArray), .string (⟨#[97]⟩ : ByteArray), .string (⟨#[98]⟩ : ByteArray), .string (⟨#[99]⟩ : ByteArray), .string (⟨#[100]⟩ : ByteArray)]) (ok := fun _ => True) (okp := fun _ => True) ?hr ?hp (fun _ hk => hk) trivial (Below.refl _ _) (Nat.le_refl _) (by simp) ?_; (case hd => rfl); (case hg => rfl); (case hr => first | (go_simp; done) | (go_simp; rfl)); (case hp => exact (Reps.one (show Kd.M Kd.string _ _ _ (⟨#[]⟩ : ByteArray) [.string (⟨#[]⟩ : ByteArray)] from rfl) (Reps.one (show Kd.M Kd.string _ _ _ (⟨#[97]⟩ : ByteArray) [.string (⟨#[97]⟩ : ByteArray)] from rfl) (Reps.one (show Kd.M Kd.string _ _ _ (⟨#[98]⟩ : ByteArray) [.string (⟨#[98]⟩ : ByteArray)] from rfl) (Reps.one (show Kd.M Kd.string _ _ _ (⟨#[99]⟩ : ByteArray) [.string (⟨#[99]⟩ : ByteArray)] from rfl) (Reps.one (show Kd.M Kd.string _ _ _ (⟨#[100]⟩ : ByteArray) [.string (⟨#[100]⟩ : ByteArray)] from rfl) (Reps.none _ _))))))); intro v548 w39 ho40 hb hg_ hnew_; clear hg_ hnew_; (first | rw [← Ny547.out] at ho40 | (simp only [Int.reduceToNat] at ho40; rw [← Ny547.out] at ho40)); have HO549 := z0 (Kd.R_lower (Kd.R_new' (Kd.R_new' ho40 (Kd.R_lt (zr HO_3.out))) (Kd.R_lt (zr HO553.out))) (keep_size (w := w) (g := g) (row := none) (zq HK.out))); replace HO_3 := z0 (Kd.R_elder' (zr HO_3.out) (Kd.R_base ho40) hb); replace HO553 := z0 (Kd.R_elder' (zr HO553.out) (Kd.R_base ho40) hb); replace HK := z0 (KeepBut.trans (zq HK.out) (KeepBut.of_below hb g none) (.inl rfl)); replace HB := z0 (below_step (HI0.out.zb HB.out) hb); replace HI0 := z0 (IsS98.below (HI0.out.zI) hb); clear hb ho40; obtain ⟨Ao41, co41, eo41⟩ := Kd.R_slice HO549.out; subst eo41; obtain ⟨ado41, fo41, _⟩ := Kd.at_string (Kd.R_reads' HO549.out).2.2 0 (by decide) (by rw [Ny547.out]; simp)
              cases fo41
              refine hK.out _ _ trivial (fun hHeld => ?_); clear hK K; refine znm ?_; refine zu 4 3999 ?_; exact norm_ (by first | (simp only [putAll, Act.put, List.setIfInBounds_toArray, List.set_cons_zero, List.set_cons_succ]; done) | (simp only [putAll, Act.put, List.setIfInBounds_toArray, List.set_cons_zero, List.set_cons_succ]; rfl)) (hJ1_7_11 (.slice (some ado41) y547.length co41, ado41, .slice (some adz_v552) y551.length co38, adz_v552) _ ⟨(Kd.R_mono (zr HO549.out) (fun _ hk => ⟨hk.2, hk.1.2⟩)), (Kd.R_mono (zr HO553.out) (fun _ hk => ⟨hk.2, hk.1⟩)), (Kd.R_mono (zr HO_3.out) (fun _ hk => ⟨hk.2, hk.1⟩)), ⟨_, rfl⟩, ⟨_, rfl⟩, (HI0.out.zI), (zq HK.out), (HI0.out.zb HB.out)⟩)
            ·skip
             rintro ⟨v548, adz_v548, v552, adz_v552⟩ w40 ⟨h0_, h1_, h2_, h3_, h4_, h5_, h6_, h7_⟩; have n0_ : Aside0 (Kd.R Kd.string 9 w40 w.heap.size (fun k_ => some k_ ≠ (v552 : Value).ownBlock ∧ some k_ ≠ (.slice Ao32 x3_1.length co32 : Value).ownBlock) v548 y547) := ⟨h0_⟩; have n1_ : Aside0 (Kd.R Kd.string 9 w40 w.heap.size (fun k_ => some k_ ≠ (v548 : Value).ownBlock ∧ some k_ ≠ (.slice Ao32 x3_1.length co32 : Value).ownBlock) v552 y551) := ⟨h1_⟩; have n2_ : Aside0 (Kd.R Kd.string 9 w40 w.heap.size (fun k_ => some k_ ≠ (v548 : Value).ownBlock ∧ some k_ ≠ (v552 : Value).ownBlock) (.slice Ao32 x3_1.length co32) x3_1) := ⟨h2_⟩; have n3_ : Aside0 (∃ c_, (v548 : Value) = .slice (some adz_v548) y547.length c_) := ⟨h3_⟩; have n4_ : Aside0 (∃ c_, (v552 : Value) = .slice (some adz_v552) y551.length c_) := ⟨h4_⟩; have n5_ : Aside0 (IsS98 w0 w40 g s0_0 t531) := ⟨h5_⟩; have n6_ : Aside0 (KeepBut w w40 g none) := ⟨h6_⟩; have n7_ : Aside0 (Below w0.heap.size w0 w40) := ⟨h7_⟩; clear HO_3; clear HI0; clear HK; clear HB; clear h0_ h1_ h2_ h3_ h4_ h5_ h6_ h7_; have HO549 := n0_; have HO553 := n1_; have HO_3 := n2_; have HA_HO549 := n3_; have HA_HO553 := n4_; have HI0 := n5_; have HK := n6_; have HB := n7_; clear n0_ n1_ n2_ n3_ n4_ n5_ n6_ n7_; have hHeld := trivial; obtain ⟨co41, eo41⟩ := HA_HO549.out; clear HA_HO549; subst eo41; obtain ⟨co42, eo42⟩ := HA_HO553.out; clear HA_HO553; subst eo42; refine norm_ (a' := ?_) ?_ ?_; rotate_left
             ·simp only [putAll, Act.put, List.setIfInBounds_toArray, List.set_cons_zero, List.set_cons_succ]
              rfl
             refine two_ (i := 5) (j := 11) (Ni := some 39) (Nj := some 45) (fb 15 1983) (fb 15 3999) rfl rfl rfl rfl (two_of HT_.out (by kernel_rfl)) (by decide) (by decide) (fun K hK => ?_) (fun K hK => ?_)
             ·skip
              (have p550 : 0 ≤ ((ji23) : Int) := zd; have q550 : (ji23) < (y547.length : Int) := zd; obtain ⟨ad550, e550, hx550_0⟩ := Kd.at_string (Kd.R_reads' HO549.out).2.2 (ji23) p550 q550; obtain rfl : adz_v548 = ad550 := (by injection e550)); refine value_ (w1 := ?_) (v := ?_) (by rfl) rfl ?_ ?_; rotate_left 2
              ·go_simp
               constructor
               ·rfl
               ·rfl
              clear hx550_0; refine hK.out _ _ trivial (fun hHeld => ?_); clear hK K; refine znm ?_; refine zu 6 2047 ?_; exact norm_ (by first | (simp only [putAll, Act.put, List.setIfInBounds_toArray, List.set_cons_zero, List.set_cons_succ]; done) | (simp only [putAll, Act.put, List.setIfInBounds_toArray, List.set_cons_zero, List.set_cons_succ]; rfl)) (hJ1_5_7 (.slice (some adz_v548) y547.length co41, adz_v548, .slice (some adz_v552) y551.length co42, adz_v552) _ ⟨(zr HO549.out), (zr HO553.out), (zr HO_3.out), ⟨_, rfl⟩, ⟨_, rfl⟩, (HI0.out.zI), (zq HK.out), (HI0.out.zb HB.out)⟩)
             ·skip
              (have p554 : 0 ≤ ((ji27) : Int) := zd; have q554 : (ji27) < (y551.length : Int) := zd; obtain ⟨ad554, e554, hx554_0⟩ := Kd.at_string (Kd.R_reads' HO553.out).2.2 (ji27) p554 q554; obtain rfl : adz_v552 = ad554 := (by injection e554)); refine value_ (w1 := ?_) (v := ?_) (by rfl) rfl ?_ ?_; rotate_left 2
              ·go_simp
               constructor
               ·rfl
               ·rfl
              clear hx554_0; refine hK.out _ _ trivial (fun hHeld => ?_); clear hK K; refine znm ?_; exact norm_ (by first | (simp only [putAll, Act.put, List.setIfInBounds_toArray, List.set_cons_zero, List.set_cons_succ]; done) | (simp only [putAll, Act.put, List.setIfInBounds_toArray, List.set_cons_zero, List.set_cons_succ]; rfl)) (hJ1_7_11 (.slice (some adz_v548) y547.length co41, adz_v548, .slice (some adz_v552) y551.length co42, adz_v552) _ ⟨(zr HO549.out), (zr HO553.out), (zr HO_3.out), ⟨_, rfl⟩, ⟨_, rfl⟩, (HI0.out.zI), (zq HK.out), (HI0.out.zb HB.out)⟩)
           ·skip
            rintro ⟨v548, adz_v548⟩ w37 ⟨h0_, h1_, h2_, h3_, h4_, h5_⟩; have n0_ : Aside0 (Kd.R Kd.string 9 w37 w.heap.size (fun k_ => some k_ ≠ (.slice Ao32 x3_1.length co32 : Value).ownBlock) v548 y547) := ⟨h0_⟩; have n1_ : Aside0 (Kd.R Kd.string 9 w37 w.heap.size (fun k_ => some k_ ≠ (v548 : Value).ownBlock) (.slice Ao32 x3_1.length co32) x3_1) := ⟨h1_⟩; have n2_ : Aside0 (∃ c_, (v548 : Value) = .slice (some adz_v548) y547.length c_) := ⟨h2_⟩; have n3_ : Aside0 (IsS98 w0 w37 g s0_0 t531) := ⟨h3_⟩; have n4_ : Aside0 (KeepBut w w37 g none) := ⟨h4_⟩; have n5_ : Aside0 (Below w0.heap.size w0 w37) := ⟨h5_⟩; clear HO_3; clear HI0; clear HK; clear HB; clear h0_ h1_ h2_ h3_ h4_ h5_; have HO549 := n0_; have HO_3 := n1_; have HA_HO549 := n2_; have HI0 := n3_; have HK := n4_; have HB := n5_; clear n0_ n1_ n2_ n3_ n4_ n5_; have hHeld := trivial; obtain ⟨co38, eo38⟩ := HA_HO549.out; clear HA_HO549; subst eo38; refine norm_ (a' := ?_) ?_ ?_; rotate_left
            ·simp only [putAll, Act.put, List.setIfInBounds_toArray, List.set_cons_zero, List.set_cons_succ]
             rfl
            refine zone 7 1023 (fun K hK => ?_); refine Kd.R_lit_step Kd.string _ 9 ?hg (N := 41) ?hd (xs := ([(⟨#[]⟩ : ByteArray), (⟨#[97]⟩ : ByteArray), (⟨#[98]⟩ : ByteArray), (⟨#[99]⟩ : ByteArray), (⟨#[100]⟩ : ByteArray), (⟨#[100, 97]⟩ : ByteArray)] : List ByteArray)) (inner := [.string (⟨#[]⟩ : ByteArray), .string (⟨#[97]⟩ : ByteArray), .string (⟨#[98]⟩ : ByteArray), .string (⟨#[99]⟩ : ByteArray), .string (⟨#[100]⟩ : ByteArray), .string (⟨#[100, 97]⟩ : ByteArray)]) (ok := fun _ => True) (okp := fun _ => True) ?hr ?hp (fun _ hk => hk) trivial (Below.refl _ _) (Nat.le_refl _) (by simp) ?_; (case hd => rfl); (case hg => rfl); (case hr => first | (go_simp; done) | (go_simp; rfl)); (case hp => exact (Reps.one (show Kd.M Kd.string _ _ _ (⟨#[]⟩ : ByteArray) [.string (⟨#[]⟩ : ByteArray)] from rfl) (Reps.one (show Kd.M Kd.string _ _ _ (⟨#[97]⟩ : ByteArray) [.string (⟨#[97]⟩ : ByteArray)] from rfl) (Reps.one (show Kd.M Kd.string _ _ _ (⟨#[98]⟩ : ByteArray) [.string (⟨#[98]⟩ : ByteArray)] from rfl) (Reps.one (show Kd.M Kd.string _ _ _ (⟨#[99]⟩ : ByteArray) [.string (⟨#[99]⟩ : ByteArray)] from rfl) (Reps.one (show Kd.M Kd.string _ _ _ (⟨#[100]⟩ : ByteArray) [.string (⟨#[100]⟩ : ByteArray)] from rfl) (Reps.one (show Kd.M Kd.string _ _ _ (⟨#[100, 97]⟩ : ByteArray) [.string (⟨#[100, 97]⟩ : ByteArray)] from rfl) (Reps.none _ _)))))))); intro v552 w39 ho40 hb hg_ hnew_; clear hg_ hnew_; (first | rw [← Ny551.out] at ho40 | (simp only [Int.reduceToNat] at ho40; rw [← Ny551.out] at ho40)); have HO553 := z0 (Kd.R_lower (Kd.R_new' (Kd.R_new' ho40 (Kd.R_lt (zr HO_3.out))) (Kd.R_lt (zr HO549.out))) (keep_size (w := w) (g := g) (row := none) (zq HK.out))); replace HO_3 := z0 (Kd.R_elder' (zr HO_3.out) (Kd.R_base ho40) hb); replace HO549 := z0 (Kd.R_elder' (zr HO549.out) (Kd.R_base ho40) hb); replace HK := z0 (KeepBut.trans (zq HK.out) (KeepBut.of_below hb g none) (.inl rfl)); replace HB := z0 (below_step (HI0.out.zb HB.out) hb); replace HI0 := z0 (IsS98.below (HI0.out.zI) hb); clear hb ho40; obtain ⟨Ao41, co41, eo41⟩ := Kd.R_slice HO553.out; subst eo41; obtain ⟨ado41, fo41, _⟩ := Kd.at_string (Kd.R_reads' HO553.out).2.2 0 (by decide) (by rw [Ny551.out]; simp)
            cases fo41
            refine hK.out _ _ trivial (fun hHeld => ?_); clear hK K; refine znm ?_; refine zu 10 2047 ?_; exact norm_ (by first | (simp only [putAll, Act.put, List.setIfInBounds_toArray, List.set_cons_zero, List.set_cons_succ]; done) | (simp only [putAll, Act.put, List.setIfInBounds_toArray, List.set_cons_zero, List.set_cons_succ]; rfl)) (hJ1_5_7 (.slice (some adz_v548) y547.length co38, adz_v548, .slice (some ado41) y551.length co41, ado41) _ ⟨(Kd.R_mono (zr HO549.out) (fun _ hk => ⟨hk.2, hk.1⟩)), (Kd.R_mono (zr HO553.out) (fun _ hk => ⟨hk.2, hk.1.2⟩)), (zr HO_3.out), ⟨_, rfl⟩, ⟨_, rfl⟩, (HI0.out.zI), (zq HK.out), (HI0.out.zb HB.out)⟩)
          ·skip
           rintro ⟨v548, adz_v548, v552, adz_v552⟩ w40 ⟨h0_, h1_, h2_, h3_, h4_, h5_, h6_, h7_⟩; have n0_ : Aside0 (Kd.R Kd.string 9 w40 w.heap.size (fun k_ => some k_ ≠ (v552 : Value).ownBlock ∧ some k_ ≠ (.slice Ao32 x3_1.length co32 : Value).ownBlock) v548 y547) := ⟨h0_⟩; have n1_ : Aside0 (Kd.R Kd.string 9 w40 w.heap.size (fun k_ => some k_ ≠ (v548 : Value).ownBlock ∧ some k_ ≠ (.slice Ao32 x3_1.length co32 : Value).ownBlock) v552 y551) := ⟨h1_⟩; have n2_ : Aside0 (Kd.R Kd.string 9 w40 w.heap.size (fun k_ => some k_ ≠ (v548 : Value).ownBlock ∧ some k_ ≠ (v552 : Value).ownBlock) (.slice Ao32 x3_1.length co32) x3_1) := ⟨h2_⟩; have n3_ : Aside0 (∃ c_, (v548 : Value) = .slice (some adz_v548) y547.length c_) := ⟨h3_⟩; have n4_ : Aside0 (∃ c_, (v552 : Value) = .slice (some adz_v552) y551.length c_) := ⟨h4_⟩; have n5_ : Aside0 (IsS98 w0 w40 g s0_0 t531) := ⟨h5_⟩; have n6_ : Aside0 (KeepBut w w40 g none) := ⟨h6_⟩; have n7_ : Aside0 (Below w0.heap.size w0 w40) := ⟨h7_⟩; clear HO_3; clear HI0; clear HK; clear HB; clear h0_ h1_ h2_ h3_ h4_ h5_ h6_ h7_; have HO549 := n0_; have HO553 := n1_; have HO_3 := n2_; have HA_HO549 := n3_; have HA_HO553 := n4_; have HI0 := n5_; have HK := n6_; have HB := n7_; clear n0_ n1_ n2_ n3_ n4_ n5_ n6_ n7_; have hHeld := trivial; obtain ⟨co41, eo41⟩ := HA_HO549.out; clear HA_HO549; subst eo41; obtain ⟨co42, eo42⟩ := HA_HO553.out; clear HA_HO553; subst eo42; refine norm_ (a' := ?_) ?_ ?_; rotate_left
           ·simp only [putAll, Act.put, List.setIfInBounds_toArray, List.set_cons_zero, List.set_cons_succ]
            rfl
           refine zone 5 4031 (fun K hK => ?_); (have p550 : 0 ≤ ((ji23) : Int) := zd; have q550 : (ji23) < (y547.length : Int) := zd; obtain ⟨ad550, e550, hx550_0⟩ := Kd.at_string (Kd.R_reads' HO549.out).2.2 (ji23) p550 q550; obtain rfl : adz_v548 = ad550 := (by injection e550)); refine value_ (w1 := ?_) (v := ?_) (by rfl) rfl ?_ ?_; rotate_left 2
           ·go_simp
            constructor
            ·rfl
            ·rfl
           clear hx550_0; refine hK.out _ _ trivial (fun hHeld => ?_); clear hK K; refine znm ?_; refine zu 6 4095 ?_; exact norm_ (by first | (simp only [putAll, Act.put, List.setIfInBounds_toArray, List.set_cons_zero, List.set_cons_succ]; done) | (simp only [putAll, Act.put, List.setIfInBounds_toArray, List.set_cons_zero, List.set_cons_succ]; rfl)) (hJ1_5_7_11 (.slice (some adz_v548) y547.length co41, adz_v548, .slice (some adz_v552) y551.length co42, adz_v552) _ ⟨(zr HO549.out), (zr HO553.out), (zr HO_3.out), ⟨_, rfl⟩, ⟨_, rfl⟩, (HI0.out.zI), (zq HK.out), (HI0.out.zb HB.out)⟩)
         ·skip
          rintro ⟨v548, adz_v548, v552, adz_v552⟩ w40 ⟨h0_, h1_, h2_, h3_, h4_, h5_, h6_, h7_⟩; have n0_ : Aside0 (Kd.R Kd.string 9 w40 w.heap.size (fun k_ => some k_ ≠ (v552 : Value).ownBlock ∧ some k_ ≠ (.slice Ao32 x3_1.length co32 : Value).ownBlock) v548 y547) := ⟨h0_⟩; have n1_ : Aside0 (Kd.R Kd.string 9 w40 w.heap.size (fun k_ => some k_ ≠ (v548 : Value).ownBlock ∧ some k_ ≠ (.slice Ao32 x3_1.length co32 : Value).ownBlock) v552 y551) := ⟨h1_⟩; have n2_ : Aside0 (Kd.R Kd.string 9 w40 w.heap.size (fun k_ => some k_ ≠ (v548 : Value).ownBlock ∧ some k_ ≠ (v552 : Value).ownBlock) (.slice Ao32 x3_1.length co32) x3_1) := ⟨h2_⟩; have n3_ : Aside0 (∃ c_, (v548 : Value) = .slice (some adz_v548) y547.length c_) := ⟨h3_⟩; have n4_ : Aside0 (∃ c_, (v552 : Value) = .slice (some adz_v552) y551.length c_) := ⟨h4_⟩; have n5_ : Aside0 (IsS98 w0 w40 g s0_0 t531) := ⟨h5_⟩; have n6_ : Aside0 (KeepBut w w40 g none) := ⟨h6_⟩; have n7_ : Aside0 (Below w0.heap.size w0 w40) := ⟨h7_⟩; clear HO_3; clear HI0; clear HK; clear HB; clear h0_ h1_ h2_ h3_ h4_ h5_ h6_ h7_; have HO549 := n0_; have HO553 := n1_; have HO_3 := n2_; have HA_HO549 := n3_; have HA_HO553 := n4_; have HI0 := n5_; have HK := n6_; have HB := n7_; clear n0_ n1_ n2_ n3_ n4_ n5_ n6_ n7_; have hHeld := trivial; obtain ⟨co41, eo41⟩ := HA_HO549.out; clear HA_HO549; subst eo41; obtain ⟨co42, eo42⟩ := HA_HO553.out; clear HA_HO553; subst eo42; refine norm_ (a' := ?_) ?_ ?_; rotate_left
          ·simp only [putAll, Act.put, List.setIfInBounds_toArray, List.set_cons_zero, List.set_cons_succ]
           rfl
          refine zone 11 4095 (fun K hK => ?_); (have p554 : 0 ≤ ((ji27) : Int) := zd; have q554 : (ji27) < (y551.length : Int) := zd; obtain ⟨ad554, e554, hx554_0⟩ := Kd.at_string (Kd.R_reads' HO553.out).2.2 (ji27) p554 q554; obtain rfl : adz_v552 = ad554 := (by injection e554)); refine value_ (w1 := ?_) (v := ?_) (by rfl) rfl ?_ ?_; rotate_left 2
          ·go_simp
           constructor
           ·rfl
           ·rfl
          clear hx554_0; refine hK.out _ _ trivial (fun hHeld => ?_); clear hK K; refine znm ?_; exact norm_ (by first | (simp only [putAll, Act.put, List.setIfInBounds_toArray, List.set_cons_zero, List.set_cons_succ]; done) | (simp only [putAll, Act.put, List.setIfInBounds_toArray, List.set_cons_zero, List.set_cons_succ]; rfl)) (hJ1_5_7_11 (.slice (some adz_v548) y547.length co41, adz_v548, .slice (some adz_v552) y551.length co42, adz_v552) _ ⟨(zr HO549.out), (zr HO553.out), (zr HO_3.out), ⟨_, rfl⟩, ⟨_, rfl⟩, (HI0.out.zI), (zq HK.out), (HI0.out.zb HB.out)⟩)
        rintro ⟨v548, adz_v548, v552, adz_v552⟩ w40 ⟨h0_, h1_, h2_, h3_, h4_, h5_, h6_, h7_⟩; have n0_ : Aside0 (Kd.R Kd.string 9 w40 w.heap.size (fun k_ => some k_ ≠ (v552 : Value).ownBlock ∧ some k_ ≠ (.slice Ao32 x3_1.length co32 : Value).ownBlock) v548 y547) := ⟨h0_⟩; have n1_ : Aside0 (Kd.R Kd.string 9 w40 w.heap.size (fun k_ => some k_ ≠ (v548 : Value).ownBlock ∧ some k_ ≠ (.slice Ao32 x3_1.length co32 : Value).ownBlock) v552 y551) := ⟨h1_⟩; have n2_ : Aside0 (Kd.R Kd.string 9 w40 w.heap.size (fun k_ => some k_ ≠ (v548 : Value).ownBlock ∧ some k_ ≠ (v552 : Value).ownBlock) (.slice Ao32 x3_1.length co32) x3_1) := ⟨h2_⟩; have n3_ : Aside0 (∃ c_, (v548 : Value) = .slice (some adz_v548) y547.length c_) := ⟨h3_⟩; have n4_ : Aside0 (∃ c_, (v552 : Value) = .slice (some adz_v552) y551.length c_) := ⟨h4_⟩; have n5_ : Aside0 (IsS98 w0 w40 g s0_0 t531) := ⟨h5_⟩; have n6_ : Aside0 (KeepBut w w40 g none) := ⟨h6_⟩; have n7_ : Aside0 (Below w0.heap.size w0 w40) := ⟨h7_⟩; clear HO_3; clear HI0; clear HK; clear HB; clear h0_ h1_ h2_ h3_ h4_ h5_ h6_ h7_; have HO549 := n0_; have HO553 := n1_; have HO_3 := n2_; have HA_HO549 := n3_; have HA_HO553 := n4_; have HI0 := n5_; have HK := n6_; have HB := n7_; clear n0_ n1_ n2_ n3_ n4_ n5_ n6_ n7_; have hHeld := trivial; obtain ⟨co41, eo41⟩ := HA_HO549.out; clear HA_HO549; subst eo41; obtain ⟨co42, eo42⟩ := HA_HO553.out; clear HA_HO553; subst eo42; refine norm_ (a' := ?_) ?_ ?_; rotate_left
        ·simp only [putAll, Act.put, List.setIfInBounds_toArray, List.set_cons_zero, List.set_cons_succ]
         rfl
        refine zu 12 8191 ?_; refine zone 13 16383 (fun K hK => ?_); refine goes_ Try.func111 (by kernel_rfl) rfl #[.slice Ao32 x3_1.length co32, .string (((⟨#[100]⟩ : ByteArray) ++ (rdOf ByteArray.empty y547 (ji23))) ++ (rdOf ByteArray.empty y551 (ji27)))] (by rfl) rfl rfl (by (try simp only [List.map_toArray, List.map_cons, List.map_nil]); first | done | (simp only [hji23, hji27]; rfl) | rfl | (simp only [List.length_drop, List.length_take]; rfl)) ?_
        with_reducible refine (spec_l2Put.calls k1 (fun k_ => some k_ = (.slice Ao32 x3_1.length co32 : Value).ownBlock) (.slice Ao32 x3_1.length co32) x3_1 (((⟨#[100]⟩ : ByteArray) ++ (rdOf ByteArray.empty y547 (ji23))) ++ (rdOf ByteArray.empty y551 (ji27))) t555 w0 _ ?side1 ?side2 A31.out).mono ?_
        (case side1 => repeat (first | (with_reducible first | exact HB.out | apply below_alloc | apply pw_below_drewN | apply below_drew1 | refine below_set ?_ (IsS98.ge HI0.out)) | exact HB.out)); (case side2 => exact Kd.R_lower (Kd.R_tight rfl HO_3.out) HL.out); rintro e w43 ⟨v556, rfl, ho0, hb, hkp⟩; refine ⟨_, rfl, ?_⟩; replace HI0 := z0 (IsS98.kept (HI0.out.zI) hkp (fun hs_ => (fun e_ => (IsS98.own_ne HI0.out HO_3.out (by decide)) e_) hs_)); have HO557 := z0 (Kd.R_mono (ok' := fun k_ => some k_ ≠ (.slice (some adz_v548) y547.length co41 : Value).ownBlock ∧ some k_ ≠ (.slice (some adz_v552) y551.length co42 : Value).ownBlock) (Kd.R_raise (d := Kd.string) (b := w0.heap.size) (b' := w.heap.size) (fun _ _ _ _ h_ => h_) ho0 (fun k_ e_ => Or.elim (ho0.1 k_ e_) (fun hs_ => (fun e_ => Kd.R_base HO_3.out k_ e_.symm) hs_) (fun hn_ => Nat.le_trans (keep_size (w := w) (g := g) (row := none) (zq HK.out)) hn_))) (fun k_ hk_ => ⟨Or.elim hk_ (fun hs_ => fun e_ => (((HO549.out).1 k_ e_.symm).2) hs_) (fun hn_ => (Kd.fresh' (Kd.R_lt (zr HO549.out)) k_ hn_)), Or.elim hk_ (fun hs_ => fun e_ => (((HO553.out).1 k_ e_.symm).2) hs_) (fun hn_ => (Kd.fresh' (Kd.R_lt (zr HO553.out)) k_ hn_))⟩)); replace HO549 := z0 (Kd.R_mono (ok' := fun k_ => some k_ ≠ (.slice (some adz_v552) y551.length co42 : Value).ownBlock ∧ some k_ ≠ (v556 : Value).ownBlock) (Kd.R_keptB (HO549.out) hkp (fun k_ hk_ hs_ => (hk_.2) hs_)) (fun k_ hk_ => ⟨hk_.1.1, fun e_ => Or.elim (ho0.1 k_ e_.symm) (fun hs_ => hk_.2.1 hs_) (fun hn_ => Nat.not_le.2 hk_.2.2 hn_)⟩)); replace HO553 := z0 (Kd.R_mono (ok' := fun k_ => some k_ ≠ (.slice (some adz_v548) y547.length co41 : Value).ownBlock ∧ some k_ ≠ (v556 : Value).ownBlock) (Kd.R_keptB (HO553.out) hkp (fun k_ hk_ hs_ => (hk_.2) hs_)) (fun k_ hk_ => ⟨hk_.1.1, fun e_ => Or.elim (ho0.1 k_ e_.symm) (fun hs_ => hk_.2.1 hs_) (fun hn_ => Nat.not_le.2 hk_.2.2 hn_)⟩)); replace HK := z0 (Kept.keepG (zq HK.out) hkp (fun k_ hs_ => (fun e_ => .inr (Kd.R_base HO_3.out k_ e_.symm)) hs_)); replace HB := z0 (hb); clear HO_3; (try clear hb); (try clear hkp); (try clear ho0); refine hK.out _ _ trivial (fun hHeld => ?_); clear hK K; refine znm ?_; refine zu 14 32767 ?_; refine done_ (done_of HT_.out (by kernel_rfl)) ?_
        try go_wp2
        go_roundg k1
        case measure => have := HK1.out; omega
        case rel => exact ⟨(t555), (wrap64 (x4_1 + 1)), zf, H', ⟨by have := HK1.out; omega⟩, ⟨Kd.R_mono (zr HO557.out) (fun _ hk => trivial)⟩, ⟨HI0.out.zI⟩, ⟨zq HK.out⟩, ⟨HI0.out.zb HB.out⟩⟩
       ·rw [if_neg c22] at H; have c22b0 : decide (x4_1 < 30) = false := decide_eq_false c22; clear c22; simp only [Option.some.injEq, Prod.mk.injEq] at H; obtain ⟨rfl, rfl⟩ := H; go_wp2; go_ret; exact ⟨_, ze, zr HO_3.out, HI0.out.zI, HI0.out.zb HB.out, zq HK.out⟩
    ·rw [if_neg c21] at H; have c21b0 : (t530 == 3) = false := beq_eq_false_iff_ne.mpr c21; have c21b1 : (t530 != 3) = true := bne_iff_ne.mpr c21; simp only [Option.some.injEq, Prod.mk.injEq] at H; obtain ⟨rfl, rfl⟩ := H; go_wp2; go_ret; exact ⟨_, ze, zr HO528.out, HI0.out.zI, HI0.out.zb HB.out, zq HK.out⟩
end Go.Proofs.Ytifgcajpkgamgaa.Q
end
section
namespace Go.Proofs.Ytifgcajpkgamgaa.Q
open Go.RowKit Go.Proofs.YtifgcajpkgamgaaW.PrintWords Go.Proofs.YtifgcajpkgamgaaW.PrintLast Go.Proofs.YtifgcajpkgamgaaW.PrintMore
attribute [local go_sem] max2_int min2_int max_two min_two max_three min_three max_four min_four   
set_option linter.unusedVariables false
set_option linter.unusedSimpArgs false
theorem spec_DrawSieveOf.mono : ∀ a0 k, LeO (spec_DrawSieveOf.f k a0) (spec_DrawSieveOf.f (k + 1) a0) := by
  intro a0 k
  unfold spec_DrawSieveOf.f
  repeat' first
      | (with_reducible exact spec_l6Rd_pick.mono _ _ _ _)
      | (with_reducible exact spec_l71Keys.mono _ _ _ _)
      | (with_reducible exact spec_l71Mess.mono _ _ _)
      | (with_reducible exact LeO.refl _)
      | (with_reducible exact LeO.none _)
      | (with_reducible refine LeO.ite ?_ ?_)
      | (with_reducible refine LeO.bind ?_ (fun _ => ?_))
      | exact spec_l6Rd_pick.mono _ _ _ _
      | exact spec_l71Keys.mono _ _ _ _
      | exact spec_l71Mess.mono _ _ _
      | exact LeO.none _
      | refine LeO.ite ?_ ?_
      | refine LeO.bind ?_ (fun _ => ?_)
def spec_DrawSieveOf.T5 : Bool × List (List Nat × List Nat) := (true, [([], []), ([], []), ([], []), ([2], [2]), ([1, 3], [1, 3]), ([4], [4]), ([0, 3, 0], [0]), ([5, 6, 0, 1, 2, 3, 4, 5, 6], [5])])
def spec_DrawSieveOf.B5 : List Nat := [0, 0, 0, 4, 14, 30, 13, 127]
theorem spec_DrawSieveOf.tab5 : rtab .any (opsOf Try.f34 5) = spec_DrawSieveOf.T5 := by kernel_rfl
theorem spec_DrawSieveOf.bits5 : waitsOk spec_DrawSieveOf.T5.2 spec_DrawSieveOf.B5 = true := by kernel_rfl
set_option maxHeartbeats 8000000 in
set_option maxRecDepth 100000 in
theorem spec_DrawSieveOf.calls (k : Nat) (A0 : Option Addr) (c0 : Nat) (l0 : List Int) (r1 : List ByteArray) (r2 : Int) (w : World) (hr0 : Kd.C (Kd.int .u8) w A0 l0.length l0) (hc0 : l0.length ≤ c0) (h : spec_DrawSieveOf.f k l0 = some (r1, r2)) :
    Calls Try.prog 34 #[.slice A0 l0.length c0] w fun e w' => ∃ v0_ : Value, e = .returned (.tuple #[v0_, .int .i64 r2]) ∧ Kd.R Kd.string 9 w' w.heap.size (fun _ => True) v0_ r1 ∧ Below w.heap.size w w' := by
 have HR0 := Aside0.mk hr0; have HC0 := Aside0.mk hc0; clear hr0 hc0; have HB := z0 (Below.refl w.heap.size w); have H : ((spec_l6Open.f l0).bind fun bt558 => ((spec_l71Keys.f k bt558.1 bt558.2 12).bind fun bt561 => ((spec_l6Rd_pick.f k bt558.1 bt561.2 12).bind fun bt565 => (if bt565.1 = 0 then ((spec_l71Mess.f k bt558.1 bt565.2).bind fun bt567 => ((some (([0, 0, 1, 1, 2, 5, 6, (-1)] : List Int) : List Int)).bind fun y571 => ((spec_l6Rd_pick.f k bt558.1 bt567.2 8).bind fun bt574 => (if 0 ≤ bt574.1 then (if bt574.1 < (y571.length : Int) then (some (bt567.1, rd y571 bt574.1)) else (none)) else (none))))) else ((some (([0, 0, 1, 1, 2, 5, 6, (-1)] : List Int) : List Int)).bind fun y577 => ((spec_l6Rd_pick.f k bt558.1 bt565.2 8).bind fun bt580 => (if 0 ≤ bt580.1 then (if bt580.1 < (y577.length : Int) then (some (bt561.1, rd y577 bt580.1)) else (none)) else (none)))))))) = some (r1, r2) := h; clear h; replace H := zi H; obtain ⟨⟨t558, t559⟩, A2, H⟩ := H; (try dsimp only at H); replace H := zi H; obtain ⟨⟨t561, t564⟩, A3, H⟩ := H; (try dsimp only at H); replace H := zi H; obtain ⟨⟨t565, t566⟩, A4, H⟩ := H; (try dsimp only at H); go_enter Try.func34, Try.ntmps34
 go_upto_if 12 with (first | ((with_reducible refine gc 64 ?_); refine zL (some 7) Try.func64 #[.slice A0 l0.length c0] ?_; (with_reducible refine (spec_l6Open.calls _ _ l0 t558 t559 w _ ?side1 HR0.out HC0.out A2.out).mono ?_); (case side1 => repeat (first | (with_reducible first | exact HB.out | apply below_alloc | apply pw_below_drewN | apply below_drew1) | exact HB.out)); rintro e w5 ⟨g560, rfl, hi, hb, hb2⟩; refine zv ?_; replace HB := z0 (hb); have HI560 := z0 (hi); (try clear hb hb2 hi)) | ((with_reducible refine gc 77 ?_); refine zL (some 9) Try.func77 #[.pointer (some ⟨g560, 0, none⟩), .int .i64 12] ?_; (with_reducible refine (spec_l71Keys.calls k g560 t558 t559 12 t561 t564 w _ ?side1 ?side2 A3.out).mono ?_); (case side1 => repeat (first | (with_reducible first | exact HI560.out | apply IsS98.alloc | apply IsS98.drewN | apply IsS98.drew | apply IsS98.set_1) | exact HI560.out)); (case side2 => repeat (first | (with_reducible first | exact HB.out | apply below_alloc | apply pw_below_drewN | apply below_drew1 | refine below_set ?_ (IsS98.ge HI560.out)) | exact HB.out)); rintro e w6 ⟨v562, rfl, ho0, hi, hb, hk⟩; refine zv ?_; have HO563 := z0 (Kd.R_lower ho0 (below_size (HI560.out.zb HB.out))); replace HB := z0 (hb); replace HI560 := z0 (hi); (try clear hb hk hi ho0)) | ((with_reducible refine gc 78 ?_); refine zL (some 11) Try.func78 #[.pointer (some ⟨g560, 0, none⟩), .int .i64 12] ?_; (with_reducible refine (spec_l6Rd_pick.calls k g560 t558 t564 12 t565 t566 w _ ?side1 ?side2 A4.out).mono ?_); (case side1 => repeat (first | (with_reducible first | exact HI560.out | apply IsS98.alloc | apply IsS98.drewN | apply IsS98.drew | apply IsS98.set_1) | exact HI560.out)); (case side2 => repeat (first | (with_reducible first | exact HB.out | apply below_alloc | apply pw_below_drewN | apply below_drew1 | refine below_set ?_ (IsS98.ge HI560.out)) | exact HB.out)); rintro e w7 ⟨rfl, hi, hb, hk⟩; refine zv ?_; replace HO563 := z0 (Kd.R_mono (Kd.R_keep (IsS98.apart (show IsS98 w _ g560 t558 t564 from HI560.out.zI) (zr HO563.out) (by decide)) hk (fun _ h => h.2)) (fun _ h => h.1)); replace HB := z0 (hb); replace HI560 := z0 (hi); (try clear hb hk hi)))
 by_cases c8 : t565 = 0
 ·rw [if_pos c8] at H; have c8b0 : (t565 == 0) = true := beq_iff_eq.mpr c8; have c8b1 : (t565 != 0) = false := bne_eq_false_iff_eq.mpr c8; clear c8; (first | rw [c8b0] | (simp only [i64_w, i32_w]; rw [c8b0]) | simp only [*, Bool.not_true, Bool.not_false] | skip); replace H := zi H; obtain ⟨⟨t567, t570⟩, A9, H⟩ := H; (try dsimp only at H); obtain ⟨y571, hy571⟩ : ∃ y_ : List Int, y_ = (([0, 0, 1, 1, 2, 5, 6, (-1)] : List Int)) := ⟨_, rfl⟩; replace H : ((spec_l6Rd_pick.f k t558 t570 8).bind fun bt574 => (if 0 ≤ bt574.1 then (if bt574.1 < (y571.length : Int) then (some (t567, rd y571 bt574.1)) else (none)) else (none))) = some (r1, r2) := zH2 hy571 H; have Ny571 := Aside0.mk hy571; clear hy571; replace H := zi H; obtain ⟨⟨t574, t575⟩, A10, H⟩ := H; (try dsimp only at H); replace H := zn H; obtain ⟨c11, H⟩ := H; have c11b0 : decide (0 ≤ t574) = true := decide_eq_true c11; clear c11; replace H := zn H; obtain ⟨c12, H⟩ := H; have c12b0 : decide (t574 < (y571.length : Int)) = true := decide_eq_true c12; clear c12; simp only [Option.some.injEq, Prod.mk.injEq] at H; obtain ⟨rfl, rfl⟩ := H
  try go_wp2_with (first | ((with_reducible refine gc 79 ?_); refine zL (some 14) Try.func79 #[.pointer (some ⟨g560, 0, none⟩)] ?_; (with_reducible refine (spec_l71Mess.calls k g560 t558 t566 t567 t570 w _ ?side1 ?side2 A9.out).mono ?_); (case side1 => repeat (first | (with_reducible first | exact HI560.out | apply IsS98.alloc | apply IsS98.drewN | apply IsS98.drew | apply IsS98.set_1) | exact HI560.out)); (case side2 => repeat (first | (with_reducible first | exact HB.out | apply below_alloc | apply pw_below_drewN | apply below_drew1 | refine below_set ?_ (IsS98.ge HI560.out)) | exact HB.out)); rintro e w13 ⟨v568, rfl, ho0, hi, hb, hk⟩; refine zv ?_; have HO569 := z0 (Kd.R_lower (Kd.R_new' ho0 (Kd.R_lt (zr HO563.out))) (below_size (HI560.out.zb HB.out))); replace HO563 := z0 (Kd.R_mono (Kd.R_told (Kd.R_oldK (IsS98.apart (show IsS98 w _ g560 t558 t566 from HI560.out.zI) (zr HO563.out) (by decide)) hk) (Kd.R_base ho0)) (fun _ h_ => h_.1)); replace HB := z0 (hb); replace HI560 := z0 (hi); (try clear hb hk hi ho0)))
  have pi576 : (0 ≤ (t574 : Int)) = True := eq_true (zd); have qi576 : (t574 < (y571.length : Int)) = True := eq_true (zd); replace HO563 := z0 (Kd.R_drew HO563.out); replace HO569 := z0 (Kd.R_drew HO569.out); replace HI560 := z0 (IsS98.drew HI560.out); replace HB := z0 (below_drew1 HB.out); refine start_ (n := 8) (S := fun w' => True) (ds := []) (fb 8 0) (by kernel_rfl) rfl rfl trivial (fun hHeld => ?_); refine with_tabW spec_DrawSieveOf.tab5 spec_DrawSieveOf.bits5 (fun HT_ HW_ => ?_); generalize w13.drew = w14 at HO563 HO569 HI560 HB hHeld ⊢; refine zu 0 1 ?_; refine zu 2 5 ?_; refine inv_at [1, 3, 4, 5, 6, 7] (fun a0_ b a w' => ∃ (v572 : Value) (adz_v572 : Addr) (m4_ : Value), a = putSel a0_ b [(1, 16, v572), (3, 18, .int .i64 t574), (4, 19, m4_), (5, 20, .int .i64 (rd y571 t574)), (6, 2, v568), (7, 3, .int .i64 (rd y571 t574))] ∧ (Kd.R Kd.string 9 w' w.heap.size (fun k_ => some k_ ≠ (v568 : Value).ownBlock) v562 t561) ∧ (Kd.R Kd.string 9 w' w.heap.size (fun k_ => some k_ ≠ (v562 : Value).ownBlock) v568 t567) ∧ (b 3 = false → IsS98 w w' g560 t558 t570) ∧ (Below w.heap.size w w') ∧ (b 1 = true → Kd.R (Kd.int .i64) 3 w' w.heap.size (fun _ => True) v572 y571) ∧ (b 1 = true → ∃ c_, (v572 : Value) = .slice (some adz_v572) y571.length c_) ∧ (b 3 = true → IsS98 w w' g560 t558 t575) ∧ (b 4 = true → (m4_ : Value) = .pointer (some (adz_v572.add (t574).toNat)))) HT_.out HW_.out (by kernel_rfl) (by kernel_rfl) ?_ ?_ ?_
  ·exact ⟨.bool false, ⟨0, 0, none⟩, .bool false, by simp only [putSel, Bool.false_eq_true, if_false], (by first | exact HO563.out | exact Kd.R_mono HO563.out (fun _ hk => hk.2)), (by first | exact HO569.out | exact Kd.R_mono HO569.out (fun _ hk => hk.2)), fun _ => HI560.out, HB.out, fun h_ => absurd h_ (by decide), fun h_ => absurd h_ (by decide), fun h_ => absurd h_ (by decide), fun h_ => absurd h_ (by decide)⟩
  ·skip
   clear HB HI560 HO563 HO569; refine steps_cons ?_ ?_
   ·rintro b a w' ⟨v572, adz_v572, m4_, ha, Q_HO563, Q_HO569, Q_HI560, Q_HB, Q_HO573, Q_HA_HO573, Q_HI560_e3, Q_X4_⟩ hb_ hon hoff; refine ⟨_, rfl, fun K hK => ?_⟩; replace ha := Aside0.mk ha; have HO563 := Aside0.mk Q_HO563; have HO569 := Aside0.mk Q_HO569; have HB := Aside0.mk Q_HB; refine Kd.R_lit_step (Kd.int .i64) _ 3 ?hg (N := 16) ?hd (xs := ([0, 0, 1, 1, 2, 5, 6, (-1)] : List Int)) (inner := [.int .i64 0, .int .i64 0, .int .i64 1, .int .i64 1, .int .i64 2, .int .i64 5, .int .i64 6, .int .i64 (-1)]) (ok := fun _ => True) (okp := fun _ => True) ?hr ?hp (fun _ hk => hk) trivial (Below.refl _ _) (Nat.le_refl _) (by simp) ?_; (case hd => rfl); (case hg => rfl); (case hr => first | (go_simp; done) | (go_simp; rfl)); (case hp => exact (Reps.one (show Kd.M (Kd.int .i64) _ _ _ 0 [.int .i64 0] from rfl) (Reps.one (show Kd.M (Kd.int .i64) _ _ _ 0 [.int .i64 0] from rfl) (Reps.one (show Kd.M (Kd.int .i64) _ _ _ 1 [.int .i64 1] from rfl) (Reps.one (show Kd.M (Kd.int .i64) _ _ _ 1 [.int .i64 1] from rfl) (Reps.one (show Kd.M (Kd.int .i64) _ _ _ 2 [.int .i64 2] from rfl) (Reps.one (show Kd.M (Kd.int .i64) _ _ _ 5 [.int .i64 5] from rfl) (Reps.one (show Kd.M (Kd.int .i64) _ _ _ 6 [.int .i64 6] from rfl) (Reps.one (show Kd.M (Kd.int .i64) _ _ _ (-1) [.int .i64 (-1)] from rfl) (Reps.none _ _)))))))))); intro v572 w15 ho16 hb hg_ hnew_; clear hg_ hnew_; (first | rw [← Ny571.out] at ho16 | (simp only [Int.reduceToNat] at ho16; rw [← Ny571.out] at ho16)); have n0_ := zA HO563 hb; have n1_ := zA HO569 hb; have n2_ := z0 (Kd.R_lower ho16 (below_size (zb HB.out))); have n4_ := zH HB hb; have z_HI560 := fun (h0_ : b 3 = false) => (show IsS98 w w15 g560 t558 t570 from by first | exact (IsS98.below (by repeat (first | (with_reducible first | exact (Q_HI560 h0_) | apply IsS98.alloc | apply IsS98.drewN | apply IsS98.drew | apply IsS98.set_1) | exact (Q_HI560 h0_))) hb)); have z_HI560_e3 := fun (h0_ : b 3 = true) => (show IsS98 w w15 g560 t558 t575 from by first | exact (IsS98.below (by repeat (first | (with_reducible first | exact (Q_HI560_e3 h0_) | apply IsS98.alloc | apply IsS98.drewN | apply IsS98.drew | apply IsS98.set_1) | exact (Q_HI560_e3 h0_))) hb)); clear HO563; clear HO569; clear HB; have HO563 := n0_; have HO569 := n1_; have HO573 := n2_; have HB := n4_; clear n0_ n1_ n2_ n4_; clear hb ho16; obtain ⟨Ao17, co17, eo17⟩ := Kd.R_slice HO573.out; subst eo17; obtain ⟨ado17, fo17, _⟩ := Kd.at_int (Kd.R_reads' HO573.out).2.2 0 (by decide) (by rw [Ny571.out]; simp)
    cases fo17
    refine hK.out _ _ ⟨.slice (some ado17) y571.length co17, ado17, m4_, (by rw [ha.out]; exact putSel_upk 0 hb_ rfl rfl rfl), (Kd.R_mono (zr HO563.out) (fun _ hk => by first | exact hk.2 | exact hk)), (Kd.R_mono (zr HO569.out) (fun _ hk => by first | exact hk.2 | exact hk)), z_HI560, (zb HB.out), fun _ => (zr HO573.out), fun _ => ⟨_, rfl⟩, z_HI560_e3, fun h0_ => absurd ((hoff 4 (by kernel_rfl)).symm.trans h0_) (by decide)⟩
   refine steps_cons ?_ ?_
   ·rintro b a w' ⟨v572, adz_v572, m4_, ha, Q_HO563, Q_HO569, Q_HI560, Q_HB, Q_HO573, Q_HA_HO573, Q_HI560_e3, Q_X4_⟩ hb_ hon hoff; refine ⟨_, rfl, fun K hK => ?_⟩
    have e17 : a.tmps[17]? = some (.pointer (some ⟨g560, 0, none⟩)) := by rw [ha]; exact (putSel_off rfl).trans rfl
    replace ha := Aside0.mk ha; have HO563 := Aside0.mk Q_HO563; have HO569 := Aside0.mk Q_HO569; have HI560 := z0 (Q_HI560 hb_); have HB := Aside0.mk Q_HB; refine goes_ Try.func78 (by kernel_rfl) rfl #[.pointer (some ⟨g560, 0, none⟩), .int .i64 8] (by rfl) rfl rfl (by first | (simp only [List.map_toArray, List.map_cons, List.map_nil, Act.eval, Array.getD_eq_getD_getElem?, Option.getD_some, e17]; done) | (simp only [List.map_toArray, List.map_cons, List.map_nil, Act.eval, Array.getD_eq_getD_getElem?, Option.getD_some, e17]; rfl)) ?_
    with_reducible refine (spec_l6Rd_pick.calls k g560 t558 t570 8 t574 t575 w _ ?side1 ?side2 A10.out).mono ?_
    (case side1 => repeat (first | (with_reducible first | exact HI560.out | apply IsS98.alloc | apply IsS98.drewN | apply IsS98.drew | apply IsS98.set_1) | exact HI560.out)); (case side2 => repeat (first | (with_reducible first | exact HB.out | apply below_alloc | apply pw_below_drewN | apply below_drew1 | refine below_set ?_ (IsS98.ge HI560.out)) | exact HB.out)); rintro e w15 ⟨rfl, hi, hb, hk⟩; refine ⟨_, rfl, ?_⟩; have n0_ := z0 (Kd.R_mono (Kd.R_keep (IsS98.apart (show IsS98 w _ g560 t558 t570 from HI560.out.zI) (zr HO563.out) (by decide)) hk (fun _ h => h.2)) (fun _ h => h.1)); have n1_ := z0 (Kd.R_mono (Kd.R_keep (IsS98.apart (show IsS98 w _ g560 t558 t570 from HI560.out.zI) (zr HO569.out) (by decide)) hk (fun _ h => h.2)) (fun _ h => h.1)); have n2_ := z0 (hb); have n3_ := z0 (hi); have z_HO573 := fun (h0_ : b 1 = true) => (show Kd.R (Kd.int .i64) 3 w15 w.heap.size (fun _ => True) v572 y571 from by first | exact (Kd.R_mono (Kd.R_keep (IsS98.apart (show IsS98 w _ g560 t558 t570 from HI560.out.zI) (zr (Q_HO573 h0_)) (by decide)) hk (fun _ h => h.2)) (fun _ h => h.1)) | exact Kd.R_mono (Kd.R_mono (Kd.R_keep (IsS98.apart (show IsS98 w _ g560 t558 t570 from HI560.out.zI) (zr (Q_HO573 h0_)) (by decide)) hk (fun _ h => h.2)) (fun _ h => h.1)) (fun _ h_ => by first | trivial | exact h_ | exact h_.1)); clear HO563; clear HO569; clear HB; clear HI560; have HO563 := n0_; have HO569 := n1_; have HB := n2_; have HI560 := n3_; clear n0_ n1_ n2_ n3_; (try clear hb hk hi); refine hK.out _ _ ⟨v572, adz_v572, m4_, (by rw [ha.out]; exact putSel_upk 1 hb_ rfl rfl rfl), (Kd.R_mono (zr HO563.out) (fun _ hk => by first | exact hk.2 | exact hk)), (Kd.R_mono (zr HO569.out) (fun _ hk => by first | exact hk.2 | exact hk)), fun h0_ => absurd ((up_self b 3).symm.trans h0_) (by decide), (HI560.out.zb HB.out), z_HO573, Q_HA_HO573, fun _ => (HI560.out.zI), fun h0_ => absurd ((hoff 4 (by kernel_rfl)).symm.trans h0_) (by decide)⟩
   refine steps_cons ?_ ?_
   ·rintro b a w' ⟨v572, adz_v572, m4_, ha, Q_HO563, Q_HO569, Q_HI560, Q_HB, Q_HO573, Q_HA_HO573, Q_HI560_e3, Q_X4_⟩ hb_ hon hoff; refine ⟨_, rfl, fun K hK => ?_⟩
    have e16 : a.tmps[16]? = some (v572) := by rw [ha]; exact putSel_on (e := (1, 16, v572)) 0 rfl rfl (hon 1 (by kernel_rfl)) rfl
    have e18 : a.tmps[18]? = some (.int .i64 t574) := by rw [ha]; exact putSel_on (e := (3, 18, .int .i64 t574)) 1 rfl rfl (hon 3 (by kernel_rfl)) rfl
    replace ha := Aside0.mk ha; have HO563 := Aside0.mk Q_HO563; have HO569 := Aside0.mk Q_HO569; have HB := Aside0.mk Q_HB; have HO573 := z0 (Q_HO573 (hon 1 (by kernel_rfl))); have HA_HO573 := z0 (Q_HA_HO573 (hon 1 (by kernel_rfl))); have HI560 := z0 (Q_HI560_e3 (hon 3 (by kernel_rfl))); obtain ⟨c_, hv_⟩ := HA_HO573.out; rw [hv_] at e16; refine value_ (w1 := w') (v := .pointer (some (adz_v572.add (t574).toNat))) (by rfl) rfl ?_ ?_
    ·go_simp
     (try simp only [i64_w])
     try rfl
    refine hK.out _ _ ⟨v572, adz_v572, (.pointer (some (adz_v572.add (t574).toNat))), (by rw [ha.out]; exact putSel_upk 2 hb_ rfl rfl rfl), Q_HO563, Q_HO569, fun h0_ => absurd ((hon 3 (by kernel_rfl)).symm.trans h0_) (by decide), Q_HB, Q_HO573, Q_HA_HO573, Q_HI560_e3, fun _ => rfl⟩
   refine steps_cons ?_ ?_
   ·rintro b a w' ⟨v572, adz_v572, m4_, ha, Q_HO563, Q_HO569, Q_HI560, Q_HB, Q_HO573, Q_HA_HO573, Q_HI560_e3, Q_X4_⟩ hb_ hon hoff; refine ⟨_, rfl, fun K hK => ?_⟩
    have e19 : a.tmps[19]? = some (m4_) := by rw [ha]; exact putSel_on (e := (4, 19, m4_)) 2 rfl rfl (hon 4 (by kernel_rfl)) rfl
    rw [Q_X4_ (hon 4 (by kernel_rfl))] at e19; replace ha := Aside0.mk ha; have HO563 := Aside0.mk Q_HO563; have HO569 := Aside0.mk Q_HO569; have HB := Aside0.mk Q_HB; have HO573 := z0 (Q_HO573 (hon 1 (by kernel_rfl))); have HA_HO573 := z0 (Q_HA_HO573 (hon 1 (by kernel_rfl))); have HI560 := z0 (Q_HI560_e3 (hon 3 (by kernel_rfl))); obtain ⟨c_, hv_⟩ := HA_HO573.out; have hF_ := HO573.out; rw [hv_] at hF_; obtain ⟨ad_, ea_, hx_⟩ := Kd.at_int (Kd.R_reads' hF_).2.2 t574 (of_eq_true pi576) (of_eq_true qi576)
    cases ea_
    refine value_ (w1 := w') (v := .int .i64 (rd y571 t574)) (by rfl) rfl ?_ ?_
    ·go_simp
     (try simp only [i64_w])
     try rfl
    refine hK.out _ _ ⟨v572, adz_v572, m4_, (by rw [ha.out]; exact putSel_upk 3 hb_ rfl rfl rfl), Q_HO563, Q_HO569, fun h0_ => absurd ((hon 3 (by kernel_rfl)).symm.trans h0_) (by decide), Q_HB, Q_HO573, Q_HA_HO573, Q_HI560_e3, Q_X4_⟩
   refine steps_cons ?_ ?_
   ·rintro b a w' ⟨v572, adz_v572, m4_, ha, Q_HO563, Q_HO569, Q_HI560, Q_HB, Q_HO573, Q_HA_HO573, Q_HI560_e3, Q_X4_⟩ hb_ hon hoff; refine ⟨_, rfl, fun K hK => ?_⟩
    have e15 : a.tmps[15]? = some (v568) := by rw [ha]; exact (putSel_off rfl).trans rfl
    replace ha := Aside0.mk ha; have HO563 := Aside0.mk Q_HO563; have HO569 := Aside0.mk Q_HO569; have HB := Aside0.mk Q_HB; have HI560 := z0 (Q_HI560_e3 (hon 3 (by kernel_rfl))); refine value_ (w1 := w') (v := v568) (by rfl) rfl ?_ ?_
    ·go_simp
     (try simp only [i64_w])
     try rfl
    refine hK.out _ _ ⟨v572, adz_v572, m4_, (by rw [ha.out]; exact putSel_upk 4 hb_ rfl rfl rfl), Q_HO563, Q_HO569, fun h0_ => absurd ((hon 3 (by kernel_rfl)).symm.trans h0_) (by decide), Q_HB, Q_HO573, Q_HA_HO573, Q_HI560_e3, Q_X4_⟩
   refine steps_cons ?_ ?_
   ·rintro b a w' ⟨v572, adz_v572, m4_, ha, Q_HO563, Q_HO569, Q_HI560, Q_HB, Q_HO573, Q_HA_HO573, Q_HI560_e3, Q_X4_⟩ hb_ hon hoff; refine ⟨_, rfl, fun K hK => ?_⟩
    have e20 : a.tmps[20]? = some (.int .i64 (rd y571 t574)) := by rw [ha]; exact putSel_on (e := (5, 20, .int .i64 (rd y571 t574))) 3 rfl rfl (hon 5 (by kernel_rfl)) rfl
    replace ha := Aside0.mk ha; have HO563 := Aside0.mk Q_HO563; have HO569 := Aside0.mk Q_HO569; have HB := Aside0.mk Q_HB; have HO573 := z0 (Q_HO573 (hon 1 (by kernel_rfl))); have HA_HO573 := z0 (Q_HA_HO573 (hon 1 (by kernel_rfl))); have HI560 := z0 (Q_HI560_e3 (hon 3 (by kernel_rfl))); refine value_ (w1 := w') (v := .int .i64 (rd y571 t574)) (by rfl) rfl ?_ ?_
    ·go_simp
     (try simp only [i64_w])
     try rfl
    refine hK.out _ _ ⟨v572, adz_v572, m4_, (by rw [ha.out]; exact putSel_upk 5 hb_ rfl rfl rfl), Q_HO563, Q_HO569, fun h0_ => absurd ((hon 3 (by kernel_rfl)).symm.trans h0_) (by decide), Q_HB, Q_HO573, Q_HA_HO573, Q_HI560_e3, Q_X4_⟩
   exact steps_nil
  rintro b a w19 hall ⟨v572, adz_v572, m4_, ha, Q_HO563, Q_HO569, Q_HI560, Q_HB, Q_HO573, Q_HA_HO573, Q_HI560_e3, Q_X4_⟩; clear HB HI560 HO563 HO569; have hb1_ := hall 1 (by kernel_rfl); have hb3_ := hall 3 (by kernel_rfl); have hb4_ := hall 4 (by kernel_rfl); have hb5_ := hall 5 (by kernel_rfl); have hb6_ := hall 6 (by kernel_rfl); have hb7_ := hall 7 (by kernel_rfl); subst ha; obtain rfl := Q_X4_ hb4_; simp only [putSel, hb1_, hb3_, hb4_, hb5_, hb6_, hb7_, if_true, Act.put, List.setIfInBounds_toArray, List.set_cons_zero, List.set_cons_succ]; have HO563 := Aside0.mk Q_HO563; clear Q_HO563; have HO569 := Aside0.mk Q_HO569; clear Q_HO569; clear Q_HI560; have HB := Aside0.mk Q_HB; clear Q_HB; have HO573 := z0 (Q_HO573 hb1_); clear Q_HO573; have HA_HO573 := z0 (Q_HA_HO573 hb1_); clear Q_HA_HO573; have HI560 := z0 (Q_HI560_e3 hb3_); clear Q_HI560_e3; clear hall hb1_ hb3_ hb4_ hb5_ hb6_ hb7_; obtain ⟨co20, eo20⟩ := HA_HO573.out; clear HA_HO573; subst eo20
  try go_wp2
  go_ret2
  exact ⟨_, ze, Kd.R_mono (zr HO569.out) (fun _ hk => trivial), HI560.out.zb HB.out⟩
 ·rw [if_neg c8] at H; have c8b0 : (t565 == 0) = false := beq_eq_false_iff_ne.mpr c8; have c8b1 : (t565 != 0) = true := bne_iff_ne.mpr c8; (first | rw [c8b0] | (simp only [i64_w, i32_w]; rw [c8b0]) | simp only [*, Bool.not_true, Bool.not_false] | skip); obtain ⟨y577, hy577⟩ : ∃ y_ : List Int, y_ = (([0, 0, 1, 1, 2, 5, 6, (-1)] : List Int)) := ⟨_, rfl⟩; replace H : ((spec_l6Rd_pick.f k t558 t566 8).bind fun bt580 => (if 0 ≤ bt580.1 then (if bt580.1 < (y577.length : Int) then (some (t561, rd y577 bt580.1)) else (none)) else (none))) = some (r1, r2) := zH2 hy577 H; have Ny577 := Aside0.mk hy577; clear hy577; replace H := zi H; obtain ⟨⟨t580, t581⟩, A21, H⟩ := H; (try dsimp only at H); replace H := zn H; obtain ⟨c22, H⟩ := H; have c22b0 : decide (0 ≤ t580) = true := decide_eq_true c22; clear c22; replace H := zn H; obtain ⟨c23, H⟩ := H; have c23b0 : decide (t580 < (y577.length : Int)) = true := decide_eq_true c23; clear c23; simp only [Option.some.injEq, Prod.mk.injEq] at H; obtain ⟨rfl, rfl⟩ := H
  try go_wp2
  have pi582 : (0 ≤ (t580 : Int)) = True := eq_true (zd); have qi582 : (t580 < (y577.length : Int)) = True := eq_true (zd); replace HO563 := z0 (Kd.R_drew HO563.out); replace HI560 := z0 (IsS98.drew HI560.out); replace HB := z0 (below_drew1 HB.out); refine start_ (n := 8) (S := fun w' => True) (ds := []) (fb 8 0) (by kernel_rfl) rfl rfl trivial (fun hHeld => ?_); refine with_tabW spec_DrawSieveOf.tab5 spec_DrawSieveOf.bits5 (fun HT_ HW_ => ?_); generalize w7.drew = w24 at HO563 HI560 HB hHeld ⊢; refine zu 0 1 ?_; refine zu 2 5 ?_; refine inv_at [1, 3, 4, 5, 6, 7] (fun a0_ b a w' => ∃ (v578 : Value) (adz_v578 : Addr) (m4_ : Value), a = putSel a0_ b [(1, 16, v578), (3, 18, .int .i64 t580), (4, 19, m4_), (5, 20, .int .i64 (rd y577 t580)), (6, 2, v562), (7, 3, .int .i64 (rd y577 t580))] ∧ (Kd.R Kd.string 9 w' w.heap.size (fun _ => True) v562 t561) ∧ (b 3 = false → IsS98 w w' g560 t558 t566) ∧ (Below w.heap.size w w') ∧ (b 1 = true → Kd.R (Kd.int .i64) 3 w' w.heap.size (fun _ => True) v578 y577) ∧ (b 1 = true → ∃ c_, (v578 : Value) = .slice (some adz_v578) y577.length c_) ∧ (b 3 = true → IsS98 w w' g560 t558 t581) ∧ (b 4 = true → (m4_ : Value) = .pointer (some (adz_v578.add (t580).toNat)))) HT_.out HW_.out (by kernel_rfl) (by kernel_rfl) ?_ ?_ ?_
  ·exact ⟨.bool false, ⟨0, 0, none⟩, .bool false, by simp only [putSel, Bool.false_eq_true, if_false], (by first | exact HO563.out | exact Kd.R_mono HO563.out (fun _ hk => hk.2)), fun _ => HI560.out, HB.out, fun h_ => absurd h_ (by decide), fun h_ => absurd h_ (by decide), fun h_ => absurd h_ (by decide), fun h_ => absurd h_ (by decide)⟩
  ·skip
   clear HB HI560 HO563; refine steps_cons ?_ ?_
   ·rintro b a w' ⟨v578, adz_v578, m4_, ha, Q_HO563, Q_HI560, Q_HB, Q_HO579, Q_HA_HO579, Q_HI560_e3, Q_X4_⟩ hb_ hon hoff; refine ⟨_, rfl, fun K hK => ?_⟩; replace ha := Aside0.mk ha; have HO563 := Aside0.mk Q_HO563; have HB := Aside0.mk Q_HB; refine Kd.R_lit_step (Kd.int .i64) _ 3 ?hg (N := 16) ?hd (xs := ([0, 0, 1, 1, 2, 5, 6, (-1)] : List Int)) (inner := [.int .i64 0, .int .i64 0, .int .i64 1, .int .i64 1, .int .i64 2, .int .i64 5, .int .i64 6, .int .i64 (-1)]) (ok := fun _ => True) (okp := fun _ => True) ?hr ?hp (fun _ hk => hk) trivial (Below.refl _ _) (Nat.le_refl _) (by simp) ?_; (case hd => rfl); (case hg => rfl); (case hr => first | (go_simp; done) | (go_simp; rfl)); (case hp => exact (Reps.one (show Kd.M (Kd.int .i64) _ _ _ 0 [.int .i64 0] from rfl) (Reps.one (show Kd.M (Kd.int .i64) _ _ _ 0 [.int .i64 0] from rfl) (Reps.one (show Kd.M (Kd.int .i64) _ _ _ 1 [.int .i64 1] from rfl) (Reps.one (show Kd.M (Kd.int .i64) _ _ _ 1 [.int .i64 1] from rfl) (Reps.one (show Kd.M (Kd.int .i64) _ _ _ 2 [.int .i64 2] from rfl) (Reps.one (show Kd.M (Kd.int .i64) _ _ _ 5 [.int .i64 5] from rfl) (Reps.one (show Kd.M (Kd.int .i64) _ _ _ 6 [.int .i64 6] from rfl) (Reps.one (show Kd.M (Kd.int .i64) _ _ _ (-1) [.int .i64 (-1)] from rfl) (Reps.none _ _)))))))))); intro v578 w25 ho26 hb hg_ hnew_; clear hg_ hnew_; (first | rw [← Ny577.out] at ho26 | (simp only [Int.reduceToNat] at ho26; rw [← Ny577.out] at ho26)); have n0_ := zA HO563 hb; have n1_ := z0 (Kd.R_lower ho26 (below_size (zb HB.out))); have n3_ := zH HB hb; have z_HI560 := fun (h0_ : b 3 = false) => (show IsS98 w w25 g560 t558 t566 from by first | exact (IsS98.below (by repeat (first | (with_reducible first | exact (Q_HI560 h0_) | apply IsS98.alloc | apply IsS98.drewN | apply IsS98.drew | apply IsS98.set_1) | exact (Q_HI560 h0_))) hb)); have z_HI560_e3 := fun (h0_ : b 3 = true) => (show IsS98 w w25 g560 t558 t581 from by first | exact (IsS98.below (by repeat (first | (with_reducible first | exact (Q_HI560_e3 h0_) | apply IsS98.alloc | apply IsS98.drewN | apply IsS98.drew | apply IsS98.set_1) | exact (Q_HI560_e3 h0_))) hb)); clear HO563; clear HB; have HO563 := n0_; have HO579 := n1_; have HB := n3_; clear n0_ n1_ n3_; clear hb ho26; obtain ⟨Ao27, co27, eo27⟩ := Kd.R_slice HO579.out; subst eo27; obtain ⟨ado27, fo27, _⟩ := Kd.at_int (Kd.R_reads' HO579.out).2.2 0 (by decide) (by rw [Ny577.out]; simp)
    cases fo27
    refine hK.out _ _ ⟨.slice (some ado27) y577.length co27, ado27, m4_, (by rw [ha.out]; exact putSel_upk 0 hb_ rfl rfl rfl), (zr HO563.out), z_HI560, (zb HB.out), fun _ => (zr HO579.out), fun _ => ⟨_, rfl⟩, z_HI560_e3, fun h0_ => absurd ((hoff 4 (by kernel_rfl)).symm.trans h0_) (by decide)⟩
   refine steps_cons ?_ ?_
   ·rintro b a w' ⟨v578, adz_v578, m4_, ha, Q_HO563, Q_HI560, Q_HB, Q_HO579, Q_HA_HO579, Q_HI560_e3, Q_X4_⟩ hb_ hon hoff; refine ⟨_, rfl, fun K hK => ?_⟩
    have e17 : a.tmps[17]? = some (.pointer (some ⟨g560, 0, none⟩)) := by rw [ha]; exact (putSel_off rfl).trans rfl
    replace ha := Aside0.mk ha; have HO563 := Aside0.mk Q_HO563; have HI560 := z0 (Q_HI560 hb_); have HB := Aside0.mk Q_HB; refine goes_ Try.func78 (by kernel_rfl) rfl #[.pointer (some ⟨g560, 0, none⟩), .int .i64 8] (by rfl) rfl rfl (by first | (simp only [List.map_toArray, List.map_cons, List.map_nil, Act.eval, Array.getD_eq_getD_getElem?, Option.getD_some, e17]; done) | (simp only [List.map_toArray, List.map_cons, List.map_nil, Act.eval, Array.getD_eq_getD_getElem?, Option.getD_some, e17]; rfl)) ?_
    with_reducible refine (spec_l6Rd_pick.calls k g560 t558 t566 8 t580 t581 w _ ?side1 ?side2 A21.out).mono ?_
    (case side1 => repeat (first | (with_reducible first | exact HI560.out | apply IsS98.alloc | apply IsS98.drewN | apply IsS98.drew | apply IsS98.set_1) | exact HI560.out)); (case side2 => repeat (first | (with_reducible first | exact HB.out | apply below_alloc | apply pw_below_drewN | apply below_drew1 | refine below_set ?_ (IsS98.ge HI560.out)) | exact HB.out)); rintro e w25 ⟨rfl, hi, hb, hk⟩; refine ⟨_, rfl, ?_⟩; have n0_ := z0 (Kd.R_mono (Kd.R_keep (IsS98.apart (show IsS98 w _ g560 t558 t566 from HI560.out.zI) (zr HO563.out) (by decide)) hk (fun _ h => h.2)) (fun _ h => h.1)); have n1_ := z0 (hb); have n2_ := z0 (hi); have z_HO579 := fun (h0_ : b 1 = true) => (show Kd.R (Kd.int .i64) 3 w25 w.heap.size (fun _ => True) v578 y577 from by first | exact (Kd.R_mono (Kd.R_keep (IsS98.apart (show IsS98 w _ g560 t558 t566 from HI560.out.zI) (zr (Q_HO579 h0_)) (by decide)) hk (fun _ h => h.2)) (fun _ h => h.1)) | exact Kd.R_mono (Kd.R_mono (Kd.R_keep (IsS98.apart (show IsS98 w _ g560 t558 t566 from HI560.out.zI) (zr (Q_HO579 h0_)) (by decide)) hk (fun _ h => h.2)) (fun _ h => h.1)) (fun _ h_ => by first | trivial | exact h_ | exact h_.1)); clear HO563; clear HB; clear HI560; have HO563 := n0_; have HB := n1_; have HI560 := n2_; clear n0_ n1_ n2_; (try clear hb hk hi); refine hK.out _ _ ⟨v578, adz_v578, m4_, (by rw [ha.out]; exact putSel_upk 1 hb_ rfl rfl rfl), (zr HO563.out), fun h0_ => absurd ((up_self b 3).symm.trans h0_) (by decide), (HI560.out.zb HB.out), z_HO579, Q_HA_HO579, fun _ => (HI560.out.zI), fun h0_ => absurd ((hoff 4 (by kernel_rfl)).symm.trans h0_) (by decide)⟩
   refine steps_cons ?_ ?_
   ·rintro b a w' ⟨v578, adz_v578, m4_, ha, Q_HO563, Q_HI560, Q_HB, Q_HO579, Q_HA_HO579, Q_HI560_e3, Q_X4_⟩ hb_ hon hoff; refine ⟨_, rfl, fun K hK => ?_⟩
    have e16 : a.tmps[16]? = some (v578) := by rw [ha]; exact putSel_on (e := (1, 16, v578)) 0 rfl rfl (hon 1 (by kernel_rfl)) rfl
    have e18 : a.tmps[18]? = some (.int .i64 t580) := by rw [ha]; exact putSel_on (e := (3, 18, .int .i64 t580)) 1 rfl rfl (hon 3 (by kernel_rfl)) rfl
    replace ha := Aside0.mk ha; have HO563 := Aside0.mk Q_HO563; have HB := Aside0.mk Q_HB; have HO579 := z0 (Q_HO579 (hon 1 (by kernel_rfl))); have HA_HO579 := z0 (Q_HA_HO579 (hon 1 (by kernel_rfl))); have HI560 := z0 (Q_HI560_e3 (hon 3 (by kernel_rfl))); obtain ⟨c_, hv_⟩ := HA_HO579.out; rw [hv_] at e16; refine value_ (w1 := w') (v := .pointer (some (adz_v578.add (t580).toNat))) (by rfl) rfl ?_ ?_
    ·go_simp
     (try simp only [i64_w])
     try rfl
    refine hK.out _ _ ⟨v578, adz_v578, (.pointer (some (adz_v578.add (t580).toNat))), (by rw [ha.out]; exact putSel_upk 2 hb_ rfl rfl rfl), Q_HO563, fun h0_ => absurd ((hon 3 (by kernel_rfl)).symm.trans h0_) (by decide), Q_HB, Q_HO579, Q_HA_HO579, Q_HI560_e3, fun _ => rfl⟩
   refine steps_cons ?_ ?_
   ·rintro b a w' ⟨v578, adz_v578, m4_, ha, Q_HO563, Q_HI560, Q_HB, Q_HO579, Q_HA_HO579, Q_HI560_e3, Q_X4_⟩ hb_ hon hoff; refine ⟨_, rfl, fun K hK => ?_⟩
    have e19 : a.tmps[19]? = some (m4_) := by rw [ha]; exact putSel_on (e := (4, 19, m4_)) 2 rfl rfl (hon 4 (by kernel_rfl)) rfl
    rw [Q_X4_ (hon 4 (by kernel_rfl))] at e19; replace ha := Aside0.mk ha; have HO563 := Aside0.mk Q_HO563; have HB := Aside0.mk Q_HB; have HO579 := z0 (Q_HO579 (hon 1 (by kernel_rfl))); have HA_HO579 := z0 (Q_HA_HO579 (hon 1 (by kernel_rfl))); have HI560 := z0 (Q_HI560_e3 (hon 3 (by kernel_rfl))); obtain ⟨c_, hv_⟩ := HA_HO579.out; have hF_ := HO579.out; rw [hv_] at hF_; obtain ⟨ad_, ea_, hx_⟩ := Kd.at_int (Kd.R_reads' hF_).2.2 t580 (of_eq_true pi582) (of_eq_true qi582)
    cases ea_
    refine value_ (w1 := w') (v := .int .i64 (rd y577 t580)) (by rfl) rfl ?_ ?_
    ·go_simp
     (try simp only [i64_w])
     try rfl
    refine hK.out _ _ ⟨v578, adz_v578, m4_, (by rw [ha.out]; exact putSel_upk 3 hb_ rfl rfl rfl), Q_HO563, fun h0_ => absurd ((hon 3 (by kernel_rfl)).symm.trans h0_) (by decide), Q_HB, Q_HO579, Q_HA_HO579, Q_HI560_e3, Q_X4_⟩
   refine steps_cons ?_ ?_
   ·rintro b a w' ⟨v578, adz_v578, m4_, ha, Q_HO563, Q_HI560, Q_HB, Q_HO579, Q_HA_HO579, Q_HI560_e3, Q_X4_⟩ hb_ hon hoff; refine ⟨_, rfl, fun K hK => ?_⟩
    have e15 : a.tmps[15]? = some (v562) := by rw [ha]; exact (putSel_off rfl).trans rfl
    replace ha := Aside0.mk ha; have HO563 := Aside0.mk Q_HO563; have HB := Aside0.mk Q_HB; have HI560 := z0 (Q_HI560_e3 (hon 3 (by kernel_rfl))); refine value_ (w1 := w') (v := v562) (by rfl) rfl ?_ ?_
    ·go_simp
     (try simp only [i64_w])
     try rfl
    refine hK.out _ _ ⟨v578, adz_v578, m4_, (by rw [ha.out]; exact putSel_upk 4 hb_ rfl rfl rfl), Q_HO563, fun h0_ => absurd ((hon 3 (by kernel_rfl)).symm.trans h0_) (by decide), Q_HB, Q_HO579, Q_HA_HO579, Q_HI560_e3, Q_X4_⟩
   refine steps_cons ?_ ?_
   ·rintro b a w' ⟨v578, adz_v578, m4_, ha, Q_HO563, Q_HI560, Q_HB, Q_HO579, Q_HA_HO579, Q_HI560_e3, Q_X4_⟩ hb_ hon hoff; refine ⟨_, rfl, fun K hK => ?_⟩
    have e20 : a.tmps[20]? = some (.int .i64 (rd y577 t580)) := by rw [ha]; exact putSel_on (e := (5, 20, .int .i64 (rd y577 t580))) 3 rfl rfl (hon 5 (by kernel_rfl)) rfl
    replace ha := Aside0.mk ha; have HO563 := Aside0.mk Q_HO563; have HB := Aside0.mk Q_HB; have HO579 := z0 (Q_HO579 (hon 1 (by kernel_rfl))); have HA_HO579 := z0 (Q_HA_HO579 (hon 1 (by kernel_rfl))); have HI560 := z0 (Q_HI560_e3 (hon 3 (by kernel_rfl))); refine value_ (w1 := w') (v := .int .i64 (rd y577 t580)) (by rfl) rfl ?_ ?_
    ·go_simp
     (try simp only [i64_w])
     try rfl
    refine hK.out _ _ ⟨v578, adz_v578, m4_, (by rw [ha.out]; exact putSel_upk 5 hb_ rfl rfl rfl), Q_HO563, fun h0_ => absurd ((hon 3 (by kernel_rfl)).symm.trans h0_) (by decide), Q_HB, Q_HO579, Q_HA_HO579, Q_HI560_e3, Q_X4_⟩
   exact steps_nil
  rintro b a w29 hall ⟨v578, adz_v578, m4_, ha, Q_HO563, Q_HI560, Q_HB, Q_HO579, Q_HA_HO579, Q_HI560_e3, Q_X4_⟩; clear HB HI560 HO563; have hb1_ := hall 1 (by kernel_rfl); have hb3_ := hall 3 (by kernel_rfl); have hb4_ := hall 4 (by kernel_rfl); have hb5_ := hall 5 (by kernel_rfl); have hb6_ := hall 6 (by kernel_rfl); have hb7_ := hall 7 (by kernel_rfl); subst ha; obtain rfl := Q_X4_ hb4_; simp only [putSel, hb1_, hb3_, hb4_, hb5_, hb6_, hb7_, if_true, Act.put, List.setIfInBounds_toArray, List.set_cons_zero, List.set_cons_succ]; have HO563 := Aside0.mk Q_HO563; clear Q_HO563; clear Q_HI560; have HB := Aside0.mk Q_HB; clear Q_HB; have HO579 := z0 (Q_HO579 hb1_); clear Q_HO579; have HA_HO579 := z0 (Q_HA_HO579 hb1_); clear Q_HA_HO579; have HI560 := z0 (Q_HI560_e3 hb3_); clear Q_HI560_e3; clear hall hb1_ hb3_ hb4_ hb5_ hb6_ hb7_; obtain ⟨co30, eo30⟩ := HA_HO579.out; clear HA_HO579; subst eo30
  try go_wp2
  go_ret2
  exact ⟨_, ze, zr HO563.out, HI560.out.zb HB.out⟩
end Go.Proofs.Ytifgcajpkgamgaa.Q
end
section
namespace Go.Proofs.Ytifgcajpkgamgaa.Q
open Go.RowKit Go.Proofs.YtifgcajpkgamgaaW.PrintWords Go.Proofs.YtifgcajpkgamgaaW.PrintLast Go.Proofs.YtifgcajpkgamgaaW.PrintMore
attribute [local go_sem] max2_int min2_int max_two min_two max_three min_three max_four min_four   
set_option linter.unusedVariables false
set_option linter.unusedSimpArgs false
theorem laws_ltSames.mono_l : ∀ k, (∀ y0 y1 y2, LeO (laws_ltSames.l0 k y0 y1 y2) (laws_ltSames.l0 (k + 1) y0 y1 y2))
  | 0 => fun _ _ _ r h => by simp [laws_ltSames.l0] at h
  | k + 1 => by
    have ih0 := laws_ltSames.mono_l k
    · intro y0 y1 y2
      unfold laws_ltSames.l0
      repeat' first
      | (with_reducible exact ih0 _ _ _)
      | (with_reducible exact LeO.refl _)
      | (with_reducible exact LeO.none _)
      | (with_reducible refine LeO.ite ?_ ?_)
      | (with_reducible refine LeO.bind ?_ (fun _ => ?_))
      | exact ih0 _ _ _
      | exact LeO.none _
      | refine LeO.ite ?_ ?_
      | refine LeO.bind ?_ (fun _ => ?_)
theorem laws_ltSames.mono : ∀ a0 a1 k, LeO (laws_ltSames.f k a0 a1) (laws_ltSames.f (k + 1) a0 a1) := by
  intro a0 a1 k
  have ih0 := laws_ltSames.mono_l k
  unfold laws_ltSames.f
  repeat' first
      | (with_reducible exact ih0 _ _ _)
      | (with_reducible exact LeO.refl _)
      | (with_reducible exact LeO.none _)
      | (with_reducible refine LeO.ite ?_ ?_)
      | (with_reducible refine LeO.bind ?_ (fun _ => ?_))
      | exact ih0 _ _ _
      | exact LeO.none _
      | refine LeO.ite ?_ ?_
      | refine LeO.bind ?_ (fun _ => ?_)
set_option maxHeartbeats 8000000 in
set_option maxRecDepth 100000 in
theorem laws_ltSames.calls (k : Nat) (A0 : Option Addr) (c0 : Nat) (l0 : List ByteArray) (A1 : Option Addr) (c1 : Nat) (l1 : List ByteArray) (r : Bool) (w : World) (hr0 : Kd.C Kd.string w A0 l0.length l0) (hc0 : l0.length ≤ c0) (hr1 : Kd.C Kd.string w A1 l1.length l1) (hc1 : l1.length ≤ c1) (h : laws_ltSames.f k l0 l1 = some r) :
    Calls Try.prog 51 #[.slice A0 l0.length c0, .slice A1 l1.length c1] w fun e w' => e = .returned (.bool r) ∧ Drawn0 w w' := by
 have HR0 := Aside0.mk hr0; have HC0 := Aside0.mk hc0; clear hr0 hc0; have HR1 := Aside0.mk hr1; have HC1 := Aside0.mk hc1; clear hr1 hc1; have H : (if (l0.length : Int) = (l1.length : Int) then (laws_ltSames.l0 k l0 l1 0) else (some false)) = some r := h; clear h
 by_cases c3 : (l0.length : Int) = (l1.length : Int)
 ·rw [if_pos c3] at H; have c3b0 : ((l0.length : Int) == (l1.length : Int)) = true := beq_iff_eq.mpr c3; have c3b1 : ((l0.length : Int) != (l1.length : Int)) = false := bne_eq_false_iff_eq.mpr c3
  have c3b2 : (l0.length == l1.length) = true := by first | simpa using c3 | (simp at c3 ⊢; omega)
  clear c3; have H' := Aside0.mk H; clear H; go_enter Try.func51, Try.ntmps51; go_wp2
  repeat (go_quiet (fail); try go_wp2)
  go_loopg [5] k (fun kq v5 w' => ∃ (x5_1 : Int), v5 = .int .i64 x5_1 ∧ Aside0 (laws_ltSames.l0 kq l0 l1 x5_1 = some r) ∧ Aside0 (kq ≤ k) ∧ Drawn0 w w')
  case atStart => exact ⟨(0), zf, H', ⟨Nat.le_refl _⟩, by repeat (first | exact Drawn0.refl _ | apply Drawn0.step)⟩
  case round =>
   clear H'
   try clear c1
   try clear p2
   try clear c3
   try clear c3b0
   try clear c3b1
   try clear c3b2
   obtain ⟨x5_1, rfl, HA, HK1, ⟨m1, rfl⟩⟩ := hrel
   cases gk with
   | zero => exact absurd HA.out (by simp [laws_ltSames.l0])
   | succ k1 =>
    have H := HA.out; clear HA; simp only [laws_ltSames.l0] at H
    by_cases c4 : x5_1 < (l0.length : Int)
    ·rw [if_pos c4] at H; have c4b0 : decide (x5_1 < (l0.length : Int)) = true := decide_eq_true c4; clear c4; replace H := zn H; obtain ⟨c5, H⟩ := H; have c5b0 : decide (0 ≤ x5_1) = true := decide_eq_true c5; clear c5; replace H := zn H; obtain ⟨c6, H⟩ := H; have c6b0 : decide (x5_1 < (l1.length : Int)) = true := decide_eq_true c6; clear c6
     by_cases c7 : (rdOf ByteArray.empty l0 x5_1).toList = (rdOf ByteArray.empty l1 x5_1).toList
     ·rw [if_pos c7] at H; have c7b0 : ((rdOf ByteArray.empty l0 x5_1).toList == (rdOf ByteArray.empty l1 x5_1).toList) = true := beq_iff_eq.mpr c7; have c7b1 : ((rdOf ByteArray.empty l0 x5_1).toList != (rdOf ByteArray.empty l1 x5_1).toList) = false := bne_eq_false_iff_eq.mpr c7; clear c7; have H' := Aside0.mk H; clear H; have p605 : 0 ≤ (x5_1 : Int) := zd; have q605 : x5_1 < (l0.length : Int) := zd; obtain ⟨ad605, e605, hx605_0⟩ := Kd.at_string HR0.out x5_1 p605 q605; cases e605; replace p605 := eq_true p605; replace q605 := eq_true q605; have p606 : 0 ≤ (x5_1 : Int) := zd; have q606 : x5_1 < (l1.length : Int) := zd; obtain ⟨ad606, e606, hx606_0⟩ := Kd.at_string HR1.out x5_1 p606 q606; cases e606; replace p606 := eq_true p606; replace q606 := eq_true q606; go_wp2
      repeat (go_quiet (fail); try go_wp2)
      go_roundg k1
      case measure => have := HK1.out; omega
      case rel => exact ⟨(wrap64 (x5_1 + 1)), zf, H', ⟨by have := HK1.out; omega⟩, by repeat (first | exact Drawn0.refl _ | apply Drawn0.step)⟩
     ·rw [if_neg c7] at H; have c7b0 : ((rdOf ByteArray.empty l0 x5_1).toList == (rdOf ByteArray.empty l1 x5_1).toList) = false := beq_eq_false_iff_ne.mpr c7; have c7b1 : ((rdOf ByteArray.empty l0 x5_1).toList != (rdOf ByteArray.empty l1 x5_1).toList) = true := bne_iff_ne.mpr c7; obtain rfl := Option.some.inj H; have p605 : 0 ≤ (x5_1 : Int) := zd; have q605 : x5_1 < (l0.length : Int) := zd; obtain ⟨ad605, e605, hx605_0⟩ := Kd.at_string HR0.out x5_1 p605 q605; cases e605; replace p605 := eq_true p605; replace q605 := eq_true q605; have p606 : 0 ≤ (x5_1 : Int) := zd; have q606 : x5_1 < (l1.length : Int) := zd; obtain ⟨ad606, e606, hx606_0⟩ := Kd.at_string HR1.out x5_1 p606 q606; cases e606; replace p606 := eq_true p606; replace q606 := eq_true q606; go_wp2
      repeat (go_quiet (fail); try go_wp2)
      go_ret; exact ⟨zf, by repeat (first | exact Drawn0.refl _ | apply Drawn0.step)⟩
    ·rw [if_neg c4] at H; have c4b0 : decide (x5_1 < (l0.length : Int)) = false := decide_eq_false c4; clear c4; obtain rfl := Option.some.inj H; go_wp2
     repeat (go_quiet (fail); try go_wp2)
     go_ret; exact ⟨zf, by repeat (first | exact Drawn0.refl _ | apply Drawn0.step)⟩
 ·rw [if_neg c3] at H; have c3b0 : ((l0.length : Int) == (l1.length : Int)) = false := beq_eq_false_iff_ne.mpr c3; have c3b1 : ((l0.length : Int) != (l1.length : Int)) = true := bne_iff_ne.mpr c3
  have c3b2 : (l0.length == l1.length) = false := by first | simpa using c3 | (simp at c3 ⊢; omega)
  obtain rfl := Option.some.inj H; go_enter Try.func51, Try.ntmps51; go_wp2
  repeat (go_quiet (fail); try go_wp2)
  go_ret; exact ⟨zf, by repeat (first | exact Drawn0.refl _ | apply Drawn0.step)⟩
end Go.Proofs.Ytifgcajpkgamgaa.Q
end
section
namespace Go.Proofs.Ytifgcajpkgamgaa.Q
open Go.RowKit Go.Proofs.YtifgcajpkgamgaaW.PrintWords Go.Proofs.YtifgcajpkgamgaaW.PrintLast Go.Proofs.YtifgcajpkgamgaaW.PrintMore
attribute [local go_sem] max2_int min2_int max_two min_two max_three min_three max_four min_four   
set_option linter.unusedVariables false
set_option linter.unusedSimpArgs false
theorem laws_ltSieve.mono : ∀ a0 a1 a2 a3 a4 a5 a6 a7 a8 a9 k, LeO (laws_ltSieve.f k a0 a1 a2 a3 a4 a5 a6 a7 a8 a9) (laws_ltSieve.f (k + 1) a0 a1 a2 a3 a4 a5 a6 a7 a8 a9) := by
  intro a0 a1 a2 a3 a4 a5 a6 a7 a8 a9 k
  unfold laws_ltSieve.f
  repeat' first
      | (with_reducible exact laws_ltSames.mono _ _ _)
      | (with_reducible exact LeO.refl _)
      | (with_reducible exact LeO.none _)
      | (with_reducible refine LeO.ite ?_ ?_)
      | (with_reducible refine LeO.bind ?_ (fun _ => ?_))
      | exact laws_ltSames.mono _ _ _
      | exact LeO.none _
      | refine LeO.ite ?_ ?_
      | refine LeO.bind ?_ (fun _ => ?_)
set_option maxHeartbeats 8000000 in
set_option maxRecDepth 100000 in
theorem laws_ltSieve.calls (k : Nat) (a0_0 : ByteArray) (a0_1 : ByteArray) (a0_2 : ByteArray) (A0_3 : Option Addr) (c0_3 : Nat) (l0_3 : List ByteArray) (a0_4 : Int) (a1_0 : ByteArray) (a1_1 : ByteArray) (a1_2 : ByteArray) (A1_3 : Option Addr) (c1_3 : Nat) (l1_3 : List ByteArray) (a1_4 : Int) (r : Bool) (w : World) (hr0_3 : Kd.C Kd.string w A0_3 l0_3.length l0_3) (hc0_3 : l0_3.length ≤ c0_3) (hr1_3 : Kd.C Kd.string w A1_3 l1_3.length l1_3) (hc1_3 : l1_3.length ≤ c1_3) (h : laws_ltSieve.f k a0_0 a0_1 a0_2 l0_3 a0_4 a1_0 a1_1 a1_2 l1_3 a1_4 = some r) :
    Calls Try.prog 37 #[.agg #[.string a0_0, .string a0_1, .string a0_2, .slice A0_3 l0_3.length c0_3, .int .i64 a0_4], .agg #[.string a1_0, .string a1_1, .string a1_2, .slice A1_3 l1_3.length c1_3, .int .i64 a1_4]] w fun e w' => e = .returned (.bool r) ∧ Below w.heap.size w w' := by
 have hu25 := Try.underlying25; have HR0_3 := Aside0.mk hr0_3; have HC0_3 := Aside0.mk hc0_3; clear hr0_3 hc0_3; have HR1_3 := Aside0.mk hr1_3; have HC1_3 := Aside0.mk hc1_3; clear hr1_3 hc1_3; have HB := z0 (Below.refl w.heap.size w); have H : (if a0_0.toList = a1_0.toList then (if a0_1.toList = a1_1.toList then (if a0_2.toList = a1_2.toList then (if a0_4 = a1_4 then ((laws_ltSames.f k l0_3 l1_3).bind fun t609 => (some t609)) else (some false)) else (some false)) else (some false)) else (some false)) = some r := h; clear h
 by_cases c3 : a0_0.toList = a1_0.toList
 ·rw [if_pos c3] at H; have c3b0 : (a0_0.toList == a1_0.toList) = true := beq_iff_eq.mpr c3; have c3b1 : (a0_0.toList != a1_0.toList) = false := bne_eq_false_iff_eq.mpr c3; clear c3
  by_cases c4 : a0_1.toList = a1_1.toList
  ·rw [if_pos c4] at H; have c4b0 : (a0_1.toList == a1_1.toList) = true := beq_iff_eq.mpr c4; have c4b1 : (a0_1.toList != a1_1.toList) = false := bne_eq_false_iff_eq.mpr c4; clear c4
   by_cases c5 : a0_2.toList = a1_2.toList
   ·rw [if_pos c5] at H; have c5b0 : (a0_2.toList == a1_2.toList) = true := beq_iff_eq.mpr c5; have c5b1 : (a0_2.toList != a1_2.toList) = false := bne_eq_false_iff_eq.mpr c5; clear c5
    by_cases c6 : a0_4 = a1_4
    ·rw [if_pos c6] at H; have c6b0 : (a0_4 == a1_4) = true := beq_iff_eq.mpr c6; have c6b1 : (a0_4 != a1_4) = false := bne_eq_false_iff_eq.mpr c6; clear c6; replace H := zi H; obtain ⟨t609, A7, H⟩ := H; obtain rfl := Option.some.inj H; go_enter Try.func37, Try.ntmps37
     go_wp2_with (first | ((with_reducible refine gd 2 ?_); refine box_event zh (N := 2) zh (cs := #[.string a0_0, .string a0_1, .string a0_2, .slice A0_3 l0_3.length c0_3, .int .i64 a0_4]) (t := 25) zg ?_; intro gb607 hg w8 hbox hb; have BK607 := z0 (hbox); have GE607 := zG hg HB; replace HB := zH HB hb; clear hb hbox hg) | ((with_reducible refine gd 3 ?_); refine box_event zh (N := 3) zh (cs := #[.string a1_0, .string a1_1, .string a1_2, .slice A1_3 l1_3.length c1_3, .int .i64 a1_4]) (t := 25) zg ?_; intro gb608 hg w9 hbox hb; have BK608 := z0 (hbox); have GE608 := zG hg HB; replace HB := zH HB hb; have NB607_608 := zLt hg BK607; have NB608_607 := zGt hg BK607; replace BK607 := zK BK607 hb; clear hb hbox hg; have hnb10 := NB607_608.out; have hnc10 := NB608_607.out; have hcz11 := zc5 BK607.out; have hcz12 := zc5 BK608.out) | (go_at_call 51; (with_reducible refine (laws_ltSames.calls k _ _ l0_3 _ _ l1_3 t609 _ ?side1 ?side2 ?side3 ?side4 A7.out).mono ?_); (case side1 => repeat (first | exact (Kd.C_below HR0_3.out HB.out) | (with_reducible refine Kd.C_alloc ?_ _) | (with_reducible refine Kd.C_drewN ?_ _) | (with_reducible refine Kd.C_drew ?_))); (case side2 => exact HC0_3.out); (case side3 => repeat (first | exact (Kd.C_below HR1_3.out HB.out) | (with_reducible refine Kd.C_alloc ?_ _) | (with_reducible refine Kd.C_drewN ?_ _) | (with_reducible refine Kd.C_drew ?_))); (case side4 => exact HC1_3.out); rintro e w' ⟨rfl, ⟨nd, rfl⟩⟩))
     go_ret; exact ⟨ze, zb HB.out⟩
    ·rw [if_neg c6] at H; have c6b0 : (a0_4 == a1_4) = false := beq_eq_false_iff_ne.mpr c6; have c6b1 : (a0_4 != a1_4) = true := bne_iff_ne.mpr c6; obtain rfl := Option.some.inj H; go_enter Try.func37, Try.ntmps37
     go_wp2_with (first | ((with_reducible refine gd 2 ?_); refine box_event zh (N := 2) zh (cs := #[.string a0_0, .string a0_1, .string a0_2, .slice A0_3 l0_3.length c0_3, .int .i64 a0_4]) (t := 25) zg ?_; intro gb607 hg w13 hbox hb; have BK607 := z0 (hbox); have GE607 := zG hg HB; replace HB := zH HB hb; clear hb hbox hg) | ((with_reducible refine gd 3 ?_); refine box_event zh (N := 3) zh (cs := #[.string a1_0, .string a1_1, .string a1_2, .slice A1_3 l1_3.length c1_3, .int .i64 a1_4]) (t := 25) zg ?_; intro gb608 hg w14 hbox hb; have BK608 := z0 (hbox); have GE608 := zG hg HB; replace HB := zH HB hb; have NB607_608 := zLt hg BK607; have NB608_607 := zGt hg BK607; replace BK607 := zK BK607 hb; clear hb hbox hg; have hnb15 := NB607_608.out; have hnc15 := NB608_607.out; have hcz16 := zc5 BK607.out; have hcz17 := zc5 BK608.out))
     go_ret; exact ⟨ze, zb HB.out⟩
   ·rw [if_neg c5] at H; have c5b0 : (a0_2.toList == a1_2.toList) = false := beq_eq_false_iff_ne.mpr c5; have c5b1 : (a0_2.toList != a1_2.toList) = true := bne_iff_ne.mpr c5; obtain rfl := Option.some.inj H; go_enter Try.func37, Try.ntmps37
    go_wp2_with (first | ((with_reducible refine gd 2 ?_); refine box_event zh (N := 2) zh (cs := #[.string a0_0, .string a0_1, .string a0_2, .slice A0_3 l0_3.length c0_3, .int .i64 a0_4]) (t := 25) zg ?_; intro gb607 hg w18 hbox hb; have BK607 := z0 (hbox); have GE607 := zG hg HB; replace HB := zH HB hb; clear hb hbox hg) | ((with_reducible refine gd 3 ?_); refine box_event zh (N := 3) zh (cs := #[.string a1_0, .string a1_1, .string a1_2, .slice A1_3 l1_3.length c1_3, .int .i64 a1_4]) (t := 25) zg ?_; intro gb608 hg w19 hbox hb; have BK608 := z0 (hbox); have GE608 := zG hg HB; replace HB := zH HB hb; have NB607_608 := zLt hg BK607; have NB608_607 := zGt hg BK607; replace BK607 := zK BK607 hb; clear hb hbox hg; have hnb20 := NB607_608.out; have hnc20 := NB608_607.out; have hcz21 := zc5 BK607.out; have hcz22 := zc5 BK608.out))
    go_ret; exact ⟨ze, zb HB.out⟩
  ·rw [if_neg c4] at H; have c4b0 : (a0_1.toList == a1_1.toList) = false := beq_eq_false_iff_ne.mpr c4; have c4b1 : (a0_1.toList != a1_1.toList) = true := bne_iff_ne.mpr c4; obtain rfl := Option.some.inj H; go_enter Try.func37, Try.ntmps37
   go_wp2_with (first | ((with_reducible refine gd 2 ?_); refine box_event zh (N := 2) zh (cs := #[.string a0_0, .string a0_1, .string a0_2, .slice A0_3 l0_3.length c0_3, .int .i64 a0_4]) (t := 25) zg ?_; intro gb607 hg w23 hbox hb; have BK607 := z0 (hbox); have GE607 := zG hg HB; replace HB := zH HB hb; clear hb hbox hg) | ((with_reducible refine gd 3 ?_); refine box_event zh (N := 3) zh (cs := #[.string a1_0, .string a1_1, .string a1_2, .slice A1_3 l1_3.length c1_3, .int .i64 a1_4]) (t := 25) zg ?_; intro gb608 hg w24 hbox hb; have BK608 := z0 (hbox); have GE608 := zG hg HB; replace HB := zH HB hb; have NB607_608 := zLt hg BK607; have NB608_607 := zGt hg BK607; replace BK607 := zK BK607 hb; clear hb hbox hg; have hnb25 := NB607_608.out; have hnc25 := NB608_607.out; have hcz26 := zc5 BK607.out; have hcz27 := zc5 BK608.out))
   go_ret; exact ⟨ze, zb HB.out⟩
 ·rw [if_neg c3] at H; have c3b0 : (a0_0.toList == a1_0.toList) = false := beq_eq_false_iff_ne.mpr c3; have c3b1 : (a0_0.toList != a1_0.toList) = true := bne_iff_ne.mpr c3; obtain rfl := Option.some.inj H; go_enter Try.func37, Try.ntmps37
  go_wp2_with (first | ((with_reducible refine gd 2 ?_); refine box_event zh (N := 2) zh (cs := #[.string a0_0, .string a0_1, .string a0_2, .slice A0_3 l0_3.length c0_3, .int .i64 a0_4]) (t := 25) zg ?_; intro gb607 hg w28 hbox hb; have BK607 := z0 (hbox); have GE607 := zG hg HB; replace HB := zH HB hb; clear hb hbox hg) | ((with_reducible refine gd 3 ?_); refine box_event zh (N := 3) zh (cs := #[.string a1_0, .string a1_1, .string a1_2, .slice A1_3 l1_3.length c1_3, .int .i64 a1_4]) (t := 25) zg ?_; intro gb608 hg w29 hbox hb; have BK608 := z0 (hbox); have GE608 := zG hg HB; replace HB := zH HB hb; have NB607_608 := zLt hg BK607; have NB608_607 := zGt hg BK607; replace BK607 := zK BK607 hb; clear hb hbox hg; have hnb30 := NB607_608.out; have hnc30 := NB608_607.out; have hcz31 := zc5 BK607.out; have hcz32 := zc5 BK608.out))
  go_ret; exact ⟨ze, zb HB.out⟩
end Go.Proofs.Ytifgcajpkgamgaa.Q
end
section
namespace Go.Proofs.Ytifgcajpkgamgaa.Q
open Go.RowKit Go.Proofs.YtifgcajpkgamgaaW.PrintWords Go.Proofs.YtifgcajpkgamgaaW.PrintLast Go.Proofs.YtifgcajpkgamgaaW.PrintMore
attribute [local go_sem] max2_int min2_int max_two min_two max_three min_three max_four min_four   
set_option linter.unusedVariables false
set_option linter.unusedSimpArgs false
theorem impl_texts.mono_l : ∀ k, (∀ y0 y1 y2 y3, LeO (impl_texts.l0 k y0 y1 y2 y3) (impl_texts.l0 (k + 1) y0 y1 y2 y3))
  | 0 => fun _ _ _ _ r h => by simp [impl_texts.l0] at h
  | k + 1 => by
    have ih0 := impl_texts.mono_l k
    · intro y0 y1 y2 y3
      unfold impl_texts.l0
      repeat' first
      | (with_reducible exact ih0 _ _ _ _)
      | (with_reducible exact LeO.refl _)
      | (with_reducible exact LeO.none _)
      | (with_reducible refine LeO.ite ?_ ?_)
      | (with_reducible refine LeO.bind ?_ (fun _ => ?_))
      | exact ih0 _ _ _ _
      | exact LeO.none _
      | refine LeO.ite ?_ ?_
      | refine LeO.bind ?_ (fun _ => ?_)
theorem impl_texts.mono : ∀ a0 k, LeO (impl_texts.f k a0) (impl_texts.f (k + 1) a0) := by
  intro a0 k
  have ih0 := impl_texts.mono_l k
  unfold impl_texts.f
  repeat' first
      | (with_reducible exact ih0 _ _ _ _)
      | (with_reducible exact LeO.refl _)
      | (with_reducible exact LeO.none _)
      | (with_reducible refine LeO.ite ?_ ?_)
      | (with_reducible refine LeO.bind ?_ (fun _ => ?_))
      | exact ih0 _ _ _ _
      | exact LeO.none _
      | refine LeO.ite ?_ ?_
      | refine LeO.bind ?_ (fun _ => ?_)
set_option maxHeartbeats 8000000 in
set_option maxRecDepth 100000 in
theorem impl_texts.calls (k : Nat) (A0 : Option Addr) (c0 : Nat) (l0 : List (S93)) (r : List ByteArray) (w : World) (hr0 : Kd.C k93 w A0 l0.length l0) (hc0 : l0.length ≤ c0) (h : impl_texts.f k l0 = some r) :
    Calls Try.prog 90 #[.slice A0 l0.length c0] w fun e w' => ∃ v0_ : Value, e = .returned (v0_) ∧ Kd.R Kd.string 9 w' w.heap.size (fun _ => True) v0_ r ∧ Below w.heap.size w w' := by
 have hu93 := Try.underlying93; have HR0 := Aside0.mk hr0; have HC0 := Aside0.mk hc0; clear hr0 hc0; have HB := z0 (Below.refl w.heap.size w); have H : (impl_texts.l0 k ([] : List ByteArray) l0 (l0.length : Int) 0) = some r := h; clear h; have H' := Aside0.mk H; clear H; go_enter Try.func90, Try.ntmps90; go_wp2
 go_loopg [3, 8] k (fun kq v3 v8 w' => ∃ (x3_1 : List ByteArray) (x8_1 : Int), v8 = .int .i64 x8_1 ∧ Aside0 (impl_texts.l0 kq x3_1 l0 (l0.length : Int) x8_1 = some r) ∧ Aside0 (kq ≤ k) ∧ Aside0 (Kd.R Kd.string 9 w' w.heap.size (fun _ => True) v3 x3_1) ∧ Aside0 (Below w.heap.size w w'))
 case atStart => exact ⟨(([] : List ByteArray)), (0), zf, H', ⟨Nat.le_refl _⟩, ⟨by first | exact Kd.R_nil _ _ _ _ _ | exact Kd.N_nil _ _ _ _ _ | exact Kd.V_nil _ _ _ _ _ | exact Kd.Q_nil _ _ _ _ _ | exact Kd.S_nil _ _ _ _ _⟩, ⟨zb HB.out⟩⟩
 case round =>
  clear H'; obtain ⟨x3_1, x8_1, rfl, HA, HK1, HO_3, HB⟩ := hrel
  cases gk with
  | zero => exact absurd HA.out (by simp [impl_texts.l0])
  | succ k1 =>
   have H := HA.out; clear HA; simp only [impl_texts.l0] at H
   by_cases c2 : x8_1 < (l0.length : Int)
   ·rw [if_pos c2] at H; have c2b0 : decide (x8_1 < (l0.length : Int)) = true := decide_eq_true c2; clear c2; replace H := zn H; obtain ⟨c3, H⟩ := H; have c3b0 : decide (0 ≤ x8_1) = true := decide_eq_true c3; clear c3; replace H := zn H; obtain ⟨c4, H⟩ := H; have c4b0 : decide (x8_1 < (l0.length : Int)) = true := decide_eq_true c4; clear c4; replace H := zn H; obtain ⟨c5, H⟩ := H; have LMc5 := Aside0.mk c5; clear c5; obtain ⟨y332, hy332⟩ : ∃ y_ : List ByteArray, y_ = (x3_1 ++ [(rd_T93 l0 x8_1).f0]) := ⟨_, rfl⟩; replace H : (impl_texts.l0 k1 y332 l0 (l0.length : Int) (wrap64 (x8_1 + 1))) = some r := zH2 hy332 H; have Ny332 := Aside0.mk hy332; clear hy332; have H' := Aside0.mk H; clear H; have p330 : 0 ≤ (x8_1 : Int) := zd; have q330 : x8_1 < (l0.length : Int) := zd; obtain ⟨ad330, e330, hx330_0, hx330_1⟩ := at_T93 HR0.out x8_1 p330 q330; cases e330; replace hx330_0 := (HB.out.cell (World.block_lt_of_cell? w _ hx330_0)).trans hx330_0; replace hx330_1 := (HB.out.cell (World.block_lt_of_cell? w _ hx330_1)).trans hx330_1; replace p330 := eq_true p330; replace q330 := eq_true q330
    go_wp2_with (first | ((with_reducible refine gd 5 ?_); refine box_event zh (N := 5) zh (cs := #[.string (⟨#[]⟩ : ByteArray), .bool false]) (t := 93) zg ?_; intro gb331 hg w6 hbox hb; replace HO_3 := zA HO_3 hb; have BK331 := z0 (hbox); have GE331 := zG hg HB; replace HB := zH HB hb; clear hb hbox hg; have hcz7 := zc2 BK331.out) | ((with_reducible refine gate_builtin (b := .append) (xs := #[.tmp 12, .tmp 15]) rfl ?_); at_builtin; refine Kd.R_append Kd.string (w0 := w) w.heap.size rfl (.tmp 12) (.tmp 15) 23 9 (.string ⟨#[]⟩) 16 rfl Try.underlying23 info9 rfl (by decide) (by omega) u3 x3_1 ((rd_T93 l0 x8_1).f0) [.string ((rd_T93 l0 x8_1).f0)] (fun _ => True) (fun _ => False) rfl (by first | (go_simp; done) | (go_simp; rfl)) ?aP (fun _ hk => hk.elim) ?aF ?aO ?aB ?aS ?aL ?_; (case aP => exact rfl); (case aB => exact (zb HB.out)); (case aF => exact (fun _ _ => trivial)); (case aO => exact (Kd.R_mono (zt HO_3.out BK331.out) (fun _ hk => trivial))); (case aS => exact (below_size (zb HB.out))); (case aL => have := LMc5.out; omega); intro v333 w8 ho hb hg hat; rw [← Ny332.out] at ho; replace BK331 := z0 (blk_grown (zpc BK331.out #[.string ((rd_T93 l0 x8_1).f0), .bool ((rd_T93 l0 x8_1).f1)]) hg (Kd.R_ne HO_3.out BK331.out (by decide))); replace HB := z0 (hb); have HO334 := z0 (ho); clear HO_3; clear ho hb hg hat))
    go_roundg k1
    case measure => have := HK1.out; omega
    case rel => exact ⟨(y332), (wrap64 (x8_1 + 1)), zf, H', ⟨by have := HK1.out; omega⟩, ⟨zr HO334.out⟩, ⟨zb HB.out⟩⟩
   ·rw [if_neg c2] at H; have c2b0 : decide (x8_1 < (l0.length : Int)) = false := decide_eq_false c2; clear c2; obtain rfl := Option.some.inj H; go_wp2; go_ret; exact ⟨_, ze, zr HO_3.out, zb HB.out⟩
end Go.Proofs.Ytifgcajpkgamgaa.Q
end
section
namespace Go.Proofs.Ytifgcajpkgamgaa.Q
open Go.RowKit Go.Proofs.YtifgcajpkgamgaaW.PrintWords Go.Proofs.YtifgcajpkgamgaaW.PrintLast Go.Proofs.YtifgcajpkgamgaaW.PrintMore
attribute [local go_sem] max2_int min2_int max_two min_two max_three min_three max_four min_four   
set_option linter.unusedVariables false
set_option linter.unusedSimpArgs false
theorem impl_BitsOk.mono_l : ∀ k, (∀ y0 y1 y2, LeO (impl_BitsOk.l0 k y0 y1 y2) (impl_BitsOk.l0 (k + 1) y0 y1 y2))
  | 0 => fun _ _ _ r h => by simp [impl_BitsOk.l0] at h
  | k + 1 => by
    have ih0 := impl_BitsOk.mono_l k
    · intro y0 y1 y2
      unfold impl_BitsOk.l0
      repeat' first
      | (with_reducible exact ih0 _ _ _)
      | (with_reducible exact LeO.refl _)
      | (with_reducible exact LeO.none _)
      | (with_reducible refine LeO.ite ?_ ?_)
      | (with_reducible refine LeO.bind ?_ (fun _ => ?_))
      | exact ih0 _ _ _
      | exact LeO.none _
      | refine LeO.ite ?_ ?_
      | refine LeO.bind ?_ (fun _ => ?_)
theorem impl_BitsOk.mono : ∀ a0 k, LeO (impl_BitsOk.f k a0) (impl_BitsOk.f (k + 1) a0) := by
  intro a0 k
  have ih0 := impl_BitsOk.mono_l k
  unfold impl_BitsOk.f
  repeat' first
      | (with_reducible exact ih0 _ _ _)
      | (with_reducible exact LeO.refl _)
      | (with_reducible exact LeO.none _)
      | (with_reducible refine LeO.ite ?_ ?_)
      | (with_reducible refine LeO.bind ?_ (fun _ => ?_))
      | exact ih0 _ _ _
      | exact LeO.none _
      | refine LeO.ite ?_ ?_
      | refine LeO.bind ?_ (fun _ => ?_)
set_option maxHeartbeats 8000000 in
set_option maxRecDepth 100000 in
theorem impl_BitsOk.calls (k : Nat) (a0 : ByteArray) (r : Bool) (w : World) (h : impl_BitsOk.f k a0 = some r) :
    Calls Try.prog 98 #[.string a0] w fun e w' => e = .returned (.bool r) ∧ Drawn0 w w' := by
 have H : (impl_BitsOk.l0 k a0 (a0.size : Int) 0) = some r := h; clear h; have H' := Aside0.mk H; clear H; go_enter Try.func98, Try.ntmps98; go_wp2
 go_loopg [6] k (fun kq v6 w' => ∃ (x6_1 : Int), v6 = .int .i64 x6_1 ∧ Aside0 (impl_BitsOk.l0 kq a0 (a0.size : Int) x6_1 = some r) ∧ Aside0 (kq ≤ k) ∧ Drawn0 w w')
 case atStart => exact ⟨(0), zf, H', ⟨Nat.le_refl _⟩, by repeat (first | exact Drawn0.refl _ | apply Drawn0.step)⟩
 case round =>
  clear H'; obtain ⟨x6_1, rfl, HA, HK1, ⟨m1, rfl⟩⟩ := hrel
  cases gk with
  | zero => exact absurd HA.out (by simp [impl_BitsOk.l0])
  | succ k1 =>
   have H := HA.out; clear HA; simp only [impl_BitsOk.l0] at H
   by_cases c2 : x6_1 < (a0.size : Int)
   ·rw [if_pos c2] at H; have c2b0 : decide (x6_1 < (a0.size : Int)) = true := decide_eq_true c2; clear c2; replace H := zn H; obtain ⟨c3, H⟩ := H; have c3b0 : decide (0 ≤ x6_1) = true := decide_eq_true c3; clear c3; replace H := zn H; obtain ⟨c4, H⟩ := H; have c4b0 : decide (x6_1 < (a0.size : Int)) = true := decide_eq_true c4; clear c4
    by_cases c6 : (bt a0 x6_1) = 48
    ·rw [if_pos c6] at H; have c6b0 : ((bt a0 x6_1) == 48) = true := beq_iff_eq.mpr c6; have c6b1 : ((bt a0 x6_1) != 48) = false := bne_eq_false_iff_eq.mpr c6; clear c6; have H' := Aside0.mk H; clear H; have p5 : 0 ≤ (x6_1 : Int) := zd; have q5 : x6_1 < (a0.size : Int) := zd; have hx5 := bt_at a0 x6_1; replace p5 := eq_true p5; replace q5 := eq_true q5; go_wp2; go_roundg k1
     case measure => have := HK1.out; omega
     case rel => exact ⟨(wrap64 (x6_1 + 1)), zf, H', ⟨by have := HK1.out; omega⟩, by repeat (first | exact Drawn0.refl _ | apply Drawn0.step)⟩
    ·rw [if_neg c6] at H; have c6b0 : ((bt a0 x6_1) == 48) = false := beq_eq_false_iff_ne.mpr c6; have c6b1 : ((bt a0 x6_1) != 48) = true := bne_iff_ne.mpr c6
     by_cases c8 : (bt a0 x6_1) = 49
     ·rw [if_pos c8] at H; have c8b0 : ((bt a0 x6_1) == 49) = true := beq_iff_eq.mpr c8; have c8b1 : ((bt a0 x6_1) != 49) = false := bne_eq_false_iff_eq.mpr c8; clear c8; have H' := Aside0.mk H; clear H; have p5 : 0 ≤ (x6_1 : Int) := zd; have q5 : x6_1 < (a0.size : Int) := zd; have hx5 := bt_at a0 x6_1; replace p5 := eq_true p5; replace q5 := eq_true q5; have p7 : 0 ≤ (x6_1 : Int) := zd; have q7 : x6_1 < (a0.size : Int) := zd; have hx7 := bt_at a0 x6_1; replace p7 := eq_true p7; replace q7 := eq_true q7; go_wp2; go_roundg k1
      case measure => have := HK1.out; omega
      case rel => exact ⟨(wrap64 (x6_1 + 1)), zf, H', ⟨by have := HK1.out; omega⟩, by repeat (first | exact Drawn0.refl _ | apply Drawn0.step)⟩
     ·rw [if_neg c8] at H; have c8b0 : ((bt a0 x6_1) == 49) = false := beq_eq_false_iff_ne.mpr c8; have c8b1 : ((bt a0 x6_1) != 49) = true := bne_iff_ne.mpr c8; obtain rfl := Option.some.inj H; have p5 : 0 ≤ (x6_1 : Int) := zd; have q5 : x6_1 < (a0.size : Int) := zd; have hx5 := bt_at a0 x6_1; replace p5 := eq_true p5; replace q5 := eq_true q5; have p7 : 0 ≤ (x6_1 : Int) := zd; have q7 : x6_1 < (a0.size : Int) := zd; have hx7 := bt_at a0 x6_1; replace p7 := eq_true p7; replace q7 := eq_true q7; go_wp2; go_ret; exact ⟨zf, by repeat (first | exact Drawn0.refl _ | apply Drawn0.step)⟩
   ·rw [if_neg c2] at H; have c2b0 : decide (x6_1 < (a0.size : Int)) = false := decide_eq_false c2; clear c2; obtain rfl := Option.some.inj H; go_wp2; go_ret; exact ⟨zf, by repeat (first | exact Drawn0.refl _ | apply Drawn0.step)⟩
end Go.Proofs.Ytifgcajpkgamgaa.Q
end
section
namespace Go.Proofs.Ytifgcajpkgamgaa.Q
open Go.RowKit Go.Proofs.YtifgcajpkgamgaaW.PrintWords Go.Proofs.YtifgcajpkgamgaaW.PrintLast Go.Proofs.YtifgcajpkgamgaaW.PrintMore
attribute [local go_sem] max2_int min2_int max_two min_two max_three min_three max_four min_four   
set_option linter.unusedVariables false
set_option linter.unusedSimpArgs false
theorem strings_Count.calls (a0 : ByteArray) (a1 : ByteArray) (r : Int) (w : World) (h : strings_Count.f a0 a1 = some r) :
    Calls Try.prog 100 #[.string a0, .string a1] w fun e w' => e = .returned (.int .i64 r) ∧ Drawn0 w w' := by
 unfold strings_Count.f at h
 by_cases hs : a1.size = 1
 ·rw [if_pos hs] at h; obtain rfl := Option.some.inj h
  obtain ⟨c, rfl⟩ : ∃ c, a1 = ⟨#[c]⟩ := by
    obtain ⟨⟨l⟩⟩ := a1
    match l, hs with
    | [c], _ => exact ⟨c, rfl⟩
  exact (Try.strings_Count_one a0 c w).mono fun e w' ⟨he, hw⟩ => ⟨he, ⟨⟨0, hw⟩⟩⟩
 ·rw [if_neg hs] at h
  cases h
end Go.Proofs.Ytifgcajpkgamgaa.Q
end
section
namespace Go.Proofs.Ytifgcajpkgamgaa.Q
open Go.RowKit Go.Proofs.YtifgcajpkgamgaaW.PrintWords Go.Proofs.YtifgcajpkgamgaaW.PrintLast Go.Proofs.YtifgcajpkgamgaaW.PrintMore
attribute [local go_sem] max2_int min2_int max_two min_two max_three min_three max_four min_four   
set_option linter.unusedVariables false
set_option linter.unusedSimpArgs false
theorem impl_one.mono_l : ∀ k, (∀ y0 y1 y2 y3, LeO (impl_one.l0 k y0 y1 y2 y3) (impl_one.l0 (k + 1) y0 y1 y2 y3))
  | 0 => fun _ _ _ _ r h => by simp [impl_one.l0] at h
  | k + 1 => by
    have ih0 := impl_one.mono_l k
    · intro y0 y1 y2 y3
      unfold impl_one.l0
      repeat' first
      | (with_reducible exact ih0 _ _ _ _)
      | (with_reducible exact LeO.refl _)
      | (with_reducible exact LeO.none _)
      | (with_reducible refine LeO.ite ?_ ?_)
      | (with_reducible refine LeO.bind ?_ (fun _ => ?_))
      | exact ih0 _ _ _ _
      | exact LeO.none _
      | refine LeO.ite ?_ ?_
      | refine LeO.bind ?_ (fun _ => ?_)
theorem impl_one.mono : ∀ a0 a1 k, LeO (impl_one.f k a0 a1) (impl_one.f (k + 1) a0 a1) := by
  intro a0 a1 k
  have ih0 := impl_one.mono_l k
  unfold impl_one.f
  repeat' first
      | (with_reducible exact ih0 _ _ _ _)
      | (with_reducible exact LeO.refl _)
      | (with_reducible exact LeO.none _)
      | (with_reducible refine LeO.ite ?_ ?_)
      | (with_reducible refine LeO.bind ?_ (fun _ => ?_))
      | exact ih0 _ _ _ _
      | exact LeO.none _
      | refine LeO.ite ?_ ?_
      | refine LeO.bind ?_ (fun _ => ?_)
set_option maxHeartbeats 8000000 in
set_option maxRecDepth 100000 in
theorem impl_one.calls (k : Nat) (a0 : ByteArray) (a1 : Int) (r : Int) (w : World) (h : impl_one.f k a0 a1 = some r) :
    Calls Try.prog 125 #[.string a0, .int .i64 a1] w fun e w' => e = .returned (.int .i64 r) ∧ Drawn0 w w' := by
 have H : (impl_one.l0 k a0 a1 (a0.size : Int) 0) = some r := h; clear h; have H' := Aside0.mk H; clear H; go_enter Try.func125, Try.ntmps125; go_wp2
 go_loopg [1, 8] k (fun kq v1 v8 w' => ∃ (x1_1 : Int) (x8_1 : Int), v1 = .int .i64 x1_1 ∧ v8 = .int .i64 x8_1 ∧ Aside0 (impl_one.l0 kq a0 x1_1 (a0.size : Int) x8_1 = some r) ∧ Aside0 (kq ≤ k) ∧ Drawn0 w w')
 case atStart => exact ⟨(a1), (0), zf, zf, H', ⟨Nat.le_refl _⟩, by repeat (first | exact Drawn0.refl _ | apply Drawn0.step)⟩
 case round =>
  clear H'
  try clear c1
  try clear p2
  obtain ⟨x1_1, x8_1, rfl, rfl, HA, HK1, ⟨m1, rfl⟩⟩ := hrel
  cases gk with
  | zero => exact absurd HA.out (by simp [impl_one.l0])
  | succ k1 =>
   have H := HA.out; clear HA; simp only [impl_one.l0] at H
   by_cases c3 : x8_1 < (a0.size : Int)
   ·rw [if_pos c3] at H; have c3b0 : decide (x8_1 < (a0.size : Int)) = true := decide_eq_true c3; clear c3; replace H := zn H; obtain ⟨c4, H⟩ := H; have c4b0 : decide (0 ≤ x8_1) = true := decide_eq_true c4; clear c4; replace H := zn H; obtain ⟨c5, H⟩ := H; have c5b0 : decide (x8_1 < (a0.size : Int)) = true := decide_eq_true c5; clear c5
    by_cases c7 : (bt a0 x8_1) = 49
    ·rw [if_pos c7] at H; have c7b0 : ((bt a0 x8_1) == 49) = true := beq_iff_eq.mpr c7; have c7b1 : ((bt a0 x8_1) != 49) = false := bne_eq_false_iff_eq.mpr c7; clear c7
     by_cases c8 : x1_1 = 0
     ·rw [if_pos c8] at H; have c8b0 : (x1_1 == 0) = true := beq_iff_eq.mpr c8; have c8b1 : (x1_1 != 0) = false := bne_eq_false_iff_eq.mpr c8; clear c8; obtain rfl := Option.some.inj H; have p6 : 0 ≤ (x8_1 : Int) := zd; have q6 : x8_1 < (a0.size : Int) := zd; have hx6 := bt_at a0 x8_1; replace p6 := eq_true p6; replace q6 := eq_true q6; go_wp2; go_ret; exact ⟨zf, by repeat (first | exact Drawn0.refl _ | apply Drawn0.step)⟩
     ·rw [if_neg c8] at H; have c8b0 : (x1_1 == 0) = false := beq_eq_false_iff_ne.mpr c8; have c8b1 : (x1_1 != 0) = true := bne_iff_ne.mpr c8; have H' := Aside0.mk H; clear H; have p6 : 0 ≤ (x8_1 : Int) := zd; have q6 : x8_1 < (a0.size : Int) := zd; have hx6 := bt_at a0 x8_1; replace p6 := eq_true p6; replace q6 := eq_true q6; go_wp2; go_roundg k1
      case measure => have := HK1.out; omega
      case rel => exact ⟨(wrap64 (x1_1 - 1)), (wrap64 (x8_1 + 1)), zf, zf, H', ⟨by have := HK1.out; omega⟩, by repeat (first | exact Drawn0.refl _ | apply Drawn0.step)⟩
    ·rw [if_neg c7] at H; have c7b0 : ((bt a0 x8_1) == 49) = false := beq_eq_false_iff_ne.mpr c7; have c7b1 : ((bt a0 x8_1) != 49) = true := bne_iff_ne.mpr c7; have H' := Aside0.mk H; clear H; have p6 : 0 ≤ (x8_1 : Int) := zd; have q6 : x8_1 < (a0.size : Int) := zd; have hx6 := bt_at a0 x8_1; replace p6 := eq_true p6; replace q6 := eq_true q6; go_wp2; go_roundg k1
     case measure => have := HK1.out; omega
     case rel => exact ⟨(x1_1), (wrap64 (x8_1 + 1)), zf, zf, H', ⟨by have := HK1.out; omega⟩, by repeat (first | exact Drawn0.refl _ | apply Drawn0.step)⟩
   ·rw [if_neg c3] at H; have c3b0 : decide (x8_1 < (a0.size : Int)) = false := decide_eq_false c3; clear c3; obtain rfl := Option.some.inj H; go_wp2; go_ret; exact ⟨zf, by repeat (first | exact Drawn0.refl _ | apply Drawn0.step)⟩
end Go.Proofs.Ytifgcajpkgamgaa.Q
end
section
namespace Go.Proofs.Ytifgcajpkgamgaa.Q
open Go.RowKit Go.Proofs.YtifgcajpkgamgaaW.PrintWords Go.Proofs.YtifgcajpkgamgaaW.PrintLast Go.Proofs.YtifgcajpkgamgaaW.PrintMore
attribute [local go_sem] max2_int min2_int max_two min_two max_three min_three max_four min_four   
set_option linter.unusedVariables false
set_option linter.unusedSimpArgs false
theorem impl_Sieve_branches.mono_l : ∀ k, (∀ y0 y1 y2 y3 y4 y5 y6, LeO (impl_Sieve_branches.l0 k y0 y1 y2 y3 y4 y5 y6) (impl_Sieve_branches.l0 (k + 1) y0 y1 y2 y3 y4 y5 y6))
  | 0 => fun _ _ _ _ _ _ _ r h => by simp [impl_Sieve_branches.l0] at h
  | k + 1 => by
    have ih0 := impl_Sieve_branches.mono_l k
    · intro y0 y1 y2 y3 y4 y5 y6
      unfold impl_Sieve_branches.l0
      repeat' first
      | (with_reducible exact ih0 _ _ _ _ _ _ _)
      | (with_reducible exact impl_one.mono _ _ _)
      | (with_reducible exact LeO.refl _)
      | (with_reducible exact LeO.none _)
      | (with_reducible refine LeO.ite ?_ ?_)
      | (with_reducible refine LeO.bind ?_ (fun _ => ?_))
      | exact ih0 _ _ _ _ _ _ _
      | exact impl_one.mono _ _ _
      | exact LeO.none _
      | refine LeO.ite ?_ ?_
      | refine LeO.bind ?_ (fun _ => ?_)
theorem impl_Sieve_branches.mono : ∀ a0 a1 a2 a3 a4 a5 k, LeO (impl_Sieve_branches.f k a0 a1 a2 a3 a4 a5) (impl_Sieve_branches.f (k + 1) a0 a1 a2 a3 a4 a5) := by
  intro a0 a1 a2 a3 a4 a5 k
  have ih0 := impl_Sieve_branches.mono_l k
  unfold impl_Sieve_branches.f
  repeat' first
      | (with_reducible exact ih0 _ _ _ _ _ _ _)
      | (with_reducible exact impl_one.mono _ _ _)
      | (with_reducible exact LeO.refl _)
      | (with_reducible exact LeO.none _)
      | (with_reducible refine LeO.ite ?_ ?_)
      | (with_reducible refine LeO.bind ?_ (fun _ => ?_))
      | exact ih0 _ _ _ _ _ _ _
      | exact impl_one.mono _ _ _
      | exact LeO.none _
      | refine LeO.ite ?_ ?_
      | refine LeO.bind ?_ (fun _ => ?_)
set_option maxHeartbeats 8000000 in
set_option maxRecDepth 100000 in
theorem impl_Sieve_branches.calls (k : Nat) (a0_0 : ByteArray) (a0_1 : ByteArray) (a0_2 : ByteArray) (A0_3 : Option Addr) (c0_3 : Nat) (l0_3 : List ByteArray) (a0_4 : Int) (a1 : Int) (r1 : Int) (r2 : Int) (w : World) (hr0_3 : Kd.C Kd.string w A0_3 l0_3.length l0_3) (hc0_3 : l0_3.length ≤ c0_3) (h : impl_Sieve_branches.f k a0_0 a0_1 a0_2 l0_3 a0_4 a1 = some (r1, r2)) :
    Calls Try.prog 102 #[.agg #[.string a0_0, .string a0_1, .string a0_2, .slice A0_3 l0_3.length c0_3, .int .i64 a0_4], .int .i64 a1] w fun e w' => e = .returned (.tuple #[.int .i64 r1, .int .i64 r2]) ∧ Below w.heap.size w w' := by
 have hu25 := Try.underlying25; have HR0_3 := Aside0.mk hr0_3; have HC0_3 := Aside0.mk hc0_3; clear hr0_3 hc0_3; have HB := z0 (Below.refl w.heap.size w); have H : ((impl_one.f k a0_2 a1).bind fun t338 => (if t338 < 0 then (some (0, 0)) else (impl_Sieve_branches.l0 k t338 (wrap64 (t338 + 1)) a0_0 a0_1 a0_2 l0_3 a0_4))) = some (r1, r2) := h; clear h; replace H := zi H; obtain ⟨t338, A3, H⟩ := H; go_enter Try.func102, Try.ntmps102
 go_upto_if 13 with (first | ((with_reducible refine gd 2 ?_); refine box_event zh (N := 2) zh (cs := #[.string a0_0, .string a0_1, .string a0_2, .slice A0_3 l0_3.length c0_3, .int .i64 a0_4]) (t := 25) zg ?_; intro gb337 hg w4 hbox hb; have BK337 := z0 (hbox); have GE337 := zG hg HB; replace HB := zH HB hb; clear hb hbox hg; have hcz5 := zc5 BK337.out) | ((with_reducible refine gc 125 ?_); refine zL (some 11) Try.func125 #[.string a0_2, .int .i64 a1] ?_; (with_reducible refine (impl_one.calls k a0_2 a1 t338 _ A3.out).mono ?_); rintro e w' ⟨rfl, ⟨nd, rfl⟩⟩; refine ⟨_, rfl, ?_⟩))
 by_cases c6 : t338 < 0
 ·rw [if_pos c6] at H; have c6b0 : decide (t338 < 0) = true := decide_eq_true c6; clear c6; (first | rw [c6b0] | (simp only [i64_w, i32_w]; rw [c6b0]) | simp only [*, Bool.not_true, Bool.not_false] | skip); simp only [Option.some.injEq, Prod.mk.injEq] at H; obtain ⟨rfl, rfl⟩ := H; go_wp2
  go_ret2
  exact ⟨ze, zb HB.out⟩
 ·rw [if_neg c6] at H; have c6b0 : decide (t338 < 0) = false := decide_eq_false c6; clear c6; (first | rw [c6b0] | (simp only [i64_w, i32_w]; rw [c6b0]) | simp only [*, Bool.not_true, Bool.not_false] | skip); have H' := Aside0.mk H; clear H; go_wp2
  go_loopg [7] k (fun kq v7 w' => ∃ (x7_1 : Int), v7 = .int .i64 x7_1 ∧ Aside0 (impl_Sieve_branches.l0 kq t338 x7_1 a0_0 a0_1 a0_2 l0_3 a0_4 = some (r1, r2)) ∧ Aside0 (kq ≤ k) ∧ Aside0 (w'.heap[gb337]? = some (.cells #[.string a0_0, .string a0_1, .string a0_2, (.slice A0_3 l0_3.length c0_3), .int .i64 a0_4] 25 (0, 0))) ∧ Aside0 (Below w.heap.size w w'))
  case atStart => exact ⟨(wrap64 (t338 + 1)), zf, H', ⟨Nat.le_refl _⟩, ⟨zl BK337.out⟩, ⟨zb HB.out⟩⟩
  case round =>
   clear H'
   try clear c1
   try clear p2
   try clear c6
   try clear c6b0
   try clear p6
   try clear hcz5
   obtain ⟨x7_1, rfl, HA, HK1, BK337, HB⟩ := hrel
   cases gk with
   | zero => exact absurd HA.out (by simp [impl_Sieve_branches.l0])
   | succ k1 =>
    have H := HA.out; clear HA; simp only [impl_Sieve_branches.l0] at H
    by_cases c7 : x7_1 < (a0_2.size : Int)
    ·rw [if_pos c7] at H; have c7b0 : decide (x7_1 < (a0_2.size : Int)) = true := decide_eq_true c7; clear c7; replace H := zn H; obtain ⟨c8, H⟩ := H; have c8b0 : decide (0 ≤ x7_1) = true := decide_eq_true c8; clear c8
     by_cases c10 : (bt a0_2 x7_1) = 48
     ·rw [if_pos c10] at H; have c10b0 : ((bt a0_2 x7_1) == 48) = true := beq_iff_eq.mpr c10; have c10b1 : ((bt a0_2 x7_1) != 48) = false := bne_eq_false_iff_eq.mpr c10; clear c10; have H' := Aside0.mk H; clear H; have hcz11 := zc5 BK337.out; have p9 : 0 ≤ (x7_1 : Int) := zd; have q9 : x7_1 < (a0_2.size : Int) := zd; have hx9 := bt_at a0_2 x7_1; replace p9 := eq_true p9; replace q9 := eq_true q9; go_wp2; go_roundg k1
      case measure => have := HK1.out; omega
      case rel => exact ⟨(wrap64 (x7_1 + 1)), zf, H', ⟨by have := HK1.out; omega⟩, ⟨zl BK337.out⟩, ⟨zb HB.out⟩⟩
     ·rw [if_neg c10] at H; have c10b0 : ((bt a0_2 x7_1) == 48) = false := beq_eq_false_iff_ne.mpr c10; have c10b1 : ((bt a0_2 x7_1) != 48) = true := bne_iff_ne.mpr c10; simp only [Option.some.injEq, Prod.mk.injEq] at H; obtain ⟨rfl, rfl⟩ := H; have hcz12 := zc5 BK337.out; have p9 : 0 ≤ (x7_1 : Int) := zd; have q9 : x7_1 < (a0_2.size : Int) := zd; have hx9 := bt_at a0_2 x7_1; replace p9 := eq_true p9; replace q9 := eq_true q9; go_wp2
      go_ret2
      exact ⟨ze, zb HB.out⟩
    ·rw [if_neg c7] at H; have c7b0 : decide (x7_1 < (a0_2.size : Int)) = false := decide_eq_false c7; clear c7; simp only [Option.some.injEq, Prod.mk.injEq] at H; obtain ⟨rfl, rfl⟩ := H; have hcz13 := zc5 BK337.out; go_wp2
     go_ret2
     exact ⟨ze, zb HB.out⟩
end Go.Proofs.Ytifgcajpkgamgaa.Q
end
section
namespace Go.Proofs.Ytifgcajpkgamgaa.Q
open Go.RowKit Go.Proofs.YtifgcajpkgamgaaW.PrintWords Go.Proofs.YtifgcajpkgamgaaW.PrintLast Go.Proofs.YtifgcajpkgamgaaW.PrintMore
attribute [local go_sem] max2_int min2_int max_two min_two max_three min_three max_four min_four   
set_option linter.unusedVariables false
set_option linter.unusedSimpArgs false
set_option maxHeartbeats 8000000 in
set_option maxRecDepth 100000 in
theorem impl_Sieve_node.calls (a0_0 : ByteArray) (a0_1 : ByteArray) (a0_2 : ByteArray) (A0_3 : Option Addr) (c0_3 : Nat) (l0_3 : List ByteArray) (a0_4 : Int) (a1 : Int) (r : Int) (w : World) (hr0_3 : Kd.C Kd.string w A0_3 l0_3.length l0_3) (hc0_3 : l0_3.length ≤ c0_3) (h : impl_Sieve_node.f a0_0 a0_1 a0_2 l0_3 a0_4 a1 = some r) :
    Calls Try.prog 104 #[.agg #[.string a0_0, .string a0_1, .string a0_2, .slice A0_3 l0_3.length c0_3, .int .i64 a0_4], .int .i64 a1] w fun e w' => e = .returned (.int .i64 r) ∧ Below w.heap.size w w' := by
 have hu25 := Try.underlying25; have HR0_3 := Aside0.mk hr0_3; have HC0_3 := Aside0.mk hc0_3; clear hr0_3 hc0_3; have HB := z0 (Below.refl w.heap.size w); have H : (if 0 ≤ (wrap64 (a1 + 1)) then (if (wrap64 (a1 + 1)) ≤ (a0_1.size : Int) then ((strings_Count.f (a0_1.extract 0 ((wrap64 (a1 + 1)) : Int).toNat) (⟨#[49]⟩ : ByteArray)).bind fun t340 => (some t340)) else (none)) else (none)) = some r := h; clear h; obtain ⟨ji3, hji3⟩ : ∃ j_ : Int, (wrap64 (a1 + 1)) = j_ := ⟨_, rfl⟩
 replace H : (if 0 ≤ (ji3) then (if (ji3) ≤ (a0_1.size : Int) then ((strings_Count.f (a0_1.extract 0 ((ji3) : Int).toNat) (⟨#[49]⟩ : ByteArray)).bind fun t340 => (some t340)) else (none)) else (none)) = some r := by first | (rw [hji3] at H; exact H) | (simp only [hji3] at H ⊢; exact H)
 have hji3w : (IntKind.i64.wrap (a1 + 1)) = ji3 := (i64_w _).trans hji3; replace H := zn H; obtain ⟨c4, H⟩ := H; have c4b0 := eq_true c4; have c4b1 : decide (0 ≤ (ji3)) = true := decide_eq_true c4; clear c4; replace H := zn H; obtain ⟨c5, H⟩ := H; have c5b0 := eq_true c5; have c5b1 : decide ((ji3) ≤ (a0_1.size : Int)) = true := decide_eq_true c5; clear c5; replace H := zi H; obtain ⟨t340, A6, H⟩ := H; obtain rfl := Option.some.inj H; go_enter Try.func104, Try.ntmps104
 go_wp2_with (first | ((with_reducible refine gd 2 ?_); refine box_event zh (N := 2) zh (cs := #[.string a0_0, .string a0_1, .string a0_2, .slice A0_3 l0_3.length c0_3, .int .i64 a0_4]) (t := 25) zg ?_; intro gb339 hg w7 hbox hb; have BK339 := z0 (hbox); have GE339 := zG hg HB; replace HB := zH HB hb; clear hb hbox hg; have hcz8 := zc5 BK339.out) | ((with_reducible refine gc 100 ?_); refine goesL_ (some 10) rfl rfl Try.func100 (by kernel_rfl) rfl #[.string (a0_1.extract 0 ((ji3) : Int).toNat), .string (⟨#[49]⟩ : ByteArray)] rfl (by (try simp only [List.map_toArray, List.map_cons, List.map_nil]); first | done | (simp only [hji3]; rfl) | rfl | (simp only [List.length_drop, List.length_take]; rfl)) ?_; (with_reducible refine (strings_Count.calls (a0_1.extract 0 ((ji3) : Int).toNat) (⟨#[49]⟩ : ByteArray) t340 _ A6.out).mono ?_); rintro e w' ⟨rfl, ⟨nd, rfl⟩⟩; refine ⟨_, rfl, ?_⟩))
 go_ret; exact ⟨by first | rfl | (simp [errW_none, errW_some] <;> rfl) | (simp only [← hji3]; first | rfl | (simp [errW_none, errW_some] <;> rfl)) | (simp [*, errW_none, errW_some] <;> rfl), zb HB.out⟩
end Go.Proofs.Ytifgcajpkgamgaa.Q
end
section
namespace Go.Proofs.Ytifgcajpkgamgaa.Q
open Go.RowKit Go.Proofs.YtifgcajpkgamgaaW.PrintWords Go.Proofs.YtifgcajpkgamgaaW.PrintLast Go.Proofs.YtifgcajpkgamgaaW.PrintMore
attribute [local go_sem] max2_int min2_int max_two min_two max_three min_three max_four min_four   
set_option linter.unusedVariables false
set_option linter.unusedSimpArgs false
set_option maxHeartbeats 8000000 in
set_option maxRecDepth 100000 in
theorem impl_Sieve_rest.calls (a0_0 : ByteArray) (a0_1 : ByteArray) (a0_2 : ByteArray) (A0_3 : Option Addr) (c0_3 : Nat) (l0_3 : List ByteArray) (a0_4 : Int) (a1 : Int) (r : ByteArray) (w : World) (hr0_3 : Kd.C Kd.string w A0_3 l0_3.length l0_3) (hc0_3 : l0_3.length ≤ c0_3) (h : impl_Sieve_rest.f a0_0 a0_1 a0_2 l0_3 a0_4 a1 = some r) :
    Calls Try.prog 106 #[.agg #[.string a0_0, .string a0_1, .string a0_2, .slice A0_3 l0_3.length c0_3, .int .i64 a0_4], .int .i64 a1] w fun e w' => e = .returned (.string r) ∧ Below w.heap.size w w' := by
 have hu25 := Try.underlying25; have HR0_3 := Aside0.mk hr0_3; have HC0_3 := Aside0.mk hc0_3; clear hr0_3 hc0_3; have HB := z0 (Below.refl w.heap.size w); have H : (if 0 ≤ a1 then (if a1 ≤ (a0_1.size : Int) then ((strings_Count.f (a0_1.extract 0 (a1 : Int).toNat) (⟨#[48]⟩ : ByteArray)).bind fun t342 => (if 0 ≤ t342 then (if t342 < (l0_3.length : Int) then (some (rdOf ByteArray.empty l0_3 t342)) else (none)) else (none))) else (none)) else (none)) = some r := h; clear h; replace H := zn H; obtain ⟨c3, H⟩ := H; have c3b0 := eq_true c3; have c3b1 : decide (0 ≤ a1) = true := decide_eq_true c3; clear c3; replace H := zn H; obtain ⟨c4, H⟩ := H; have c4b0 := eq_true c4; have c4b1 : decide (a1 ≤ (a0_1.size : Int)) = true := decide_eq_true c4; clear c4; replace H := zi H; obtain ⟨t342, A5, H⟩ := H; replace H := zn H; obtain ⟨c6, H⟩ := H; have c6b0 : decide (0 ≤ t342) = true := decide_eq_true c6; clear c6; replace H := zn H; obtain ⟨c7, H⟩ := H; have c7b0 : decide (t342 < (l0_3.length : Int)) = true := decide_eq_true c7; clear c7; obtain rfl := Option.some.inj H; go_enter Try.func106, Try.ntmps106
 go_wp2_with (first | ((with_reducible refine gd 2 ?_); refine box_event zh (N := 2) zh (cs := #[.string a0_0, .string a0_1, .string a0_2, .slice A0_3 l0_3.length c0_3, .int .i64 a0_4]) (t := 25) zg ?_; intro gb341 hg w8 hbox hb; have BK341 := z0 (hbox); have GE341 := zG hg HB; replace HB := zH HB hb; clear hb hbox hg; have hcz9 := zc5 BK341.out) | (go_at_call 100; (with_reducible refine (strings_Count.calls (a0_1.extract 0 (a1 : Int).toNat) (⟨#[48]⟩ : ByteArray) t342 _ A5.out).mono ?_); rintro e w' ⟨rfl, ⟨nd, rfl⟩⟩; (try exact zdd); have p343 : 0 ≤ (t342 : Int) := zd; have q343 : t342 < (l0_3.length : Int) := zd; obtain ⟨ad343, e343, hx343_0⟩ := Kd.at_string HR0_3.out t342 p343 q343; cases e343; replace hx343_0 := (HB.out.cell (World.block_lt_of_cell? w _ hx343_0)).trans hx343_0; replace p343 := eq_true p343; replace q343 := eq_true q343))
 repeat (go_quiet (first | ((with_reducible refine gd 2 ?_); refine box_event zh (N := 2) zh (cs := #[.string a0_0, .string a0_1, .string a0_2, .slice A0_3 l0_3.length c0_3, .int .i64 a0_4]) (t := 25) zg ?_; intro gb341 hg w8 hbox hb; have BK341 := z0 (hbox); have GE341 := zG hg HB; replace HB := zH HB hb; clear hb hbox hg; have hcz9 := zc5 BK341.out) | (go_at_call 100; (with_reducible refine (strings_Count.calls (a0_1.extract 0 (a1 : Int).toNat) (⟨#[48]⟩ : ByteArray) t342 _ A5.out).mono ?_); rintro e w' ⟨rfl, ⟨nd, rfl⟩⟩; (try exact zdd); have p343 : 0 ≤ (t342 : Int) := zd; have q343 : t342 < (l0_3.length : Int) := zd; obtain ⟨ad343, e343, hx343_0⟩ := Kd.at_string HR0_3.out t342 p343 q343; cases e343; replace hx343_0 := (HB.out.cell (World.block_lt_of_cell? w _ hx343_0)).trans hx343_0; replace p343 := eq_true p343; replace q343 := eq_true q343)); try go_wp2_with (first | ((with_reducible refine gd 2 ?_); refine box_event zh (N := 2) zh (cs := #[.string a0_0, .string a0_1, .string a0_2, .slice A0_3 l0_3.length c0_3, .int .i64 a0_4]) (t := 25) zg ?_; intro gb341 hg w8 hbox hb; have BK341 := z0 (hbox); have GE341 := zG hg HB; replace HB := zH HB hb; clear hb hbox hg; have hcz9 := zc5 BK341.out) | (go_at_call 100; (with_reducible refine (strings_Count.calls (a0_1.extract 0 (a1 : Int).toNat) (⟨#[48]⟩ : ByteArray) t342 _ A5.out).mono ?_); rintro e w' ⟨rfl, ⟨nd, rfl⟩⟩; (try exact zdd); have p343 : 0 ≤ (t342 : Int) := zd; have q343 : t342 < (l0_3.length : Int) := zd; obtain ⟨ad343, e343, hx343_0⟩ := Kd.at_string HR0_3.out t342 p343 q343; cases e343; replace hx343_0 := (HB.out.cell (World.block_lt_of_cell? w _ hx343_0)).trans hx343_0; replace p343 := eq_true p343; replace q343 := eq_true q343)))
 go_ret; exact ⟨ze, zb HB.out⟩
end Go.Proofs.Ytifgcajpkgamgaa.Q
end
section
namespace Go.Proofs.Ytifgcajpkgamgaa.Q
open Go.RowKit Go.Proofs.YtifgcajpkgamgaaW.PrintWords Go.Proofs.YtifgcajpkgamgaaW.PrintLast Go.Proofs.YtifgcajpkgamgaaW.PrintMore
attribute [local go_sem] max2_int min2_int max_two min_two max_three min_three max_four min_four   
set_option linter.unusedVariables false
set_option linter.unusedSimpArgs false
def impl_Sieve_complete.T1 : Bool × List (List Nat × List Nat) := (true, [([], []), ([0], [0]), ([], []), ([1, 2], [1, 2]), ([3], [3]), ([4], [4]), ([5], [5]), ([5], [5]), ([6, 7, 5, 5], [5, 6, 7]), ([8, 5], [5, 8]), ([5], [5]), ([10, 5], [5, 10]), ([9, 11, 5], [5, 9, 11]), ([5, 12], [5, 12]), ([13, 8, 0, 1, 2, 3, 4, 5, 6, 7, 8, 9, 10, 11, 12, 13], [13])])
def impl_Sieve_complete.B1 : List Nat := [0, 1, 0, 7, 15, 31, 63, 63, 255, 511, 63, 1087, 4095, 8191, 16383]
theorem impl_Sieve_complete.tab1 : rtab .any (opsOf Try.f105 1) = impl_Sieve_complete.T1 := by kernel_rfl
theorem impl_Sieve_complete.bits1 : waitsOk impl_Sieve_complete.T1.2 impl_Sieve_complete.B1 = true := by kernel_rfl
set_option maxHeartbeats 8000000 in
set_option maxRecDepth 100000 in
theorem impl_Sieve_complete.calls (a0_0 : ByteArray) (a0_1 : ByteArray) (a0_2 : ByteArray) (A0_3 : Option Addr) (c0_3 : Nat) (l0_3 : List ByteArray) (a0_4 : Int) (a1 : Int) (r : Bool) (w : World) (hr0_3 : Kd.C Kd.string w A0_3 l0_3.length l0_3) (hc0_3 : l0_3.length ≤ c0_3) (h : impl_Sieve_complete.f a0_0 a0_1 a0_2 l0_3 a0_4 a1 = some r) :
    Calls Try.prog 105 #[.agg #[.string a0_0, .string a0_1, .string a0_2, .slice A0_3 l0_3.length c0_3, .int .i64 a0_4], .int .i64 a1] w fun e w' => e = .returned (.bool r) ∧ Below w.heap.size w w' := by
 have hu25 := Try.underlying25; have HR0_3 := Aside0.mk hr0_3; have HC0_3 := Aside0.mk hc0_3; clear hr0_3 hc0_3; have HB := z0 (Below.refl w.heap.size w); have H : (if 0 ≤ a1 then (if a1 < (a0_0.size : Int) then (if (bt a0_0 a1) = 45 then (some true) else ((impl_Sieve_rest.f a0_0 a0_1 a0_2 l0_3 a0_4 a1).bind fun t345 => (some (decide ((t345.size : Int) < a0_4))))) else (none)) else (none)) = some r := h; clear h; replace H := zn H; obtain ⟨c3, H⟩ := H; have c3b0 : decide (0 ≤ a1) = true := decide_eq_true c3; clear c3; replace H := zn H; obtain ⟨c4, H⟩ := H; have c4b0 : decide (a1 < (a0_0.size : Int)) = true := decide_eq_true c4; clear c4
 by_cases c6 : (bt a0_0 a1) = 45
 ·rw [if_pos c6] at H; have c6b0 : ((bt a0_0 a1) == 45) = true := beq_iff_eq.mpr c6; have c6b1 : ((bt a0_0 a1) != 45) = false := bne_eq_false_iff_eq.mpr c6; clear c6; obtain rfl := Option.some.inj H; go_enter Try.func105, Try.ntmps105
  try go_wp2_with (first | ((with_reducible refine gd 2 ?_); (try (refine gate_guard (by rfl) ?_; dsimp only)); refine box_event zh (N := 2) zh (cs := #[.string a0_0, .string a0_1, .string a0_2, .slice A0_3 l0_3.length c0_3, .int .i64 a0_4]) (t := 25) zg ?_; intro gb344 hg w7 hbox hb; have BK344 := z0 (hbox); have GE344 := zG hg HB; replace HB := zH HB hb; clear hb hbox hg))
  replace BK344 := z0 (blk_drew BK344.out); replace HB := z0 (below_drew1 HB.out); have p5 : 0 ≤ (a1 : Int) := zd; have q5 : a1 < (a0_0.size : Int) := zd; have hx5 := bt_at a0_0 a1; replace p5 := eq_true p5; replace q5 := eq_true q5; refine start_ (n := 15) (S := fun w' => w'.cell? ⟨gb344, 0, none⟩ = some (.string a0_0) ∧ w'.cell? ⟨gb344, 1, none⟩ = some (.string a0_1) ∧ w'.cell? ⟨gb344, 2, none⟩ = some (.string a0_2) ∧ w'.cell? ⟨gb344, 3, none⟩ = some (.slice A0_3 l0_3.length c0_3) ∧ w'.cell? ⟨gb344, 4, none⟩ = some (.int .i64 a0_4)) (ds := []) (fb 15 0) (by kernel_rfl) rfl rfl (zb5 BK344.out) (fun hHeld => ?_); refine with_tabW impl_Sieve_complete.tab1 impl_Sieve_complete.bits1 (fun HT_ HW_ => ?_); generalize w7.drew = w8 at BK344 HB hHeld ⊢; refine zu 0 1 ?_; refine zu 2 5 ?_; refine zx 1 7 hHeld ?_; refine zx 3 15 hHeld ?_; refine zu 4 31 ?_; refine zu 5 63 ?_; refine zw 6 127 ?_; refine zw 7 255 ?_; refine zw 8 511 ?_; refine zw 9 1023 ?_; refine zw 10 2047 ?_; refine zw 11 4095 ?_; refine zw 12 8191 ?_; refine zu 13 16383 ?_; refine zu 14 32767 ?_; refine done_ (done_of HT_.out (by kernel_rfl)) ?_
  try go_wp2
  go_ret; exact ⟨ze, zb HB.out⟩
 ·rw [if_neg c6] at H; have c6b0 : ((bt a0_0 a1) == 45) = false := beq_eq_false_iff_ne.mpr c6; have c6b1 : ((bt a0_0 a1) != 45) = true := bne_iff_ne.mpr c6; replace H := zi H; obtain ⟨t345, A9, H⟩ := H; obtain rfl := Option.some.inj H; go_enter Try.func105, Try.ntmps105
  try go_wp2_with (first | ((with_reducible refine gd 2 ?_); (try (refine gate_guard (by rfl) ?_; dsimp only)); refine box_event zh (N := 2) zh (cs := #[.string a0_0, .string a0_1, .string a0_2, .slice A0_3 l0_3.length c0_3, .int .i64 a0_4]) (t := 25) zg ?_; intro gb344 hg w10 hbox hb; have BK344 := z0 (hbox); have GE344 := zG hg HB; replace HB := zH HB hb; clear hb hbox hg))
  replace BK344 := z0 (blk_drew BK344.out); replace HB := z0 (below_drew1 HB.out); have p5 : 0 ≤ (a1 : Int) := zd; have q5 : a1 < (a0_0.size : Int) := zd; have hx5 := bt_at a0_0 a1; replace p5 := eq_true p5; replace q5 := eq_true q5; refine start_ (n := 15) (S := fun w' => w'.cell? ⟨gb344, 0, none⟩ = some (.string a0_0) ∧ w'.cell? ⟨gb344, 1, none⟩ = some (.string a0_1) ∧ w'.cell? ⟨gb344, 2, none⟩ = some (.string a0_2) ∧ w'.cell? ⟨gb344, 3, none⟩ = some (.slice A0_3 l0_3.length c0_3) ∧ w'.cell? ⟨gb344, 4, none⟩ = some (.int .i64 a0_4)) (ds := []) (fb 15 0) (by kernel_rfl) rfl rfl (zb5 BK344.out) (fun hHeld => ?_); refine with_tabW impl_Sieve_complete.tab1 impl_Sieve_complete.bits1 (fun HT_ HW_ => ?_); generalize w10.drew = w11 at BK344 HB hHeld ⊢; refine zu 0 1 ?_; refine zu 2 5 ?_; refine zx 1 7 hHeld ?_; refine zx 3 15 hHeld ?_; refine zu 4 31 ?_; refine zu 5 63 ?_; refine zu 7 191 ?_; refine zu 10 1215 ?_; refine zx 6 1279 hHeld ?_; refine zx 11 3327 hHeld ?_; refine zone 8 3583 (fun K hK => ?_); refine zG2 Try.func106 #[.agg #[.string a0_0, .string a0_1, .string a0_2, .slice A0_3 l0_3.length c0_3, .int .i64 a0_4], .int .i64 a1] ?_
  with_reducible refine (impl_Sieve_rest.calls a0_0 a0_1 a0_2 _ _ l0_3 a0_4 a1 t345 _ ?side1 ?side2 A9.out).mono ?_
  (case side1 => repeat (first | exact (Kd.C_below HR0_3.out HB.out) | (with_reducible refine Kd.C_alloc ?_ _) | (with_reducible refine Kd.C_drewN ?_ _) | (with_reducible refine Kd.C_drew ?_))); (case side2 => exact HC0_3.out); rintro e w12 ⟨rfl, hb⟩; refine ⟨_, rfl, ?_⟩; replace BK344 := zK BK344 hb; replace HB := zH HB hb; (try clear hb); refine hK.out _ _ (zb5 BK344.out) (fun hHeld => ?_); clear hK K; refine znm ?_; refine zu 9 4095 ?_; refine zu 12 8191 ?_; refine zu 13 16383 ?_; refine zu 14 32767 ?_; refine done_ (done_of HT_.out (by kernel_rfl)) ?_
  try go_wp2
  go_ret; exact ⟨ze, zb HB.out⟩
end Go.Proofs.Ytifgcajpkgamgaa.Q
end
