/- What the law FnSieveHas needs: the kit's printed words, the printed functions with their proofs, and plain facts on them. -/
import Derived.Test.YtifgcajpkgamgaaBSBb
section
namespace Go.Proofs.Ytifgcajpkgamgaa.Q
open Go.RowKit Go.Proofs.YtifgcajpkgamgaaW.PrintWords Go.Proofs.YtifgcajpkgamgaaW.PrintLast Go.Proofs.YtifgcajpkgamgaaW.PrintMore
attribute [local go_sem] max2_int min2_int max_two min_two max_three min_three max_four min_four   
set_option linter.unusedVariables false
set_option linter.unusedSimpArgs false
set_option maxHeartbeats 8000000
set_option maxRecDepth 100000
theorem spec_DrawSieveHas.mono : ∀ a0 k, LeO (spec_DrawSieveHas.f k a0) (spec_DrawSieveHas.f (k + 1) a0) := by
  intro a0 k
  unfold spec_DrawSieveHas.f
  repeat' first | (with_reducible first | apply spec_l71Bent.mono | apply spec_l71Near.mono | exact LeO.refl _ | exact LeO.none _ | refine LeO.ite ?_ ?_ | refine LeO.bind ?_ (fun _ => ?_)) | exact LeO.none _ | refine LeO.ite ?_ ?_ | refine LeO.bind ?_ (fun _ => ?_)
theorem spec_DrawSieveHas.calls (k : Nat) (A0 : Option Addr) (c0 : Nat) (l0 : List Int) (r1 r2 r3 : ByteArray) (r4 : List ByteArray) (r5 : Int) (r6 : ByteArray) (w : World) (hr0 : Kd.C (Kd.int .u8) w A0 l0.length l0) (hc0 : l0.length ≤ c0) (h : spec_DrawSieveHas.f k l0 = some (r1, r2, r3, r4, r5, r6)) :
    Calls Try.prog 27 #[.slice A0 l0.length c0] w fun e w' => ∃ v3_ : Value, e = .returned (.tuple #[.agg #[.string r1, .string r2, .string r3, v3_, .int .i64 r5], .string r6]) ∧ Kd.R Kd.string 9 w' w.heap.size (fun _ => True) v3_ r4 ∧ Below w.heap.size w w' := by
 have hu25 := Try.underlying25; have HR0 := z0 hr0; have HC0 := z0 hc0; clear hr0 hc0; have HB := z0 (Below.refl w.heap.size w); have H : ((spec_l6Open.f l0).bind fun bt299 => ((spec_l71Bent.f k bt299.1 bt299.2).bind fun bt302 => ((spec_l71Near.f k bt299.1 bt302.2.2.2.2.2.2 bt302.2.2.2.2.2.1).bind fun bt314 => (some (bt302.1, bt302.2.1, bt302.2.2.1, bt302.2.2.2.1, bt302.2.2.2.2.1, bt314.1))))) = some (r1, r2, r3, r4, r5, r6) := h; clear h; replace H := zi H; obtain ⟨⟨t299, t300⟩, A2, H⟩ := H; (try dsimp only at H); replace H := zi H; obtain ⟨⟨t302, t303, t304, t305, t308, t309, t312⟩, A3, H⟩ := H; (try dsimp only at H); replace H := zi H; obtain ⟨⟨t314, t315⟩, A4, H⟩ := H; (try dsimp only at H); simp only [Option.some.injEq, Prod.mk.injEq] at H; obtain ⟨rfl, rfl, rfl, rfl, rfl, rfl⟩ := H; go_enter Try.func27, Try.ntmps27
 try go_wp2_with (first | ((with_reducible refine gd 2 ?_); refine zbx 25 #[.string ⟨#[]⟩, .string ⟨#[]⟩, .string ⟨#[]⟩, .slice none 0 0, .int .i64 0] ?_; intro gb298 hg w5 hbox hb; have BK298 := z0 (hbox); have GE298 := zG hg HB; replace HB := zH HB hb; clear hb hbox hg) | ((with_reducible refine gc 64 ?_); refine zL (some 8) Try.func64 #[.slice A0 l0.length c0] ?_; (with_reducible refine (spec_l6Open.calls _ _ l0 t299 t300 w _ (zb HB.out) HR0.out HC0.out A2.out).mono ?_); rintro e w6 ⟨g301, rfl, hi, hb, hb2⟩; refine zv ?_; replace HB := z0 (hb); have HI301 := z0 (hi); have NB301_298 := z0 (IsS98.ne_blk hi (blk_below (zl BK298.out) hb2) (by decide)); have NB298_301 := z0 (Ne.symm (IsS98.ne_blk hi (blk_below (zl BK298.out) hb2) (by decide))); replace BK298 := zK BK298 hb2; (try clear hb hb2 hi)) | ((with_reducible refine gc 65 ?_); refine zL (some 11) Try.func65 #[.pointer (some ⟨g301, 0, none⟩)] ?_; (with_reducible refine (spec_l71Bent.calls k g301 t299 t300 t302 t303 t304 t305 t308 t309 t312 w _ (HI301.out.zI) (HI301.out.zb HB.out) A3.out).mono ?_); rintro e w7 ⟨v306, v310, rfl, ho0, ho1, hi, hb, hk⟩; refine zv ?_; replace BK298 := z0 (KeepBut.blk hk (g' := gb298) (o := .cells #[.string ⟨#[]⟩, .string ⟨#[]⟩, .string ⟨#[]⟩, .slice none 0 0, .int .i64 0] 25 (0, 0)) (zl BK298.out) NB298_301.out (by simp)); have HO307 := z0 (Kd.R_lower ho0 (below_size (HI301.out.zb HB.out))); have HO311 := z0 (Kd.R_lower ho1 (below_size (HI301.out.zb HB.out))); replace HB := z0 (hb); replace HI301 := z0 (hi); (try clear hb hk hi ho0 ho1)) | ((with_reducible refine gd 5 ?_); refine zbx 25 #[.string ⟨#[]⟩, .string ⟨#[]⟩, .string ⟨#[]⟩, .slice none 0 0, .int .i64 0] ?_; intro gb313 hg w8 hbox hb; replace HO307 := zA HO307 hb; replace HO311 := zA HO311 hb; have BK313 := z0 (hbox); have GW313 := z0 ((by rw [hg]; exact (below_size (HI301.out.zb HB.out)) : w.heap.size ≤ gb313)); have GE313 := z0 ((by rw [hg]; exact (below_size (HI301.out.zb HB.out)) : w.heap.size ≤ gb313)); replace HB := z0 (below_step (HI301.out.zb HB.out) hb); have NB298_313 := zLt hg BK298; have NB313_298 := zGt hg BK298; replace BK298 := zK BK298 hb; have NB301_313 := z0 ((by rw [hg]; exact Nat.ne_of_lt (IsS98.lt (show IsS98 w _ g301 t299 t312 from HI301.out.zI)) : g301 ≠ gb313)); have NB313_301 := z0 ((by rw [hg]; exact Nat.ne_of_gt (IsS98.lt (show IsS98 w _ g301 t299 t312 from HI301.out.zI)) : gb313 ≠ g301)); replace HI301 := z0 (IsS98.below (HI301.out.zI) hb); clear hb hbox hg; have hnb9 := NB313_298.out; have hnc9 := NB298_313.out; have hnb10 := NB313_301.out; have hnc10 := NB301_313.out; have hcz11 := zc5 BK313.out; obtain ⟨Ao12, co12, eo12⟩ := Kd.R_slice HO307.out; subst eo12))
 have n0_ : Aside0 (Kd.R Kd.string 9 (((((w8.setCell ⟨gb313, 0, none⟩ (.string t302)).setCell ⟨gb313, 1, none⟩ (.string t303)).setCell ⟨gb313, 2, none⟩ (.string t304)).setCell ⟨gb313, 3, none⟩ (.slice Ao12 t305.length co12)).setCell ⟨gb313, 4, none⟩ (.int .i64 t308)) w.heap.size (fun k_ => some k_ ≠ (v310 : Value).ownBlock) (.slice Ao12 t305.length co12) t305) := ⟨Kd.R_mono (zt HO307.out BK313.out) (fun _ hk => hk.1)⟩; have n1_ : Aside0 (Kd.R Kd.string 9 (((((w8.setCell ⟨gb313, 0, none⟩ (.string t302)).setCell ⟨gb313, 1, none⟩ (.string t303)).setCell ⟨gb313, 2, none⟩ (.string t304)).setCell ⟨gb313, 3, none⟩ (.slice Ao12 t305.length co12)).setCell ⟨gb313, 4, none⟩ (.int .i64 t308)) w.heap.size (fun k_ => some k_ ≠ (.slice Ao12 t305.length co12 : Value).ownBlock) v310 t309) := ⟨Kd.R_mono (zt HO311.out BK313.out) (fun _ hk => hk.1)⟩; have n2_ : Aside0 ((((((w8.setCell ⟨gb313, 0, none⟩ (.string t302)).setCell ⟨gb313, 1, none⟩ (.string t303)).setCell ⟨gb313, 2, none⟩ (.string t304)).setCell ⟨gb313, 3, none⟩ (.slice Ao12 t305.length co12)).setCell ⟨gb313, 4, none⟩ (.int .i64 t308)).heap[gb298]? = some (.cells #[.string ⟨#[]⟩, .string ⟨#[]⟩, .string ⟨#[]⟩, .slice none 0 0, .int .i64 0] 25 (0, 0))) := ⟨zy BK298.out⟩; have n3_ : Aside0 ((((((w8.setCell ⟨gb313, 0, none⟩ (.string t302)).setCell ⟨gb313, 1, none⟩ (.string t303)).setCell ⟨gb313, 2, none⟩ (.string t304)).setCell ⟨gb313, 3, none⟩ (.slice Ao12 t305.length co12)).setCell ⟨gb313, 4, none⟩ (.int .i64 t308)).heap[gb313]? = some (.cells #[.string t302, .string t303, .string t304, .slice Ao12 t305.length co12, .int .i64 t308] 25 (0, 0))) := ⟨zp BK313.out⟩; have n4_ : Aside0 (IsS98 w (((((w8.setCell ⟨gb313, 0, none⟩ (.string t302)).setCell ⟨gb313, 1, none⟩ (.string t303)).setCell ⟨gb313, 2, none⟩ (.string t304)).setCell ⟨gb313, 3, none⟩ (.slice Ao12 t305.length co12)).setCell ⟨gb313, 4, none⟩ (.int .i64 t308)) g301 t299 t312) := ⟨HI301.out.zI⟩; have n5_ : Aside0 (Below w.heap.size w (((((w8.setCell ⟨gb313, 0, none⟩ (.string t302)).setCell ⟨gb313, 1, none⟩ (.string t303)).setCell ⟨gb313, 2, none⟩ (.string t304)).setCell ⟨gb313, 3, none⟩ (.slice Ao12 t305.length co12)).setCell ⟨gb313, 4, none⟩ (.int .i64 t308))) := ⟨HI301.out.zb HB.out⟩; (try clear HO307); (try clear HO311); (try clear BK298); (try clear BK313); (try clear HI301); (try clear HB); generalize (((((w8.setCell ⟨gb313, 0, none⟩ (.string t302)).setCell ⟨gb313, 1, none⟩ (.string t303)).setCell ⟨gb313, 2, none⟩ (.string t304)).setCell ⟨gb313, 3, none⟩ (.slice Ao12 t305.length co12)).setCell ⟨gb313, 4, none⟩ (.int .i64 t308)) = w13 at n0_ n1_ n2_ n3_ n4_ n5_ ⊢; have HO307 := n0_; have HO311 := n1_; have BK298 := n2_; have BK313 := n3_; have HI301 := n4_; have HB := n5_; clear n0_ n1_ n2_ n3_ n4_ n5_; replace HO307 := z0 (Kd.R_drew HO307.out); replace HO311 := z0 (Kd.R_drew HO311.out); replace BK298 := z0 (blk_drew BK298.out); replace BK313 := z0 (blk_drew BK313.out); replace HI301 := z0 (IsS98.drew HI301.out); replace HB := z0 (below_drew1 HB.out); obtain ⟨Ao15, co15, eo15⟩ := Kd.R_slice HO311.out; (first | subst eo15 | (injection eo15 with f1_ f2_ f3_; have f4_ := f1_.symm; have f5_ := f3_.symm; clear f1_ f2_ f3_; subst f4_; subst f5_)); refine start_ (n := 6) (S := fun w' => w'.cell? ⟨gb313, 0, none⟩ = some (.string t302) ∧ w'.cell? ⟨gb313, 1, none⟩ = some (.string t303) ∧ w'.cell? ⟨gb313, 2, none⟩ = some (.string t304) ∧ w'.cell? ⟨gb313, 3, none⟩ = some (.slice Ao12 t305.length co12) ∧ w'.cell? ⟨gb313, 4, none⟩ = some (.int .i64 t308)) (ds := []) (fb 6 0) (by kernel_rfl) rfl rfl (zb5 BK313.out) (fun hHeld => ?_); generalize w13.drew = w14 at HO307 HO311 BK298 BK313 HI301 HB hHeld ⊢; refine zu 1 2 ?_; refine zu 2 6 ?_; refine zx 0 7 hHeld ?_; refine zone 3 15 (fun K hK => ?_); refine zG2 Try.func66 #[.pointer (some ⟨g301, 0, none⟩), .slice Ao15 t309.length co15] ?_
 with_reducible refine (spec_l71Near.calls k g301 t299 t312 _ _ t309 t314 t315 w _ ?side1 ?side2 ?side3 ?side4 ?side5 A4.out).mono ?_
 (case side1 => repeat (first | (with_reducible first | exact HI301.out | apply IsS98.alloc | apply IsS98.drewN | apply IsS98.drew | apply IsS98.set_1 | refine IsS98.far ?_ NB301_298.out _ | refine IsS98.far ?_ NB301_313.out _) | exact HI301.out)); (case side2 => repeat (first | (with_reducible first | exact HB.out | apply below_alloc | apply pw_below_drewN | apply below_drew1 | refine below_set ?_ (IsS98.ge HI301.out) | refine below_set ?_ GE298.out | refine below_set ?_ GE313.out) | exact HB.out)); (case side3 => repeat (first | exact (Kd.R_reads' HO311.out).2.2 | (with_reducible refine Kd.C_alloc ?_ _) | (with_reducible refine Kd.C_drewN ?_ _) | (with_reducible refine Kd.C_drew ?_))); (case side4 => exact (Kd.R_reads' HO311.out).2.1); (case side5 => exact far_slice (IsS98.own_ne HI301.out HO311.out (by decide))); rintro e w16 ⟨rfl, hi, hb, hk⟩; refine ⟨_, rfl, ?_⟩; replace BK298 := z0 (KeepBut.blk hk (g' := gb298) (o := .cells #[.string ⟨#[]⟩, .string ⟨#[]⟩, .string ⟨#[]⟩, .slice none 0 0, .int .i64 0] 25 (0, 0)) (zl BK298.out) NB298_301.out (by simp)); replace HO307 := z0 (Kd.R_mono (Kd.R_keep (IsS98.apart (show IsS98 w _ g301 t299 t312 from HI301.out.zI) (zr HO307.out) (by decide)) hk (fun _ h => h.2)) (fun _ h => h.1)); replace HO311 := z0 (Kd.R_mono (Kd.R_keep (IsS98.apart (show IsS98 w _ g301 t299 t312 from HI301.out.zI) (zr HO311.out) (by decide)) hk (fun _ h => h.2)) (fun _ h => h.1)); replace BK313 := z0 (KeepBut.blk hk (g' := gb313) (o := .cells #[.string t302, .string t303, .string t304, .slice Ao12 t305.length co12, .int .i64 t308] 25 (0, 0)) (zl BK313.out) NB313_301.out (by simp)); replace HB := z0 (hb); replace HI301 := z0 (hi); (try clear hb hk hi); refine hK.out _ _ (zb5 BK313.out) (fun hHeld => ?_); clear hK K; refine znm ?_; refine zone 4 31 (fun K hK => ?_); have hs17 : w16.cell? ⟨gb298, 0, none⟩ = some (.string ⟨#[]⟩) := (blk_cell BK298.out 0).trans rfl; have hfs17 := blk_frozen BK298.out 0; have hns17_1 := NB313_298.out; have hms17_1 := NB298_313.out; have hs18 : w16.cell? ⟨gb298, 1, none⟩ = some (.string ⟨#[]⟩) := (blk_cell BK298.out 1).trans rfl; have hfs18 := blk_frozen BK298.out 1; have hns18_1 := NB313_298.out; have hms18_1 := NB298_313.out; have hs19 : w16.cell? ⟨gb298, 2, none⟩ = some (.string ⟨#[]⟩) := (blk_cell BK298.out 2).trans rfl; have hfs19 := blk_frozen BK298.out 2; have hns19_1 := NB313_298.out; have hms19_1 := NB298_313.out; have hs20 : w16.cell? ⟨gb298, 3, none⟩ = some (.slice none 0 0) := (blk_cell BK298.out 3).trans rfl; have hfs20 := blk_frozen BK298.out 3; have hns20_1 := NB313_298.out; have hms20_1 := NB298_313.out; have hs21 : w16.cell? ⟨gb298, 4, none⟩ = some (.int .i64 0) := (blk_cell BK298.out 4).trans rfl; have hfs21 := blk_frozen BK298.out 4; have hns21_1 := NB313_298.out; have hms21_1 := NB298_313.out; refine skip_ (w1 := ?_) (by rfl) rfl ?_ ?_; rotate_left
 ·go_simp
  rfl
 refine hK.out _ _ ⟨((cell_far (p := ⟨gb298, _, none⟩) NB313_298.out _).trans (((cell_far (p := ⟨gb298, _, none⟩) NB313_298.out _).trans (((cell_far (p := ⟨gb298, _, none⟩) NB313_298.out _).trans (((cell_far (p := ⟨gb298, _, none⟩) NB313_298.out _).trans (((cell_far (p := ⟨gb298, _, none⟩) NB313_298.out _).trans (hHeld.1)))))))))), ((cell_far (p := ⟨gb298, _, none⟩) NB313_298.out _).trans (((cell_far (p := ⟨gb298, _, none⟩) NB313_298.out _).trans (((cell_far (p := ⟨gb298, _, none⟩) NB313_298.out _).trans (((cell_far (p := ⟨gb298, _, none⟩) NB313_298.out _).trans (((cell_far (p := ⟨gb298, _, none⟩) NB313_298.out _).trans (hHeld.2.1)))))))))), ((cell_far (p := ⟨gb298, _, none⟩) NB313_298.out _).trans (((cell_far (p := ⟨gb298, _, none⟩) NB313_298.out _).trans (((cell_far (p := ⟨gb298, _, none⟩) NB313_298.out _).trans (((cell_far (p := ⟨gb298, _, none⟩) NB313_298.out _).trans (((cell_far (p := ⟨gb298, _, none⟩) NB313_298.out _).trans (hHeld.2.2.1)))))))))), ((cell_far (p := ⟨gb298, _, none⟩) NB313_298.out _).trans (((cell_far (p := ⟨gb298, _, none⟩) NB313_298.out _).trans (((cell_far (p := ⟨gb298, _, none⟩) NB313_298.out _).trans (((cell_far (p := ⟨gb298, _, none⟩) NB313_298.out _).trans (((cell_far (p := ⟨gb298, _, none⟩) NB313_298.out _).trans (hHeld.2.2.2.1)))))))))), ((cell_far (p := ⟨gb298, _, none⟩) NB313_298.out _).trans (((cell_far (p := ⟨gb298, _, none⟩) NB313_298.out _).trans (((cell_far (p := ⟨gb298, _, none⟩) NB313_298.out _).trans (((cell_far (p := ⟨gb298, _, none⟩) NB313_298.out _).trans (((cell_far (p := ⟨gb298, _, none⟩) NB313_298.out _).trans (hHeld.2.2.2.2))))))))))⟩ (fun hHeld => ?_); clear hK K; refine zu 5 63 ?_; refine done_ (by kernel_rfl) ?_
 try go_wp2
 refine bodyPost_ret (results_ct rfl _ _ gb298 25 #[.string t302, .string t303, .string t304, .slice Ao12 t305.length co12, .int .i64 t308] (0, 0) _ rfl (zp BK298.out) Try.underlying25 rfl (by kernel_rfl)) rfl ?_; exact ⟨_, ze, Kd.R_mono (zt HO307.out BK298.out) (fun _ hk => trivial), HI301.out.zb HB.out⟩
theorem impl_SieveOk.mono : ∀ a0 a1 a2 a3 a4 k, LeO (impl_SieveOk.f k a0 a1 a2 a3 a4) (impl_SieveOk.f (k + 1) a0 a1 a2 a3 a4) := by
  intro a0 a1 a2 a3 a4 k
  unfold impl_SieveOk.f
  repeat' first | (with_reducible first | apply impl_Sieve_heads.mono | exact LeO.refl _ | exact LeO.none _ | refine LeO.ite ?_ ?_ | refine LeO.bind ?_ (fun _ => ?_)) | exact LeO.none _ | refine LeO.ite ?_ ?_ | refine LeO.bind ?_ (fun _ => ?_)
theorem impl_SieveOk.calls (k : Nat) (a0_0 a0_1 a0_2 : ByteArray) (A0_3 : Option Addr) (c0_3 : Nat) (l0_3 : List ByteArray) (a0_4 : Int) (r : Bool) (w : World) (hr0_3 : Kd.C Kd.string w A0_3 l0_3.length l0_3) (hc0_3 : l0_3.length ≤ c0_3) (h : impl_SieveOk.f k a0_0 a0_1 a0_2 l0_3 a0_4 = some r) :
    Calls Try.prog 48 #[.agg #[.string a0_0, .string a0_1, .string a0_2, .slice A0_3 l0_3.length c0_3, .int .i64 a0_4]] w fun e w' => e = .returned (.bool r) ∧ Below w.heap.size w w' := by
 have hu25 := Try.underlying25; have HR0_3 := z0 hr0_3; have HC0_3 := z0 hc0_3; clear hr0_3 hc0_3; have HB := z0 (Below.refl w.heap.size w); have H : ((impl_Sieve_heads.f k a0_0 a0_1 a0_2 l0_3 a0_4).bind fun bt390 => (some bt390.2)) = some r := h; clear h; replace H := zi H; obtain ⟨⟨t390, t393⟩, A2, H⟩ := H; (try dsimp only at H); obtain rfl := Option.some.inj H; go_enter Try.func48, Try.ntmps48
 go_wp2_with (first | ((with_reducible refine gd 1 ?_); refine zbx 25 #[.string a0_0, .string a0_1, .string a0_2, .slice A0_3 l0_3.length c0_3, .int .i64 a0_4] ?_; intro gb389 hg w3 hbox hb; have BK389 := z0 (hbox); have GE389 := zG hg HB; replace HB := zH HB hb; clear hb hbox hg; have hcz4 := zc5 BK389.out) | ((with_reducible refine gc 89 ?_); refine zL (some 7) Try.func89 #[.agg #[.string a0_0, .string a0_1, .string a0_2, .slice A0_3 l0_3.length c0_3, .int .i64 a0_4]] ?_; (with_reducible refine (impl_Sieve_heads.calls k a0_0 a0_1 a0_2 _ _ l0_3 a0_4 t390 t393 _ (zC (Kd.C_below HR0_3.out HB.out)) HC0_3.out A2.out).mono ?_); rintro e w5 ⟨v391, rfl, ho0, hb⟩; refine zv ?_; have HO392 := z0 (Kd.R_lower ho0 (below_size (zb HB.out))); replace BK389 := zK BK389 hb; replace HB := zH HB hb; (try clear hb ho0)))
 go_ret; exact ⟨ze, zb HB.out⟩
theorem impl_Sieve_has.mono_l : ∀ k, (∀ y0 y1 y2 y3 y4 y5 y6 y7, LeO (impl_Sieve_has.l0 k y0 y1 y2 y3 y4 y5 y6 y7) (impl_Sieve_has.l0 (k + 1) y0 y1 y2 y3 y4 y5 y6 y7)) ∧ (∀ y0 y1 y2 y3 y4 y5 y6 y7 y8, LeO (impl_Sieve_has.j2 k y0 y1 y2 y3 y4 y5 y6 y7 y8) (impl_Sieve_has.j2 (k + 1) y0 y1 y2 y3 y4 y5 y6 y7 y8)) ∧ (∀ y0 y1 y2 y3 y4 y5 y6 y7 y8, LeO (impl_Sieve_has.l1 k y0 y1 y2 y3 y4 y5 y6 y7 y8) (impl_Sieve_has.l1 (k + 1) y0 y1 y2 y3 y4 y5 y6 y7 y8))
  | 0 => ⟨fun _ _ _ _ _ _ _ _ r h => by simp [impl_Sieve_has.l0] at h, fun _ _ _ _ _ _ _ _ _ r h => by simp [impl_Sieve_has.j2] at h, fun _ _ _ _ _ _ _ _ _ r h => by simp [impl_Sieve_has.l1] at h⟩
  | k + 1 => by
    obtain ⟨ih0, ih1, ih2⟩ := impl_Sieve_has.mono_l k
    refine ⟨?_, ?_, ?_⟩
    · intro y0 y1 y2 y3 y4 y5 y6 y7
      unfold impl_Sieve_has.l0
      repeat' first | (with_reducible first | apply ih0 | apply ih1 | apply ih2 | apply impl_Sieve_branches.mono | exact LeO.refl _ | exact LeO.none _ | refine LeO.ite ?_ ?_ | refine LeO.bind ?_ (fun _ => ?_)) | exact LeO.none _ | refine LeO.ite ?_ ?_ | refine LeO.bind ?_ (fun _ => ?_)
    · intro y0 y1 y2 y3 y4 y5 y6 y7 y8
      unfold impl_Sieve_has.j2
      repeat' first | (with_reducible first | apply ih0 | apply ih1 | apply ih2 | apply impl_Sieve_branches.mono | exact LeO.refl _ | exact LeO.none _ | refine LeO.ite ?_ ?_ | refine LeO.bind ?_ (fun _ => ?_)) | exact LeO.none _ | refine LeO.ite ?_ ?_ | refine LeO.bind ?_ (fun _ => ?_)
    · intro y0 y1 y2 y3 y4 y5 y6 y7 y8
      unfold impl_Sieve_has.l1
      repeat' first | (with_reducible first | apply ih0 | apply ih1 | apply ih2 | apply impl_Sieve_branches.mono | exact LeO.refl _ | exact LeO.none _ | refine LeO.ite ?_ ?_ | refine LeO.bind ?_ (fun _ => ?_)) | exact LeO.none _ | refine LeO.ite ?_ ?_ | refine LeO.bind ?_ (fun _ => ?_)
theorem impl_Sieve_has.mono : ∀ a0 a1 a2 a3 a4 a5 k, LeO (impl_Sieve_has.f k a0 a1 a2 a3 a4 a5) (impl_Sieve_has.f (k + 1) a0 a1 a2 a3 a4 a5) := by
  intro a0 a1 a2 a3 a4 a5 k
  obtain ⟨ih0, ih1, ih2⟩ := impl_Sieve_has.mono_l k
  unfold impl_Sieve_has.f
  repeat' first | (with_reducible first | apply ih0 | apply ih1 | apply ih2 | apply impl_Sieve_branches.mono | exact LeO.refl _ | exact LeO.none _ | refine LeO.ite ?_ ?_ | refine LeO.bind ?_ (fun _ => ?_)) | exact LeO.none _ | refine LeO.ite ?_ ?_ | refine LeO.bind ?_ (fun _ => ?_)
theorem impl_Sieve_has.calls (k : Nat) (a0_0 a0_1 a0_2 : ByteArray) (A0_3 : Option Addr) (c0_3 : Nat) (l0_3 : List ByteArray) (a0_4 : Int) (a1 : ByteArray) (r : Bool) (w : World) (hr0_3 : Kd.C Kd.string w A0_3 l0_3.length l0_3) (hc0_3 : l0_3.length ≤ c0_3) (h : impl_Sieve_has.f k a0_0 a0_1 a0_2 l0_3 a0_4 a1 = some r) :
    Calls Try.prog 68 #[.agg #[.string a0_0, .string a0_1, .string a0_2, .slice A0_3 l0_3.length c0_3, .int .i64 a0_4], .string a1] w fun e w' => e = .returned (.bool r) ∧ Below w.heap.size w w' := by
 have hu25 := Try.underlying25; have HR0_3 := z0 hr0_3; have HC0_3 := z0 hc0_3; clear hr0_3 hc0_3; have HB := z0 (Below.refl w.heap.size w); have H : (impl_Sieve_has.l0 k a1 0 0 a0_0 a0_1 a0_2 l0_3 a0_4) = some r := h; clear h; have H' := z0 H; clear H; go_enter Try.func68, Try.ntmps68
 go_wp2_with (first | ((with_reducible refine gd 2 ?_); refine zbx 25 #[.string a0_0, .string a0_1, .string a0_2, .slice A0_3 l0_3.length c0_3, .int .i64 a0_4] ?_; intro gb396 hg w3 hbox hb; have BK396 := z0 (hbox); have GE396 := zG hg HB; replace HB := zH HB hb; clear hb hbox hg))
 repeat (go_quiet (first | ((with_reducible refine gd 2 ?_); refine zbx 25 #[.string a0_0, .string a0_1, .string a0_2, .slice A0_3 l0_3.length c0_3, .int .i64 a0_4] ?_; intro gb396 hg w3 hbox hb; have BK396 := z0 (hbox); have GE396 := zG hg HB; replace HB := zH HB hb; clear hb hbox hg)); try go_wp2_with (first | ((with_reducible refine gd 2 ?_); refine zbx 25 #[.string a0_0, .string a0_1, .string a0_2, .slice A0_3 l0_3.length c0_3, .int .i64 a0_4] ?_; intro gb396 hg w3 hbox hb; have BK396 := z0 (hbox); have GE396 := zG hg HB; replace HB := zH HB hb; clear hb hbox hg)))
 go_loopg [5, 6] k (fun kq v5 v6 w' => ∃ (x5_1 : Int) (x6_1 : Int), v5 = .int .i64 x5_1 ∧ v6 = .int .i64 x6_1 ∧ Aside0 (impl_Sieve_has.l0 kq a1 x5_1 x6_1 a0_0 a0_1 a0_2 l0_3 a0_4 = some r) ∧ Aside0 (kq ≤ k) ∧ Aside0 (w'.heap[gb396]? = some (.cells #[.string a0_0, .string a0_1, .string a0_2, (.slice A0_3 l0_3.length c0_3), .int .i64 a0_4] 25 (0, 0))) ∧ Aside0 (Below w.heap.size w w'))
 case atStart => exact ⟨(0), (0), zf, zf, H', ⟨Nat.le_refl _⟩, ⟨zl BK396.out⟩, ⟨zb HB.out⟩⟩
 case round =>
  clear H'
  try clear p2
  obtain ⟨x5_1, x6_1, rfl, rfl, HA, HK1, BK396, HB⟩ := hrel
  cases gk with
  | zero => exact absurd HA.out (by simp [impl_Sieve_has.l0])
  | succ k1 =>
   have H := HA.out; clear HA; simp only [impl_Sieve_has.l0] at H; replace H := zi H; obtain ⟨⟨t397, t398⟩, A4, H⟩ := H; (try dsimp only at H); have HC5 := z0 H; clear H; have hcz6 := zc5 BK396.out
   go_upto_block 2 with (first | (go_at_call 102; (with_reducible refine (impl_Sieve_branches.calls k1 a0_0 a0_1 a0_2 _ _ l0_3 a0_4 x5_1 t397 t398 _ ?side1 ?side2 A4.out).mono ?_); (case side1 => repeat (first | exact (Kd.C_below HR0_3.out HB.out) | (with_reducible refine Kd.C_alloc ?_ _) | (with_reducible refine Kd.C_drewN ?_ _) | (with_reducible refine Kd.C_drew ?_))); (case side2 => exact HC0_3.out); rintro e w7 ⟨rfl, hb⟩; replace BK396 := zK BK396 hb; replace HB := zH HB hb; (try clear hb)))
   repeat (go_quiet (first | (go_at_call 102; (with_reducible refine (impl_Sieve_branches.calls k1 a0_0 a0_1 a0_2 _ _ l0_3 a0_4 x5_1 t397 t398 _ ?side1 ?side2 A4.out).mono ?_); (case side1 => repeat (first | exact (Kd.C_below HR0_3.out HB.out) | (with_reducible refine Kd.C_alloc ?_ _) | (with_reducible refine Kd.C_drewN ?_ _) | (with_reducible refine Kd.C_drew ?_))); (case side2 => exact HC0_3.out); rintro e w7 ⟨rfl, hb⟩; replace BK396 := zK BK396 hb; replace HB := zH HB hb; (try clear hb))); go_upto_block 2 with (first | (go_at_call 102; (with_reducible refine (impl_Sieve_branches.calls k1 a0_0 a0_1 a0_2 _ _ l0_3 a0_4 x5_1 t397 t398 _ ?side1 ?side2 A4.out).mono ?_); (case side1 => repeat (first | exact (Kd.C_below HR0_3.out HB.out) | (with_reducible refine Kd.C_alloc ?_ _) | (with_reducible refine Kd.C_drewN ?_ _) | (with_reducible refine Kd.C_drew ?_))); (case side2 => exact HC0_3.out); rintro e w7 ⟨rfl, hb⟩; replace BK396 := zK BK396 hb; replace HB := zH HB hb; (try clear hb))))
   (try simp only [Act.put, List.setIfInBounds_toArray, List.set_cons_zero, List.set_cons_succ])
   go_cut [9] (fun v9 wc => ∃ (kq : Nat) (x9_4 : Int), v9 = .int .i64 x9_4 ∧ Aside0 (impl_Sieve_has.j2 kq a1 x6_1 t398 x9_4 a0_0 a0_1 a0_2 l0_3 a0_4 = some r) ∧ Aside0 (kq ≤ k1) ∧ Aside0 (wc.heap[gb396]? = some (.cells #[.string a0_0, .string a0_1, .string a0_2, (.slice A0_3 l0_3.length c0_3), .int .i64 a0_4] 25 (0, 0))) ∧ Aside0 (Below w.heap.size w wc))
   case first =>
    have H := HC5.out; clear HC5; have H' := z0 H; clear H; go_wp2
    repeat (go_quiet (fail); try go_wp2)
    go_loopg [9] k1 (fun kq v9 w' => ∃ (x9_2 : Int), v9 = .int .i64 x9_2 ∧ Aside0 (impl_Sieve_has.l1 kq a1 x6_1 t398 x9_2 a0_0 a0_1 a0_2 l0_3 a0_4 = some r) ∧ Aside0 (kq ≤ k1) ∧ Aside0 (w'.heap[gb396]? = some (.cells #[.string a0_0, .string a0_1, .string a0_2, (.slice A0_3 l0_3.length c0_3), .int .i64 a0_4] 25 (0, 0))) ∧ Aside0 (Below w.heap.size w w'))
    case atStart => exact ⟨(t397), zf, H', ⟨Nat.le_refl _⟩, ⟨zl BK396.out⟩, ⟨zb HB.out⟩⟩
    case round =>
     clear H'
     try clear p2
     try clear c6
     try clear hcz6
     try clear p2
     obtain ⟨x9_2, rfl, HA, HK2, BK396, HB⟩ := hrel
     cases gk with
     | zero => exact absurd HA.out (by simp [impl_Sieve_has.l1])
     | succ k2 =>
      have H := HA.out; clear HA; simp only [impl_Sieve_has.l1] at H
      by_cases c8 : x9_2 < t398
      ·rw [if_pos c8] at H; have c8b0 := decide_eq_true c8; clear c8; (first | rw [c8b0] | (simp only [i64_w, i32_w]; rw [c8b0]) | simp only [*, Bool.not_true, Bool.not_false] | skip); replace H := zn H; obtain ⟨c9, H⟩ := H; have c9b0 := decide_eq_true c9; clear c9; replace H := zn H; obtain ⟨c10, H⟩ := H; have c10b0 := decide_eq_true c10; clear c10; replace H := zi H; obtain ⟨t399, A12, H⟩ := H; have hcz13 := zc5 BK396.out; have p11 : 0 ≤ (x9_2 : Int) := zd; have q11 : x9_2 < (a0_0.size : Int) := zd; have hx11 := bt_at a0_0 x9_2; replace p11 := eq_true p11; replace q11 := eq_true q11
       go_upto_if 32 with (first | (go_at_call 103; (with_reducible refine (impl_label.calls a1 x6_1 t399 _ A12.out).mono ?_); rintro e w' ⟨rfl, ⟨nd, rfl⟩⟩; (try exact zdd)))
       repeat (go_quiet (first | (go_at_call 103; (with_reducible refine (impl_label.calls a1 x6_1 t399 _ A12.out).mono ?_); rintro e w' ⟨rfl, ⟨nd, rfl⟩⟩; (try exact zdd))); go_upto_if 32 with (first | (go_at_call 103; (with_reducible refine (impl_label.calls a1 x6_1 t399 _ A12.out).mono ?_); rintro e w' ⟨rfl, ⟨nd, rfl⟩⟩; (try exact zdd))))
       by_cases c14 : (bt a0_0 x9_2) = t399
       ·rw [if_pos c14] at H; have c14b0 : ((bt a0_0 x9_2) == t399) = true := beq_iff_eq.mpr c14; have c14b1 : ((bt a0_0 x9_2) != t399) = false := bne_eq_false_iff_eq.mpr c14; clear c14; (first | rw [c14b0] | (simp only [i64_w, i32_w]; rw [c14b0]) | simp only [*, Bool.not_true, Bool.not_false] | skip); have H' := z0 H; clear H; go_wp2
        repeat (go_quiet (fail); try go_wp2)
        go_meet
        case rel => exact ⟨_, (x9_2), zf, H', ⟨by have := HK1.out; have := HK2.out; first | omega | exact Nat.le_refl _⟩, ⟨zl BK396.out⟩, ⟨zb HB.out⟩⟩
       ·rw [if_neg c14] at H; have c14b0 : ((bt a0_0 x9_2) == t399) = false := beq_eq_false_iff_ne.mpr c14; have c14b1 : ((bt a0_0 x9_2) != t399) = true := bne_iff_ne.mpr c14; (first | rw [c14b0] | (simp only [i64_w, i32_w]; rw [c14b0]) | simp only [*, Bool.not_true, Bool.not_false] | skip); have H' := z0 H; clear H; go_wp2
        repeat (go_quiet (fail); try go_wp2)
        go_roundg k2
        case measure => have := HK1.out; have := HK2.out; omega
        case rel => exact ⟨(wrap64 (x9_2 + 1)), zf, H', ⟨by have := HK1.out; have := HK2.out; omega⟩, ⟨zl BK396.out⟩, ⟨zb HB.out⟩⟩
      ·rw [if_neg c8] at H; have c8b0 := decide_eq_false c8; clear c8; (first | rw [c8b0] | (simp only [i64_w, i32_w]; rw [c8b0]) | simp only [*, Bool.not_true, Bool.not_false] | skip); have H' := z0 H; clear H; go_wp2
       repeat (go_quiet (fail); try go_wp2)
       go_meet
       case rel => exact ⟨_, (x9_2), zf, H', ⟨by have := HK1.out; have := HK2.out; first | omega | exact Nat.le_refl _⟩, ⟨zl BK396.out⟩, ⟨zb HB.out⟩⟩
   case rest =>
    clear HC5
    try clear c1
    try clear p1
    try clear q1
    try clear hx1
    try clear p2
    try clear c6
    try clear p6
    try clear c8
    try clear c8b0
    try clear c9
    try clear c9b0
    try clear c10
    try clear c10b0
    try clear p11
    try clear q11
    try clear hx11
    try clear c14
    try clear c14b0
    try clear c14b1
    try clear hcz13
    try clear hcz6
    try clear p11
    try clear p2
    try clear q11
    obtain ⟨kq, x9_4, rfl, HA, HJ4, BK396, HB⟩ := hcut
    cases kq with
    | zero => exact absurd HA.out (by simp [impl_Sieve_has.j2])
    | succ kj4 =>
     have H := HA.out; clear HA; simp only [impl_Sieve_has.j2] at H
     by_cases c15 : x9_4 = t398
     ·rw [if_pos c15] at H; have c15b0 : (x9_4 == t398) = true := beq_iff_eq.mpr c15; have c15b1 : (x9_4 != t398) = false := bne_eq_false_iff_eq.mpr c15; clear c15; obtain rfl := Option.some.inj H; go_wp2
      repeat (go_quiet (fail); try go_wp2)
      go_ret; exact ⟨ze, zb HB.out⟩
     ·rw [if_neg c15] at H; have c15b0 : (x9_4 == t398) = false := beq_eq_false_iff_ne.mpr c15; have c15b1 : (x9_4 != t398) = true := bne_iff_ne.mpr c15; replace H := zn H; obtain ⟨c16, H⟩ := H; have c16b0 := decide_eq_true c16; clear c16; replace H := zn H; obtain ⟨c17, H⟩ := H; have c17b0 := decide_eq_true c17; clear c17
      by_cases c19 : (bt a0_1 x9_4) = 49
      ·rw [if_pos c19] at H; have c19b0 : ((bt a0_1 x9_4) == 49) = true := beq_iff_eq.mpr c19; have c19b1 : ((bt a0_1 x9_4) != 49) = false := bne_eq_false_iff_eq.mpr c19; clear c19; replace H := zi H; obtain ⟨t400, A20, H⟩ := H; have H' := z0 H; clear H; have hcz21 := zc5 BK396.out; have p18 : 0 ≤ (x9_4 : Int) := zd; have q18 : x9_4 < (a0_1.size : Int) := zd; have hx18 := bt_at a0_1 x9_4; replace p18 := eq_true p18; replace q18 := eq_true q18
       go_wp2_with (first | (go_at_call 104; (with_reducible refine (impl_Sieve_node.calls a0_0 a0_1 a0_2 _ _ l0_3 a0_4 x9_4 t400 _ ?side1 ?side2 A20.out).mono ?_); (case side1 => repeat (first | exact (Kd.C_below HR0_3.out HB.out) | (with_reducible refine Kd.C_alloc ?_ _) | (with_reducible refine Kd.C_drewN ?_ _) | (with_reducible refine Kd.C_drew ?_))); (case side2 => exact HC0_3.out); rintro e w22 ⟨rfl, hb⟩; replace BK396 := zK BK396 hb; replace HB := zH HB hb; (try clear hb)))
       repeat (go_quiet (first | (go_at_call 104; (with_reducible refine (impl_Sieve_node.calls a0_0 a0_1 a0_2 _ _ l0_3 a0_4 x9_4 t400 _ ?side1 ?side2 A20.out).mono ?_); (case side1 => repeat (first | exact (Kd.C_below HR0_3.out HB.out) | (with_reducible refine Kd.C_alloc ?_ _) | (with_reducible refine Kd.C_drewN ?_ _) | (with_reducible refine Kd.C_drew ?_))); (case side2 => exact HC0_3.out); rintro e w22 ⟨rfl, hb⟩; replace BK396 := zK BK396 hb; replace HB := zH HB hb; (try clear hb))); try go_wp2_with (first | (go_at_call 104; (with_reducible refine (impl_Sieve_node.calls a0_0 a0_1 a0_2 _ _ l0_3 a0_4 x9_4 t400 _ ?side1 ?side2 A20.out).mono ?_); (case side1 => repeat (first | exact (Kd.C_below HR0_3.out HB.out) | (with_reducible refine Kd.C_alloc ?_ _) | (with_reducible refine Kd.C_drewN ?_ _) | (with_reducible refine Kd.C_drew ?_))); (case side2 => exact HC0_3.out); rintro e w22 ⟨rfl, hb⟩; replace BK396 := zK BK396 hb; replace HB := zH HB hb; (try clear hb))))
       go_roundg kj4
       case measure => have := HK1.out; have := HJ4.out; omega
       case rel => exact ⟨(t400), (wrap64 (x6_1 + 1)), zf, zf, H', ⟨by have := HK1.out; have := HJ4.out; omega⟩, ⟨zl BK396.out⟩, ⟨zb HB.out⟩⟩
      ·rw [if_neg c19] at H; have c19b0 : ((bt a0_1 x9_4) == 49) = false := beq_eq_false_iff_ne.mpr c19; have c19b1 : ((bt a0_1 x9_4) != 49) = true := bne_iff_ne.mpr c19; obtain ⟨ji23, hji23⟩ : ∃ j_ : Int, (mn (wrap64 (x6_1 + 1)) (a1.size : Int)) = j_ := ⟨_, rfl⟩
       replace H : (if 0 ≤ (ji23) then (if (ji23) ≤ (a1.size : Int) then ((impl_Sieve_complete.f a0_0 a0_1 a0_2 l0_3 a0_4 x9_4).bind fun t401 => (if t401 = true then ((impl_Sieve_rest.f a0_0 a0_1 a0_2 l0_3 a0_4 x9_4).bind fun t402 => (some ((a1.extract ((ji23) : Int).toNat a1.size).toList == t402.toList))) else ((impl_Sieve_rest.f a0_0 a0_1 a0_2 l0_3 a0_4 x9_4).bind fun t403 => ((impl_KeyBegins.f (a1.extract ((ji23) : Int).toNat a1.size) t403).bind fun t404 => (some t404))))) else (none)) else (none)) = some r := by first | (rw [hji23] at H; exact H) | (simp only [hji23] at H ⊢; exact H)
       have hji23_ : (if (a1.size : Int) < (wrap64 (x6_1 + 1)) then (a1.size : Int) else (wrap64 (x6_1 + 1))) = ji23 := hji23; replace H := zn H; obtain ⟨c24, H⟩ := H; have c24b0 := eq_true c24; have c24b1 := decide_eq_true c24; clear c24; replace H := zn H; obtain ⟨c25, H⟩ := H; have c25b0 := eq_true c25; have c25b1 := decide_eq_true c25; clear c25; replace H := zi H; obtain ⟨t401, A26, H⟩ := H
       by_cases c27 : t401 = true
       ·subst c27
        have H1 : ((impl_Sieve_rest.f a0_0 a0_1 a0_2 l0_3 a0_4 x9_4).bind fun t402 => (some ((a1.extract ((ji23) : Int).toNat a1.size).toList == t402.toList))) = some r := by rw [if_pos rfl] at H; exact H
        clear H; have H := H1; clear H1; replace H := zi H; obtain ⟨t402, A28, H⟩ := H; obtain rfl := Option.some.inj H; have hcz29 := zc5 BK396.out; have p18 : 0 ≤ (x9_4 : Int) := zd; have q18 : x9_4 < (a0_1.size : Int) := zd; have hx18 := bt_at a0_1 x9_4; replace p18 := eq_true p18; replace q18 := eq_true q18
        go_wp2_with (first | (go_at_call 105; (with_reducible refine (impl_Sieve_complete.calls a0_0 a0_1 a0_2 _ _ l0_3 a0_4 x9_4 true _ ?side1 ?side2 A26.out).mono ?_); (case side1 => repeat (first | exact (Kd.C_below HR0_3.out HB.out) | (with_reducible refine Kd.C_alloc ?_ _) | (with_reducible refine Kd.C_drewN ?_ _) | (with_reducible refine Kd.C_drew ?_))); (case side2 => exact HC0_3.out); rintro e w30 ⟨rfl, hb⟩; replace BK396 := zK BK396 hb; replace HB := zH HB hb; (try clear hb); have hcz31 := zc5 BK396.out) | (go_at_call 106; (with_reducible refine (impl_Sieve_rest.calls a0_0 a0_1 a0_2 _ _ l0_3 a0_4 x9_4 t402 _ ?side1 ?side2 A28.out).mono ?_); (case side1 => repeat (first | exact (Kd.C_below HR0_3.out HB.out) | (with_reducible refine Kd.C_alloc ?_ _) | (with_reducible refine Kd.C_drewN ?_ _) | (with_reducible refine Kd.C_drew ?_))); (case side2 => exact HC0_3.out); rintro e w32 ⟨rfl, hb⟩; replace BK396 := zK BK396 hb; replace HB := zH HB hb; (try clear hb)))
        repeat (go_quiet (first | (go_at_call 105; (with_reducible refine (impl_Sieve_complete.calls a0_0 a0_1 a0_2 _ _ l0_3 a0_4 x9_4 true _ ?side1 ?side2 A26.out).mono ?_); (case side1 => repeat (first | exact (Kd.C_below HR0_3.out HB.out) | (with_reducible refine Kd.C_alloc ?_ _) | (with_reducible refine Kd.C_drewN ?_ _) | (with_reducible refine Kd.C_drew ?_))); (case side2 => exact HC0_3.out); rintro e w30 ⟨rfl, hb⟩; replace BK396 := zK BK396 hb; replace HB := zH HB hb; (try clear hb); have hcz31 := zc5 BK396.out) | (go_at_call 106; (with_reducible refine (impl_Sieve_rest.calls a0_0 a0_1 a0_2 _ _ l0_3 a0_4 x9_4 t402 _ ?side1 ?side2 A28.out).mono ?_); (case side1 => repeat (first | exact (Kd.C_below HR0_3.out HB.out) | (with_reducible refine Kd.C_alloc ?_ _) | (with_reducible refine Kd.C_drewN ?_ _) | (with_reducible refine Kd.C_drew ?_))); (case side2 => exact HC0_3.out); rintro e w32 ⟨rfl, hb⟩; replace BK396 := zK BK396 hb; replace HB := zH HB hb; (try clear hb))); try go_wp2_with (first | (go_at_call 105; (with_reducible refine (impl_Sieve_complete.calls a0_0 a0_1 a0_2 _ _ l0_3 a0_4 x9_4 true _ ?side1 ?side2 A26.out).mono ?_); (case side1 => repeat (first | exact (Kd.C_below HR0_3.out HB.out) | (with_reducible refine Kd.C_alloc ?_ _) | (with_reducible refine Kd.C_drewN ?_ _) | (with_reducible refine Kd.C_drew ?_))); (case side2 => exact HC0_3.out); rintro e w30 ⟨rfl, hb⟩; replace BK396 := zK BK396 hb; replace HB := zH HB hb; (try clear hb); have hcz31 := zc5 BK396.out) | (go_at_call 106; (with_reducible refine (impl_Sieve_rest.calls a0_0 a0_1 a0_2 _ _ l0_3 a0_4 x9_4 t402 _ ?side1 ?side2 A28.out).mono ?_); (case side1 => repeat (first | exact (Kd.C_below HR0_3.out HB.out) | (with_reducible refine Kd.C_alloc ?_ _) | (with_reducible refine Kd.C_drewN ?_ _) | (with_reducible refine Kd.C_drew ?_))); (case side2 => exact HC0_3.out); rintro e w32 ⟨rfl, hb⟩; replace BK396 := zK BK396 hb; replace HB := zH HB hb; (try clear hb))))
        go_ret; exact ⟨by first | rfl | (simp [errW_none, errW_some] <;> rfl) | (simp only [← hji23]; first | rfl | (simp [errW_none, errW_some] <;> rfl)) | (simp [*, errW_none, errW_some] <;> rfl), zb HB.out⟩
       ·replace c27 := Bool.eq_false_iff.mpr c27; subst c27
        have H1 : ((impl_Sieve_rest.f a0_0 a0_1 a0_2 l0_3 a0_4 x9_4).bind fun t403 => ((impl_KeyBegins.f (a1.extract ((ji23) : Int).toNat a1.size) t403).bind fun t404 => (some t404))) = some r := by rw [if_neg (show ¬ (false = true) by decide)] at H; exact H
        clear H; have H := H1; clear H1; replace H := zi H; obtain ⟨t403, A33, H⟩ := H; replace H := zi H; obtain ⟨t404, A34, H⟩ := H; obtain rfl := Option.some.inj H; have hcz35 := zc5 BK396.out; have p18 : 0 ≤ (x9_4 : Int) := zd; have q18 : x9_4 < (a0_1.size : Int) := zd; have hx18 := bt_at a0_1 x9_4; replace p18 := eq_true p18; replace q18 := eq_true q18
        go_wp2_with (first | (go_at_call 105; (with_reducible refine (impl_Sieve_complete.calls a0_0 a0_1 a0_2 _ _ l0_3 a0_4 x9_4 false _ ?side1 ?side2 A26.out).mono ?_); (case side1 => repeat (first | exact (Kd.C_below HR0_3.out HB.out) | (with_reducible refine Kd.C_alloc ?_ _) | (with_reducible refine Kd.C_drewN ?_ _) | (with_reducible refine Kd.C_drew ?_))); (case side2 => exact HC0_3.out); rintro e w36 ⟨rfl, hb⟩; replace BK396 := zK BK396 hb; replace HB := zH HB hb; (try clear hb); have hcz37 := zc5 BK396.out) | (go_at_call 106; (with_reducible refine (impl_Sieve_rest.calls a0_0 a0_1 a0_2 _ _ l0_3 a0_4 x9_4 t403 _ ?side1 ?side2 A33.out).mono ?_); (case side1 => repeat (first | exact (Kd.C_below HR0_3.out HB.out) | (with_reducible refine Kd.C_alloc ?_ _) | (with_reducible refine Kd.C_drewN ?_ _) | (with_reducible refine Kd.C_drew ?_))); (case side2 => exact HC0_3.out); rintro e w38 ⟨rfl, hb⟩; replace BK396 := zK BK396 hb; replace HB := zH HB hb; (try clear hb)) | (go_at_call 42; (with_reducible refine (impl_KeyBegins.calls (a1.extract ((ji23) : Int).toNat a1.size) t403 t404 _ A34.out).mono ?_); rintro e w' ⟨rfl, ⟨nd, rfl⟩⟩; (try exact zdd)))
        repeat (go_quiet (first | (go_at_call 105; (with_reducible refine (impl_Sieve_complete.calls a0_0 a0_1 a0_2 _ _ l0_3 a0_4 x9_4 false _ ?side1 ?side2 A26.out).mono ?_); (case side1 => repeat (first | exact (Kd.C_below HR0_3.out HB.out) | (with_reducible refine Kd.C_alloc ?_ _) | (with_reducible refine Kd.C_drewN ?_ _) | (with_reducible refine Kd.C_drew ?_))); (case side2 => exact HC0_3.out); rintro e w36 ⟨rfl, hb⟩; replace BK396 := zK BK396 hb; replace HB := zH HB hb; (try clear hb); have hcz37 := zc5 BK396.out) | (go_at_call 106; (with_reducible refine (impl_Sieve_rest.calls a0_0 a0_1 a0_2 _ _ l0_3 a0_4 x9_4 t403 _ ?side1 ?side2 A33.out).mono ?_); (case side1 => repeat (first | exact (Kd.C_below HR0_3.out HB.out) | (with_reducible refine Kd.C_alloc ?_ _) | (with_reducible refine Kd.C_drewN ?_ _) | (with_reducible refine Kd.C_drew ?_))); (case side2 => exact HC0_3.out); rintro e w38 ⟨rfl, hb⟩; replace BK396 := zK BK396 hb; replace HB := zH HB hb; (try clear hb)) | (go_at_call 42; (with_reducible refine (impl_KeyBegins.calls (a1.extract ((ji23) : Int).toNat a1.size) t403 t404 _ A34.out).mono ?_); rintro e w' ⟨rfl, ⟨nd, rfl⟩⟩; (try exact zdd))); try go_wp2_with (first | (go_at_call 105; (with_reducible refine (impl_Sieve_complete.calls a0_0 a0_1 a0_2 _ _ l0_3 a0_4 x9_4 false _ ?side1 ?side2 A26.out).mono ?_); (case side1 => repeat (first | exact (Kd.C_below HR0_3.out HB.out) | (with_reducible refine Kd.C_alloc ?_ _) | (with_reducible refine Kd.C_drewN ?_ _) | (with_reducible refine Kd.C_drew ?_))); (case side2 => exact HC0_3.out); rintro e w36 ⟨rfl, hb⟩; replace BK396 := zK BK396 hb; replace HB := zH HB hb; (try clear hb); have hcz37 := zc5 BK396.out) | (go_at_call 106; (with_reducible refine (impl_Sieve_rest.calls a0_0 a0_1 a0_2 _ _ l0_3 a0_4 x9_4 t403 _ ?side1 ?side2 A33.out).mono ?_); (case side1 => repeat (first | exact (Kd.C_below HR0_3.out HB.out) | (with_reducible refine Kd.C_alloc ?_ _) | (with_reducible refine Kd.C_drewN ?_ _) | (with_reducible refine Kd.C_drew ?_))); (case side2 => exact HC0_3.out); rintro e w38 ⟨rfl, hb⟩; replace BK396 := zK BK396 hb; replace HB := zH HB hb; (try clear hb)) | (go_at_call 42; (with_reducible refine (impl_KeyBegins.calls (a1.extract ((ji23) : Int).toNat a1.size) t403 t404 _ A34.out).mono ?_); rintro e w' ⟨rfl, ⟨nd, rfl⟩⟩; (try exact zdd))))
        go_ret; exact ⟨by first | rfl | (simp [errW_none, errW_some] <;> rfl) | (simp only [← hji23]; first | rfl | (simp [errW_none, errW_some] <;> rfl)) | (simp [*, errW_none, errW_some] <;> rfl), zb HB.out⟩
theorem impl_SieveHas.mono : ∀ a0 a1 a2 a3 a4 a5 k, LeO (impl_SieveHas.f k a0 a1 a2 a3 a4 a5) (impl_SieveHas.f (k + 1) a0 a1 a2 a3 a4 a5) := by
  intro a0 a1 a2 a3 a4 a5 k
  unfold impl_SieveHas.f
  repeat' first | (with_reducible first | apply impl_KeyOk.mono | apply impl_SieveOk.mono | apply impl_Sieve_has.mono | exact LeO.refl _ | exact LeO.none _ | refine LeO.ite ?_ ?_ | refine LeO.bind ?_ (fun _ => ?_)) | exact LeO.none _ | refine LeO.ite ?_ ?_ | refine LeO.bind ?_ (fun _ => ?_)
theorem impl_SieveHas.calls (k : Nat) (a0_0 a0_1 a0_2 : ByteArray) (A0_3 : Option Addr) (c0_3 : Nat) (l0_3 : List ByteArray) (a0_4 : Int) (a1 : ByteArray) (r : Bool) (w : World) (hr0_3 : Kd.C Kd.string w A0_3 l0_3.length l0_3) (hc0_3 : l0_3.length ≤ c0_3) (h : impl_SieveHas.f k a0_0 a0_1 a0_2 l0_3 a0_4 a1 = some r) :
    Calls Try.prog 28 #[.agg #[.string a0_0, .string a0_1, .string a0_2, .slice A0_3 l0_3.length c0_3, .int .i64 a0_4], .string a1] w fun e w' => e = .returned (.bool r) ∧ Below w.heap.size w w' := by
 have hu25 := Try.underlying25; have HR0_3 := z0 hr0_3; have HC0_3 := z0 hc0_3; clear hr0_3 hc0_3; have HB := z0 (Below.refl w.heap.size w); have H : ((impl_SieveOk.f k a0_0 a0_1 a0_2 l0_3 a0_4).bind fun t406 => (if t406 = true then ((impl_KeyOk.f k a1).bind fun t407 => (if t407 = true then ((impl_Sieve_has.f k a0_0 a0_1 a0_2 l0_3 a0_4 a1).bind fun t408 => (some t408)) else (some false))) else (some false))) = some r := h; clear h; replace H := zi H; obtain ⟨t406, A3, H⟩ := H
 by_cases c4 : t406 = true
 ·subst c4
  have H1 : ((impl_KeyOk.f k a1).bind fun t407 => (if t407 = true then ((impl_Sieve_has.f k a0_0 a0_1 a0_2 l0_3 a0_4 a1).bind fun t408 => (some t408)) else (some false))) = some r := by rw [if_pos rfl] at H; exact H
  clear H; have H := H1; clear H1; replace H := zi H; obtain ⟨t407, A5, H⟩ := H
  by_cases c6 : t407 = true
  ·subst c6
   have H1 : ((impl_Sieve_has.f k a0_0 a0_1 a0_2 l0_3 a0_4 a1).bind fun t408 => (some t408)) = some r := by rw [if_pos rfl] at H; exact H
   clear H; have H := H1; clear H1; replace H := zi H; obtain ⟨t408, A7, H⟩ := H; obtain rfl := Option.some.inj H; go_enter Try.func28, Try.ntmps28
   go_wp2_with (first | ((with_reducible refine gd 2 ?_); refine zbx 25 #[.string a0_0, .string a0_1, .string a0_2, .slice A0_3 l0_3.length c0_3, .int .i64 a0_4] ?_; intro gb405 hg w8 hbox hb; have BK405 := z0 (hbox); have GE405 := zG hg HB; replace HB := zH HB hb; clear hb hbox hg; have hcz9 := zc5 BK405.out) | ((with_reducible refine gc 48 ?_); refine zL (some 6) Try.func48 #[.agg #[.string a0_0, .string a0_1, .string a0_2, .slice A0_3 l0_3.length c0_3, .int .i64 a0_4]] ?_; (with_reducible refine (impl_SieveOk.calls k a0_0 a0_1 a0_2 _ _ l0_3 a0_4 true _ (zC (Kd.C_below HR0_3.out HB.out)) HC0_3.out A3.out).mono ?_); rintro e w10 ⟨rfl, hb⟩; refine zv ?_; replace BK405 := zK BK405 hb; replace HB := zH HB hb; (try clear hb)) | (go_at_call 67; (with_reducible refine (impl_KeyOk.calls k a1 true _ A5.out).mono ?_); rintro e w' ⟨rfl, ⟨nd, rfl⟩⟩; have hcz11 := zc5 BK405.out) | (go_at_call 68; (with_reducible refine (impl_Sieve_has.calls k a0_0 a0_1 a0_2 _ _ l0_3 a0_4 a1 t408 _ ?side1 ?side2 A7.out).mono ?_); (case side1 => repeat (first | exact (Kd.C_below HR0_3.out (zb HB.out)) | (with_reducible refine Kd.C_alloc ?_ _) | (with_reducible refine Kd.C_drewN ?_ _) | (with_reducible refine Kd.C_drew ?_))); (case side2 => exact HC0_3.out); rintro e w12 ⟨rfl, hb⟩; replace BK405 := zK BK405 hb; replace HB := zH HB hb; (try clear hb)))
   go_ret; exact ⟨ze, zb HB.out⟩
  ·replace c6 := Bool.eq_false_iff.mpr c6; subst c6
   have H1 : (some false) = some r := by rw [if_neg (show ¬ (false = true) by decide)] at H; exact H
   clear H; have H := H1; clear H1; obtain rfl := Option.some.inj H; go_enter Try.func28, Try.ntmps28
   go_wp2_with (first | ((with_reducible refine gd 2 ?_); refine zbx 25 #[.string a0_0, .string a0_1, .string a0_2, .slice A0_3 l0_3.length c0_3, .int .i64 a0_4] ?_; intro gb405 hg w13 hbox hb; have BK405 := z0 (hbox); have GE405 := zG hg HB; replace HB := zH HB hb; clear hb hbox hg; have hcz14 := zc5 BK405.out) | ((with_reducible refine gc 48 ?_); refine zL (some 6) Try.func48 #[.agg #[.string a0_0, .string a0_1, .string a0_2, .slice A0_3 l0_3.length c0_3, .int .i64 a0_4]] ?_; (with_reducible refine (impl_SieveOk.calls k a0_0 a0_1 a0_2 _ _ l0_3 a0_4 true _ (zC (Kd.C_below HR0_3.out HB.out)) HC0_3.out A3.out).mono ?_); rintro e w15 ⟨rfl, hb⟩; refine zv ?_; replace BK405 := zK BK405 hb; replace HB := zH HB hb; (try clear hb)) | (go_at_call 67; (with_reducible refine (impl_KeyOk.calls k a1 false _ A5.out).mono ?_); rintro e w' ⟨rfl, ⟨nd, rfl⟩⟩))
   go_ret; exact ⟨ze, zb HB.out⟩
 ·replace c4 := Bool.eq_false_iff.mpr c4; subst c4
  have H1 : (some false) = some r := by rw [if_neg (show ¬ (false = true) by decide)] at H; exact H
  clear H; have H := H1; clear H1; obtain rfl := Option.some.inj H; go_enter Try.func28, Try.ntmps28
  go_wp2_with (first | ((with_reducible refine gd 2 ?_); refine zbx 25 #[.string a0_0, .string a0_1, .string a0_2, .slice A0_3 l0_3.length c0_3, .int .i64 a0_4] ?_; intro gb405 hg w16 hbox hb; have BK405 := z0 (hbox); have GE405 := zG hg HB; replace HB := zH HB hb; clear hb hbox hg; have hcz17 := zc5 BK405.out) | ((with_reducible refine gc 48 ?_); refine zL (some 6) Try.func48 #[.agg #[.string a0_0, .string a0_1, .string a0_2, .slice A0_3 l0_3.length c0_3, .int .i64 a0_4]] ?_; (with_reducible refine (impl_SieveOk.calls k a0_0 a0_1 a0_2 _ _ l0_3 a0_4 false _ (zC (Kd.C_below HR0_3.out HB.out)) HC0_3.out A3.out).mono ?_); rintro e w18 ⟨rfl, hb⟩; refine zv ?_; replace BK405 := zK BK405 hb; replace HB := zH HB hb; (try clear hb)))
  go_ret; exact ⟨ze, zb HB.out⟩
theorem spec_l3Walk.mono_l : ∀ k, (∀ y0 y1 y2 y3 y4 y5 y6 y7 y8, LeO (spec_l3Walk.l0 k y0 y1 y2 y3 y4 y5 y6 y7 y8) (spec_l3Walk.l0 (k + 1) y0 y1 y2 y3 y4 y5 y6 y7 y8)) ∧ (∀ y0 y1 y2 y3 y4 y5 y6 y7 y8 y9, LeO (spec_l3Walk.l1 k y0 y1 y2 y3 y4 y5 y6 y7 y8 y9) (spec_l3Walk.l1 (k + 1) y0 y1 y2 y3 y4 y5 y6 y7 y8 y9)) ∧ (∀ y0 y1 y2 y3 y4 y5 y6 y7 y8 y9 y10, LeO (spec_l3Walk.j2 k y0 y1 y2 y3 y4 y5 y6 y7 y8 y9 y10) (spec_l3Walk.j2 (k + 1) y0 y1 y2 y3 y4 y5 y6 y7 y8 y9 y10))
  | 0 => ⟨fun _ _ _ _ _ _ _ _ _ r h => by simp [spec_l3Walk.l0] at h, fun _ _ _ _ _ _ _ _ _ _ r h => by simp [spec_l3Walk.l1] at h, fun _ _ _ _ _ _ _ _ _ _ _ r h => by simp [spec_l3Walk.j2] at h⟩
  | k + 1 => by
    obtain ⟨ih0, ih1, ih2⟩ := spec_l3Walk.mono_l k
    refine ⟨?_, ?_, ?_⟩
    · intro y0 y1 y2 y3 y4 y5 y6 y7 y8
      unfold spec_l3Walk.l0
      repeat' first | (with_reducible first | apply ih0 | apply ih1 | apply ih2 | apply spec_l1One.mono | apply spec_l3Kids.mono | exact LeO.refl _ | exact LeO.none _ | refine LeO.ite ?_ ?_ | refine LeO.bind ?_ (fun _ => ?_)) | exact LeO.none _ | refine LeO.ite ?_ ?_ | refine LeO.bind ?_ (fun _ => ?_)
    · intro y0 y1 y2 y3 y4 y5 y6 y7 y8 y9
      unfold spec_l3Walk.l1
      repeat' first | (with_reducible first | apply ih0 | apply ih1 | apply ih2 | apply spec_l1One.mono | apply spec_l3Kids.mono | exact LeO.refl _ | exact LeO.none _ | refine LeO.ite ?_ ?_ | refine LeO.bind ?_ (fun _ => ?_)) | exact LeO.none _ | refine LeO.ite ?_ ?_ | refine LeO.bind ?_ (fun _ => ?_)
    · intro y0 y1 y2 y3 y4 y5 y6 y7 y8 y9 y10
      unfold spec_l3Walk.j2
      repeat' first | (with_reducible first | apply ih0 | apply ih1 | apply ih2 | apply spec_l1One.mono | apply spec_l3Kids.mono | exact LeO.refl _ | exact LeO.none _ | refine LeO.ite ?_ ?_ | refine LeO.bind ?_ (fun _ => ?_)) | exact LeO.none _ | refine LeO.ite ?_ ?_ | refine LeO.bind ?_ (fun _ => ?_)
theorem spec_l3Walk.mono : ∀ a0 a1 a2 a3 a4 a5 k, LeO (spec_l3Walk.f k a0 a1 a2 a3 a4 a5) (spec_l3Walk.f (k + 1) a0 a1 a2 a3 a4 a5) := by
  intro a0 a1 a2 a3 a4 a5 k
  obtain ⟨ih0, ih1, ih2⟩ := spec_l3Walk.mono_l k
  unfold spec_l3Walk.f
  repeat' first | (with_reducible first | apply ih0 | apply ih1 | apply ih2 | apply spec_l1One.mono | apply spec_l3Kids.mono | exact LeO.refl _ | exact LeO.none _ | refine LeO.ite ?_ ?_ | refine LeO.bind ?_ (fun _ => ?_)) | exact LeO.none _ | refine LeO.ite ?_ ?_ | refine LeO.bind ?_ (fun _ => ?_)
def spec_l3Walk.T8 : Bool × List (List Nat × List Nat) := (true, [([], []), ([0], [0]), ([], []), ([], []), ([3], [3]), ([1, 2, 4], [1, 2, 4]), ([], []), ([], []), ([6, 7], [6, 7]), ([5, 8], [5, 8])])
def spec_l3Walk.B8 : List Nat := [0, 1, 0, 0, 8, 31, 0, 0, 192, 511]
theorem spec_l3Walk.tab8 : rtab .any (opsOf Try.f69 8) = spec_l3Walk.T8 := by kernel_rfl
theorem spec_l3Walk.bits8 : waitsOk spec_l3Walk.T8.2 spec_l3Walk.B8 = true := by kernel_rfl
theorem spec_l3Walk.calls (k : Nat) (a0_0 a0_1 a0_2 : ByteArray) (A0_3 : Option Addr) (c0_3 : Nat) (l0_3 : List ByteArray) (a0_4 : Int) (a1 : ByteArray) (r1 r2 : Int) (r3 : Bool) (w : World) (hr0_3 : Kd.C Kd.string w A0_3 l0_3.length l0_3) (hc0_3 : l0_3.length ≤ c0_3) (h : spec_l3Walk.f k a0_0 a0_1 a0_2 l0_3 a0_4 a1 = some (r1, r2, r3)) :
    Calls Try.prog 69 #[.agg #[.string a0_0, .string a0_1, .string a0_2, .slice A0_3 l0_3.length c0_3, .int .i64 a0_4], .string a1] w fun e w' => e = .returned (.tuple #[.int .i64 r1, .int .i64 r2, .bool r3]) ∧ Below w.heap.size w w' := by
 have hu25 := Try.underlying25; have HR0_3 := z0 hr0_3; have HC0_3 := z0 hc0_3; clear hr0_3 hc0_3; have HB := z0 (Below.refl w.heap.size w); have H : ((spec_l1One.f k a0_2 1).bind fun t455 => (spec_l3Walk.l0 k a1 0 t455 0 a0_0 a0_1 a0_2 l0_3 a0_4)) = some (r1, r2, r3) := h; clear h; replace H := zi H; obtain ⟨t455, A3, H⟩ := H; have H' := z0 H; clear H; go_enter Try.func69, Try.ntmps69
 go_wp2_with (first | ((with_reducible refine gd 2 ?_); (try (refine gate_guard (by rfl) ?_; dsimp only)); refine zbx 25 #[.string a0_0, .string a0_1, .string a0_2, .slice A0_3 l0_3.length c0_3, .int .i64 a0_4] ?_; intro gb454 hg w4 hbox hb; have BK454 := z0 (hbox); have GE454 := zG hg HB; replace HB := zH HB hb; clear hb hbox hg; have hcz5 := zc5 BK454.out) | ((with_reducible refine gc 85 ?_); refine zL (some 14) Try.func85 #[.string a0_2, .int .i64 1] ?_; (with_reducible refine (spec_l1One.calls k a0_2 1 t455 _ A3.out).mono ?_); rintro e w' ⟨rfl, ⟨nd, rfl⟩⟩; refine ⟨_, rfl, ?_⟩))
 go_loopg [7, 8, 9] k (fun kq v7 v8 v9 w' => ∃ (x7_1 : Int) (x8_1 : Int) (x9_1 : Int), v7 = .int .i64 x7_1 ∧ v8 = .int .i64 x8_1 ∧ v9 = .int .i64 x9_1 ∧ Aside0 (spec_l3Walk.l0 kq a1 x7_1 x8_1 x9_1 a0_0 a0_1 a0_2 l0_3 a0_4 = some (r1, r2, r3)) ∧ Aside0 (kq ≤ k) ∧ Aside0 (w'.heap[gb454]? = some (.cells #[.string a0_0, .string a0_1, .string a0_2, (.slice A0_3 l0_3.length c0_3), .int .i64 a0_4] 25 (0, 0))) ∧ Aside0 (Below w.heap.size w w'))
 case atStart => exact ⟨(0), (t455), (0), zf, zf, zf, H', ⟨Nat.le_refl _⟩, ⟨zl BK454.out⟩, ⟨zb HB.out⟩⟩
 case round =>
  clear H'
  try clear p2
  try clear hcz5
  obtain ⟨x7_1, x8_1, x9_1, rfl, rfl, rfl, HA, HK1, BK454, HB⟩ := hrel
  cases gk with
  | zero => exact absurd HA.out (by simp [spec_l3Walk.l0])
  | succ k1 =>
   have H := HA.out; clear HA; simp only [spec_l3Walk.l0] at H; have H' := z0 H; clear H; go_wp2
   go_loopg [10, 11] k1 (fun kq v10 v11 w' => ∃ (x10_2 : Int) (x11_2 : Int), v10 = .int .i64 x10_2 ∧ v11 = .int .i64 x11_2 ∧ Aside0 (spec_l3Walk.l1 kq a1 x8_1 x9_1 x10_2 x11_2 a0_0 a0_1 a0_2 l0_3 a0_4 = some (r1, r2, r3)) ∧ Aside0 (kq ≤ k1) ∧ Aside0 (w'.heap[gb454]? = some (.cells #[.string a0_0, .string a0_1, .string a0_2, (.slice A0_3 l0_3.length c0_3), .int .i64 a0_4] 25 (0, 0))) ∧ Aside0 (Below w.heap.size w w'))
   case atStart => exact ⟨((-1)), (x7_1), zf, zf, H', ⟨Nat.le_refl _⟩, ⟨zl BK454.out⟩, ⟨zb HB.out⟩⟩
   case round =>
    clear H'
    try clear p2
    try clear hcz5
    try clear p2
    obtain ⟨x10_2, x11_2, rfl, rfl, HA, HK2, BK454, HB⟩ := hrel
    cases gk with
    | zero => exact absurd HA.out (by simp [spec_l3Walk.l1])
    | succ k2 =>
     have H := HA.out; clear HA; simp only [spec_l3Walk.l1] at H; have HC6 := z0 H; clear H
     go_upto_region 6 with (fail)
     go_cut [25] (fun v25 wc => ∃ (kq : Nat) (x25_5 : Bool), v25 = .bool x25_5 ∧ Aside0 (spec_l3Walk.j2 kq a1 x8_1 x9_1 x10_2 x11_2 x25_5 a0_0 a0_1 a0_2 l0_3 a0_4 = some (r1, r2, r3)) ∧ Aside0 (kq ≤ k2) ∧ Aside0 (wc.heap[gb454]? = some (.cells #[.string a0_0, .string a0_1, .string a0_2, (.slice A0_3 l0_3.length c0_3), .int .i64 a0_4] 25 (0, 0))) ∧ Aside0 (Below w.heap.size w wc))
     case first =>
      have H := HC6.out; clear HC6
      by_cases c7 : x11_2 < x8_1
      ·rw [if_pos c7] at H; have c7b0 := decide_eq_true c7; clear c7; (first | rw [c7b0] | (simp only [i64_w, i32_w]; rw [c7b0]) | simp only [*, Bool.not_true, Bool.not_false] | skip); have H' := z0 H; clear H; have hcz8 := zc5 BK454.out; go_wp2; go_meet
       case rel => exact ⟨_, (decide (x11_2 < (a0_0.size : Int))), zf, H', ⟨by have := HK1.out; have := HK2.out; first | omega | exact Nat.le_refl _⟩, ⟨zl BK454.out⟩, ⟨zb HB.out⟩⟩
      ·rw [if_neg c7] at H; have c7b0 := decide_eq_false c7; clear c7; (first | rw [c7b0] | (simp only [i64_w, i32_w]; rw [c7b0]) | simp only [*, Bool.not_true, Bool.not_false] | skip); have H' := z0 H; clear H; go_wp2; go_meet
       case rel => exact ⟨_, (false), zf, H', ⟨by have := HK1.out; have := HK2.out; first | omega | exact Nat.le_refl _⟩, ⟨zl BK454.out⟩, ⟨zb HB.out⟩⟩
     case rest =>
      clear HC6
      try clear p2
      try clear c6
      try clear c7
      try clear c7b0
      try clear c8
      try clear hcz5
      try clear hcz8
      try clear p2
      obtain ⟨kq, x25_5, rfl, HA, HJ5, BK454, HB⟩ := hcut
      cases kq with
      | zero => exact absurd HA.out (by simp [spec_l3Walk.j2])
      | succ kj5 =>
       have H := HA.out; clear HA; simp only [spec_l3Walk.j2] at H
       by_cases c9 : x25_5 = true
       ·subst c9
        have H1 : (if 0 ≤ x11_2 then (if x11_2 ≤ (wrap64 (x11_2 + 1)) then (if (wrap64 (x11_2 + 1)) ≤ (a0_0.size : Int) then ((spec_l3Letter.f a1 x9_1).bind fun t456 => (if (a0_0.extract (x11_2 : Int).toNat ((wrap64 (x11_2 + 1)) : Int).toNat).toList = t456.toList then (spec_l3Walk.l1 kj5 a1 x8_1 x9_1 x11_2 (wrap64 (x11_2 + 1)) a0_0 a0_1 a0_2 l0_3 a0_4) else (spec_l3Walk.l1 kj5 a1 x8_1 x9_1 x10_2 (wrap64 (x11_2 + 1)) a0_0 a0_1 a0_2 l0_3 a0_4))) else (none)) else (none)) else (none)) = some (r1, r2, r3) := by rw [if_pos rfl] at H; exact H
        clear H; have H := H1; clear H1; replace H := zn H; obtain ⟨c10, H⟩ := H; have c10b0 := eq_true c10; have c10b1 := decide_eq_true c10; clear c10; replace H := zn H; obtain ⟨c11, H⟩ := H; have c11b0 := eq_true c11; have c11b1 := decide_eq_true c11; replace H := zn H; obtain ⟨c12, H⟩ := H; have c12b0 := eq_true c12; have c12b1 := decide_eq_true c12; replace H := zi H; obtain ⟨t456, A13, H⟩ := H
        try go_wp2
        replace BK454 := z0 (blk_drew BK454.out); replace HB := z0 (below_drew1 HB.out); refine start_ (n := 10) (S := fun w' => w'.cell? ⟨gb454, 0, none⟩ = some (.string a0_0) ∧ w'.cell? ⟨gb454, 1, none⟩ = some (.string a0_1) ∧ w'.cell? ⟨gb454, 2, none⟩ = some (.string a0_2) ∧ w'.cell? ⟨gb454, 3, none⟩ = some (.slice A0_3 l0_3.length c0_3) ∧ w'.cell? ⟨gb454, 4, none⟩ = some (.int .i64 a0_4)) (ds := []) (fb 10 0) (by kernel_rfl) rfl rfl (zb5 BK454.out) (fun hHeld => ?_); refine with_tabW spec_l3Walk.tab8 spec_l3Walk.bits8 (fun HT_ HW_ => ?_); generalize wc.drew = w14 at BK454 HB hHeld ⊢; refine zu 0 1 ?_; refine zu 2 5 ?_; refine zu 3 13 ?_; refine zu 4 29 ?_; refine zu 6 93 ?_; refine zu 7 221 ?_; refine zx 1 223 hHeld ?_; refine zu 5 255 ?_; refine zone 8 511 (fun K hK => ?_); refine zG2 Try.func107 #[.string a1, .int .i64 x9_1] ?_
        with_reducible refine (spec_l3Letter.calls a1 x9_1 t456 _ A13.out).mono ?_
        rintro e w15 ⟨rfl, hb⟩; refine ⟨_, rfl, ?_⟩; replace BK454 := zK BK454 hb; replace HB := zH HB hb; (try clear hb); refine hK.out _ _ (zb5 BK454.out) (fun hHeld => ?_); clear hK K; refine znm ?_; refine zu 9 1023 ?_; refine done_ (done_of HT_.out (by kernel_rfl)) ?_
        go_upto_if 37 with (fail)
        by_cases c16 : (a0_0.extract (x11_2 : Int).toNat ((wrap64 (x11_2 + 1)) : Int).toNat).toList = t456.toList
        ·rw [if_pos c16] at H; have c16b0 : ((a0_0.extract (x11_2 : Int).toNat ((wrap64 (x11_2 + 1)) : Int).toNat).toList == t456.toList) = true := beq_iff_eq.mpr c16; have c16b1 : ((a0_0.extract (x11_2 : Int).toNat ((wrap64 (x11_2 + 1)) : Int).toNat).toList != t456.toList) = false := bne_eq_false_iff_eq.mpr c16; clear c16; (first | rw [c16b0] | (simp only [i64_w, i32_w]; rw [c16b0]) | simp only [*, Bool.not_true, Bool.not_false] | skip); have H' := z0 H; clear H; go_wp2; go_roundg kj5
         case measure => have := HK1.out; have := HK2.out; have := HJ5.out; omega
         case rel => exact ⟨(x11_2), (wrap64 (x11_2 + 1)), zf, zf, H', ⟨by have := HK1.out; have := HK2.out; have := HJ5.out; omega⟩, ⟨zl BK454.out⟩, ⟨zb HB.out⟩⟩
        ·rw [if_neg c16] at H; have c16b0 : ((a0_0.extract (x11_2 : Int).toNat ((wrap64 (x11_2 + 1)) : Int).toNat).toList == t456.toList) = false := beq_eq_false_iff_ne.mpr c16; have c16b1 : ((a0_0.extract (x11_2 : Int).toNat ((wrap64 (x11_2 + 1)) : Int).toNat).toList != t456.toList) = true := bne_iff_ne.mpr c16; (first | rw [c16b0] | (simp only [i64_w, i32_w]; rw [c16b0]) | simp only [*, Bool.not_true, Bool.not_false] | skip); have H' := z0 H; clear H; go_wp2; go_roundg kj5
         case measure => have := HK1.out; have := HK2.out; have := HJ5.out; omega
         case rel => exact ⟨(x10_2), (wrap64 (x11_2 + 1)), zf, zf, H', ⟨by have := HK1.out; have := HK2.out; have := HJ5.out; omega⟩, ⟨zl BK454.out⟩, ⟨zb HB.out⟩⟩
       ·replace c9 := Bool.eq_false_iff.mpr c9; subst c9
        have H1 : (if x10_2 < 0 then (some (0, 0, false)) else (if 0 ≤ x10_2 then (if x10_2 < (a0_1.size : Int) then (if (bt a0_1 x10_2) = 48 then (some (x10_2, mn (wrap64 (x9_1 + 1)) (a1.size : Int), true)) else ((spec_l3Kids.f kj5 a0_0 a0_1 a0_2 l0_3 a0_4 x10_2).bind fun bt457 => (spec_l3Walk.l0 kj5 a1 bt457.1 bt457.2 (wrap64 (x9_1 + 1)) a0_0 a0_1 a0_2 l0_3 a0_4))) else (none)) else (none))) = some (r1, r2, r3) := by rw [if_neg (show ¬ (false = true) by decide)] at H; exact H
        clear H; have H := H1; clear H1
        by_cases c17 : x10_2 < 0
        ·rw [if_pos c17] at H; have c17b0 := decide_eq_true c17; clear c17; simp only [Option.some.injEq, Prod.mk.injEq] at H; obtain ⟨rfl, rfl, rfl⟩ := H; go_wp2
         go_ret3
         exact ⟨ze, zb HB.out⟩
        ·rw [if_neg c17] at H; have c17b0 := decide_eq_false c17; clear c17; replace H := zn H; obtain ⟨c18, H⟩ := H; have c18b0 := decide_eq_true c18; clear c18; replace H := zn H; obtain ⟨c19, H⟩ := H; have c19b0 := decide_eq_true c19; clear c19
         by_cases c21 : (bt a0_1 x10_2) = 48
         ·rw [if_pos c21] at H; have c21b0 : ((bt a0_1 x10_2) == 48) = true := beq_iff_eq.mpr c21; have c21b1 : ((bt a0_1 x10_2) != 48) = false := bne_eq_false_iff_eq.mpr c21; clear c21; obtain ⟨ji22, hji22⟩ : ∃ j_ : Int, (mn (wrap64 (x9_1 + 1)) (a1.size : Int)) = j_ := ⟨_, rfl⟩
          replace H : (some (x10_2, ji22, true)) = some (r1, r2, r3) := by first | (rw [hji22] at H; exact H) | (simp only [hji22] at H ⊢; exact H)
          have hji22_ : (if (a1.size : Int) < (wrap64 (x9_1 + 1)) then (a1.size : Int) else (wrap64 (x9_1 + 1))) = ji22 := hji22; simp only [Option.some.injEq, Prod.mk.injEq] at H; obtain ⟨rfl, rfl, rfl⟩ := H; have hcz23 := zc5 BK454.out; have p20 : 0 ≤ (x10_2 : Int) := zd; have q20 : x10_2 < (a0_1.size : Int) := zd; have hx20 := bt_at a0_1 x10_2; replace p20 := eq_true p20; replace q20 := eq_true q20; go_wp2
          go_ret3
          exact ⟨by first | rfl | (simp [errW_none, errW_some] <;> rfl) | (simp only [← hji22]; first | rfl | (simp [errW_none, errW_some] <;> rfl)) | (simp [*, errW_none, errW_some] <;> rfl), zb HB.out⟩
         ·rw [if_neg c21] at H; have c21b0 : ((bt a0_1 x10_2) == 48) = false := beq_eq_false_iff_ne.mpr c21; have c21b1 : ((bt a0_1 x10_2) != 48) = true := bne_iff_ne.mpr c21; replace H := zi H; obtain ⟨⟨t457, t458⟩, A24, H⟩ := H; (try dsimp only at H); have H' := z0 H; clear H; have hcz25 := zc5 BK454.out; have p20 : 0 ≤ (x10_2 : Int) := zd; have q20 : x10_2 < (a0_1.size : Int) := zd; have hx20 := bt_at a0_1 x10_2; replace p20 := eq_true p20; replace q20 := eq_true q20
          go_wp2_with (first | ((with_reducible refine gc 108 ?_); refine zL (some 57) Try.func108 #[.agg #[.string a0_0, .string a0_1, .string a0_2, .slice A0_3 l0_3.length c0_3, .int .i64 a0_4], .int .i64 x10_2] ?_; (with_reducible refine (spec_l3Kids.calls kj5 a0_0 a0_1 a0_2 _ _ l0_3 a0_4 x10_2 t457 t458 _ (zC (Kd.C_below HR0_3.out HB.out)) HC0_3.out A24.out).mono ?_); rintro e w26 ⟨rfl, hb⟩; refine zv ?_; replace BK454 := zK BK454 hb; replace HB := zH HB hb; (try clear hb)))
          go_roundg kj5
          case measure => have := HK1.out; have := HK2.out; have := HJ5.out; omega
          case rel => exact ⟨(t457), (t458), (wrap64 (x9_1 + 1)), zf, zf, zf, H', ⟨by have := HK1.out; have := HK2.out; have := HJ5.out; omega⟩, ⟨zl BK454.out⟩, ⟨zb HB.out⟩⟩
theorem spec_SieveHas.mono_l : ∀ k, (∀ y0 y1 y2 y3 y4 y5 y6, LeO (spec_SieveHas.j0 k y0 y1 y2 y3 y4 y5 y6) (spec_SieveHas.j0 (k + 1) y0 y1 y2 y3 y4 y5 y6))
  | 0 => fun _ _ _ _ _ _ _ r h => by simp [spec_SieveHas.j0] at h
  | k + 1 => by
    have ih0 := spec_SieveHas.mono_l k
    · intro y0 y1 y2 y3 y4 y5 y6
      unfold spec_SieveHas.j0
      repeat' first | (with_reducible first | apply ih0 | apply spec_KeyOk.mono | apply spec_SieveOk.mono | apply spec_l1Ones.mono | apply spec_l3Walk.mono | apply spec_l3Whole.mono | exact LeO.refl _ | exact LeO.none _ | refine LeO.ite ?_ ?_ | refine LeO.bind ?_ (fun _ => ?_)) | exact LeO.none _ | refine LeO.ite ?_ ?_ | refine LeO.bind ?_ (fun _ => ?_)
theorem spec_SieveHas.mono : ∀ a0 a1 a2 a3 a4 a5 k, LeO (spec_SieveHas.f k a0 a1 a2 a3 a4 a5) (spec_SieveHas.f (k + 1) a0 a1 a2 a3 a4 a5) := by
  intro a0 a1 a2 a3 a4 a5 k
  have ih0 := spec_SieveHas.mono_l k
  unfold spec_SieveHas.f
  repeat' first | (with_reducible first | apply ih0 | apply spec_KeyOk.mono | apply spec_SieveOk.mono | apply spec_l1Ones.mono | apply spec_l3Walk.mono | apply spec_l3Whole.mono | exact LeO.refl _ | exact LeO.none _ | refine LeO.ite ?_ ?_ | refine LeO.bind ?_ (fun _ => ?_)) | exact LeO.none _ | refine LeO.ite ?_ ?_ | refine LeO.bind ?_ (fun _ => ?_)
theorem spec_SieveHas.calls (k : Nat) (a0_0 a0_1 a0_2 : ByteArray) (A0_3 : Option Addr) (c0_3 : Nat) (l0_3 : List ByteArray) (a0_4 : Int) (a1 : ByteArray) (r : Bool) (w : World) (hr0_3 : Kd.C Kd.string w A0_3 l0_3.length l0_3) (hc0_3 : l0_3.length ≤ c0_3) (h : spec_SieveHas.f k a0_0 a0_1 a0_2 l0_3 a0_4 a1 = some r) :
    Calls Try.prog 29 #[.agg #[.string a0_0, .string a0_1, .string a0_2, .slice A0_3 l0_3.length c0_3, .int .i64 a0_4], .string a1] w fun e w' => e = .returned (.bool r) ∧ Below w.heap.size w w' := by
 have hu25 := Try.underlying25; have HR0_3 := z0 hr0_3; have HC0_3 := z0 hc0_3; clear hr0_3 hc0_3; have HB := z0 (Below.refl w.heap.size w); have H : ((spec_SieveOk.f k a0_0 a0_1 a0_2 l0_3 a0_4).bind fun t463 => (if t463 = true then ((spec_KeyOk.f k a1).bind fun t464 => (if t464 = true then (spec_SieveHas.j0 k a1 ((a0_0.size : Int) == 0) a0_0 a0_1 a0_2 l0_3 a0_4) else (spec_SieveHas.j0 k a1 true a0_0 a0_1 a0_2 l0_3 a0_4))) else (spec_SieveHas.j0 k a1 true a0_0 a0_1 a0_2 l0_3 a0_4))) = some r := h; clear h; have HC3 := z0 H; clear H; go_enter Try.func29, Try.ntmps29
 go_upto_region 1 with (first | ((with_reducible refine gd 2 ?_); (try (refine gate_guard (by rfl) ?_; dsimp only)); refine zbx 25 #[.string a0_0, .string a0_1, .string a0_2, .slice A0_3 l0_3.length c0_3, .int .i64 a0_4] ?_; intro gb462 hg w4 hbox hb; have BK462 := z0 (hbox); have GE462 := zG hg HB; replace HB := zH HB hb; clear hb hbox hg))
 repeat (go_quiet (first | ((with_reducible refine gd 2 ?_); (try (refine gate_guard (by rfl) ?_; dsimp only)); refine zbx 25 #[.string a0_0, .string a0_1, .string a0_2, .slice A0_3 l0_3.length c0_3, .int .i64 a0_4] ?_; intro gb462 hg w4 hbox hb; have BK462 := z0 (hbox); have GE462 := zG hg HB; replace HB := zH HB hb; clear hb hbox hg)); go_upto_region 1 with (first | ((with_reducible refine gd 2 ?_); (try (refine gate_guard (by rfl) ?_; dsimp only)); refine zbx 25 #[.string a0_0, .string a0_1, .string a0_2, .slice A0_3 l0_3.length c0_3, .int .i64 a0_4] ?_; intro gb462 hg w4 hbox hb; have BK462 := z0 (hbox); have GE462 := zG hg HB; replace HB := zH HB hb; clear hb hbox hg)))
 (try simp only [Act.put, List.setIfInBounds_toArray, List.set_cons_zero, List.set_cons_succ])
 go_cut [22] (fun v22 wc => ∃ (kq : Nat) (x22_2 : Bool), v22 = .bool x22_2 ∧ Aside0 (spec_SieveHas.j0 kq a1 x22_2 a0_0 a0_1 a0_2 l0_3 a0_4 = some r) ∧ Aside0 (kq ≤ k) ∧ Aside0 (wc.heap[gb462]? = some (.cells #[.string a0_0, .string a0_1, .string a0_2, (.slice A0_3 l0_3.length c0_3), .int .i64 a0_4] 25 (0, 0))) ∧ Aside0 (Below w.heap.size w wc))
 case first =>
  have H := HC3.out; clear HC3; replace H := zi H; obtain ⟨t463, A5, H⟩ := H
  by_cases c6 : t463 = true
  ·subst c6
   have H1 : ((spec_KeyOk.f k a1).bind fun t464 => (if t464 = true then (spec_SieveHas.j0 k a1 ((a0_0.size : Int) == 0) a0_0 a0_1 a0_2 l0_3 a0_4) else (spec_SieveHas.j0 k a1 true a0_0 a0_1 a0_2 l0_3 a0_4))) = some r := by rw [if_pos rfl] at H; exact H
   clear H; have H := H1; clear H1; replace H := zi H; obtain ⟨t464, A7, H⟩ := H
   by_cases c8 : t464 = true
   ·subst c8
    have H1 : (spec_SieveHas.j0 k a1 ((a0_0.size : Int) == 0) a0_0 a0_1 a0_2 l0_3 a0_4) = some r := by rw [if_pos rfl] at H; exact H
    clear H; have H := H1; clear H1; have H' := z0 H; clear H; have hcz9 := zc5 BK462.out
    go_wp2_with (first | (go_at_call 46; (with_reducible refine (spec_SieveOk.calls k a0_0 a0_1 a0_2 _ _ l0_3 a0_4 true _ ?side1 ?side2 A5.out).mono ?_); (case side1 => repeat (first | exact (Kd.C_below HR0_3.out HB.out) | (with_reducible refine Kd.C_alloc ?_ _) | (with_reducible refine Kd.C_drewN ?_ _) | (with_reducible refine Kd.C_drew ?_))); (case side2 => exact HC0_3.out); rintro e w10 ⟨rfl, hb⟩; replace BK462 := zK BK462 hb; replace HB := zH HB hb; (try clear hb)) | (go_at_call 31; (with_reducible refine (spec_KeyOk.calls k a1 true _ A7.out).mono ?_); rintro e w' ⟨rfl, ⟨nd, rfl⟩⟩; (try exact zdd); have hcz11 := zc5 BK462.out))
    repeat (go_quiet (first | (go_at_call 46; (with_reducible refine (spec_SieveOk.calls k a0_0 a0_1 a0_2 _ _ l0_3 a0_4 true _ ?side1 ?side2 A5.out).mono ?_); (case side1 => repeat (first | exact (Kd.C_below HR0_3.out HB.out) | (with_reducible refine Kd.C_alloc ?_ _) | (with_reducible refine Kd.C_drewN ?_ _) | (with_reducible refine Kd.C_drew ?_))); (case side2 => exact HC0_3.out); rintro e w10 ⟨rfl, hb⟩; replace BK462 := zK BK462 hb; replace HB := zH HB hb; (try clear hb)) | (go_at_call 31; (with_reducible refine (spec_KeyOk.calls k a1 true _ A7.out).mono ?_); rintro e w' ⟨rfl, ⟨nd, rfl⟩⟩; (try exact zdd); have hcz11 := zc5 BK462.out)); try go_wp2_with (first | (go_at_call 46; (with_reducible refine (spec_SieveOk.calls k a0_0 a0_1 a0_2 _ _ l0_3 a0_4 true _ ?side1 ?side2 A5.out).mono ?_); (case side1 => repeat (first | exact (Kd.C_below HR0_3.out HB.out) | (with_reducible refine Kd.C_alloc ?_ _) | (with_reducible refine Kd.C_drewN ?_ _) | (with_reducible refine Kd.C_drew ?_))); (case side2 => exact HC0_3.out); rintro e w10 ⟨rfl, hb⟩; replace BK462 := zK BK462 hb; replace HB := zH HB hb; (try clear hb)) | (go_at_call 31; (with_reducible refine (spec_KeyOk.calls k a1 true _ A7.out).mono ?_); rintro e w' ⟨rfl, ⟨nd, rfl⟩⟩; (try exact zdd); have hcz11 := zc5 BK462.out)))
    go_meet
    case rel => exact ⟨_, (((a0_0.size : Int) == 0)), zf, H', ⟨by first | omega | exact Nat.le_refl _⟩, ⟨zl BK462.out⟩, ⟨zb HB.out⟩⟩
   ·replace c8 := Bool.eq_false_iff.mpr c8; subst c8
    have H1 : (spec_SieveHas.j0 k a1 true a0_0 a0_1 a0_2 l0_3 a0_4) = some r := by rw [if_neg (show ¬ (false = true) by decide)] at H; exact H
    clear H; have H := H1; clear H1; have H' := z0 H; clear H; have hcz12 := zc5 BK462.out
    go_wp2_with (first | (go_at_call 46; (with_reducible refine (spec_SieveOk.calls k a0_0 a0_1 a0_2 _ _ l0_3 a0_4 true _ ?side1 ?side2 A5.out).mono ?_); (case side1 => repeat (first | exact (Kd.C_below HR0_3.out HB.out) | (with_reducible refine Kd.C_alloc ?_ _) | (with_reducible refine Kd.C_drewN ?_ _) | (with_reducible refine Kd.C_drew ?_))); (case side2 => exact HC0_3.out); rintro e w13 ⟨rfl, hb⟩; replace BK462 := zK BK462 hb; replace HB := zH HB hb; (try clear hb)) | (go_at_call 31; (with_reducible refine (spec_KeyOk.calls k a1 false _ A7.out).mono ?_); rintro e w' ⟨rfl, ⟨nd, rfl⟩⟩; (try exact zdd)))
    repeat (go_quiet (first | (go_at_call 46; (with_reducible refine (spec_SieveOk.calls k a0_0 a0_1 a0_2 _ _ l0_3 a0_4 true _ ?side1 ?side2 A5.out).mono ?_); (case side1 => repeat (first | exact (Kd.C_below HR0_3.out HB.out) | (with_reducible refine Kd.C_alloc ?_ _) | (with_reducible refine Kd.C_drewN ?_ _) | (with_reducible refine Kd.C_drew ?_))); (case side2 => exact HC0_3.out); rintro e w13 ⟨rfl, hb⟩; replace BK462 := zK BK462 hb; replace HB := zH HB hb; (try clear hb)) | (go_at_call 31; (with_reducible refine (spec_KeyOk.calls k a1 false _ A7.out).mono ?_); rintro e w' ⟨rfl, ⟨nd, rfl⟩⟩; (try exact zdd))); try go_wp2_with (first | (go_at_call 46; (with_reducible refine (spec_SieveOk.calls k a0_0 a0_1 a0_2 _ _ l0_3 a0_4 true _ ?side1 ?side2 A5.out).mono ?_); (case side1 => repeat (first | exact (Kd.C_below HR0_3.out HB.out) | (with_reducible refine Kd.C_alloc ?_ _) | (with_reducible refine Kd.C_drewN ?_ _) | (with_reducible refine Kd.C_drew ?_))); (case side2 => exact HC0_3.out); rintro e w13 ⟨rfl, hb⟩; replace BK462 := zK BK462 hb; replace HB := zH HB hb; (try clear hb)) | (go_at_call 31; (with_reducible refine (spec_KeyOk.calls k a1 false _ A7.out).mono ?_); rintro e w' ⟨rfl, ⟨nd, rfl⟩⟩; (try exact zdd))))
    go_meet
    case rel => exact ⟨_, (true), zf, H', ⟨by first | omega | exact Nat.le_refl _⟩, ⟨zl BK462.out⟩, ⟨zb HB.out⟩⟩
  ·replace c6 := Bool.eq_false_iff.mpr c6; subst c6
   have H1 : (spec_SieveHas.j0 k a1 true a0_0 a0_1 a0_2 l0_3 a0_4) = some r := by rw [if_neg (show ¬ (false = true) by decide)] at H; exact H
   clear H; have H := H1; clear H1; have H' := z0 H; clear H; have hcz14 := zc5 BK462.out
   go_wp2_with (first | (go_at_call 46; (with_reducible refine (spec_SieveOk.calls k a0_0 a0_1 a0_2 _ _ l0_3 a0_4 false _ ?side1 ?side2 A5.out).mono ?_); (case side1 => repeat (first | exact (Kd.C_below HR0_3.out HB.out) | (with_reducible refine Kd.C_alloc ?_ _) | (with_reducible refine Kd.C_drewN ?_ _) | (with_reducible refine Kd.C_drew ?_))); (case side2 => exact HC0_3.out); rintro e w15 ⟨rfl, hb⟩; replace BK462 := zK BK462 hb; replace HB := zH HB hb; (try clear hb)))
   repeat (go_quiet (first | (go_at_call 46; (with_reducible refine (spec_SieveOk.calls k a0_0 a0_1 a0_2 _ _ l0_3 a0_4 false _ ?side1 ?side2 A5.out).mono ?_); (case side1 => repeat (first | exact (Kd.C_below HR0_3.out HB.out) | (with_reducible refine Kd.C_alloc ?_ _) | (with_reducible refine Kd.C_drewN ?_ _) | (with_reducible refine Kd.C_drew ?_))); (case side2 => exact HC0_3.out); rintro e w15 ⟨rfl, hb⟩; replace BK462 := zK BK462 hb; replace HB := zH HB hb; (try clear hb))); try go_wp2_with (first | (go_at_call 46; (with_reducible refine (spec_SieveOk.calls k a0_0 a0_1 a0_2 _ _ l0_3 a0_4 false _ ?side1 ?side2 A5.out).mono ?_); (case side1 => repeat (first | exact (Kd.C_below HR0_3.out HB.out) | (with_reducible refine Kd.C_alloc ?_ _) | (with_reducible refine Kd.C_drewN ?_ _) | (with_reducible refine Kd.C_drew ?_))); (case side2 => exact HC0_3.out); rintro e w15 ⟨rfl, hb⟩; replace BK462 := zK BK462 hb; replace HB := zH HB hb; (try clear hb))))
   go_meet
   case rel => exact ⟨_, (true), zf, H', ⟨by first | omega | exact Nat.le_refl _⟩, ⟨zl BK462.out⟩, ⟨zb HB.out⟩⟩
 case rest =>
  clear HC3
  try clear c2
  try clear p2
  try clear c6
  try clear c8
  try clear hcz11
  try clear hcz12
  try clear hcz14
  try clear hcz9
  obtain ⟨kq, x22_2, rfl, HA, HJ2, BK462, HB⟩ := hcut
  cases kq with
  | zero => exact absurd HA.out (by simp [spec_SieveHas.j0])
  | succ kj2 =>
   have H := HA.out; clear HA; simp only [spec_SieveHas.j0] at H
   by_cases c16 : x22_2 = true
   ·subst c16
    have H1 : (some false) = some r := by rw [if_pos rfl] at H; exact H
    clear H; have H := H1; clear H1; obtain rfl := Option.some.inj H; go_wp2
    repeat (go_quiet (fail); try go_wp2)
    go_ret; exact ⟨ze, zb HB.out⟩
   ·replace c16 := Bool.eq_false_iff.mpr c16; subst c16
    have H1 : ((spec_l3Walk.f kj2 a0_0 a0_1 a0_2 l0_3 a0_4 a1).bind fun bt465 => (if bt465.2.2 = true then ((spec_l1Ones.f kj2 a0_1 bt465.1).bind fun t468 => (if 0 ≤ (wrap64 (bt465.1 - t468)) then (if (wrap64 (bt465.1 - t468)) < (l0_3.length : Int) then ((spec_l3Whole.f kj2 a0_0 a0_1 a0_2 l0_3 a0_4 bt465.1).bind fun t470 => (if t470 = true then (if 0 ≤ bt465.2.1 then (if bt465.2.1 ≤ (a1.size : Int) then (some ((a1.extract (bt465.2.1 : Int).toNat a1.size).toList == (rdOf ByteArray.empty l0_3 (wrap64 (bt465.1 - t468))).toList)) else (none)) else (none)) else (if 0 ≤ bt465.2.1 then (if bt465.2.1 ≤ (a1.size : Int) then ((spec_KeyBegins.f (a1.extract (bt465.2.1 : Int).toNat a1.size) (rdOf ByteArray.empty l0_3 (wrap64 (bt465.1 - t468)))).bind fun t471 => (some t471)) else (none)) else (none)))) else (none)) else (none))) else (some false))) = some r := by rw [if_neg (show ¬ (false = true) by decide)] at H; exact H
    clear H; have H := H1; clear H1; replace H := zi H; obtain ⟨⟨t465, t466, t467⟩, A17, H⟩ := H; (try dsimp only at H)
    by_cases c18 : t467 = true
    ·subst c18
     have H1 : ((spec_l1Ones.f kj2 a0_1 t465).bind fun t468 => (if 0 ≤ (wrap64 (t465 - t468)) then (if (wrap64 (t465 - t468)) < (l0_3.length : Int) then ((spec_l3Whole.f kj2 a0_0 a0_1 a0_2 l0_3 a0_4 t465).bind fun t470 => (if t470 = true then (if 0 ≤ t466 then (if t466 ≤ (a1.size : Int) then (some ((a1.extract (t466 : Int).toNat a1.size).toList == (rdOf ByteArray.empty l0_3 (wrap64 (t465 - t468))).toList)) else (none)) else (none)) else (if 0 ≤ t466 then (if t466 ≤ (a1.size : Int) then ((spec_KeyBegins.f (a1.extract (t466 : Int).toNat a1.size) (rdOf ByteArray.empty l0_3 (wrap64 (t465 - t468)))).bind fun t471 => (some t471)) else (none)) else (none)))) else (none)) else (none))) = some r := by rw [if_pos rfl] at H; exact H
     clear H; have H := H1; clear H1; replace H := zi H; obtain ⟨t468, A19, H⟩ := H; obtain ⟨ji20, hji20⟩ : ∃ j_ : Int, (wrap64 (t465 - t468)) = j_ := ⟨_, rfl⟩
     replace H : (if 0 ≤ (ji20) then (if (ji20) < (l0_3.length : Int) then ((spec_l3Whole.f kj2 a0_0 a0_1 a0_2 l0_3 a0_4 t465).bind fun t470 => (if t470 = true then (if 0 ≤ t466 then (if t466 ≤ (a1.size : Int) then (some ((a1.extract (t466 : Int).toNat a1.size).toList == (rdOf ByteArray.empty l0_3 (ji20)).toList)) else (none)) else (none)) else (if 0 ≤ t466 then (if t466 ≤ (a1.size : Int) then ((spec_KeyBegins.f (a1.extract (t466 : Int).toNat a1.size) (rdOf ByteArray.empty l0_3 (ji20))).bind fun t471 => (some t471)) else (none)) else (none)))) else (none)) else (none)) = some r := by first | (rw [hji20] at H; exact H) | (simp only [hji20] at H ⊢; exact H)
     (try rw [hji20] at A17); (try rw [hji20] at A19); have hji20w : (IntKind.i64.wrap (t465 - t468)) = ji20 := (i64_w _).trans hji20; replace H := zn H; obtain ⟨c21, H⟩ := H; have c21b0 := decide_eq_true c21; clear c21; replace H := zn H; obtain ⟨c22, H⟩ := H; have c22b0 := decide_eq_true c22; clear c22; replace H := zi H; obtain ⟨t470, A23, H⟩ := H
     by_cases c24 : t470 = true
     ·subst c24
      have H1 : (if 0 ≤ t466 then (if t466 ≤ (a1.size : Int) then (some ((a1.extract (t466 : Int).toNat a1.size).toList == (rdOf ByteArray.empty l0_3 (ji20)).toList)) else (none)) else (none)) = some r := by rw [if_pos rfl] at H; exact H
      clear H; have H := H1; clear H1; replace H := zn H; obtain ⟨c25, H⟩ := H; have c25b0 := eq_true c25; have c25b1 := decide_eq_true c25; clear c25; replace H := zn H; obtain ⟨c26, H⟩ := H; have c26b0 := eq_true c26; have c26b1 := decide_eq_true c26; clear c26; obtain rfl := Option.some.inj H; have hcz27 := zc5 BK462.out
      go_wp2_with (first | (go_at_call 69; (with_reducible refine (spec_l3Walk.calls kj2 a0_0 a0_1 a0_2 _ _ l0_3 a0_4 a1 t465 t466 true _ ?side1 ?side2 A17.out).mono ?_); (case side1 => repeat (first | exact (Kd.C_below HR0_3.out HB.out) | (with_reducible refine Kd.C_alloc ?_ _) | (with_reducible refine Kd.C_drewN ?_ _) | (with_reducible refine Kd.C_drew ?_))); (case side2 => exact HC0_3.out); rintro e w28 ⟨rfl, hb⟩; replace BK462 := zK BK462 hb; replace HB := zH HB hb; (try clear hb); have hcz29 := zc5 BK462.out) | (go_at_call 70; (with_reducible refine (spec_l1Ones.calls kj2 a0_1 t465 t468 _ A19.out).mono ?_); rintro e w' ⟨rfl, ⟨nd, rfl⟩⟩; (try exact zdd); have p469 : 0 ≤ ((ji20) : Int) := zd; have q469 : (ji20) < (l0_3.length : Int) := zd; obtain ⟨ad469, e469, hx469_0⟩ := Kd.at_string HR0_3.out (ji20) p469 q469; cases e469; replace hx469_0 := (HB.out.cell (World.block_lt_of_cell? w _ hx469_0)).trans hx469_0; replace p469 := eq_true p469; replace q469 := eq_true q469) | (go_at_call 71; (with_reducible refine (spec_l3Whole.calls kj2 a0_0 a0_1 a0_2 _ _ l0_3 a0_4 t465 true _ ?side1 ?side2 A23.out).mono ?_); (case side1 => repeat (first | exact (Kd.C_below HR0_3.out (zb HB.out)) | (with_reducible refine Kd.C_alloc ?_ _) | (with_reducible refine Kd.C_drewN ?_ _) | (with_reducible refine Kd.C_drew ?_))); (case side2 => exact HC0_3.out); rintro e w30 ⟨rfl, hb⟩; replace BK462 := zK BK462 hb; replace HB := zH HB hb; (try clear hb)))
      repeat (go_quiet (first | (go_at_call 69; (with_reducible refine (spec_l3Walk.calls kj2 a0_0 a0_1 a0_2 _ _ l0_3 a0_4 a1 t465 t466 true _ ?side1 ?side2 A17.out).mono ?_); (case side1 => repeat (first | exact (Kd.C_below HR0_3.out HB.out) | (with_reducible refine Kd.C_alloc ?_ _) | (with_reducible refine Kd.C_drewN ?_ _) | (with_reducible refine Kd.C_drew ?_))); (case side2 => exact HC0_3.out); rintro e w28 ⟨rfl, hb⟩; replace BK462 := zK BK462 hb; replace HB := zH HB hb; (try clear hb); have hcz29 := zc5 BK462.out) | (go_at_call 70; (with_reducible refine (spec_l1Ones.calls kj2 a0_1 t465 t468 _ A19.out).mono ?_); rintro e w' ⟨rfl, ⟨nd, rfl⟩⟩; (try exact zdd); have p469 : 0 ≤ ((ji20) : Int) := zd; have q469 : (ji20) < (l0_3.length : Int) := zd; obtain ⟨ad469, e469, hx469_0⟩ := Kd.at_string HR0_3.out (ji20) p469 q469; cases e469; replace hx469_0 := (HB.out.cell (World.block_lt_of_cell? w _ hx469_0)).trans hx469_0; replace p469 := eq_true p469; replace q469 := eq_true q469) | (go_at_call 71; (with_reducible refine (spec_l3Whole.calls kj2 a0_0 a0_1 a0_2 _ _ l0_3 a0_4 t465 true _ ?side1 ?side2 A23.out).mono ?_); (case side1 => repeat (first | exact (Kd.C_below HR0_3.out (zb HB.out)) | (with_reducible refine Kd.C_alloc ?_ _) | (with_reducible refine Kd.C_drewN ?_ _) | (with_reducible refine Kd.C_drew ?_))); (case side2 => exact HC0_3.out); rintro e w30 ⟨rfl, hb⟩; replace BK462 := zK BK462 hb; replace HB := zH HB hb; (try clear hb))); try go_wp2_with (first | (go_at_call 69; (with_reducible refine (spec_l3Walk.calls kj2 a0_0 a0_1 a0_2 _ _ l0_3 a0_4 a1 t465 t466 true _ ?side1 ?side2 A17.out).mono ?_); (case side1 => repeat (first | exact (Kd.C_below HR0_3.out HB.out) | (with_reducible refine Kd.C_alloc ?_ _) | (with_reducible refine Kd.C_drewN ?_ _) | (with_reducible refine Kd.C_drew ?_))); (case side2 => exact HC0_3.out); rintro e w28 ⟨rfl, hb⟩; replace BK462 := zK BK462 hb; replace HB := zH HB hb; (try clear hb); have hcz29 := zc5 BK462.out) | (go_at_call 70; (with_reducible refine (spec_l1Ones.calls kj2 a0_1 t465 t468 _ A19.out).mono ?_); rintro e w' ⟨rfl, ⟨nd, rfl⟩⟩; (try exact zdd); have p469 : 0 ≤ ((ji20) : Int) := zd; have q469 : (ji20) < (l0_3.length : Int) := zd; obtain ⟨ad469, e469, hx469_0⟩ := Kd.at_string HR0_3.out (ji20) p469 q469; cases e469; replace hx469_0 := (HB.out.cell (World.block_lt_of_cell? w _ hx469_0)).trans hx469_0; replace p469 := eq_true p469; replace q469 := eq_true q469) | (go_at_call 71; (with_reducible refine (spec_l3Whole.calls kj2 a0_0 a0_1 a0_2 _ _ l0_3 a0_4 t465 true _ ?side1 ?side2 A23.out).mono ?_); (case side1 => repeat (first | exact (Kd.C_below HR0_3.out (zb HB.out)) | (with_reducible refine Kd.C_alloc ?_ _) | (with_reducible refine Kd.C_drewN ?_ _) | (with_reducible refine Kd.C_drew ?_))); (case side2 => exact HC0_3.out); rintro e w30 ⟨rfl, hb⟩; replace BK462 := zK BK462 hb; replace HB := zH HB hb; (try clear hb))))
      go_ret; exact ⟨by first | rfl | (simp [errW_none, errW_some] <;> rfl) | (simp only [← hji20]; first | rfl | (simp [errW_none, errW_some] <;> rfl)) | (simp [*, errW_none, errW_some] <;> rfl), zb HB.out⟩
     ·replace c24 := Bool.eq_false_iff.mpr c24; subst c24
      have H1 : (if 0 ≤ t466 then (if t466 ≤ (a1.size : Int) then ((spec_KeyBegins.f (a1.extract (t466 : Int).toNat a1.size) (rdOf ByteArray.empty l0_3 (ji20))).bind fun t471 => (some t471)) else (none)) else (none)) = some r := by rw [if_neg (show ¬ (false = true) by decide)] at H; exact H
      clear H; have H := H1; clear H1; replace H := zn H; obtain ⟨c31, H⟩ := H; have c31b0 := eq_true c31; have c31b1 := decide_eq_true c31; clear c31; replace H := zn H; obtain ⟨c32, H⟩ := H; have c32b0 := eq_true c32; have c32b1 := decide_eq_true c32; clear c32; replace H := zi H; obtain ⟨t471, A33, H⟩ := H; obtain rfl := Option.some.inj H; have hcz34 := zc5 BK462.out
      go_wp2_with (first | (go_at_call 69; (with_reducible refine (spec_l3Walk.calls kj2 a0_0 a0_1 a0_2 _ _ l0_3 a0_4 a1 t465 t466 true _ ?side1 ?side2 A17.out).mono ?_); (case side1 => repeat (first | exact (Kd.C_below HR0_3.out HB.out) | (with_reducible refine Kd.C_alloc ?_ _) | (with_reducible refine Kd.C_drewN ?_ _) | (with_reducible refine Kd.C_drew ?_))); (case side2 => exact HC0_3.out); rintro e w35 ⟨rfl, hb⟩; replace BK462 := zK BK462 hb; replace HB := zH HB hb; (try clear hb); have hcz36 := zc5 BK462.out) | (go_at_call 70; (with_reducible refine (spec_l1Ones.calls kj2 a0_1 t465 t468 _ A19.out).mono ?_); rintro e w' ⟨rfl, ⟨nd, rfl⟩⟩; (try exact zdd); have p469 : 0 ≤ ((ji20) : Int) := zd; have q469 : (ji20) < (l0_3.length : Int) := zd; obtain ⟨ad469, e469, hx469_0⟩ := Kd.at_string HR0_3.out (ji20) p469 q469; cases e469; replace hx469_0 := (HB.out.cell (World.block_lt_of_cell? w _ hx469_0)).trans hx469_0; replace p469 := eq_true p469; replace q469 := eq_true q469) | (go_at_call 71; (with_reducible refine (spec_l3Whole.calls kj2 a0_0 a0_1 a0_2 _ _ l0_3 a0_4 t465 false _ ?side1 ?side2 A23.out).mono ?_); (case side1 => repeat (first | exact (Kd.C_below HR0_3.out (zb HB.out)) | (with_reducible refine Kd.C_alloc ?_ _) | (with_reducible refine Kd.C_drewN ?_ _) | (with_reducible refine Kd.C_drew ?_))); (case side2 => exact HC0_3.out); rintro e w37 ⟨rfl, hb⟩; replace BK462 := zK BK462 hb; replace HB := zH HB hb; (try clear hb)) | (go_at_call 72; (with_reducible refine (spec_KeyBegins.calls (a1.extract (t466 : Int).toNat a1.size) (rdOf ByteArray.empty l0_3 (ji20)) t471 _ A33.out).mono ?_); rintro e w' ⟨rfl, ⟨nd, rfl⟩⟩; (try exact zdd)))
      repeat (go_quiet (first | (go_at_call 69; (with_reducible refine (spec_l3Walk.calls kj2 a0_0 a0_1 a0_2 _ _ l0_3 a0_4 a1 t465 t466 true _ ?side1 ?side2 A17.out).mono ?_); (case side1 => repeat (first | exact (Kd.C_below HR0_3.out HB.out) | (with_reducible refine Kd.C_alloc ?_ _) | (with_reducible refine Kd.C_drewN ?_ _) | (with_reducible refine Kd.C_drew ?_))); (case side2 => exact HC0_3.out); rintro e w35 ⟨rfl, hb⟩; replace BK462 := zK BK462 hb; replace HB := zH HB hb; (try clear hb); have hcz36 := zc5 BK462.out) | (go_at_call 70; (with_reducible refine (spec_l1Ones.calls kj2 a0_1 t465 t468 _ A19.out).mono ?_); rintro e w' ⟨rfl, ⟨nd, rfl⟩⟩; (try exact zdd); have p469 : 0 ≤ ((ji20) : Int) := zd; have q469 : (ji20) < (l0_3.length : Int) := zd; obtain ⟨ad469, e469, hx469_0⟩ := Kd.at_string HR0_3.out (ji20) p469 q469; cases e469; replace hx469_0 := (HB.out.cell (World.block_lt_of_cell? w _ hx469_0)).trans hx469_0; replace p469 := eq_true p469; replace q469 := eq_true q469) | (go_at_call 71; (with_reducible refine (spec_l3Whole.calls kj2 a0_0 a0_1 a0_2 _ _ l0_3 a0_4 t465 false _ ?side1 ?side2 A23.out).mono ?_); (case side1 => repeat (first | exact (Kd.C_below HR0_3.out (zb HB.out)) | (with_reducible refine Kd.C_alloc ?_ _) | (with_reducible refine Kd.C_drewN ?_ _) | (with_reducible refine Kd.C_drew ?_))); (case side2 => exact HC0_3.out); rintro e w37 ⟨rfl, hb⟩; replace BK462 := zK BK462 hb; replace HB := zH HB hb; (try clear hb)) | (go_at_call 72; (with_reducible refine (spec_KeyBegins.calls (a1.extract (t466 : Int).toNat a1.size) (rdOf ByteArray.empty l0_3 (ji20)) t471 _ A33.out).mono ?_); rintro e w' ⟨rfl, ⟨nd, rfl⟩⟩; (try exact zdd))); try go_wp2_with (first | (go_at_call 69; (with_reducible refine (spec_l3Walk.calls kj2 a0_0 a0_1 a0_2 _ _ l0_3 a0_4 a1 t465 t466 true _ ?side1 ?side2 A17.out).mono ?_); (case side1 => repeat (first | exact (Kd.C_below HR0_3.out HB.out) | (with_reducible refine Kd.C_alloc ?_ _) | (with_reducible refine Kd.C_drewN ?_ _) | (with_reducible refine Kd.C_drew ?_))); (case side2 => exact HC0_3.out); rintro e w35 ⟨rfl, hb⟩; replace BK462 := zK BK462 hb; replace HB := zH HB hb; (try clear hb); have hcz36 := zc5 BK462.out) | (go_at_call 70; (with_reducible refine (spec_l1Ones.calls kj2 a0_1 t465 t468 _ A19.out).mono ?_); rintro e w' ⟨rfl, ⟨nd, rfl⟩⟩; (try exact zdd); have p469 : 0 ≤ ((ji20) : Int) := zd; have q469 : (ji20) < (l0_3.length : Int) := zd; obtain ⟨ad469, e469, hx469_0⟩ := Kd.at_string HR0_3.out (ji20) p469 q469; cases e469; replace hx469_0 := (HB.out.cell (World.block_lt_of_cell? w _ hx469_0)).trans hx469_0; replace p469 := eq_true p469; replace q469 := eq_true q469) | (go_at_call 71; (with_reducible refine (spec_l3Whole.calls kj2 a0_0 a0_1 a0_2 _ _ l0_3 a0_4 t465 false _ ?side1 ?side2 A23.out).mono ?_); (case side1 => repeat (first | exact (Kd.C_below HR0_3.out (zb HB.out)) | (with_reducible refine Kd.C_alloc ?_ _) | (with_reducible refine Kd.C_drewN ?_ _) | (with_reducible refine Kd.C_drew ?_))); (case side2 => exact HC0_3.out); rintro e w37 ⟨rfl, hb⟩; replace BK462 := zK BK462 hb; replace HB := zH HB hb; (try clear hb)) | (go_at_call 72; (with_reducible refine (spec_KeyBegins.calls (a1.extract (t466 : Int).toNat a1.size) (rdOf ByteArray.empty l0_3 (ji20)) t471 _ A33.out).mono ?_); rintro e w' ⟨rfl, ⟨nd, rfl⟩⟩; (try exact zdd))))
      go_ret; exact ⟨by first | rfl | (simp [errW_none, errW_some] <;> rfl) | (simp only [← hji20]; first | rfl | (simp [errW_none, errW_some] <;> rfl)) | (simp [*, errW_none, errW_some] <;> rfl), zb HB.out⟩
    ·replace c18 := Bool.eq_false_iff.mpr c18; subst c18
     have H1 : (some false) = some r := by rw [if_neg (show ¬ (false = true) by decide)] at H; exact H
     clear H; have H := H1; clear H1; obtain rfl := Option.some.inj H; have hcz38 := zc5 BK462.out
     go_wp2_with (first | (go_at_call 69; (with_reducible refine (spec_l3Walk.calls kj2 a0_0 a0_1 a0_2 _ _ l0_3 a0_4 a1 t465 t466 false _ ?side1 ?side2 A17.out).mono ?_); (case side1 => repeat (first | exact (Kd.C_below HR0_3.out HB.out) | (with_reducible refine Kd.C_alloc ?_ _) | (with_reducible refine Kd.C_drewN ?_ _) | (with_reducible refine Kd.C_drew ?_))); (case side2 => exact HC0_3.out); rintro e w39 ⟨rfl, hb⟩; replace BK462 := zK BK462 hb; replace HB := zH HB hb; (try clear hb)))
     repeat (go_quiet (first | (go_at_call 69; (with_reducible refine (spec_l3Walk.calls kj2 a0_0 a0_1 a0_2 _ _ l0_3 a0_4 a1 t465 t466 false _ ?side1 ?side2 A17.out).mono ?_); (case side1 => repeat (first | exact (Kd.C_below HR0_3.out HB.out) | (with_reducible refine Kd.C_alloc ?_ _) | (with_reducible refine Kd.C_drewN ?_ _) | (with_reducible refine Kd.C_drew ?_))); (case side2 => exact HC0_3.out); rintro e w39 ⟨rfl, hb⟩; replace BK462 := zK BK462 hb; replace HB := zH HB hb; (try clear hb))); try go_wp2_with (first | (go_at_call 69; (with_reducible refine (spec_l3Walk.calls kj2 a0_0 a0_1 a0_2 _ _ l0_3 a0_4 a1 t465 t466 false _ ?side1 ?side2 A17.out).mono ?_); (case side1 => repeat (first | exact (Kd.C_below HR0_3.out HB.out) | (with_reducible refine Kd.C_alloc ?_ _) | (with_reducible refine Kd.C_drewN ?_ _) | (with_reducible refine Kd.C_drew ?_))); (case side2 => exact HC0_3.out); rintro e w39 ⟨rfl, hb⟩; replace BK462 := zK BK462 hb; replace HB := zH HB hb; (try clear hb))))
     go_ret; exact ⟨ze, zb HB.out⟩
theorem impl_SieveHeads.mono : ∀ a0 a1 a2 a3 a4 k, LeO (impl_SieveHeads.f k a0 a1 a2 a3 a4) (impl_SieveHeads.f (k + 1) a0 a1 a2 a3 a4) := by
  intro a0 a1 a2 a3 a4 k
  unfold impl_SieveHeads.f
  repeat' first | (with_reducible first | apply impl_Sieve_heads.mono | apply impl_texts.mono | exact LeO.refl _ | exact LeO.none _ | refine LeO.ite ?_ ?_ | refine LeO.bind ?_ (fun _ => ?_)) | exact LeO.none _ | refine LeO.ite ?_ ?_ | refine LeO.bind ?_ (fun _ => ?_)
theorem impl_SieveHeads.calls (k : Nat) (a0_0 a0_1 a0_2 : ByteArray) (A0_3 : Option Addr) (c0_3 : Nat) (l0_3 : List ByteArray) (a0_4 : Int) (r : List ByteArray) (w : World) (hr0_3 : Kd.C Kd.string w A0_3 l0_3.length l0_3) (hc0_3 : l0_3.length ≤ c0_3) (h : impl_SieveHeads.f k a0_0 a0_1 a0_2 l0_3 a0_4 = some r) :
    Calls Try.prog 41 #[.agg #[.string a0_0, .string a0_1, .string a0_2, .slice A0_3 l0_3.length c0_3, .int .i64 a0_4]] w fun e w' => ∃ v0_ : Value, e = .returned (v0_) ∧ Kd.R Kd.string 9 w' w.heap.size (fun _ => True) v0_ r ∧ Below w.heap.size w w' := by
 have hu25 := Try.underlying25; have HR0_3 := z0 hr0_3; have HC0_3 := z0 hc0_3; clear hr0_3 hc0_3; have HB := z0 (Below.refl w.heap.size w); have H : ((impl_Sieve_heads.f k a0_0 a0_1 a0_2 l0_3 a0_4).bind fun bt870 => ((impl_texts.f k bt870.1).bind fun t874 => (some t874))) = some r := h; clear h; replace H := zi H; obtain ⟨⟨t870, t873⟩, A2, H⟩ := H; (try dsimp only at H); replace H := zi H; obtain ⟨t874, A3, H⟩ := H; obtain rfl := Option.some.inj H; go_enter Try.func41, Try.ntmps41
 go_wp2_with (first | ((with_reducible refine gd 1 ?_); refine zbx 25 #[.string a0_0, .string a0_1, .string a0_2, .slice A0_3 l0_3.length c0_3, .int .i64 a0_4] ?_; intro gb869 hg w4 hbox hb; have BK869 := z0 (hbox); have GE869 := zG hg HB; replace HB := zH HB hb; clear hb hbox hg; have hcz5 := zc5 BK869.out) | ((with_reducible refine gc 89 ?_); refine zL (some 7) Try.func89 #[.agg #[.string a0_0, .string a0_1, .string a0_2, .slice A0_3 l0_3.length c0_3, .int .i64 a0_4]] ?_; (with_reducible refine (impl_Sieve_heads.calls k a0_0 a0_1 a0_2 _ _ l0_3 a0_4 t870 t873 _ (zC (Kd.C_below HR0_3.out HB.out)) HC0_3.out A2.out).mono ?_); rintro e w6 ⟨v871, rfl, ho0, hb⟩; refine zv ?_; have HO872 := z0 (Kd.R_lower ho0 (below_size (zb HB.out))); replace BK869 := zK BK869 hb; replace HB := zH HB hb; (try clear hb ho0); obtain ⟨Ao7, co7, eo7⟩ := Kd.R_slice HO872.out; subst eo7) | ((with_reducible refine gc 90 ?_); refine zL (some 11) Try.func90 #[.slice Ao7 t870.length co7] ?_; (with_reducible refine (impl_texts.calls k _ _ t870 t874 _ (zC ((Kd.R_reads' HO872.out).2.2)) ((Kd.R_reads' HO872.out).2.1) A3.out).mono ?_); rintro e w8 ⟨v875, rfl, ho0, hb⟩; refine zv ?_; replace HO872 := zA HO872 hb; have HO876 := z0 (Kd.R_lower ho0 (below_size (zb HB.out))); replace BK869 := zK BK869 hb; replace HB := zH HB hb; (try clear hb ho0)))
 go_ret; exact ⟨_, ze, zr HO876.out, zb HB.out⟩
theorem laws_ltIn.mono_l : ∀ k, (∀ y0 y1 y2, LeO (laws_ltIn.l0 k y0 y1 y2) (laws_ltIn.l0 (k + 1) y0 y1 y2))
  | 0 => fun _ _ _ r h => by simp [laws_ltIn.l0] at h
  | k + 1 => by
    have ih0 := laws_ltIn.mono_l k
    · intro y0 y1 y2
      unfold laws_ltIn.l0
      repeat' first | (with_reducible first | apply ih0 | exact LeO.refl _ | exact LeO.none _ | refine LeO.ite ?_ ?_ | refine LeO.bind ?_ (fun _ => ?_)) | exact LeO.none _ | refine LeO.ite ?_ ?_ | refine LeO.bind ?_ (fun _ => ?_)
theorem laws_ltIn.mono : ∀ a0 a1 k, LeO (laws_ltIn.f k a0 a1) (laws_ltIn.f (k + 1) a0 a1) := by
  intro a0 a1 k
  have ih0 := laws_ltIn.mono_l k
  unfold laws_ltIn.f
  repeat' first | (with_reducible first | apply ih0 | exact LeO.refl _ | exact LeO.none _ | refine LeO.ite ?_ ?_ | refine LeO.bind ?_ (fun _ => ?_)) | exact LeO.none _ | refine LeO.ite ?_ ?_ | refine LeO.bind ?_ (fun _ => ?_)
theorem laws_ltIn.calls (k : Nat) (A0 : Option Addr) (c0 : Nat) (l0 : List ByteArray) (a1 : ByteArray) (r : Bool) (w : World) (hr0 : Kd.C Kd.string w A0 l0.length l0) (hc0 : l0.length ≤ c0) (h : laws_ltIn.f k l0 a1 = some r) :
    Calls Try.prog 50 #[.slice A0 l0.length c0, .string a1] w fun e w' => e = .returned (.bool r) ∧ Drawn0 w w' := by
 have HR0 := z0 hr0; have HC0 := z0 hc0; clear hr0 hc0; have H : (laws_ltIn.l0 k l0 a1 0) = some r := h; clear h; have H' := z0 H; clear H; go_enter Try.func50, Try.ntmps50; go_wp2
 go_loopg [5] k (fun kq v5 w' => ∃ (x5_1 : Int), v5 = .int .i64 x5_1 ∧ Aside0 (laws_ltIn.l0 kq l0 a1 x5_1 = some r) ∧ Aside0 (kq ≤ k) ∧ Drawn0 w w')
 case atStart => exact ⟨(0), zf, H', ⟨Nat.le_refl _⟩, by repeat (first | exact Drawn0.refl _ | apply Drawn0.step)⟩
 case round =>
  clear H'
  try clear p2
  obtain ⟨x5_1, rfl, HA, HK1, ⟨m1, rfl⟩⟩ := hrel
  cases gk with
  | zero => exact absurd HA.out (by simp [laws_ltIn.l0])
  | succ k1 =>
   have H := HA.out; clear HA; simp only [laws_ltIn.l0] at H
   by_cases c3 : x5_1 < (l0.length : Int)
   ·rw [if_pos c3] at H; have c3b0 := decide_eq_true c3; clear c3; replace H := zn H; obtain ⟨c4, H⟩ := H; have c4b0 := decide_eq_true c4; clear c4
    by_cases c5 : (rdOf ByteArray.empty l0 x5_1).toList = a1.toList
    ·rw [if_pos c5] at H; have c5b0 : ((rdOf ByteArray.empty l0 x5_1).toList == a1.toList) = true := beq_iff_eq.mpr c5; have c5b1 : ((rdOf ByteArray.empty l0 x5_1).toList != a1.toList) = false := bne_eq_false_iff_eq.mpr c5; clear c5; obtain rfl := Option.some.inj H; have p1056 : 0 ≤ (x5_1 : Int) := zd; have q1056 : x5_1 < (l0.length : Int) := zd; obtain ⟨ad1056, e1056, hx1056_0⟩ := Kd.at_string HR0.out x5_1 p1056 q1056; cases e1056; replace p1056 := eq_true p1056; replace q1056 := eq_true q1056; go_wp2; go_ret; exact ⟨zf, by repeat (first | exact Drawn0.refl _ | apply Drawn0.step)⟩
    ·rw [if_neg c5] at H; have c5b0 : ((rdOf ByteArray.empty l0 x5_1).toList == a1.toList) = false := beq_eq_false_iff_ne.mpr c5; have c5b1 : ((rdOf ByteArray.empty l0 x5_1).toList != a1.toList) = true := bne_iff_ne.mpr c5; have H' := z0 H; clear H; have p1056 : 0 ≤ (x5_1 : Int) := zd; have q1056 : x5_1 < (l0.length : Int) := zd; obtain ⟨ad1056, e1056, hx1056_0⟩ := Kd.at_string HR0.out x5_1 p1056 q1056; cases e1056; replace p1056 := eq_true p1056; replace q1056 := eq_true q1056; go_wp2; go_roundg k1
     case measure => have := HK1.out; omega
     case rel => exact ⟨(wrap64 (x5_1 + 1)), zf, H', ⟨by have := HK1.out; omega⟩, by repeat (first | exact Drawn0.refl _ | apply Drawn0.step)⟩
   ·rw [if_neg c3] at H; have c3b0 := decide_eq_false c3; clear c3; obtain rfl := Option.some.inj H; go_wp2; go_ret; exact ⟨zf, by repeat (first | exact Drawn0.refl _ | apply Drawn0.step)⟩
theorem laws_FnSieveHas.mono_l : ∀ k, (∀ y0 y1 y2 y3 y4 y5 y6 y7, LeO (laws_FnSieveHas.j0 k y0 y1 y2 y3 y4 y5 y6 y7) (laws_FnSieveHas.j0 (k + 1) y0 y1 y2 y3 y4 y5 y6 y7)) ∧ (∀ y0 y1 y2 y3 y4, LeO (laws_FnSieveHas.l0 k y0 y1 y2 y3 y4) (laws_FnSieveHas.l0 (k + 1) y0 y1 y2 y3 y4))
  | 0 => ⟨fun _ _ _ _ _ _ _ _ r h => by simp [laws_FnSieveHas.j0] at h, fun _ _ _ _ _ r h => by simp [laws_FnSieveHas.l0] at h⟩
  | k + 1 => by
    obtain ⟨ih0, ih1⟩ := laws_FnSieveHas.mono_l k
    refine ⟨?_, ?_⟩
    · intro y0 y1 y2 y3 y4 y5 y6 y7
      unfold laws_FnSieveHas.j0
      repeat' first | (with_reducible first | apply ih0 | apply ih1 | apply impl_SieveHas.mono | apply impl_SieveHeads.mono | apply laws_ltIn.mono | apply spec_DrawSieveHas.mono | apply spec_KeyOk.mono | apply spec_SieveHas.mono | apply spec_SieveOk.mono | exact LeO.refl _ | exact LeO.none _ | refine LeO.ite ?_ ?_ | refine LeO.bind ?_ (fun _ => ?_)) | exact LeO.none _ | refine LeO.ite ?_ ?_ | refine LeO.bind ?_ (fun _ => ?_)
    · intro y0 y1 y2 y3 y4
      unfold laws_FnSieveHas.l0
      repeat' first | (with_reducible first | apply ih0 | apply ih1 | apply impl_SieveHas.mono | apply impl_SieveHeads.mono | apply laws_ltIn.mono | apply spec_DrawSieveHas.mono | apply spec_KeyOk.mono | apply spec_SieveHas.mono | apply spec_SieveOk.mono | exact LeO.refl _ | exact LeO.none _ | refine LeO.ite ?_ ?_ | refine LeO.bind ?_ (fun _ => ?_)) | exact LeO.none _ | refine LeO.ite ?_ ?_ | refine LeO.bind ?_ (fun _ => ?_)
theorem laws_FnSieveHas.mono : ∀ a0 k, LeO (laws_FnSieveHas.f k a0) (laws_FnSieveHas.f (k + 1) a0) := by
  intro a0 k
  obtain ⟨ih0, ih1⟩ := laws_FnSieveHas.mono_l k
  unfold laws_FnSieveHas.f
  repeat' first | (with_reducible first | apply ih0 | apply ih1 | apply impl_SieveHas.mono | apply impl_SieveHeads.mono | apply laws_ltIn.mono | apply spec_DrawSieveHas.mono | apply spec_KeyOk.mono | apply spec_SieveHas.mono | apply spec_SieveOk.mono | exact LeO.refl _ | exact LeO.none _ | refine LeO.ite ?_ ?_ | refine LeO.bind ?_ (fun _ => ?_)) | exact LeO.none _ | refine LeO.ite ?_ ?_ | refine LeO.bind ?_ (fun _ => ?_)
theorem laws_FnSieveHas.calls (k : Nat) (A0 : Option Addr) (c0 : Nat) (l0 : List Int) (r : Bool) (w : World) (hr0 : Kd.C (Kd.int .u8) w A0 l0.length l0) (hc0 : l0.length ≤ c0) (h : laws_FnSieveHas.f k l0 = some r) :
    Calls Try.prog 24 #[.slice A0 l0.length c0] w fun e w' => e = .returned (.bool r) ∧ Below w.heap.size w w' := by
 have hu25 := Try.underlying25; have HR0 := z0 hr0; have HC0 := z0 hc0; clear hr0 hc0; have HB := z0 (Below.refl w.heap.size w); have H : (if (l0.length : Int) > 1048576 then (some true) else ((spec_DrawSieveHas.f k l0).bind fun bt1527 => ((impl_SieveHas.f k bt1527.1 bt1527.2.1 bt1527.2.2.1 bt1527.2.2.2.1 bt1527.2.2.2.2.1 bt1527.2.2.2.2.2).bind fun t1536 => ((spec_SieveHas.f k bt1527.1 bt1527.2.1 bt1527.2.2.1 bt1527.2.2.2.1 bt1527.2.2.2.2.1 bt1527.2.2.2.2.2).bind fun t1537 => (if (t1536 != t1537) = true then (laws_FnSieveHas.j0 k bt1527.2.2.2.2.2 t1536 true bt1527.1 bt1527.2.1 bt1527.2.2.1 bt1527.2.2.2.1 bt1527.2.2.2.2.1) else ((spec_SieveOk.f k bt1527.1 bt1527.2.1 bt1527.2.2.1 bt1527.2.2.2.1 bt1527.2.2.2.2.1).bind fun t1538 => (if t1538 = true then ((spec_KeyOk.f k bt1527.2.2.2.2.2).bind fun t1539 => (laws_FnSieveHas.j0 k bt1527.2.2.2.2.2 t1536 (!t1539) bt1527.1 bt1527.2.1 bt1527.2.2.1 bt1527.2.2.2.1 bt1527.2.2.2.2.1)) else (laws_FnSieveHas.j0 k bt1527.2.2.2.2.2 t1536 true bt1527.1 bt1527.2.1 bt1527.2.2.1 bt1527.2.2.2.1 bt1527.2.2.2.2.1)))))))) = some r := h; clear h
 by_cases c2 : (l0.length : Int) > 1048576
 ·rw [if_pos c2] at H; have c2b0 : decide (1048576 < (l0.length : Int)) = true := decide_eq_true c2; have c2b1 : decide (1048576 < l0.length) = true := decide_eq_true (by omega); clear c2; obtain rfl := Option.some.inj H; go_enter Try.func24, Try.ntmps24; go_wp2; go_ret; exact ⟨ze, zb HB.out⟩
 ·rw [if_neg c2] at H; have c2b0 : decide (1048576 < (l0.length : Int)) = false := decide_eq_false c2; have c2b1 : decide (1048576 < l0.length) = false := decide_eq_false (by omega); clear c2; replace H := zi H; obtain ⟨⟨t1527, t1528, t1529, t1530, t1533, t1534⟩, A3, H⟩ := H; (try dsimp only at H); replace H := zi H; obtain ⟨t1536, A4, H⟩ := H; have HC5 := z0 H; clear H; go_enter Try.func24, Try.ntmps24
  go_upto_region 5 with (first | ((with_reducible refine gc 27 ?_); refine zL (some 14) Try.func27 #[.slice A0 l0.length c0] ?_; (with_reducible refine (spec_DrawSieveHas.calls k _ _ l0 t1527 t1528 t1529 t1530 t1533 t1534 _ (zC HR0.out) HC0.out A3.out).mono ?_); rintro e w6 ⟨v1531, rfl, ho0, hb⟩; refine zv ?_; have HO1532 := z0 (Kd.R_lower ho0 (below_size (zb HB.out))); replace HB := zH HB hb; (try clear hb ho0)) | ((with_reducible refine gd 3 ?_); refine zbx 25 #[.string ⟨#[]⟩, .string ⟨#[]⟩, .string ⟨#[]⟩, .slice none 0 0, .int .i64 0] ?_; intro gb1535 hg w7 hbox hb; replace HO1532 := zA HO1532 hb; have BK1535 := z0 (hbox); have GE1535 := zG hg HB; replace HB := zH HB hb; clear hb hbox hg; have hcz8 := zc5 BK1535.out; obtain ⟨Ao9, co9, eo9⟩ := Kd.R_slice HO1532.out; subst eo9) | ((with_reducible refine gc 28 ?_); refine zL (some 19) Try.func28 #[.agg #[.string t1527, .string t1528, .string t1529, .slice Ao9 t1530.length co9, .int .i64 t1533], .string t1534] ?_; (with_reducible refine (impl_SieveHas.calls k t1527 t1528 t1529 _ _ t1530 t1533 t1534 t1536 _ ?side1 ((Kd.R_reads' HO1532.out).2.1) A4.out).mono ?_); (case side1 => refine (Kd.R_reads' (e := 9) (base := w.heap.size) (ok := fun k_ => True) (n := t1530.length) (c := co9) ?_).2.2; exact (zs HO1532.out BK1535.out)); rintro e w10 ⟨rfl, hb⟩; refine zv ?_; replace HO1532 := zAs HO1532 BK1535 hb; replace BK1535 := z0 (blk_below (zpc BK1535.out #[.string t1527, .string t1528, .string t1529, .slice Ao9 t1530.length co9, .int .i64 t1533]) hb); replace HB := zH HB hb; (try clear hb)))
  (try simp only [Act.put, List.setIfInBounds_toArray, List.set_cons_zero, List.set_cons_succ])
  go_cut [34] (fun v34 wc => ∃ (kq : Nat) (x34_4 : Bool), v34 = .bool x34_4 ∧ Aside0 (laws_FnSieveHas.j0 kq t1534 t1536 x34_4 t1527 t1528 t1529 t1530 t1533 = some r) ∧ Aside0 (kq ≤ k) ∧ Aside0 (Kd.R Kd.string 9 wc w.heap.size (fun _ => True) (.slice Ao9 t1530.length co9) t1530) ∧ Aside0 (wc.heap[gb1535]? = some (.cells #[.string t1527, .string t1528, .string t1529, (.slice Ao9 t1530.length co9), .int .i64 t1533] 25 (0, 0))) ∧ Aside0 (Below w.heap.size w wc))
  case first =>
   have H := HC5.out; clear HC5; replace H := zi H; obtain ⟨t1537, A11, H⟩ := H
   by_cases c12 : (t1536 != t1537) = true
   ·rw [if_pos c12] at H; have c12b0 : (t1536 != t1537) = true := c12; (try (have c12b1 : decide (t1536 = t1537) = false := by simpa using c12)); (try (have c12b2 : (t1536 == t1537) = false := by simpa using c12)); (try (have c12b3 : ¬ (t1536 = t1537) := by simpa using c12)); clear c12; (first | rw [c12b0] | (simp only [i64_w, i32_w]; rw [c12b0]) | simp only [*, Bool.not_true, Bool.not_false] | skip); have H' := z0 H; clear H; have hcz13 := zc5 BK1535.out
    go_wp2_with (first | ((with_reducible refine gc 29 ?_); refine zL (some 23) Try.func29 #[.agg #[.string t1527, .string t1528, .string t1529, .slice Ao9 t1530.length co9, .int .i64 t1533], .string t1534] ?_; (with_reducible refine (spec_SieveHas.calls k t1527 t1528 t1529 _ _ t1530 t1533 t1534 t1537 _ (zC ((Kd.R_reads' HO1532.out).2.2)) ((Kd.R_reads' HO1532.out).2.1) A11.out).mono ?_); rintro e w14 ⟨rfl, hb⟩; refine zv ?_; replace HO1532 := zA HO1532 hb; replace BK1535 := zK BK1535 hb; replace HB := zH HB hb; (try clear hb)))
    go_meet
    case rel => exact ⟨_, (true), zf, H', ⟨by first | omega | exact Nat.le_refl _⟩, ⟨zr HO1532.out⟩, ⟨zl BK1535.out⟩, ⟨zb HB.out⟩⟩
   ·rw [if_neg c12] at H
    have c12b0 : (t1536 != t1537) = false := by simpa using c12
    (try (have c12b1 : decide (t1536 = t1537) = true := by simpa using c12)); (try (have c12b2 : (t1536 == t1537) = true := by simpa using c12)); clear c12; (first | rw [c12b0] | (simp only [i64_w, i32_w]; rw [c12b0]) | simp only [*, Bool.not_true, Bool.not_false] | skip); replace H := zi H; obtain ⟨t1538, A15, H⟩ := H
    by_cases c16 : t1538 = true
    ·subst c16
     have H1 : ((spec_KeyOk.f k t1534).bind fun t1539 => (laws_FnSieveHas.j0 k t1534 t1536 (!t1539) t1527 t1528 t1529 t1530 t1533)) = some r := by rw [if_pos rfl] at H; exact H
     clear H; have H := H1; clear H1; replace H := zi H; obtain ⟨t1539, A17, H⟩ := H; have H' := z0 H; clear H; have hcz18 := zc5 BK1535.out
     go_wp2_with (first | ((with_reducible refine gc 29 ?_); refine zL (some 23) Try.func29 #[.agg #[.string t1527, .string t1528, .string t1529, .slice Ao9 t1530.length co9, .int .i64 t1533], .string t1534] ?_; (with_reducible refine (spec_SieveHas.calls k t1527 t1528 t1529 _ _ t1530 t1533 t1534 t1537 _ (zC ((Kd.R_reads' HO1532.out).2.2)) ((Kd.R_reads' HO1532.out).2.1) A11.out).mono ?_); rintro e w19 ⟨rfl, hb⟩; refine zv ?_; replace HO1532 := zA HO1532 hb; replace BK1535 := zK BK1535 hb; replace HB := zH HB hb; (try clear hb); have hcz20 := zc5 BK1535.out) | (go_at_call 46; (with_reducible refine (spec_SieveOk.calls k t1527 t1528 t1529 _ _ t1530 t1533 true _ ?side1 ?side2 A15.out).mono ?_); (case side1 => repeat (first | exact (Kd.R_reads' HO1532.out).2.2 | (with_reducible refine Kd.C_alloc ?_ _) | (with_reducible refine Kd.C_drewN ?_ _) | (with_reducible refine Kd.C_drew ?_))); (case side2 => exact (Kd.R_reads' HO1532.out).2.1); rintro e w21 ⟨rfl, hb⟩; replace HO1532 := zA HO1532 hb; replace BK1535 := zK BK1535 hb; replace HB := zH HB hb; (try clear hb)) | (go_at_call 31; (with_reducible refine (spec_KeyOk.calls k t1534 t1539 _ A17.out).mono ?_); rintro e w' ⟨rfl, ⟨nd, rfl⟩⟩))
     go_meet
     case rel => exact ⟨_, (!t1539), zf, H', ⟨by first | omega | exact Nat.le_refl _⟩, ⟨zr HO1532.out⟩, ⟨zl BK1535.out⟩, ⟨zb HB.out⟩⟩
    ·replace c16 := Bool.eq_false_iff.mpr c16; subst c16
     have H1 : (laws_FnSieveHas.j0 k t1534 t1536 true t1527 t1528 t1529 t1530 t1533) = some r := by rw [if_neg (show ¬ (false = true) by decide)] at H; exact H
     clear H; have H := H1; clear H1; have H' := z0 H; clear H; have hcz22 := zc5 BK1535.out
     go_wp2_with (first | ((with_reducible refine gc 29 ?_); refine zL (some 23) Try.func29 #[.agg #[.string t1527, .string t1528, .string t1529, .slice Ao9 t1530.length co9, .int .i64 t1533], .string t1534] ?_; (with_reducible refine (spec_SieveHas.calls k t1527 t1528 t1529 _ _ t1530 t1533 t1534 t1537 _ (zC ((Kd.R_reads' HO1532.out).2.2)) ((Kd.R_reads' HO1532.out).2.1) A11.out).mono ?_); rintro e w23 ⟨rfl, hb⟩; refine zv ?_; replace HO1532 := zA HO1532 hb; replace BK1535 := zK BK1535 hb; replace HB := zH HB hb; (try clear hb); have hcz24 := zc5 BK1535.out) | (go_at_call 46; (with_reducible refine (spec_SieveOk.calls k t1527 t1528 t1529 _ _ t1530 t1533 false _ ?side1 ?side2 A15.out).mono ?_); (case side1 => repeat (first | exact (Kd.R_reads' HO1532.out).2.2 | (with_reducible refine Kd.C_alloc ?_ _) | (with_reducible refine Kd.C_drewN ?_ _) | (with_reducible refine Kd.C_drew ?_))); (case side2 => exact (Kd.R_reads' HO1532.out).2.1); rintro e w25 ⟨rfl, hb⟩; replace HO1532 := zA HO1532 hb; replace BK1535 := zK BK1535 hb; replace HB := zH HB hb; (try clear hb)))
     go_meet
     case rel => exact ⟨_, (true), zf, H', ⟨by first | omega | exact Nat.le_refl _⟩, ⟨zr HO1532.out⟩, ⟨zl BK1535.out⟩, ⟨zb HB.out⟩⟩
  case rest =>
   clear HC5
   try clear c1
   try clear c2
   try clear c2b0
   try clear c2b1
   try clear p2
   try clear c12
   try clear c12b0
   try clear c12b1
   try clear c12b2
   try clear c16
   try clear c24
   try clear hcz13
   try clear hcz18
   try clear hcz20
   try clear hcz22
   try clear hcz24
   try clear hcz8
   obtain ⟨kq, x34_4, rfl, HA, HJ4, HO_1536003, BK1535, HB⟩ := hcut
   cases kq with
   | zero => exact absurd HA.out (by simp [laws_FnSieveHas.j0])
   | succ kj4 =>
    have H := HA.out; clear HA; simp only [laws_FnSieveHas.j0] at H
    by_cases c26 : x34_4 = true
    ·subst c26
     have H1 : ((spec_SieveHas.f kj4 t1527 t1528 t1529 t1530 t1533 t1534).bind fun t1540 => (some (t1536 == t1540))) = some r := by rw [if_pos rfl] at H; exact H
     clear H; have H := H1; clear H1; replace H := zi H; obtain ⟨t1540, A27, H⟩ := H; obtain rfl := Option.some.inj H; have hcz28 := zc5 BK1535.out
     go_wp2_with (first | ((with_reducible refine gc 29 ?_); refine zL (some 38) Try.func29 #[.agg #[.string t1527, .string t1528, .string t1529, .slice Ao9 t1530.length co9, .int .i64 t1533], .string t1534] ?_; (with_reducible refine (spec_SieveHas.calls kj4 t1527 t1528 t1529 _ _ t1530 t1533 t1534 t1540 _ (zC ((Kd.R_reads' HO_1536003.out).2.2)) ((Kd.R_reads' HO_1536003.out).2.1) A27.out).mono ?_); rintro e w29 ⟨rfl, hb⟩; refine zv ?_; replace HO_1536003 := zA HO_1536003 hb; replace BK1535 := zK BK1535 hb; replace HB := zH HB hb; (try clear hb)))
     go_ret; exact ⟨ze, zb HB.out⟩
    ·replace c26 := Bool.eq_false_iff.mpr c26; subst c26
     have H1 : ((impl_SieveHeads.f kj4 t1527 t1528 t1529 t1530 t1533).bind fun t1541 => (laws_FnSieveHas.l0 kj4 t1534 t1536 t1541 false 0)) = some r := by rw [if_neg (show ¬ (false = true) by decide)] at H; exact H
     clear H; have H := H1; clear H1; replace H := zi H; obtain ⟨t1541, A30, H⟩ := H; have H' := z0 H; clear H; have hcz31 := zc5 BK1535.out
     go_wp2_with (first | ((with_reducible refine gc 41 ?_); refine zL (some 41) Try.func41 #[.agg #[.string t1527, .string t1528, .string t1529, .slice Ao9 t1530.length co9, .int .i64 t1533]] ?_; (with_reducible refine (impl_SieveHeads.calls kj4 t1527 t1528 t1529 _ _ t1530 t1533 t1541 _ (zC ((Kd.R_reads' HO_1536003.out).2.2)) ((Kd.R_reads' HO_1536003.out).2.1) A30.out).mono ?_); rintro e w32 ⟨v1542, rfl, ho0, hb⟩; refine zv ?_; have HO1543 := z0 (Kd.R_lower (Kd.R_new' ho0 (Kd.R_lt (zr HO_1536003.out))) (below_size (zb HB.out))); replace HO_1536003 := z0 (Kd.R_elder' (zr HO_1536003.out) (Kd.R_base ho0) hb); replace BK1535 := zK BK1535 hb; replace HB := zH HB hb; (try clear hb ho0)))
     go_loopg [7, 8] kj4 (fun kq v7 v8 w' => ∃ (x7_2 : Bool) (x8_2 : Int), v7 = .bool x7_2 ∧ v8 = .int .i64 x8_2 ∧ Aside0 (laws_FnSieveHas.l0 kq t1534 t1536 t1541 x7_2 x8_2 = some r) ∧ Aside0 (kq ≤ kj4) ∧ Aside0 (Kd.R Kd.string 9 w' w.heap.size (fun k_ => some k_ ≠ ((.slice Ao9 t1530.length co9) : Value).ownBlock) v1542 t1541) ∧ Aside0 (Kd.R Kd.string 9 w' w.heap.size (fun k_ => some k_ ≠ (v1542 : Value).ownBlock) (.slice Ao9 t1530.length co9) t1530) ∧ Aside0 (w'.heap[gb1535]? = some (.cells #[.string t1527, .string t1528, .string t1529, (.slice Ao9 t1530.length co9), .int .i64 t1533] 25 (0, 0))) ∧ Aside0 (Below w.heap.size w w'))
     case atStart => exact ⟨(false), (0), zf, zf, H', ⟨Nat.le_refl _⟩, ⟨Kd.R_mono (zr HO1543.out) (fun _ hk => hk.2)⟩, ⟨Kd.R_mono (zr HO_1536003.out) (fun _ hk => hk.2)⟩, ⟨zl BK1535.out⟩, ⟨zb HB.out⟩⟩
     case round =>
      clear H'
      try clear c1
      try clear c2
      try clear c2b0
      try clear c2b1
      try clear p2
      try clear c4
      try clear c12
      try clear c12b0
      try clear c12b1
      try clear c12b2
      try clear c16
      try clear c24
      try clear c26
      try clear c27
      try clear c28
      try clear c29
      try clear hcz13
      try clear hcz18
      try clear hcz20
      try clear hcz22
      try clear hcz24
      try clear hcz28
      try clear hcz31
      try clear hcz8
      try clear p2
      obtain ⟨x7_2, x8_2, rfl, rfl, HA, HK2, HO_6, HO_1536003, BK1535, HB⟩ := hrel
      cases gk with
      | zero => exact absurd HA.out (by simp [laws_FnSieveHas.l0])
      | succ k2 =>
       have H := HA.out; clear HA; simp only [laws_FnSieveHas.l0] at H
       by_cases c33 : x8_2 < (t1541.length : Int)
       ·rw [if_pos c33] at H; have c33b0 := decide_eq_true c33; clear c33
        by_cases c34 : x7_2 = true
        ·subst c34
         have H1 : (laws_FnSieveHas.l0 k2 t1534 t1536 t1541 true (wrap64 (x8_2 + 1))) = some r := by rw [if_pos rfl] at H; exact H
         clear H; have H := H1; clear H1; have H' := z0 H; clear H; obtain ⟨Ao35, co35, eo35⟩ := Kd.R_slice HO_6.out; subst eo35; go_wp2; go_roundg k2
         case measure => have := HJ4.out; have := HK2.out; omega
         case rel => exact ⟨(true), (wrap64 (x8_2 + 1)), zf, zf, H', ⟨by have := HJ4.out; have := HK2.out; omega⟩, ⟨zr HO_6.out⟩, ⟨zr HO_1536003.out⟩, ⟨zl BK1535.out⟩, ⟨zb HB.out⟩⟩
        ·replace c34 := Bool.eq_false_iff.mpr c34; subst c34
         have H1 : (if 0 ≤ x8_2 then ((impl_KeyBegins.f t1534 (rdOf ByteArray.empty t1541 x8_2)).bind fun t1545 => (laws_FnSieveHas.l0 k2 t1534 t1536 t1541 t1545 (wrap64 (x8_2 + 1)))) else (none)) = some r := by rw [if_neg (show ¬ (false = true) by decide)] at H; exact H
         clear H; have H := H1; clear H1; replace H := zn H; obtain ⟨c36, H⟩ := H; have c36b0 := decide_eq_true c36; clear c36; replace H := zi H; obtain ⟨t1545, A37, H⟩ := H; have H' := z0 H; clear H; obtain ⟨Ao38, co38, eo38⟩ := Kd.R_slice HO_6.out; subst eo38; have p1544 : 0 ≤ (x8_2 : Int) := zd; have q1544 : x8_2 < (t1541.length : Int) := zd; obtain ⟨ad1544, e1544, hx1544_0⟩ := Kd.at_string (Kd.R_reads' HO_6.out).2.2 x8_2 p1544 q1544; cases e1544; replace p1544 := eq_true p1544; replace q1544 := eq_true q1544
         go_wp2_with (first | (go_at_call 42; (with_reducible refine (impl_KeyBegins.calls t1534 (rdOf ByteArray.empty t1541 x8_2) t1545 _ A37.out).mono ?_); rintro e w' ⟨rfl, ⟨nd, rfl⟩⟩))
         go_roundg k2
         case measure => have := HJ4.out; have := HK2.out; omega
         case rel => exact ⟨(t1545), (wrap64 (x8_2 + 1)), zf, zf, H', ⟨by have := HJ4.out; have := HK2.out; omega⟩, ⟨zr HO_6.out⟩, ⟨zr HO_1536003.out⟩, ⟨zl BK1535.out⟩, ⟨zb HB.out⟩⟩
       ·rw [if_neg c33] at H; have c33b0 := decide_eq_false c33; clear c33
        by_cases c39 : t1536 = true
        ·subst c39
         have H1 : (if x7_2 = true then ((laws_ltIn.f k2 t1541 t1534).bind fun t1546 => (if t1546 = true then (some true) else (some true))) else (some false)) = some r := by rw [if_pos rfl] at H; exact H
         clear H; have H := H1; clear H1
         by_cases c40 : x7_2 = true
         ·subst c40
          have H1 : ((laws_ltIn.f k2 t1541 t1534).bind fun t1546 => (if t1546 = true then (some true) else (some true))) = some r := by rw [if_pos rfl] at H; exact H
          clear H; have H := H1; clear H1; replace H := zi H; obtain ⟨t1546, A41, H⟩ := H
          by_cases c42 : t1546 = true
          ·subst c42
           have H1 : (some true) = some r := by rw [if_pos rfl] at H; exact H
           clear H; have H := H1; clear H1; obtain rfl := Option.some.inj H; obtain ⟨Ao43, co43, eo43⟩ := Kd.R_slice HO_6.out; subst eo43
           go_wp2_with (first | (go_at_call 50; (with_reducible refine (laws_ltIn.calls k2 _ _ t1541 t1534 true _ ?side1 ?side2 A41.out).mono ?_); (case side1 => repeat (first | exact (Kd.R_reads' HO_6.out).2.2 | (with_reducible refine Kd.C_alloc ?_ _) | (with_reducible refine Kd.C_drewN ?_ _) | (with_reducible refine Kd.C_drew ?_))); (case side2 => exact (Kd.R_reads' HO_6.out).2.1); rintro e w' ⟨rfl, ⟨nd, rfl⟩⟩))
           go_ret; exact ⟨ze, zb HB.out⟩
          ·replace c42 := Bool.eq_false_iff.mpr c42; subst c42
           have H1 : (some true) = some r := by rw [if_neg (show ¬ (false = true) by decide)] at H; exact H
           clear H; have H := H1; clear H1; obtain rfl := Option.some.inj H; obtain ⟨Ao44, co44, eo44⟩ := Kd.R_slice HO_6.out; subst eo44
           go_wp2_with (first | (go_at_call 50; (with_reducible refine (laws_ltIn.calls k2 _ _ t1541 t1534 false _ ?side1 ?side2 A41.out).mono ?_); (case side1 => repeat (first | exact (Kd.R_reads' HO_6.out).2.2 | (with_reducible refine Kd.C_alloc ?_ _) | (with_reducible refine Kd.C_drewN ?_ _) | (with_reducible refine Kd.C_drew ?_))); (case side2 => exact (Kd.R_reads' HO_6.out).2.1); rintro e w' ⟨rfl, ⟨nd, rfl⟩⟩))
           go_ret; exact ⟨ze, zb HB.out⟩
         ·replace c40 := Bool.eq_false_iff.mpr c40; subst c40
          have H1 : (some false) = some r := by rw [if_neg (show ¬ (false = true) by decide)] at H; exact H
          clear H; have H := H1; clear H1; obtain rfl := Option.some.inj H; obtain ⟨Ao45, co45, eo45⟩ := Kd.R_slice HO_6.out; subst eo45; go_wp2; go_ret; exact ⟨ze, zb HB.out⟩
        ·replace c39 := Bool.eq_false_iff.mpr c39; subst c39
         have H1 : ((laws_ltIn.f k2 t1541 t1534).bind fun t1547 => (if t1547 = true then (some false) else (some true))) = some r := by rw [if_neg (show ¬ (false = true) by decide)] at H; exact H
         clear H; have H := H1; clear H1; replace H := zi H; obtain ⟨t1547, A46, H⟩ := H
         by_cases c47 : t1547 = true
         ·subst c47
          have H1 : (some false) = some r := by rw [if_pos rfl] at H; exact H
          clear H; have H := H1; clear H1; obtain rfl := Option.some.inj H; obtain ⟨Ao48, co48, eo48⟩ := Kd.R_slice HO_6.out; subst eo48
          go_wp2_with (first | (go_at_call 50; (with_reducible refine (laws_ltIn.calls k2 _ _ t1541 t1534 true _ ?side1 ?side2 A46.out).mono ?_); (case side1 => repeat (first | exact (Kd.R_reads' HO_6.out).2.2 | (with_reducible refine Kd.C_alloc ?_ _) | (with_reducible refine Kd.C_drewN ?_ _) | (with_reducible refine Kd.C_drew ?_))); (case side2 => exact (Kd.R_reads' HO_6.out).2.1); rintro e w' ⟨rfl, ⟨nd, rfl⟩⟩))
          go_ret; exact ⟨ze, zb HB.out⟩
         ·replace c47 := Bool.eq_false_iff.mpr c47; subst c47
          have H1 : (some true) = some r := by rw [if_neg (show ¬ (false = true) by decide)] at H; exact H
          clear H; have H := H1; clear H1; obtain rfl := Option.some.inj H; obtain ⟨Ao49, co49, eo49⟩ := Kd.R_slice HO_6.out; subst eo49
          go_wp2_with (first | (go_at_call 50; (with_reducible refine (laws_ltIn.calls k2 _ _ t1541 t1534 false _ ?side1 ?side2 A46.out).mono ?_); (case side1 => repeat (first | exact (Kd.R_reads' HO_6.out).2.2 | (with_reducible refine Kd.C_alloc ?_ _) | (with_reducible refine Kd.C_drewN ?_ _) | (with_reducible refine Kd.C_drew ?_))); (case side2 => exact (Kd.R_reads' HO_6.out).2.1); rintro e w' ⟨rfl, ⟨nd, rfl⟩⟩))
          go_ret; exact ⟨ze, zb HB.out⟩
theorem laws_FnSieveHas.walk (P : laws_FnSieveHas.Pure) (a0 : Option Addr) (len0 cap0 : Nat) (z0 : List Int) (w : World) (w0 : (a0 = none ∧ len0 = 0 ∧ cap0 = 0 ∧ z0 = []) ∨ ∃ x, a0 = some x ∧ len0 ≤ cap0 ∧ cap0 ≤ maxLen ∧ z0.length = cap0 ∧ (∀ i, i < z0.length → w.cell? (x.add i) = some (.int .u8 (z0.getD i 0))) ∧ ∀ n ∈ z0, (Lit.int .u8 n).wf = true) (y0 : len0 * 1 ≤ 140737488351232) :
    Calls Try.prog 24 #[.slice a0 len0 cap0] w fun e w' => e = .returned (.bool true) ∧ Below w.heap.size w w' := by
  obtain ⟨l0, rfl, hr0, hm0, hw0, hc0⟩ := ReadsInt.ofRowC w0
  obtain ⟨k, h⟩ := P l0 hm0 y0 hw0
  refine (laws_FnSieveHas.calls k _ _ l0 true w (Kd.C_of_reads (d := (0 : Int)) (h1 := fun _ => rfl) hr0) hc0 h).mono ?_
  rintro e w' ⟨rfl, hd⟩
  exact ⟨rfl, hd⟩
end Go.Proofs.Ytifgcajpkgamgaa.Q
end
section
set_option linter.unusedVariables false
set_option linter.unusedSimpArgs false
namespace Go.Proofs.Ytifgcajpkgamgaa.Pure
open Go Go.RowKit Go.Proofs.YtifgcajpkgamgaaW.PrintWords Go.Proofs.YtifgcajpkgamgaaW.PrintLast Go.Proofs.YtifgcajpkgamgaaW.PrintMore Go.Proofs.Ytifgcajpkgamgaa.Trie Go.Proofs.Ytifgcajpkgamgaa.Q Go.Proofs.Ytifgcajpkgamgaa.Pb
theorem has_l0 {K : List Key} {keep : Nat} (h : KsOk K) (x : ByteArray) (d : Nat) : ∀ i : Nat, i ≤ K.length → K.length - i = d → ∀ b : Bool, (hasV K keep (L x) = true → b = true ∨ ∃ j, i ≤ j ∧ ∃ hj : j < K.length, (Trie.hd K keep K[j]) <+: L x) →
  Ev (fun k => laws_FnSieveHas.l0 k x (hasV K keep (L x)) (K.map (ht K keep)) b (i : Int)) true := by
 have hn := h.few
 have hl : (K.map (ht K keep)).length = K.length := List.length_map _
 have hin := ltIn_ev (K.map (ht K keep)) (szl_heads h) x
 rw [LL_ht] at hin
 induction d with
 | zero =>
  intro i h1 h2 b hb
  refine ev_succ ?_
  simp only [laws_FnSieveHas.l0]
  refine ev_neg (by rw [hl]; omega) ?_
  cases hv : hasV K keep (L x) with
  | true =>
   have : b = true := by
    rcases hb hv with q | ⟨j, q1, q2, _⟩
    ·exact q
    ·omega
   refine ev_pos rfl (ev_pos this (Ev.bind hin ?_))
   by_cases c : L x ∈ K.map (Trie.hd K keep)
   ·exact ev_pos (decide_eq_true c) (ev_some rfl)
   ·exact ev_neg (by simpa using c) (ev_some rfl)
  | false =>
   refine ev_neg (by simp) (Ev.bind hin (ev_neg ?_ (ev_some rfl)))
   rw [decide_eq_true_eq]
   intro q
   rw [head_has h.ok q] at hv
   cases hv
 | succ d ih =>
  intro i h1 h2 b hb
  refine ev_succ ?_
  simp only [laws_FnSieveHas.l0]
  have hw : ∀ _ : Unit, wrap64 ((i : Int) + 1) = ((i + 1 : Nat) : Int) := fun _ => by rw [w64 (by omega) (by omega)]; omega
  rw [hw ()]
  refine ev_pos (by rw [hl]; omega) ?_
  by_cases c : b = true
  ·exact ev_pos c (ih (i + 1) (by omega) (by omega) true (fun _ => .inl rfl))
  ·refine ev_neg c (ev_pos (by omega) (ev_bindc (impl_KeyBegins_eq _ _) (ih (i + 1) (by omega) (by omega) _ (fun hv => ?_))))
   have hr : L (rdOf ByteArray.empty (K.map (ht K keep)) (i : Int)) = Trie.hd K keep (K.getD i []) := by
    show L ((K.map (ht K keep)).getD i ByteArray.empty) = _
    rw [ht_getD K (show i < K.length by omega), L_ht]
   rcases hb hv with q | ⟨j, q1, q2, q3⟩
   ·exact absurd q c
   ·rcases Nat.lt_or_ge i j with q4 | q4
    ·exact .inr ⟨j, q4, q2, q3⟩
    ·left
     have : j = i := by omega
     subst this
     rw [hr, List.isPrefixOf_iff_prefix, getD_lt _ q2]
     exact q3
theorem FnSieveHas : laws_FnSieveHas.Pure := by
 intro l0 hl _ hw
 refine Ev.rounds ?_
 unfold laws_FnSieveHas.f
 by_cases c : (l0.length : Int) > 1048576
 ·exact ev_pos c (ev_some rfl)
 ·obtain ⟨Lt, Mo, Fi, Rs, a, x, hd, hz, kx⟩ := DrawSieveHas_ev l0 hl hw
  have sx := kok_size kx
  rcases both hz.sz a with ⟨K, keep, rfl, hI, hh, hok, _⟩ | ⟨_, hh, hok⟩
  ·have m1 := impl_has_yes hI hh x sx
   have m2 := spec_has_yes hI hok x sx
   have k1 := spec_KeyOk_ev x sx
   rw [kokB_iff.2 kx] at k1
   have hsh := impl_SieveHeads_of (by rw [List.length_map]; have := hI.ok.few; omega) hh
   rw [pt_text] at hsh
   refine ev_neg c (Ev.bind hd (Ev.bind m1 (Ev.bind m2 (ev_neg (by simp) (Ev.bind hok (ev_pos rfl (Ev.bind k1 (ev_succ ?_))))))))
   simp only [laws_FnSieveHas.j0, Bool.not_true]
   refine ev_neg (by simp) (Ev.bind hsh (has_l0 hI.ok x K.length 0 (Nat.zero_le _) rfl false (fun hv => ?_)))
   obtain ⟨k, hk, hp⟩ := has_begins hv
   obtain ⟨j, hj, rfl⟩ := List.getElem_of_mem hk
   exact .inr ⟨j, Nat.zero_le _, hj, hp⟩
  ·have m1 := impl_has_no hh x
   have m2 := spec_has_no hok x
   refine ev_neg c (Ev.bind hd (Ev.bind m1 (Ev.bind m2 (ev_neg (by simp) (Ev.bind hok (ev_neg (by simp) (ev_succ ?_)))))))
   simp only [laws_FnSieveHas.j0]
   exact ev_pos (by simp) (Ev.bind m2 (ev_some rfl))
end Go.Proofs.Ytifgcajpkgamgaa.Pure
end
