/- What the law FnSieveSize needs: the kit's printed words, the printed functions with their proofs, and plain facts on them. -/
import Derived.Test.YtifgcajpkgamgaaBSDb
section
namespace Go.Proofs.Ytifgcajpkgamgaa.Q
open Go.RowKit Go.Proofs.YtifgcajpkgamgaaW.PrintWords Go.Proofs.YtifgcajpkgamgaaW.PrintLast Go.Proofs.YtifgcajpkgamgaaW.PrintMore
attribute [local go_sem] max2_int min2_int max_two min_two max_three min_three max_four min_four   
set_option linter.unusedVariables false
set_option linter.unusedSimpArgs false
set_option maxHeartbeats 8000000
set_option maxRecDepth 100000
theorem impl_SieveOk.mono : ∀ a0 a1 a2 a3 a4 k, LeO (impl_SieveOk.f k a0 a1 a2 a3 a4) (impl_SieveOk.f (k + 1) a0 a1 a2 a3 a4) := by
  intro a0 a1 a2 a3 a4 k
  unfold impl_SieveOk.f
  repeat' first | (with_reducible first | apply impl_Sieve_heads.mono | exact LeO.refl _ | exact LeO.none _ | refine LeO.ite ?_ ?_ | refine LeO.bind ?_ (fun _ => ?_)) | exact LeO.none _ | refine LeO.ite ?_ ?_ | refine LeO.bind ?_ (fun _ => ?_)
theorem impl_SieveOk.calls (k : Nat) (a0_0 a0_1 a0_2 : ByteArray) (A0_3 : Option Addr) (c0_3 : Nat) (l0_3 : List ByteArray) (a0_4 : Int) (r : Bool) (w : World) (hr0_3 : Kd.C Kd.string w A0_3 l0_3.length l0_3) (hc0_3 : l0_3.length ≤ c0_3) (h : impl_SieveOk.f k a0_0 a0_1 a0_2 l0_3 a0_4 = some r) :
    Calls Try.prog 48 #[.agg #[.string a0_0, .string a0_1, .string a0_2, .slice A0_3 l0_3.length c0_3, .int .i64 a0_4]] w fun e w' => e = .returned (.bool r) ∧ Below w.heap.size w w' := by
 have hu25 := Try.underlying25; have HR0_3 := z0 hr0_3; have HC0_3 := z0 hc0_3; clear hr0_3 hc0_3; have HB := z0 (Below.refl w.heap.size w); have H : ((impl_Sieve_heads.f k a0_0 a0_1 a0_2 l0_3 a0_4).bind fun bt390 => (some bt390.2)) = some r := h; clear h; replace H := zi H; obtain ⟨⟨t390, t393⟩, A2, H⟩ := H; (try dsimp only at H); obtain rfl := Option.some.inj H; go_enter Try.func48, Try.ntmps48
 go_wp2_with (first | ((with_reducible refine gd 1 ?_); refine zbx 25 #[.string a0_0, .string a0_1, .string a0_2, .slice A0_3 l0_3.length c0_3, .int .i64 a0_4] ?_; intro gb389 hg w3 hbox hb; have BK389 := z0 (hbox); have GE389 := zG hg HB; replace HB := zH HB hb; clear hb hbox hg; have hcz4 := zc5 BK389.out) | ((with_reducible refine gc 89 ?_); refine zL (some 7) Try.func89 #[.agg #[.string a0_0, .string a0_1, .string a0_2, .slice A0_3 l0_3.length c0_3, .int .i64 a0_4]] ?_; (with_reducible refine (impl_Sieve_heads.calls k a0_0 a0_1 a0_2 _ _ l0_3 a0_4 t390 t393 _ (zC (Kd.C_below HR0_3.out HB.out)) HC0_3.out A2.out).mono ?_); rintro e w5 ⟨v391, rfl, ho0, hb⟩; refine zv ?_; have HO392 := z0 (Kd.R_lower ho0 (below_size (zb HB.out))); replace BK389 := zK BK389 hb; replace HB := zH HB hb; (try clear hb ho0)))
 go_ret; exact ⟨ze, zb HB.out⟩
theorem impl_SieveSize.mono : ∀ a0 a1 a2 a3 a4 k, LeO (impl_SieveSize.f k a0 a1 a2 a3 a4) (impl_SieveSize.f (k + 1) a0 a1 a2 a3 a4) := by
  intro a0 a1 a2 a3 a4 k
  unfold impl_SieveSize.f
  repeat' first | (with_reducible first | apply impl_SieveOk.mono | exact LeO.refl _ | exact LeO.none _ | refine LeO.ite ?_ ?_ | refine LeO.bind ?_ (fun _ => ?_)) | exact LeO.none _ | refine LeO.ite ?_ ?_ | refine LeO.bind ?_ (fun _ => ?_)
theorem impl_SieveSize.calls (k : Nat) (a0_0 a0_1 a0_2 : ByteArray) (A0_3 : Option Addr) (c0_3 : Nat) (l0_3 : List ByteArray) (a0_4 r : Int) (w : World) (hr0_3 : Kd.C Kd.string w A0_3 l0_3.length l0_3) (hc0_3 : l0_3.length ≤ c0_3) (h : impl_SieveSize.f k a0_0 a0_1 a0_2 l0_3 a0_4 = some r) :
    Calls Try.prog 33 #[.agg #[.string a0_0, .string a0_1, .string a0_2, .slice A0_3 l0_3.length c0_3, .int .i64 a0_4]] w fun e w' => e = .returned (.int .i64 r) ∧ Below w.heap.size w w' := by
 have hu25 := Try.underlying25; have HR0_3 := z0 hr0_3; have HC0_3 := z0 hc0_3; clear hr0_3 hc0_3; have HB := z0 (Below.refl w.heap.size w); have H : ((impl_SieveOk.f k a0_0 a0_1 a0_2 l0_3 a0_4).bind fun t487 => (if t487 = true then (some (a0_0.size : Int)) else (some (-1)))) = some r := h; clear h; replace H := zi H; obtain ⟨t487, A2, H⟩ := H
 by_cases c3 : t487 = true
 ·subst c3
  have H1 : (some (a0_0.size : Int)) = some r := by rw [if_pos rfl] at H; exact H
  clear H; have H := H1; clear H1; obtain rfl := Option.some.inj H; go_enter Try.func33, Try.ntmps33
  go_wp2_with (first | ((with_reducible refine gd 1 ?_); refine zbx 25 #[.string a0_0, .string a0_1, .string a0_2, .slice A0_3 l0_3.length c0_3, .int .i64 a0_4] ?_; intro gb486 hg w4 hbox hb; have BK486 := z0 (hbox); have GE486 := zG hg HB; replace HB := zH HB hb; clear hb hbox hg; have hcz5 := zc5 BK486.out) | ((with_reducible refine gc 48 ?_); refine zL (some 4) Try.func48 #[.agg #[.string a0_0, .string a0_1, .string a0_2, .slice A0_3 l0_3.length c0_3, .int .i64 a0_4]] ?_; (with_reducible refine (impl_SieveOk.calls k a0_0 a0_1 a0_2 _ _ l0_3 a0_4 true _ (zC (Kd.C_below HR0_3.out HB.out)) HC0_3.out A2.out).mono ?_); rintro e w6 ⟨rfl, hb⟩; refine zv ?_; replace BK486 := zK BK486 hb; replace HB := zH HB hb; (try clear hb); have hcz7 := zc5 BK486.out))
  go_ret; exact ⟨ze, zb HB.out⟩
 ·replace c3 := Bool.eq_false_iff.mpr c3; subst c3
  have H1 : (some (-1)) = some r := by rw [if_neg (show ¬ (false = true) by decide)] at H; exact H
  clear H; have H := H1; clear H1; obtain rfl := Option.some.inj H; go_enter Try.func33, Try.ntmps33
  go_wp2_with (first | ((with_reducible refine gd 1 ?_); refine zbx 25 #[.string a0_0, .string a0_1, .string a0_2, .slice A0_3 l0_3.length c0_3, .int .i64 a0_4] ?_; intro gb486 hg w8 hbox hb; have BK486 := z0 (hbox); have GE486 := zG hg HB; replace HB := zH HB hb; clear hb hbox hg; have hcz9 := zc5 BK486.out) | ((with_reducible refine gc 48 ?_); refine zL (some 4) Try.func48 #[.agg #[.string a0_0, .string a0_1, .string a0_2, .slice A0_3 l0_3.length c0_3, .int .i64 a0_4]] ?_; (with_reducible refine (impl_SieveOk.calls k a0_0 a0_1 a0_2 _ _ l0_3 a0_4 false _ (zC (Kd.C_below HR0_3.out HB.out)) HC0_3.out A2.out).mono ?_); rintro e w10 ⟨rfl, hb⟩; refine zv ?_; replace BK486 := zK BK486 hb; replace HB := zH HB hb; (try clear hb)))
  go_ret; exact ⟨ze, zb HB.out⟩
theorem impl_SieveHeads.mono : ∀ a0 a1 a2 a3 a4 k, LeO (impl_SieveHeads.f k a0 a1 a2 a3 a4) (impl_SieveHeads.f (k + 1) a0 a1 a2 a3 a4) := by
  intro a0 a1 a2 a3 a4 k
  unfold impl_SieveHeads.f
  repeat' first | (with_reducible first | apply impl_Sieve_heads.mono | apply impl_texts.mono | exact LeO.refl _ | exact LeO.none _ | refine LeO.ite ?_ ?_ | refine LeO.bind ?_ (fun _ => ?_)) | exact LeO.none _ | refine LeO.ite ?_ ?_ | refine LeO.bind ?_ (fun _ => ?_)
theorem impl_SieveHeads.calls (k : Nat) (a0_0 a0_1 a0_2 : ByteArray) (A0_3 : Option Addr) (c0_3 : Nat) (l0_3 : List ByteArray) (a0_4 : Int) (r : List ByteArray) (w : World) (hr0_3 : Kd.C Kd.string w A0_3 l0_3.length l0_3) (hc0_3 : l0_3.length ≤ c0_3) (h : impl_SieveHeads.f k a0_0 a0_1 a0_2 l0_3 a0_4 = some r) :
    Calls Try.prog 41 #[.agg #[.string a0_0, .string a0_1, .string a0_2, .slice A0_3 l0_3.length c0_3, .int .i64 a0_4]] w fun e w' => ∃ v0_ : Value, e = .returned (v0_) ∧ Kd.R Kd.string 9 w' w.heap.size (fun _ => True) v0_ r ∧ Below w.heap.size w w' := by
 have hu25 := Try.underlying25; have HR0_3 := z0 hr0_3; have HC0_3 := z0 hc0_3; clear hr0_3 hc0_3; have HB := z0 (Below.refl w.heap.size w); have H : ((impl_Sieve_heads.f k a0_0 a0_1 a0_2 l0_3 a0_4).bind fun bt870 => ((impl_texts.f k bt870.1).bind fun t874 => (some t874))) = some r := h; clear h; replace H := zi H; obtain ⟨⟨t870, t873⟩, A2, H⟩ := H; (try dsimp only at H); replace H := zi H; obtain ⟨t874, A3, H⟩ := H; obtain rfl := Option.some.inj H; go_enter Try.func41, Try.ntmps41
 go_wp2_with (first | ((with_reducible refine gd 1 ?_); refine zbx 25 #[.string a0_0, .string a0_1, .string a0_2, .slice A0_3 l0_3.length c0_3, .int .i64 a0_4] ?_; intro gb869 hg w4 hbox hb; have BK869 := z0 (hbox); have GE869 := zG hg HB; replace HB := zH HB hb; clear hb hbox hg; have hcz5 := zc5 BK869.out) | ((with_reducible refine gc 89 ?_); refine zL (some 7) Try.func89 #[.agg #[.string a0_0, .string a0_1, .string a0_2, .slice A0_3 l0_3.length c0_3, .int .i64 a0_4]] ?_; (with_reducible refine (impl_Sieve_heads.calls k a0_0 a0_1 a0_2 _ _ l0_3 a0_4 t870 t873 _ (zC (Kd.C_below HR0_3.out HB.out)) HC0_3.out A2.out).mono ?_); rintro e w6 ⟨v871, rfl, ho0, hb⟩; refine zv ?_; have HO872 := z0 (Kd.R_lower ho0 (below_size (zb HB.out))); replace BK869 := zK BK869 hb; replace HB := zH HB hb; (try clear hb ho0); obtain ⟨Ao7, co7, eo7⟩ := Kd.R_slice HO872.out; subst eo7) | ((with_reducible refine gc 90 ?_); refine zL (some 11) Try.func90 #[.slice Ao7 t870.length co7] ?_; (with_reducible refine (impl_texts.calls k _ _ t870 t874 _ (zC ((Kd.R_reads' HO872.out).2.2)) ((Kd.R_reads' HO872.out).2.1) A3.out).mono ?_); rintro e w8 ⟨v875, rfl, ho0, hb⟩; refine zv ?_; replace HO872 := zA HO872 hb; have HO876 := z0 (Kd.R_lower ho0 (below_size (zb HB.out))); replace BK869 := zK BK869 hb; replace HB := zH HB hb; (try clear hb ho0)))
 go_ret; exact ⟨_, ze, zr HO876.out, zb HB.out⟩
theorem spec_SieveSize.mono : ∀ a0 a1 a2 a3 a4 k, LeO (spec_SieveSize.f k a0 a1 a2 a3 a4) (spec_SieveSize.f (k + 1) a0 a1 a2 a3 a4) := by
  intro a0 a1 a2 a3 a4 k
  unfold spec_SieveSize.f
  repeat' first | (with_reducible first | apply spec_SieveOk.mono | exact LeO.refl _ | exact LeO.none _ | refine LeO.ite ?_ ?_ | refine LeO.bind ?_ (fun _ => ?_)) | exact LeO.none _ | refine LeO.ite ?_ ?_ | refine LeO.bind ?_ (fun _ => ?_)
theorem spec_SieveSize.calls (k : Nat) (a0_0 a0_1 a0_2 : ByteArray) (A0_3 : Option Addr) (c0_3 : Nat) (l0_3 : List ByteArray) (a0_4 r : Int) (w : World) (hr0_3 : Kd.C Kd.string w A0_3 l0_3.length l0_3) (hc0_3 : l0_3.length ≤ c0_3) (h : spec_SieveSize.f k a0_0 a0_1 a0_2 l0_3 a0_4 = some r) :
    Calls Try.prog 52 #[.agg #[.string a0_0, .string a0_1, .string a0_2, .slice A0_3 l0_3.length c0_3, .int .i64 a0_4]] w fun e w' => e = .returned (.int .i64 r) ∧ Below w.heap.size w w' := by
 have hu25 := Try.underlying25; have HR0_3 := z0 hr0_3; have HC0_3 := z0 hc0_3; clear hr0_3 hc0_3; have HB := z0 (Below.refl w.heap.size w); have H : ((spec_SieveOk.f k a0_0 a0_1 a0_2 l0_3 a0_4).bind fun t1167 => (if t1167 = true then (some (a0_0.size : Int)) else (some (-1)))) = some r := h; clear h; replace H := zi H; obtain ⟨t1167, A2, H⟩ := H
 by_cases c3 : t1167 = true
 ·subst c3
  have H1 : (some (a0_0.size : Int)) = some r := by rw [if_pos rfl] at H; exact H
  clear H; have H := H1; clear H1; obtain rfl := Option.some.inj H; go_enter Try.func52, Try.ntmps52
  go_wp2_with (first | ((with_reducible refine gd 1 ?_); refine zbx 25 #[.string a0_0, .string a0_1, .string a0_2, .slice A0_3 l0_3.length c0_3, .int .i64 a0_4] ?_; intro gb1166 hg w4 hbox hb; have BK1166 := z0 (hbox); have GE1166 := zG hg HB; replace HB := zH HB hb; clear hb hbox hg; have hcz5 := zc5 BK1166.out) | ((with_reducible refine gc 46 ?_); refine zL (some 4) Try.func46 #[.agg #[.string a0_0, .string a0_1, .string a0_2, .slice A0_3 l0_3.length c0_3, .int .i64 a0_4]] ?_; (with_reducible refine (spec_SieveOk.calls k a0_0 a0_1 a0_2 _ _ l0_3 a0_4 true _ (zC (Kd.C_below HR0_3.out HB.out)) HC0_3.out A2.out).mono ?_); rintro e w6 ⟨rfl, hb⟩; refine zv ?_; replace BK1166 := zK BK1166 hb; replace HB := zH HB hb; (try clear hb); have hcz7 := zc5 BK1166.out))
  go_ret; exact ⟨ze, zb HB.out⟩
 ·replace c3 := Bool.eq_false_iff.mpr c3; subst c3
  have H1 : (some (-1)) = some r := by rw [if_neg (show ¬ (false = true) by decide)] at H; exact H
  clear H; have H := H1; clear H1; obtain rfl := Option.some.inj H; go_enter Try.func52, Try.ntmps52
  go_wp2_with (first | ((with_reducible refine gd 1 ?_); refine zbx 25 #[.string a0_0, .string a0_1, .string a0_2, .slice A0_3 l0_3.length c0_3, .int .i64 a0_4] ?_; intro gb1166 hg w8 hbox hb; have BK1166 := z0 (hbox); have GE1166 := zG hg HB; replace HB := zH HB hb; clear hb hbox hg; have hcz9 := zc5 BK1166.out) | ((with_reducible refine gc 46 ?_); refine zL (some 4) Try.func46 #[.agg #[.string a0_0, .string a0_1, .string a0_2, .slice A0_3 l0_3.length c0_3, .int .i64 a0_4]] ?_; (with_reducible refine (spec_SieveOk.calls k a0_0 a0_1 a0_2 _ _ l0_3 a0_4 false _ (zC (Kd.C_below HR0_3.out HB.out)) HC0_3.out A2.out).mono ?_); rintro e w10 ⟨rfl, hb⟩; refine zv ?_; replace BK1166 := zK BK1166 hb; replace HB := zH HB hb; (try clear hb)))
  go_ret; exact ⟨ze, zb HB.out⟩
theorem spec_DrawSieveSize.mono : ∀ a0 k, LeO (spec_DrawSieveSize.f k a0) (spec_DrawSieveSize.f (k + 1) a0) := by
  intro a0 k
  unfold spec_DrawSieveSize.f
  repeat' first | (with_reducible first | apply spec_l71Bent.mono | exact LeO.refl _ | exact LeO.none _ | refine LeO.ite ?_ ?_ | refine LeO.bind ?_ (fun _ => ?_)) | exact LeO.none _ | refine LeO.ite ?_ ?_ | refine LeO.bind ?_ (fun _ => ?_)
theorem spec_DrawSieveSize.calls (k : Nat) (A0 : Option Addr) (c0 : Nat) (l0 : List Int) (r1 r2 r3 : ByteArray) (r4 : List ByteArray) (r5 : Int) (w : World) (hr0 : Kd.C (Kd.int .u8) w A0 l0.length l0) (hc0 : l0.length ≤ c0) (h : spec_DrawSieveSize.f k l0 = some (r1, r2, r3, r4, r5)) :
    Calls Try.prog 60 #[.slice A0 l0.length c0] w fun e w' => ∃ v3_ : Value, e = .returned (.agg #[.string r1, .string r2, .string r3, v3_, .int .i64 r5]) ∧ Kd.R Kd.string 9 w' w.heap.size (fun _ => True) v3_ r4 ∧ Below w.heap.size w w' := by
 have hu25 := Try.underlying25; have HR0 := z0 hr0; have HC0 := z0 hc0; clear hr0 hc0; have HB := z0 (Below.refl w.heap.size w); have H : ((spec_l6Open.f l0).bind fun bt1306 => ((spec_l71Bent.f k bt1306.1 bt1306.2).bind fun bt1309 => (some (bt1309.1, bt1309.2.1, bt1309.2.2.1, bt1309.2.2.2.1, bt1309.2.2.2.2.1)))) = some (r1, r2, r3, r4, r5) := h; clear h; replace H := zi H; obtain ⟨⟨t1306, t1307⟩, A2, H⟩ := H; (try dsimp only at H); replace H := zi H; obtain ⟨⟨t1309, t1310, t1311, t1312, t1315, t1316, t1319⟩, A3, H⟩ := H; (try dsimp only at H); simp only [Option.some.injEq, Prod.mk.injEq] at H; obtain ⟨rfl, rfl, rfl, rfl, rfl⟩ := H; go_enter Try.func60, Try.ntmps60
 go_wp2_with (first | ((with_reducible refine gd 2 ?_); refine zbx 25 #[.string ⟨#[]⟩, .string ⟨#[]⟩, .string ⟨#[]⟩, .slice none 0 0, .int .i64 0] ?_; intro gb1305 hg w4 hbox hb; have BK1305 := z0 (hbox); have GE1305 := zG hg HB; replace HB := zH HB hb; clear hb hbox hg) | ((with_reducible refine gc 64 ?_); refine zL (some 7) Try.func64 #[.slice A0 l0.length c0] ?_; (with_reducible refine (spec_l6Open.calls _ _ l0 t1306 t1307 w _ (zb HB.out) HR0.out HC0.out A2.out).mono ?_); rintro e w5 ⟨g1308, rfl, hi, hb, hb2⟩; refine zv ?_; replace HB := z0 (hb); have HI1308 := z0 (hi); have NB1308_1305 := z0 (IsS98.ne_blk hi (blk_below (zl BK1305.out) hb2) (by decide)); have NB1305_1308 := z0 (Ne.symm (IsS98.ne_blk hi (blk_below (zl BK1305.out) hb2) (by decide))); replace BK1305 := zK BK1305 hb2; (try clear hb hb2 hi)) | ((with_reducible refine gc 65 ?_); refine zL (some 8) Try.func65 #[.pointer (some ⟨g1308, 0, none⟩)] ?_; (with_reducible refine (spec_l71Bent.calls k g1308 t1306 t1307 t1309 t1310 t1311 t1312 t1315 t1316 t1319 w _ (HI1308.out.zI) (HI1308.out.zb HB.out) A3.out).mono ?_); rintro e w6 ⟨v1313, v1317, rfl, ho0, ho1, hi, hb, hk⟩; refine zv ?_; replace BK1305 := z0 (KeepBut.blk hk (g' := gb1305) (o := .cells #[.string ⟨#[]⟩, .string ⟨#[]⟩, .string ⟨#[]⟩, .slice none 0 0, .int .i64 0] 25 (0, 0)) (zl BK1305.out) NB1305_1308.out (by simp)); have HO1314 := z0 (Kd.R_lower ho0 (below_size (HI1308.out.zb HB.out))); have HO1318 := z0 (Kd.R_lower ho1 (below_size (HI1308.out.zb HB.out))); replace HB := z0 (hb); replace HI1308 := z0 (hi); (try clear hb hk hi ho0 ho1)) | ((with_reducible refine gd 3 ?_); refine zbx 25 #[.string ⟨#[]⟩, .string ⟨#[]⟩, .string ⟨#[]⟩, .slice none 0 0, .int .i64 0] ?_; intro gb1320 hg w7 hbox hb; replace HO1314 := zA HO1314 hb; replace HO1318 := zA HO1318 hb; have BK1320 := z0 (hbox); have GW1320 := z0 ((by rw [hg]; exact (below_size (HI1308.out.zb HB.out)) : w.heap.size ≤ gb1320)); have GE1320 := z0 ((by rw [hg]; exact (below_size (HI1308.out.zb HB.out)) : w.heap.size ≤ gb1320)); replace HB := z0 (below_step (HI1308.out.zb HB.out) hb); have NB1305_1320 := zLt hg BK1305; have NB1320_1305 := zGt hg BK1305; replace BK1305 := zK BK1305 hb; have NB1308_1320 := z0 ((by rw [hg]; exact Nat.ne_of_lt (IsS98.lt (show IsS98 w _ g1308 t1306 t1319 from HI1308.out.zI)) : g1308 ≠ gb1320)); have NB1320_1308 := z0 ((by rw [hg]; exact Nat.ne_of_gt (IsS98.lt (show IsS98 w _ g1308 t1306 t1319 from HI1308.out.zI)) : gb1320 ≠ g1308)); replace HI1308 := z0 (IsS98.below (HI1308.out.zI) hb); clear hb hbox hg; have hnb8 := NB1320_1305.out; have hnc8 := NB1305_1320.out; have hnb9 := NB1320_1308.out; have hnc9 := NB1308_1320.out; have hcz10 := zc5 BK1320.out; obtain ⟨Ao11, co11, eo11⟩ := Kd.R_slice HO1314.out; subst eo11; have hnb12 := NB1305_1308.out; have hnc12 := NB1308_1305.out; have hcz13 := zc5 BK1305.out))
 refine bodyPost_ret (results_cell_row rfl _ _ gb1305 25 #[.string t1309, .string t1310, .string t1311, .slice Ao11 t1312.length co11, .int .i64 t1315] (0, 0) _ rfl (zp BK1305.out) Try.underlying25 rfl (by kernel_rfl)) rfl ?_; exact ⟨_, ze, Kd.R_mono (ztt HO1314.out BK1320.out BK1305.out) (fun _ hk => trivial), HI1308.out.zb HB.out⟩
theorem laws_FnSieveSize.mono_l : ∀ k, (∀ y0 y1 y2 y3 y4 y5 y6, LeO (laws_FnSieveSize.j0 k y0 y1 y2 y3 y4 y5 y6) (laws_FnSieveSize.j0 (k + 1) y0 y1 y2 y3 y4 y5 y6)) ∧ (∀ y0 y1 y2 y3, LeO (laws_FnSieveSize.l0 k y0 y1 y2 y3) (laws_FnSieveSize.l0 (k + 1) y0 y1 y2 y3))
  | 0 => ⟨fun _ _ _ _ _ _ _ r h => by simp [laws_FnSieveSize.j0] at h, fun _ _ _ _ r h => by simp [laws_FnSieveSize.l0] at h⟩
  | k + 1 => by
    obtain ⟨ih0, ih1⟩ := laws_FnSieveSize.mono_l k
    refine ⟨?_, ?_⟩
    · intro y0 y1 y2 y3 y4 y5 y6
      unfold laws_FnSieveSize.j0
      repeat' first | (with_reducible first | apply ih0 | apply ih1 | apply impl_SieveHeads.mono | apply impl_SieveSize.mono | apply spec_DrawSieveSize.mono | apply spec_SieveSize.mono | exact LeO.refl _ | exact LeO.none _ | refine LeO.ite ?_ ?_ | refine LeO.bind ?_ (fun _ => ?_)) | exact LeO.none _ | refine LeO.ite ?_ ?_ | refine LeO.bind ?_ (fun _ => ?_)
    · intro y0 y1 y2 y3
      unfold laws_FnSieveSize.l0
      repeat' first | (with_reducible first | apply ih0 | apply ih1 | apply impl_SieveHeads.mono | apply impl_SieveSize.mono | apply spec_DrawSieveSize.mono | apply spec_SieveSize.mono | exact LeO.refl _ | exact LeO.none _ | refine LeO.ite ?_ ?_ | refine LeO.bind ?_ (fun _ => ?_)) | exact LeO.none _ | refine LeO.ite ?_ ?_ | refine LeO.bind ?_ (fun _ => ?_)
theorem laws_FnSieveSize.mono : ∀ a0 k, LeO (laws_FnSieveSize.f k a0) (laws_FnSieveSize.f (k + 1) a0) := by
  intro a0 k
  obtain ⟨ih0, ih1⟩ := laws_FnSieveSize.mono_l k
  unfold laws_FnSieveSize.f
  repeat' first | (with_reducible first | apply ih0 | apply ih1 | apply impl_SieveHeads.mono | apply impl_SieveSize.mono | apply spec_DrawSieveSize.mono | apply spec_SieveSize.mono | exact LeO.refl _ | exact LeO.none _ | refine LeO.ite ?_ ?_ | refine LeO.bind ?_ (fun _ => ?_)) | exact LeO.none _ | refine LeO.ite ?_ ?_ | refine LeO.bind ?_ (fun _ => ?_)
theorem laws_FnSieveSize.calls (k : Nat) (A0 : Option Addr) (c0 : Nat) (l0 : List Int) (r : Bool) (w : World) (hr0 : Kd.C (Kd.int .u8) w A0 l0.length l0) (hc0 : l0.length ≤ c0) (h : laws_FnSieveSize.f k l0 = some r) :
    Calls Try.prog 17 #[.slice A0 l0.length c0] w fun e w' => e = .returned (.bool r) ∧ Below w.heap.size w w' := by
 have hu25 := Try.underlying25; have HR0 := z0 hr0; have HC0 := z0 hc0; clear hr0 hc0; have HB := z0 (Below.refl w.heap.size w); have H : (if (l0.length : Int) > 1048576 then (some true) else ((spec_DrawSieveSize.f k l0).bind fun bt1321 => ((impl_SieveSize.f k bt1321.1 bt1321.2.1 bt1321.2.2.1 bt1321.2.2.2.1 bt1321.2.2.2.2).bind fun t1329 => ((spec_SieveSize.f k bt1321.1 bt1321.2.1 bt1321.2.2.1 bt1321.2.2.2.1 bt1321.2.2.2.2).bind fun t1330 => (if t1329 = t1330 then (laws_FnSieveSize.j0 k t1329 (decide (t1329 < 0)) bt1321.1 bt1321.2.1 bt1321.2.2.1 bt1321.2.2.2.1 bt1321.2.2.2.2) else (laws_FnSieveSize.j0 k t1329 true bt1321.1 bt1321.2.1 bt1321.2.2.1 bt1321.2.2.2.1 bt1321.2.2.2.2)))))) = some r := h; clear h
 by_cases c2 : (l0.length : Int) > 1048576
 ·rw [if_pos c2] at H; have c2b0 : decide (1048576 < (l0.length : Int)) = true := decide_eq_true c2; have c2b1 : decide (1048576 < l0.length) = true := decide_eq_true (by omega); clear c2; obtain rfl := Option.some.inj H; go_enter Try.func17, Try.ntmps17; go_wp2; go_ret; exact ⟨ze, zb HB.out⟩
 ·rw [if_neg c2] at H; have c2b0 : decide (1048576 < (l0.length : Int)) = false := decide_eq_false c2; have c2b1 : decide (1048576 < l0.length) = false := decide_eq_false (by omega); clear c2; replace H := zi H; obtain ⟨⟨t1321, t1322, t1323, t1324, t1327⟩, A3, H⟩ := H; (try dsimp only at H); replace H := zi H; obtain ⟨t1329, A4, H⟩ := H; have HC5 := z0 H; clear H; go_enter Try.func17, Try.ntmps17
  go_upto_region 5 with (first | ((with_reducible refine gc 60 ?_); refine zL (some 12) Try.func60 #[.slice A0 l0.length c0] ?_; (with_reducible refine (spec_DrawSieveSize.calls k _ _ l0 t1321 t1322 t1323 t1324 t1327 _ (zC HR0.out) HC0.out A3.out).mono ?_); rintro e w6 ⟨v1325, rfl, ho0, hb⟩; refine zv ?_; have HO1326 := z0 (Kd.R_lower ho0 (below_size (zb HB.out))); replace HB := zH HB hb; (try clear hb ho0)) | ((with_reducible refine gd 3 ?_); refine zbx 25 #[.string ⟨#[]⟩, .string ⟨#[]⟩, .string ⟨#[]⟩, .slice none 0 0, .int .i64 0] ?_; intro gb1328 hg w7 hbox hb; replace HO1326 := zA HO1326 hb; have BK1328 := z0 (hbox); have GE1328 := zG hg HB; replace HB := zH HB hb; clear hb hbox hg; have hcz8 := zc5 BK1328.out; obtain ⟨Ao9, co9, eo9⟩ := Kd.R_slice HO1326.out; subst eo9) | ((with_reducible refine gc 33 ?_); refine zL (some 14) Try.func33 #[.agg #[.string t1321, .string t1322, .string t1323, .slice Ao9 t1324.length co9, .int .i64 t1327]] ?_; (with_reducible refine (impl_SieveSize.calls k t1321 t1322 t1323 _ _ t1324 t1327 t1329 _ ?side1 ((Kd.R_reads' HO1326.out).2.1) A4.out).mono ?_); (case side1 => refine (Kd.R_reads' (e := 9) (base := w.heap.size) (ok := fun k_ => True) (n := t1324.length) (c := co9) ?_).2.2; exact (zs HO1326.out BK1328.out)); rintro e w10 ⟨rfl, hb⟩; refine zv ?_; replace HO1326 := zAs HO1326 BK1328 hb; replace BK1328 := z0 (blk_below (zpc BK1328.out #[.string t1321, .string t1322, .string t1323, .slice Ao9 t1324.length co9, .int .i64 t1327]) hb); replace HB := zH HB hb; (try clear hb)))
  (try simp only [Act.put, List.setIfInBounds_toArray, List.set_cons_zero, List.set_cons_succ])
  go_cut [22] (fun v22 wc => ∃ (kq : Nat) (x22_4 : Bool), v22 = .bool x22_4 ∧ Aside0 (laws_FnSieveSize.j0 kq t1329 x22_4 t1321 t1322 t1323 t1324 t1327 = some r) ∧ Aside0 (kq ≤ k) ∧ Aside0 (Kd.R Kd.string 9 wc w.heap.size (fun _ => True) (.slice Ao9 t1324.length co9) t1324) ∧ Aside0 (wc.heap[gb1328]? = some (.cells #[.string t1321, .string t1322, .string t1323, (.slice Ao9 t1324.length co9), .int .i64 t1327] 25 (0, 0))) ∧ Aside0 (Below w.heap.size w wc))
  case first =>
   have H := HC5.out; clear HC5; replace H := zi H; obtain ⟨t1330, A11, H⟩ := H
   by_cases c12 : t1329 = t1330
   ·rw [if_pos c12] at H; have c12b0 : (t1329 == t1330) = true := beq_iff_eq.mpr c12; have c12b1 : (t1329 != t1330) = false := bne_eq_false_iff_eq.mpr c12; clear c12; (first | rw [c12b0] | (simp only [i64_w, i32_w]; rw [c12b0]) | simp only [*, Bool.not_true, Bool.not_false] | skip); have H' := z0 H; clear H; have hcz13 := zc5 BK1328.out
    go_wp2_with (first | ((with_reducible refine gc 52 ?_); refine zL (some 17) Try.func52 #[.agg #[.string t1321, .string t1322, .string t1323, .slice Ao9 t1324.length co9, .int .i64 t1327]] ?_; (with_reducible refine (spec_SieveSize.calls k t1321 t1322 t1323 _ _ t1324 t1327 t1330 _ (zC ((Kd.R_reads' HO1326.out).2.2)) ((Kd.R_reads' HO1326.out).2.1) A11.out).mono ?_); rintro e w14 ⟨rfl, hb⟩; refine zv ?_; replace HO1326 := zA HO1326 hb; replace BK1328 := zK BK1328 hb; replace HB := zH HB hb; (try clear hb)))
    go_meet
    case rel => exact ⟨_, (decide (t1329 < 0)), zf, H', ⟨by first | omega | exact Nat.le_refl _⟩, ⟨zr HO1326.out⟩, ⟨zl BK1328.out⟩, ⟨zb HB.out⟩⟩
   ·rw [if_neg c12] at H; have c12b0 : (t1329 == t1330) = false := beq_eq_false_iff_ne.mpr c12; have c12b1 : (t1329 != t1330) = true := bne_iff_ne.mpr c12; (first | rw [c12b0] | (simp only [i64_w, i32_w]; rw [c12b0]) | simp only [*, Bool.not_true, Bool.not_false] | skip); have H' := z0 H; clear H; have hcz15 := zc5 BK1328.out
    go_wp2_with (first | ((with_reducible refine gc 52 ?_); refine zL (some 17) Try.func52 #[.agg #[.string t1321, .string t1322, .string t1323, .slice Ao9 t1324.length co9, .int .i64 t1327]] ?_; (with_reducible refine (spec_SieveSize.calls k t1321 t1322 t1323 _ _ t1324 t1327 t1330 _ (zC ((Kd.R_reads' HO1326.out).2.2)) ((Kd.R_reads' HO1326.out).2.1) A11.out).mono ?_); rintro e w16 ⟨rfl, hb⟩; refine zv ?_; replace HO1326 := zA HO1326 hb; replace BK1328 := zK BK1328 hb; replace HB := zH HB hb; (try clear hb)))
    go_meet
    case rel => exact ⟨_, (true), zf, H', ⟨by first | omega | exact Nat.le_refl _⟩, ⟨zr HO1326.out⟩, ⟨zl BK1328.out⟩, ⟨zb HB.out⟩⟩
  case rest =>
   clear HC5
   try clear c1
   try clear c2
   try clear c2b0
   try clear c2b1
   try clear p2
   try clear c3
   try clear c5
   try clear c6
   try clear c12
   try clear c12b0
   try clear c12b1
   try clear hcz13
   try clear hcz15
   try clear hcz8
   obtain ⟨kq, x22_4, rfl, HA, HJ4, HO_1329003, BK1328, HB⟩ := hcut
   cases kq with
   | zero => exact absurd HA.out (by simp [laws_FnSieveSize.j0])
   | succ kj4 =>
    have H := HA.out; clear HA; simp only [laws_FnSieveSize.j0] at H
    by_cases c17 : x22_4 = true
    ·subst c17
     have H1 : ((spec_SieveSize.f kj4 t1321 t1322 t1323 t1324 t1327).bind fun t1331 => (some (t1329 == t1331))) = some r := by rw [if_pos rfl] at H; exact H
     clear H; have H := H1; clear H1; replace H := zi H; obtain ⟨t1331, A18, H⟩ := H; obtain rfl := Option.some.inj H; have hcz19 := zc5 BK1328.out
     go_wp2_with (first | ((with_reducible refine gc 52 ?_); refine zL (some 25) Try.func52 #[.agg #[.string t1321, .string t1322, .string t1323, .slice Ao9 t1324.length co9, .int .i64 t1327]] ?_; (with_reducible refine (spec_SieveSize.calls kj4 t1321 t1322 t1323 _ _ t1324 t1327 t1331 _ (zC ((Kd.R_reads' HO_1329003.out).2.2)) ((Kd.R_reads' HO_1329003.out).2.1) A18.out).mono ?_); rintro e w20 ⟨rfl, hb⟩; refine zv ?_; replace HO_1329003 := zA HO_1329003 hb; replace BK1328 := zK BK1328 hb; replace HB := zH HB hb; (try clear hb)))
     go_ret; exact ⟨ze, zb HB.out⟩
    ·replace c17 := Bool.eq_false_iff.mpr c17; subst c17
     have H1 : ((impl_SieveHeads.f kj4 t1321 t1322 t1323 t1324 t1327).bind fun t1332 => (laws_FnSieveSize.l0 kj4 t1329 0 t1332 0)) = some r := by rw [if_neg (show ¬ (false = true) by decide)] at H; exact H
     clear H; have H := H1; clear H1; replace H := zi H; obtain ⟨t1332, A21, H⟩ := H; have H' := z0 H; clear H; have hcz22 := zc5 BK1328.out
     go_wp2_with (first | ((with_reducible refine gc 41 ?_); refine zL (some 28) Try.func41 #[.agg #[.string t1321, .string t1322, .string t1323, .slice Ao9 t1324.length co9, .int .i64 t1327]] ?_; (with_reducible refine (impl_SieveHeads.calls kj4 t1321 t1322 t1323 _ _ t1324 t1327 t1332 _ (zC ((Kd.R_reads' HO_1329003.out).2.2)) ((Kd.R_reads' HO_1329003.out).2.1) A21.out).mono ?_); rintro e w23 ⟨v1333, rfl, ho0, hb⟩; refine zv ?_; have HO1334 := z0 (Kd.R_lower (Kd.R_new' ho0 (Kd.R_lt (zr HO_1329003.out))) (below_size (zb HB.out))); replace HO_1329003 := z0 (Kd.R_elder' (zr HO_1329003.out) (Kd.R_base ho0) hb); replace BK1328 := zK BK1328 hb; replace HB := zH HB hb; (try clear hb ho0)))
     go_loopg [5, 7] kj4 (fun kq v5 v7 w' => ∃ (x5_2 : Int) (x7_2 : Int), v5 = .int .i64 x5_2 ∧ v7 = .int .i64 x7_2 ∧ Aside0 (laws_FnSieveSize.l0 kq t1329 x5_2 t1332 x7_2 = some r) ∧ Aside0 (kq ≤ kj4) ∧ Aside0 (Kd.R Kd.string 9 w' w.heap.size (fun k_ => some k_ ≠ ((.slice Ao9 t1324.length co9) : Value).ownBlock) v1333 t1332) ∧ Aside0 (Kd.R Kd.string 9 w' w.heap.size (fun k_ => some k_ ≠ (v1333 : Value).ownBlock) (.slice Ao9 t1324.length co9) t1324) ∧ Aside0 (w'.heap[gb1328]? = some (.cells #[.string t1321, .string t1322, .string t1323, (.slice Ao9 t1324.length co9), .int .i64 t1327] 25 (0, 0))) ∧ Aside0 (Below w.heap.size w w'))
     case atStart => exact ⟨(0), (0), zf, zf, H', ⟨Nat.le_refl _⟩, ⟨Kd.R_mono (zr HO1334.out) (fun _ hk => hk.2)⟩, ⟨Kd.R_mono (zr HO_1329003.out) (fun _ hk => hk.2)⟩, ⟨zl BK1328.out⟩, ⟨zb HB.out⟩⟩
     case round =>
      clear H'
      try clear c1
      try clear c2
      try clear c2b0
      try clear c2b1
      try clear p2
      try clear c3
      try clear c4
      try clear c5
      try clear c6
      try clear c12
      try clear c12b0
      try clear c12b1
      try clear c17
      try clear hcz13
      try clear hcz15
      try clear hcz19
      try clear hcz22
      try clear hcz8
      try clear p2
      obtain ⟨x5_2, x7_2, rfl, rfl, HA, HK2, HO_6, HO_1329003, BK1328, HB⟩ := hrel
      cases gk with
      | zero => exact absurd HA.out (by simp [laws_FnSieveSize.l0])
      | succ k2 =>
       have H := HA.out; clear HA; simp only [laws_FnSieveSize.l0] at H
       by_cases c24 : x7_2 < (t1332.length : Int)
       ·rw [if_pos c24] at H; have c24b0 := decide_eq_true c24; clear c24; replace H := zn H; obtain ⟨c25, H⟩ := H; have c25b0 := decide_eq_true c25; clear c25; have H' := z0 H; clear H; obtain ⟨Ao26, co26, eo26⟩ := Kd.R_slice HO_6.out; subst eo26; have p1335 : 0 ≤ (x7_2 : Int) := zd; have q1335 : x7_2 < (t1332.length : Int) := zd; obtain ⟨ad1335, e1335, hx1335_0⟩ := Kd.at_string (Kd.R_reads' HO_6.out).2.2 x7_2 p1335 q1335; cases e1335; replace p1335 := eq_true p1335; replace q1335 := eq_true q1335; go_wp2; go_roundg k2
        case measure => have := HJ4.out; have := HK2.out; omega
        case rel => exact ⟨(wrap64 ((wrap64 (x5_2 + ((rdOf ByteArray.empty t1332 x7_2).size : Int))) + 1)), (wrap64 (x7_2 + 1)), zf, zf, H', ⟨by have := HJ4.out; have := HK2.out; omega⟩, ⟨zr HO_6.out⟩, ⟨zr HO_1329003.out⟩, ⟨zl BK1328.out⟩, ⟨zb HB.out⟩⟩
       ·rw [if_neg c24] at H; have c24b0 := decide_eq_false c24; clear c24
        by_cases c27 : t1329 ≥ (t1332.length : Int)
        ·rw [if_pos c27] at H; have c27b0 : decide ((t1332.length : Int) ≤ t1329) = true := decide_eq_true c27; clear c27; obtain rfl := Option.some.inj H; obtain ⟨Ao28, co28, eo28⟩ := Kd.R_slice HO_6.out; subst eo28; go_wp2; go_ret; exact ⟨ze, zb HB.out⟩
        ·rw [if_neg c27] at H; have c27b0 : decide ((t1332.length : Int) ≤ t1329) = false := decide_eq_false c27; clear c27; obtain rfl := Option.some.inj H; obtain ⟨Ao29, co29, eo29⟩ := Kd.R_slice HO_6.out; subst eo29; go_wp2; go_ret; exact ⟨ze, zb HB.out⟩
theorem laws_FnSieveSize.walk (P : laws_FnSieveSize.Pure) (a0 : Option Addr) (len0 cap0 : Nat) (z0 : List Int) (w : World) (w0 : (a0 = none ∧ len0 = 0 ∧ cap0 = 0 ∧ z0 = []) ∨ ∃ x, a0 = some x ∧ len0 ≤ cap0 ∧ cap0 ≤ maxLen ∧ z0.length = cap0 ∧ (∀ i, i < z0.length → w.cell? (x.add i) = some (.int .u8 (z0.getD i 0))) ∧ ∀ n ∈ z0, (Lit.int .u8 n).wf = true) (y0 : len0 * 1 ≤ 140737488351232) :
    Calls Try.prog 17 #[.slice a0 len0 cap0] w fun e w' => e = .returned (.bool true) ∧ Below w.heap.size w w' := by
  obtain ⟨l0, rfl, hr0, hm0, hw0, hc0⟩ := ReadsInt.ofRowC w0
  obtain ⟨k, h⟩ := P l0 hm0 y0 hw0
  refine (laws_FnSieveSize.calls k _ _ l0 true w (Kd.C_of_reads (d := (0 : Int)) (h1 := fun _ => rfl) hr0) hc0 h).mono ?_
  rintro e w' ⟨rfl, hd⟩
  exact ⟨rfl, hd⟩
end Go.Proofs.Ytifgcajpkgamgaa.Q
end
section
set_option linter.unusedVariables false
set_option linter.unusedSimpArgs false
namespace Go.Proofs.Ytifgcajpkgamgaa.Pb
open Go Go.RowKit Go.Proofs.YtifgcajpkgamgaaW.PrintWords Go.Proofs.YtifgcajpkgamgaaW.PrintLast Go.Proofs.YtifgcajpkgamgaaW.PrintMore Go.Proofs.Ytifgcajpkgamgaa.Trie Go.Proofs.Ytifgcajpkgamgaa.Q
section
variable {K : List Key} {keep : Nat} {Lt Mo Fi : ByteArray} {Rs : List ByteArray}
theorem forks_more (h : Is K keep Lt Mo Fi Rs) : onesB (L Mo) (brs (lvls K)).length + 1 = (lvls K).length := by
 have hl := (lvls_is h.ok).1
 have h1 : onesB (L Mo) (brs (lvls K)).length = ((lvls K).flatMap conts).length := by
  rw [h.enc.m, onesB_enc, List.take_length, countP_conts]
 have h2 : (lvls K).length = ((lvls K).flatMap conts).length + 1 := by
  conv => lhs; rw [hl.eq]
  rw [List.length_cons]
 omega
theorem branches (h : Is K keep Lt Mo Fi Rs) : (brs (lvls K)).length + 1 = (lvls K).length + K.length := size_eq (lvls_is h.ok).1.eq
theorem lvl_pos (h : Is K keep Lt Mo Fi Rs) : 1 ≤ (lvls K).length := by
 have := forks_more h
 omega
theorem branches_size (h : Is K keep Lt Mo Fi Rs) : Lt.size = (brs (lvls K)).length := by rw [size_L, h.enc.fm.ln]
def room (M : Key → Nat) (q : List Nd) : Nat := (q.map (fun x => (x.1.map (fun k => M k + 1 - x.2)).sum)).sum
theorem sum_flatten (f : Key → Nat) : ∀ l : List (List Key), (l.flatten.map f).sum = (l.map (fun g => (g.map f).sum)).sum
 | [] => rfl
 | g :: l => by rw [List.flatten_cons, List.map_append, List.sum_append, List.map_cons, List.sum_cons, sum_flatten f l]
theorem sum_filter_le (p : List Key → Bool) (f : List Key → Nat) : ∀ l : List (List Key), ((l.filter p).map f).sum ≤ (l.map f).sum
 | [] => Nat.le_refl _
 | g :: l => by
  have := sum_filter_le p f l
  rw [List.filter_cons, List.map_cons, List.sum_cons]
  split
  ·rw [List.map_cons, List.sum_cons]; omega
  ·omega
theorem room_conts (M : Key → Nat) (x : Nd) (hx : ∀ k ∈ x.1, x.2 ≤ M k) : x.1.length + room M (conts x) ≤ (x.1.map (fun k => M k + 1 - x.2)).sum := by
 have h1 : room M (conts x) ≤ (x.1.map (fun k => M k - x.2)).sum := by
  unfold room conts
  rw [List.map_map]
  refine Nat.le_trans (sum_filter_le cont _ _) ?_
  have e : ((fun x_1 : Nd => (List.map (fun k => M k + 1 - x_1.2) x_1.1).sum) ∘ fun g => (g, x.2 + 1)) = fun g => (g.map (fun k => M k - x.2)).sum := by
   funext g
   simp only [Function.comp]
   congr 1
   apply List.map_congr_left
   intro k _
   omega
  rw [e, ← sum_flatten, runs_flatten]
  exact Nat.le_refl _
 have h2 : ∀ l : List Key, (∀ k ∈ l, x.2 ≤ M k) → l.length + (l.map (fun k => M k - x.2)).sum = (l.map (fun k => M k + 1 - x.2)).sum := by
  intro l
  induction l with
  | nil => intro _; rfl
  | cons a l ih =>
   intro h
   have := ih (fun k hk => h k (List.mem_cons_of_mem _ hk))
   have := h a (List.mem_cons_self ..)
   rw [List.map_cons, List.map_cons, List.sum_cons, List.sum_cons, List.length_cons]
   omega
 have := h2 x.1 hx
 omega
theorem room_append (M : Key → Nat) (a b : List Nd) : room M (a ++ b) = room M a + room M b := by simp [room]
theorem room_all (M : Key → Nat) {q X : List Nd} (h : Bfs q X) (hM : ∀ x ∈ X, ∀ k ∈ x.1, x.2 ≤ M k) : (X.map (fun x => x.1.length)).sum ≤ room M q := by
 induction h with
 | nil => exact Nat.le_refl _
 | cons _ ih =>
  rename_i x q X _
  have ih := ih (fun y hy => hM y (List.mem_cons_of_mem _ hy))
  have h1 := room_conts M x (hM x (List.mem_cons_self ..))
  rw [room_append] at ih
  have e : room M (x :: q) = (x.1.map (fun k => M k + 1 - x.2)).sum + room M q := by simp [room]
  rw [List.map_cons, List.sum_cons, e]
  omega
theorem brs_le : ∀ X : List Nd, (brs X).length ≤ (X.map (fun x => x.1.length)).sum
 | [] => Nat.le_refl _
 | x :: X => by
  have := brs_le X
  have h1 := runs_length_le x.2 x.1
  unfold brs at this ⊢
  rw [List.flatMap_cons, List.length_append, bra_length, List.map_cons, List.sum_cons]
  omega
theorem branches_le (h : Is K keep Lt Mo Fi Rs) : (brs (lvls K)).length ≤ (K.map (fun k => (Trie.hd K keep k).length + 1)).sum := by
 have hl := (lvls_is h.ok).1
 refine Nat.le_trans (brs_le _) (Nat.le_trans (room_all (fun k => (Trie.hd K keep k).length) hl.bfs (fun x hx k hk => ?_)) ?_)
 ·obtain ⟨m, hm, rfl⟩ := List.getElem_of_mem hx
  obtain ⟨_, _, h1, h2⟩ := hl.key hm hk
  show (lvls K)[m].2 ≤ (k.take (dep K k + 1 + keep)).length
  rw [List.length_take]
  omega
 ·simp [room]
end
end Go.Proofs.Ytifgcajpkgamgaa.Pb
end
section
set_option linter.unusedVariables false
set_option linter.unusedSimpArgs false
namespace Go.Proofs.Ytifgcajpkgamgaa.Pure
open Go Go.RowKit Go.Proofs.YtifgcajpkgamgaaW.PrintWords Go.Proofs.YtifgcajpkgamgaaW.PrintLast Go.Proofs.YtifgcajpkgamgaaW.PrintMore Go.Proofs.Ytifgcajpkgamgaa.Trie Go.Proofs.Ytifgcajpkgamgaa.Q Go.Proofs.Ytifgcajpkgamgaa.Pb
theorem size_l0 {K : List Key} {keep : Nat} (h : KsOk K) (n : Nat) (h1 : K.length ≤ n) (h2 : n ≤ (K.map (fun k => (Trie.hd K keep k).length + 1)).sum) (d : Nat) : ∀ i : Nat, i ≤ K.length → K.length - i = d →
  Ev (fun k => laws_FnSieveSize.l0 k (n : Int) ((((K.take i).map (fun k => (Trie.hd K keep k).length + 1)).sum : Nat) : Int) (K.map (ht K keep)) (i : Int)) true := by
 have hn := h.few
 have hl : (K.map (ht K keep)).length = K.length := List.length_map _
 have hb : ∀ l : List Key, (∀ k ∈ l, k ∈ K) → (l.map (fun k => (Trie.hd K keep k).length + 1)).sum ≤ l.length * 6 := by
  intro l
  induction l with
  | nil => intro _; simp
  | cons a l ih =>
   intro q
   have := ih (fun k hk => q k (List.mem_cons_of_mem _ hk))
   have := (kok_take (h.ok a (q a (List.mem_cons_self ..))) (dep K a + 1 + keep)).len
   rw [List.map_cons, List.sum_cons, List.length_cons]
   have e : Trie.hd K keep a = a.take (dep K a + 1 + keep) := rfl
   rw [e]
   omega
 induction d with
 | zero =>
  intro i g1 g2
  refine ev_succ ?_
  simp only [laws_FnSieveSize.l0]
  have : i = K.length := by omega
  subst this
  rw [List.take_length]
  refine ev_neg (by rw [hl]; omega) (ev_pos (by rw [hl]; omega) (ev_some ?_))
  rw [decide_eq_true_eq]
  omega
 | succ d ih =>
  intro i g1 g2
  have ih := ih (i + 1) (by omega) (by omega)
  refine ev_succ ?_
  simp only [laws_FnSieveSize.l0]
  have hi : i < K.length := by omega
  have hr : L (rdOf ByteArray.empty (K.map (ht K keep)) (i : Int)) = Trie.hd K keep (K.getD i []) := by
   show L ((K.map (ht K keep)).getD i ByteArray.empty) = _
   rw [ht_getD K hi, L_ht]
  have hz : (rdOf ByteArray.empty (K.map (ht K keep)) (i : Int)).size = (Trie.hd K keep (K.getD i [])).length := by rw [size_L, hr]
  have hs : ((K.take (i + 1)).map (fun k => (Trie.hd K keep k).length + 1)).sum = ((K.take i).map (fun k => (Trie.hd K keep k).length + 1)).sum + ((Trie.hd K keep (K.getD i [])).length + 1) := by
   rw [List.take_succ_eq_append_getElem hi, List.map_append, List.sum_append, getD_lt _ hi]
   simp
  have b1 := hb (K.take (i + 1)) (fun k hk => List.mem_of_mem_take hk)
  have b2 : (K.take (i + 1)).length ≤ 24 := by rw [List.length_take]; omega
  have hw : ∀ _ : Unit, wrap64 ((i : Int) + 1) = ((i + 1 : Nat) : Int) := fun _ => by rw [w64 (by omega) (by omega)]; omega
  have hw2 : ∀ _ : Unit, wrap64 (wrap64 (((((K.take i).map (fun k => (Trie.hd K keep k).length + 1)).sum : Nat) : Int) + (((rdOf ByteArray.empty (K.map (ht K keep)) (i : Int)).size : Nat) : Int)) + 1) = ((((K.take (i + 1)).map (fun k => (Trie.hd K keep k).length + 1)).sum : Nat) : Int) := fun _ => by
   have q : (((((K.take i).map (fun k => (Trie.hd K keep k).length + 1)).sum : Nat) : Int) + (((rdOf ByteArray.empty (K.map (ht K keep)) (i : Int)).size : Nat) : Int)) = (((((K.take i).map (fun k => (Trie.hd K keep k).length + 1)).sum + (Trie.hd K keep (K.getD i [])).length : Nat)) : Int) := by rw [hz]; omega
   have hs2 : ((K.take (i + 1)).map (fun k => (Trie.hd K keep k).length + 1)).sum = (((K.take i).map (fun k => (Trie.hd K keep k).length + 1)).sum + (Trie.hd K keep (K.getD i [])).length) + 1 := by omega
   rw [q, hs2]
   have q2 : ((K.take i).map (fun k => (Trie.hd K keep k).length + 1)).sum + (Trie.hd K keep (K.getD i [])).length ≤ 1000 := by omega
   generalize ((K.take i).map (fun k => (Trie.hd K keep k).length + 1)).sum + (Trie.hd K keep (K.getD i [])).length = y at q2 ⊢
   rw [w64 (i := (y : Int)) (by omega) (by omega), w64 (by omega) (by omega)]
   omega
  rw [hw (), hw2 ()]
  exact ev_pos (by rw [hl]; omega) (ev_pos (by omega) ih)
theorem FnSieveSize : laws_FnSieveSize.Pure := by
 intro l0 hl _ hw
 refine Ev.rounds ?_
 unfold laws_FnSieveSize.f
 by_cases c : (l0.length : Int) > 1048576
 ·exact ev_pos c (ev_some rfl)
 ·obtain ⟨Lt, Mo, Fi, Rs, a, hd, hz⟩ := DrawSieveSize_ev l0 hl hw
  rcases both hz.sz a with ⟨K, keep, rfl, hI, hh, hok, _⟩ | ⟨_, hh, hok⟩
  ·have m1 := size_yes hh
   have m2 : Ev (fun k => spec_SieveSize.f k Lt Mo Fi Rs (keep : Int)) (Lt.size : Int) := by
    unfold spec_SieveSize.f
    exact Ev.bind hok (ev_pos rfl (ev_some rfl))
   have hsh := impl_SieveHeads_of (by rw [List.length_map]; have := hI.ok.few; omega) hh
   rw [pt_text] at hsh
   have hbr := branches hI
   have hmo := lvl_pos hI
   have hlt := branches_size hI
   refine ev_neg c (Ev.bind hd (Ev.bind m1 (Ev.bind m2 (ev_pos rfl (ev_succ ?_)))))
   simp only [laws_FnSieveSize.j0]
   refine ev_neg (by simp) (Ev.bind hsh ?_)
   have := size_l0 (keep := keep) hI.ok Lt.size (by omega) (by rw [hlt]; exact branches_le hI) K.length 0 (Nat.zero_le _) rfl
   simpa using this
  ·have m1 := size_no hh
   have m2 : Ev (fun k => spec_SieveSize.f k Lt Mo Fi Rs a) (-1) := by
    unfold spec_SieveSize.f
    exact Ev.bind hok (ev_neg (by simp) (ev_some rfl))
   refine ev_neg c (Ev.bind hd (Ev.bind m1 (Ev.bind m2 (ev_pos rfl (ev_succ ?_)))))
   simp only [laws_FnSieveSize.j0]
   exact ev_pos (by simp) (Ev.bind m2 (ev_some rfl))
end Go.Proofs.Ytifgcajpkgamgaa.Pure
end
