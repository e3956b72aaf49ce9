/- What the law FnSieveOk needs: the kit's printed words, the printed functions with their proofs, and plain facts on them. -/
import Derived.Test.YtifgcajpkgamgaaBSDb
section
namespace Go.Proofs.Ytifgcajpkgamgaa.Q
open Go.RowKit Go.Proofs.YtifgcajpkgamgaaW.PrintWords Go.Proofs.YtifgcajpkgamgaaW.PrintLast Go.Proofs.YtifgcajpkgamgaaW.PrintMore
attribute [local go_sem] max2_int min2_int max_two min_two max_three min_three max_four min_four   
set_option linter.unusedVariables false
set_option linter.unusedSimpArgs false
set_option maxHeartbeats 8000000
set_option maxRecDepth 100000
theorem impl_SieveOk.mono : ∀ a0 a1 a2 a3 a4 k, LeO (impl_SieveOk.f k a0 a1 a2 a3 a4) (impl_SieveOk.f (k + 1) a0 a1 a2 a3 a4) := by
  intro a0 a1 a2 a3 a4 k
  unfold impl_SieveOk.f
  repeat' first | (with_reducible first | apply impl_Sieve_heads.mono | exact LeO.refl _ | exact LeO.none _ | refine LeO.ite ?_ ?_ | refine LeO.bind ?_ (fun _ => ?_)) | exact LeO.none _ | refine LeO.ite ?_ ?_ | refine LeO.bind ?_ (fun _ => ?_)
theorem impl_SieveOk.calls (k : Nat) (a0_0 a0_1 a0_2 : ByteArray) (A0_3 : Option Addr) (c0_3 : Nat) (l0_3 : List ByteArray) (a0_4 : Int) (r : Bool) (w : World) (hr0_3 : Kd.C Kd.string w A0_3 l0_3.length l0_3) (hc0_3 : l0_3.length ≤ c0_3) (h : impl_SieveOk.f k a0_0 a0_1 a0_2 l0_3 a0_4 = some r) :
    Calls Try.prog 48 #[.agg #[.string a0_0, .string a0_1, .string a0_2, .slice A0_3 l0_3.length c0_3, .int .i64 a0_4]] w fun e w' => e = .returned (.bool r) ∧ Below w.heap.size w w' := by
 have hu25 := Try.underlying25; have HR0_3 := z0 hr0_3; have HC0_3 := z0 hc0_3; clear hr0_3 hc0_3; have HB := z0 (Below.refl w.heap.size w); have H : ((impl_Sieve_heads.f k a0_0 a0_1 a0_2 l0_3 a0_4).bind fun bt390 => (some bt390.2)) = some r := h; clear h; replace H := zi H; obtain ⟨⟨t390, t393⟩, A2, H⟩ := H; (try dsimp only at H); obtain rfl := Option.some.inj H; go_enter Try.func48, Try.ntmps48
 go_wp2_with (first | ((with_reducible refine gd 1 ?_); refine zbx 25 #[.string a0_0, .string a0_1, .string a0_2, .slice A0_3 l0_3.length c0_3, .int .i64 a0_4] ?_; intro gb389 hg w3 hbox hb; have BK389 := z0 (hbox); have GE389 := zG hg HB; replace HB := zH HB hb; clear hb hbox hg; have hcz4 := zc5 BK389.out) | ((with_reducible refine gc 89 ?_); refine zL (some 7) Try.func89 #[.agg #[.string a0_0, .string a0_1, .string a0_2, .slice A0_3 l0_3.length c0_3, .int .i64 a0_4]] ?_; (with_reducible refine (impl_Sieve_heads.calls k a0_0 a0_1 a0_2 _ _ l0_3 a0_4 t390 t393 _ (zC (Kd.C_below HR0_3.out HB.out)) HC0_3.out A2.out).mono ?_); rintro e w5 ⟨v391, rfl, ho0, hb⟩; refine zv ?_; have HO392 := z0 (Kd.R_lower ho0 (below_size (zb HB.out))); replace BK389 := zK BK389 hb; replace HB := zH HB hb; (try clear hb ho0)))
 go_ret; exact ⟨ze, zb HB.out⟩
theorem spec_DrawSieveOk.mono_l : ∀ k, (∀ y0 y1 y2 y3 y4 y5 y6 y7, LeO (spec_DrawSieveOk.j0 k y0 y1 y2 y3 y4 y5 y6 y7) (spec_DrawSieveOk.j0 (k + 1) y0 y1 y2 y3 y4 y5 y6 y7))
  | 0 => fun _ _ _ _ _ _ _ _ r h => by simp [spec_DrawSieveOk.j0] at h
  | k + 1 => by
    have ih0 := spec_DrawSieveOk.mono_l k
    · intro y0 y1 y2 y3 y4 y5 y6 y7
      unfold spec_DrawSieveOk.j0
      repeat' first | (with_reducible first | apply ih0 | apply spec_l6Rd_of.mono | apply spec_l6Rd_pick.mono | apply spec_l71Bent.mono | exact LeO.refl _ | exact LeO.none _ | refine LeO.ite ?_ ?_ | refine LeO.bind ?_ (fun _ => ?_)) | exact LeO.none _ | refine LeO.ite ?_ ?_ | refine LeO.bind ?_ (fun _ => ?_)
theorem spec_DrawSieveOk.mono : ∀ a0 k, LeO (spec_DrawSieveOk.f k a0) (spec_DrawSieveOk.f (k + 1) a0) := by
  intro a0 k
  have ih0 := spec_DrawSieveOk.mono_l k
  unfold spec_DrawSieveOk.f
  repeat' first | (with_reducible first | apply ih0 | apply spec_l6Rd_of.mono | apply spec_l6Rd_pick.mono | apply spec_l71Bent.mono | exact LeO.refl _ | exact LeO.none _ | refine LeO.ite ?_ ?_ | refine LeO.bind ?_ (fun _ => ?_)) | exact LeO.none _ | refine LeO.ite ?_ ?_ | refine LeO.bind ?_ (fun _ => ?_)
def spec_DrawSieveOk.T5 : Bool × List (List Nat × List Nat) := (true, [([], []), ([0], [0]), ([], []), ([1, 2], [1, 2]), ([], []), ([], []), ([4, 5], [4, 5]), ([3, 6], [3, 6]), ([], []), ([8], [8]), ([], []), ([10], [10]), ([9, 11], [9, 11]), ([7, 12], [7, 12]), ([0, 1, 2, 3, 4, 5, 6, 7, 8, 9, 10, 11, 12, 13], []), ([14, 13, 6, 0, 1, 2, 3, 4, 5, 6, 7, 8, 9, 10, 11, 12, 13], [13, 14])])
def spec_DrawSieveOk.B5 : List Nat := [0, 1, 0, 7, 0, 0, 48, 127, 0, 256, 0, 1024, 3840, 8191, 16383, 32767]
theorem spec_DrawSieveOk.tab5 : rtab .any (opsOf Try.f58 5) = spec_DrawSieveOk.T5 := by kernel_rfl
theorem spec_DrawSieveOk.bits5 : waitsOk spec_DrawSieveOk.T5.2 spec_DrawSieveOk.B5 = true := by kernel_rfl
theorem spec_DrawSieveOk.calls (k : Nat) (A0 : Option Addr) (c0 : Nat) (l0 : List Int) (r1 r2 r3 : ByteArray) (r4 : List ByteArray) (r5 : Int) (w : World) (hr0 : Kd.C (Kd.int .u8) w A0 l0.length l0) (hc0 : l0.length ≤ c0) (h : spec_DrawSieveOk.f k l0 = some (r1, r2, r3, r4, r5)) :
    Calls Try.prog 58 #[.slice A0 l0.length c0] w fun e w' => ∃ v3_ : Value, e = .returned (.agg #[.string r1, .string r2, .string r3, v3_, .int .i64 r5]) ∧ Kd.R Kd.string 9 w' w.heap.size (fun _ => True) v3_ r4 ∧ Below w.heap.size w w' := by
 have hu25 := Try.underlying25; have HR0 := z0 hr0; have HC0 := z0 hc0; clear hr0 hc0; have HB := z0 (Below.refl w.heap.size w); have H : ((spec_l6Open.f l0).bind fun bt1264 => ((spec_l71Bent.f k bt1264.1 bt1264.2).bind fun bt1267 => ((spec_l6Rd_pick.f k bt1264.1 bt1267.2.2.2.2.2.2 3).bind fun bt1279 => (if bt1279.1 = 0 then (spec_DrawSieveOk.j0 k (decide ((bt1267.1.size : Int) > 0)) bt1264.1 bt1279.2 bt1267.1 bt1267.2.1 bt1267.2.2.1 bt1267.2.2.2.1 bt1267.2.2.2.2.1) else (spec_DrawSieveOk.j0 k false bt1264.1 bt1279.2 bt1267.1 bt1267.2.1 bt1267.2.2.1 bt1267.2.2.2.1 bt1267.2.2.2.2.1))))) = some (r1, r2, r3, r4, r5) := h; clear h; replace H := zi H; obtain ⟨⟨t1264, t1265⟩, A2, H⟩ := H; (try dsimp only at H); replace H := zi H; obtain ⟨⟨t1267, t1268, t1269, t1270, t1273, t1274, t1277⟩, A3, H⟩ := H; (try dsimp only at H); have HC4 := z0 H; clear H; go_enter Try.func58, Try.ntmps58
 go_upto_region 3 with (first | ((with_reducible refine gd 2 ?_); (try (refine gate_guard (by rfl) ?_; dsimp only)); refine zbx 25 #[.string ⟨#[]⟩, .string ⟨#[]⟩, .string ⟨#[]⟩, .slice none 0 0, .int .i64 0] ?_; intro gb1263 hg w5 hbox hb; have BK1263 := z0 (hbox); have GE1263 := zG hg HB; replace HB := zH HB hb; clear hb hbox hg) | ((with_reducible refine gc 64 ?_); refine zL (some 8) Try.func64 #[.slice A0 l0.length c0] ?_; (with_reducible refine (spec_l6Open.calls _ _ l0 t1264 t1265 w _ (zb HB.out) HR0.out HC0.out A2.out).mono ?_); rintro e w6 ⟨g1266, rfl, hi, hb, hb2⟩; refine zv ?_; replace HB := z0 (hb); have HI1266 := z0 (hi); have NB1266_1263 := z0 (IsS98.ne_blk hi (blk_below (zl BK1263.out) hb2) (by decide)); have NB1263_1266 := z0 (Ne.symm (IsS98.ne_blk hi (blk_below (zl BK1263.out) hb2) (by decide))); replace BK1263 := zK BK1263 hb2; (try clear hb hb2 hi)) | ((with_reducible refine gc 65 ?_); refine zL (some 11) Try.func65 #[.pointer (some ⟨g1266, 0, none⟩)] ?_; (with_reducible refine (spec_l71Bent.calls k g1266 t1264 t1265 t1267 t1268 t1269 t1270 t1273 t1274 t1277 w _ (HI1266.out.zI) (HI1266.out.zb HB.out) A3.out).mono ?_); rintro e w7 ⟨v1271, v1275, rfl, ho0, ho1, hi, hb, hk⟩; refine zv ?_; replace BK1263 := z0 (KeepBut.blk hk (g' := gb1263) (o := .cells #[.string ⟨#[]⟩, .string ⟨#[]⟩, .string ⟨#[]⟩, .slice none 0 0, .int .i64 0] 25 (0, 0)) (zl BK1263.out) NB1263_1266.out (by simp)); have HO1272 := z0 (Kd.R_lower ho0 (below_size (HI1266.out.zb HB.out))); have HO1276 := z0 (Kd.R_lower ho1 (below_size (HI1266.out.zb HB.out))); replace HB := z0 (hb); replace HI1266 := z0 (hi); (try clear hb hk hi ho0 ho1)) | ((with_reducible refine gd 4 ?_); (try (refine gate_guard (by rfl) ?_; dsimp only)); refine zbx 25 #[.string ⟨#[]⟩, .string ⟨#[]⟩, .string ⟨#[]⟩, .slice none 0 0, .int .i64 0] ?_; intro gb1278 hg w8 hbox hb; replace HO1272 := zA HO1272 hb; replace HO1276 := zA HO1276 hb; have BK1278 := z0 (hbox); have GW1278 := z0 ((by rw [hg]; exact (below_size (HI1266.out.zb HB.out)) : w.heap.size ≤ gb1278)); have GE1278 := z0 ((by rw [hg]; exact (below_size (HI1266.out.zb HB.out)) : w.heap.size ≤ gb1278)); replace HB := z0 (below_step (HI1266.out.zb HB.out) hb); have NB1263_1278 := zLt hg BK1263; have NB1278_1263 := zGt hg BK1263; replace BK1263 := zK BK1263 hb; have NB1266_1278 := z0 ((by rw [hg]; exact Nat.ne_of_lt (IsS98.lt (show IsS98 w _ g1266 t1264 t1277 from HI1266.out.zI)) : g1266 ≠ gb1278)); have NB1278_1266 := z0 ((by rw [hg]; exact Nat.ne_of_gt (IsS98.lt (show IsS98 w _ g1266 t1264 t1277 from HI1266.out.zI)) : gb1278 ≠ g1266)); replace HI1266 := z0 (IsS98.below (HI1266.out.zI) hb); clear hb hbox hg; have hnb9 := NB1278_1263.out; have hnc9 := NB1263_1278.out; have hnb10 := NB1278_1266.out; have hnc10 := NB1266_1278.out; have hcz11 := zc5 BK1278.out; obtain ⟨Ao12, co12, eo12⟩ := Kd.R_slice HO1272.out; subst eo12))
 (try simp only [Act.put, List.setIfInBounds_toArray, List.set_cons_zero, List.set_cons_succ])
 go_cut [22] (fun v22 wc => ∃ (kq : Nat) (x22_3 : Bool) (x1267001_3 : Int), v22 = .bool x22_3 ∧ Aside0 (spec_DrawSieveOk.j0 kq x22_3 t1264 x1267001_3 t1267 t1268 t1269 t1270 t1273 = some (r1, r2, r3, r4, r5)) ∧ Aside0 (kq ≤ k) ∧ Aside0 (Kd.R Kd.string 9 wc w.heap.size (fun _ => True) (.slice Ao12 t1270.length co12) t1270) ∧ Aside0 (wc.heap[gb1263]? = some (.cells #[.string ⟨#[]⟩, .string ⟨#[]⟩, .string ⟨#[]⟩, (.slice none 0 0), .int .i64 0] 25 (0, 0))) ∧ Aside0 (wc.heap[gb1278]? = some (.cells #[.string t1267, .string t1268, .string t1269, (.slice Ao12 t1270.length co12), .int .i64 t1273] 25 (0, 0))) ∧ Aside0 (IsS98 w wc g1266 t1264 x1267001_3) ∧ Aside0 (Below w.heap.size w wc))
 case first =>
  have H := HC4.out; clear HC4; replace H := zi H; obtain ⟨⟨t1279, t1280⟩, A13, H⟩ := H; (try dsimp only at H)
  by_cases c14 : t1279 = 0
  ·rw [if_pos c14] at H; have c14b0 : (t1279 == 0) = true := beq_iff_eq.mpr c14; have c14b1 : (t1279 != 0) = false := bne_eq_false_iff_eq.mpr c14; clear c14; (first | rw [c14b0] | (simp only [i64_w, i32_w]; rw [c14b0]) | simp only [*, Bool.not_true, Bool.not_false] | skip); have H' := z0 H; clear H
   go_wp2_with (first | ((with_reducible refine gc 78 ?_); refine zL (some 15) Try.func78 #[.pointer (some ⟨g1266, 0, none⟩), .int .i64 3] ?_; (with_reducible refine (spec_l6Rd_pick.calls k g1266 t1264 t1277 3 t1279 t1280 w _ (HI1266.out.zI) (HI1266.out.zb HB.out) A13.out).mono ?_); rintro e w15 ⟨rfl, hi, hb, hk⟩; refine zv ?_; replace BK1263 := z0 (KeepBut.blk hk (g' := gb1263) (o := .cells #[.string ⟨#[]⟩, .string ⟨#[]⟩, .string ⟨#[]⟩, .slice none 0 0, .int .i64 0] 25 (0, 0)) (zy BK1263.out) NB1263_1266.out (by simp)); replace HO1272 := z0 (Kd.R_mono (Kd.R_keep (IsS98.apart (show IsS98 w _ g1266 t1264 t1277 from HI1266.out.zI) (zs HO1272.out BK1278.out) (by decide)) hk (fun _ h => h.2)) (fun _ h => h.1)); replace HO1276 := z0 (Kd.R_mono (Kd.R_keep (IsS98.apart (show IsS98 w _ g1266 t1264 t1277 from HI1266.out.zI) (zs HO1276.out BK1278.out) (by decide)) hk (fun _ h => h.2)) (fun _ h => h.1)); replace BK1278 := z0 (KeepBut.blk hk (g' := gb1278) (o := .cells #[.string t1267, .string t1268, .string t1269, .slice Ao12 t1270.length co12, .int .i64 t1273] 25 (0, 0)) (zp BK1278.out) NB1278_1266.out (by simp)); replace HB := z0 (hb); replace HI1266 := z0 (hi); (try clear hb hk hi); have hnb16 := NB1278_1263.out; have hnc16 := NB1263_1278.out; have hnb17 := NB1278_1266.out; have hnc17 := NB1266_1278.out; have hcz18 := zc5 BK1278.out))
   go_meet
   case rel => exact ⟨_, (decide ((t1267.size : Int) > 0)), (t1280), zf, H', ⟨by first | omega | exact Nat.le_refl _⟩, ⟨Kd.R_mono (zr HO1272.out) (fun _ hk => trivial)⟩, ⟨zl BK1263.out⟩, ⟨zl BK1278.out⟩, ⟨HI1266.out.zI⟩, ⟨HI1266.out.zb HB.out⟩⟩
  ·rw [if_neg c14] at H; have c14b0 : (t1279 == 0) = false := beq_eq_false_iff_ne.mpr c14; have c14b1 : (t1279 != 0) = true := bne_iff_ne.mpr c14; (first | rw [c14b0] | (simp only [i64_w, i32_w]; rw [c14b0]) | simp only [*, Bool.not_true, Bool.not_false] | skip); have H' := z0 H; clear H
   go_wp2_with (first | ((with_reducible refine gc 78 ?_); refine zL (some 15) Try.func78 #[.pointer (some ⟨g1266, 0, none⟩), .int .i64 3] ?_; (with_reducible refine (spec_l6Rd_pick.calls k g1266 t1264 t1277 3 t1279 t1280 w _ (HI1266.out.zI) (HI1266.out.zb HB.out) A13.out).mono ?_); rintro e w19 ⟨rfl, hi, hb, hk⟩; refine zv ?_; replace BK1263 := z0 (KeepBut.blk hk (g' := gb1263) (o := .cells #[.string ⟨#[]⟩, .string ⟨#[]⟩, .string ⟨#[]⟩, .slice none 0 0, .int .i64 0] 25 (0, 0)) (zy BK1263.out) NB1263_1266.out (by simp)); replace HO1272 := z0 (Kd.R_mono (Kd.R_keep (IsS98.apart (show IsS98 w _ g1266 t1264 t1277 from HI1266.out.zI) (zs HO1272.out BK1278.out) (by decide)) hk (fun _ h => h.2)) (fun _ h => h.1)); replace HO1276 := z0 (Kd.R_mono (Kd.R_keep (IsS98.apart (show IsS98 w _ g1266 t1264 t1277 from HI1266.out.zI) (zs HO1276.out BK1278.out) (by decide)) hk (fun _ h => h.2)) (fun _ h => h.1)); replace BK1278 := z0 (KeepBut.blk hk (g' := gb1278) (o := .cells #[.string t1267, .string t1268, .string t1269, .slice Ao12 t1270.length co12, .int .i64 t1273] 25 (0, 0)) (zp BK1278.out) NB1278_1266.out (by simp)); replace HB := z0 (hb); replace HI1266 := z0 (hi); (try clear hb hk hi)))
   go_meet
   case rel => exact ⟨_, (false), (t1280), zf, H', ⟨by first | omega | exact Nat.le_refl _⟩, ⟨Kd.R_mono (zr HO1272.out) (fun _ hk => trivial)⟩, ⟨zl BK1263.out⟩, ⟨zl BK1278.out⟩, ⟨HI1266.out.zI⟩, ⟨HI1266.out.zb HB.out⟩⟩
 case rest =>
  clear HC4
  try clear c1
  try clear p2
  try clear c5
  try clear c6
  try clear c7
  try clear c9
  try clear c10
  try clear c14
  try clear c14b0
  try clear c14b1
  try clear c16
  try clear c17
  try clear hcz11
  try clear hcz18
  obtain ⟨kq, x22_3, x1267001_3, rfl, HA, HJ3, HO_1279003, BK1263, BK1278, HI1266, HB⟩ := hcut
  cases kq with
  | zero => exact absurd HA.out (by simp [spec_DrawSieveOk.j0])
  | succ kj3 =>
   have H := HA.out; clear HA; simp only [spec_DrawSieveOk.j0] at H
   by_cases c20 : x22_3 = true
   ·subst c20
    have H1 : ((spec_l6Rd_pick.f kj3 t1264 x1267001_3 (t1267.size : Int)).bind fun bt1281 => (if 0 ≤ bt1281.1 then (if bt1281.1 ≤ (t1267.size : Int) then ((spec_l6Rd_of.f kj3 t1264 bt1281.2 (([(⟨#[97]⟩ : ByteArray), (⟨#[100]⟩ : ByteArray), (⟨#[45]⟩ : ByteArray), (⟨#[120]⟩ : ByteArray)] : List ByteArray))).bind fun bt1286 => (if (t1267.extract 0 (bt1281.1 : Int).toNat).size + bt1286.1.size ≤ 9223372036854775807 then (if 0 ≤ (wrap64 (bt1281.1 + 1)) then (if (wrap64 (bt1281.1 + 1)) ≤ (t1267.size : Int) then (if ((t1267.extract 0 (bt1281.1 : Int).toNat) ++ bt1286.1).size + (t1267.extract ((wrap64 (bt1281.1 + 1)) : Int).toNat t1267.size).size ≤ 9223372036854775807 then (some (((t1267.extract 0 (bt1281.1 : Int).toNat) ++ bt1286.1) ++ (t1267.extract ((wrap64 (bt1281.1 + 1)) : Int).toNat t1267.size), t1268, t1269, t1270, t1273)) else (none)) else (none)) else (none)) else (none))) else (none)) else (none))) = some (r1, r2, r3, r4, r5) := by rw [if_pos rfl] at H; exact H
    clear H; have H := H1; clear H1; replace H := zi H; obtain ⟨⟨t1281, t1282⟩, A21, H⟩ := H; (try dsimp only at H); replace H := zn H; obtain ⟨c22, H⟩ := H; have c22b0 := eq_true c22; have c22b1 := decide_eq_true c22; clear c22; replace H := zn H; obtain ⟨c23, H⟩ := H; have c23b0 := eq_true c23; have c23b1 := decide_eq_true c23; clear c23; obtain ⟨y1283, hy1283⟩ : ∃ y_ : List ByteArray, y_ = (([(⟨#[97]⟩ : ByteArray), (⟨#[100]⟩ : ByteArray), (⟨#[45]⟩ : ByteArray), (⟨#[120]⟩ : ByteArray)] : List ByteArray)) := ⟨_, rfl⟩; replace H : ((spec_l6Rd_of.f kj3 t1264 t1282 y1283).bind fun bt1286 => (if (t1267.extract 0 (t1281 : Int).toNat).size + bt1286.1.size ≤ 9223372036854775807 then (if 0 ≤ (wrap64 (t1281 + 1)) then (if (wrap64 (t1281 + 1)) ≤ (t1267.size : Int) then (if ((t1267.extract 0 (t1281 : Int).toNat) ++ bt1286.1).size + (t1267.extract ((wrap64 (t1281 + 1)) : Int).toNat t1267.size).size ≤ 9223372036854775807 then (some (((t1267.extract 0 (t1281 : Int).toNat) ++ bt1286.1) ++ (t1267.extract ((wrap64 (t1281 + 1)) : Int).toNat t1267.size), t1268, t1269, t1270, t1273)) else (none)) else (none)) else (none)) else (none))) = some (r1, r2, r3, r4, r5) := zH2 hy1283 H; have Ny1283 := z0 hy1283; clear hy1283; replace H := zi H; obtain ⟨⟨t1286, t1287⟩, A24, H⟩ := H; (try dsimp only at H); replace H := zn H; obtain ⟨c25, H⟩ := H; have c25b0 := eq_true c25; have c25b1 := decide_eq_true c25
    try have c25b2 : (9223372036854775807 < (t1267.extract 0 (t1281 : Int).toNat).size + t1286.size) = False := eq_false (Nat.not_lt.2 c25)
    (try (have c25b4 := c25b2; simp only [ByteArray.size_append, ByteArray.size_extract, Nat.sub_zero, Nat.min_self] at c25b4; rw [Nat.min_eq_left (by have := of_eq_true c23b0; omega)] at c25b4)); obtain ⟨ji26, hji26⟩ : ∃ j_ : Int, (wrap64 (t1281 + 1)) = j_ := ⟨_, rfl⟩
    replace H : (if 0 ≤ (ji26) then (if (ji26) ≤ (t1267.size : Int) then (if ((t1267.extract 0 (t1281 : Int).toNat) ++ t1286).size + (t1267.extract ((ji26) : Int).toNat t1267.size).size ≤ 9223372036854775807 then (some (((t1267.extract 0 (t1281 : Int).toNat) ++ t1286) ++ (t1267.extract ((ji26) : Int).toNat t1267.size), t1268, t1269, t1270, t1273)) else (none)) else (none)) else (none)) = some (r1, r2, r3, r4, r5) := by first | (rw [hji26] at H; exact H) | (simp only [hji26] at H ⊢; exact H)
    (try rw [hji26] at A21); (try rw [hji26] at A24); have hji26w : (IntKind.i64.wrap (t1281 + 1)) = ji26 := (i64_w _).trans hji26; replace H := zn H; obtain ⟨c27, H⟩ := H; have c27b0 := eq_true c27; have c27b1 := decide_eq_true c27; clear c27; replace H := zn H; obtain ⟨c28, H⟩ := H; have c28b0 := eq_true c28; have c28b1 := decide_eq_true c28; clear c28; replace H := zn H; obtain ⟨c29, H⟩ := H; have c29b0 := eq_true c29; have c29b1 := decide_eq_true c29
    try have c29b2 : (9223372036854775807 < ((t1267.extract 0 (t1281 : Int).toNat) ++ t1286).size + (t1267.extract ((ji26) : Int).toNat t1267.size).size) = False := eq_false (Nat.not_lt.2 c29)
    (try (have c29b4 := c29b2; simp only [ByteArray.size_append, ByteArray.size_extract, Nat.sub_zero, Nat.min_self] at c29b4; rw [Nat.min_eq_left (by have := of_eq_true c23b0; omega)] at c29b4)); (try (have c29b3 := c29b2; rw [ByteArray.size_append] at c29b3; try simp only [show ∀ b_ : UInt8, (⟨#[b_]⟩ : ByteArray).size = 1 from fun _ => rfl] at c29b3)); simp only [Option.some.injEq, Prod.mk.injEq] at H; obtain ⟨rfl, rfl, rfl, rfl, rfl⟩ := H; have hnb30 := NB1278_1263.out; have hnc30 := NB1263_1278.out; have hnb31 := NB1278_1266.out; have hnc31 := NB1266_1278.out; have hcz32 := zc5 BK1278.out
    try go_wp2_with (first | ((with_reducible refine gc 78 ?_); refine zL (some 27) Try.func78 #[.pointer (some ⟨g1266, 0, none⟩), .int .i64 (t1267.size : Int)] ?_; (with_reducible refine (spec_l6Rd_pick.calls kj3 g1266 t1264 x1267001_3 (t1267.size : Int) t1281 t1282 w _ (HI1266.out.zI) (HI1266.out.zb HB.out) A21.out).mono ?_); rintro e w33 ⟨rfl, hi, hb, hk⟩; refine zv ?_; replace HO_1279003 := z0 (Kd.R_mono (Kd.R_keep (IsS98.apart (show IsS98 w _ g1266 t1264 x1267001_3 from HI1266.out.zI) (zr HO_1279003.out) (by decide)) hk (fun _ h => h.2)) (fun _ h => h.1)); replace BK1263 := z0 (KeepBut.blk hk (g' := gb1263) (o := .cells #[.string ⟨#[]⟩, .string ⟨#[]⟩, .string ⟨#[]⟩, .slice none 0 0, .int .i64 0] 25 (0, 0)) (zl BK1263.out) NB1263_1266.out (by simp)); replace BK1278 := z0 (KeepBut.blk hk (g' := gb1278) (o := .cells #[.string t1267, .string t1268, .string t1269, .slice Ao12 t1270.length co12, .int .i64 t1273] 25 (0, 0)) (zl BK1278.out) NB1278_1266.out (by simp)); replace HB := z0 (hb); replace HI1266 := z0 (hi); (try clear hb hk hi)))
    replace HO_1279003 := z0 (Kd.R_drew HO_1279003.out); replace BK1263 := z0 (blk_drew BK1263.out); replace BK1278 := z0 (blk_drew BK1278.out); replace HI1266 := z0 (IsS98.drew HI1266.out); replace HB := z0 (below_drew1 HB.out); refine start_ (n := 16) (S := fun w' => w'.cell? ⟨gb1278, 0, none⟩ = some (.string t1267) ∧ w'.cell? ⟨gb1278, 1, none⟩ = some (.string t1268) ∧ w'.cell? ⟨gb1278, 2, none⟩ = some (.string t1269) ∧ w'.cell? ⟨gb1278, 3, none⟩ = some (.slice Ao12 t1270.length co12) ∧ w'.cell? ⟨gb1278, 4, none⟩ = some (.int .i64 t1273)) (ds := [15]) (fb 16 0) (by kernel_rfl) rfl rfl (zb5 BK1278.out) (fun hHeld => ?_); refine with_tabW spec_DrawSieveOk.tab5 spec_DrawSieveOk.bits5 (fun HT_ HW_ => ?_); generalize w33.drew = w34 at HO_1279003 BK1263 BK1278 HI1266 HB hHeld ⊢; refine zu 0 1 ?_; refine zu 2 5 ?_; refine zu 4 21 ?_; refine zu 8 277 ?_; refine zu 10 1301 ?_; refine zu 11 3349 ?_; refine zx 1 3351 hHeld ?_; refine zu 3 3359 ?_; refine zx 9 3871 hHeld ?_; refine zu 12 7967 ?_; refine zone 5 7999 (fun K hK => ?_); refine Kd.R_lit_step Kd.string _ 9 ?hg (N := 33) ?hd (xs := ([(⟨#[97]⟩ : ByteArray), (⟨#[100]⟩ : ByteArray), (⟨#[45]⟩ : ByteArray), (⟨#[120]⟩ : ByteArray)] : List ByteArray)) (inner := [.string ⟨#[97]⟩, .string ⟨#[100]⟩, .string ⟨#[45]⟩, .string ⟨#[120]⟩]) (ok := fun _ => True) (okp := fun _ => True) ?hr ?hp (fun _ hk => hk) trivial (Below.refl _ _) (Nat.le_refl _) (by simp) ?_; (case hd => rfl); (case hg => rfl); (case hr => first | (go_simp; done) | (go_simp; rfl)); (case hp => exact (Reps.one (show Kd.M Kd.string _ _ _ (⟨#[97]⟩ : ByteArray) [.string ⟨#[97]⟩] from rfl) (Reps.one (show Kd.M Kd.string _ _ _ (⟨#[100]⟩ : ByteArray) [.string ⟨#[100]⟩] from rfl) (Reps.one (show Kd.M Kd.string _ _ _ (⟨#[45]⟩ : ByteArray) [.string ⟨#[45]⟩] from rfl) (Reps.one (show Kd.M Kd.string _ _ _ (⟨#[120]⟩ : ByteArray) [.string ⟨#[120]⟩] from rfl) (Reps.none _ _)))))); intro v1284 w35 ho36 hb hg_ hnew_; clear hg_ hnew_; (first | rw [← Ny1283.out] at ho36 | (simp only [Int.reduceToNat] at ho36; rw [← Ny1283.out] at ho36)); have HO1285 := z0 (Kd.R_lower (Kd.R_new' ho36 (Kd.R_lt (zr HO_1279003.out))) (below_size (HI1266.out.zb HB.out))); replace HO_1279003 := z0 (Kd.R_elder' (zr HO_1279003.out) (Kd.R_base ho36) hb); replace BK1263 := zK BK1263 hb; replace BK1278 := zK BK1278 hb; replace HB := z0 (below_step (HI1266.out.zb HB.out) hb); replace HI1266 := z0 (IsS98.below (HI1266.out.zI) hb); clear hb ho36; obtain ⟨Ao37, co37, eo37⟩ := Kd.R_slice HO1285.out; (first | subst eo37 | (injection eo37 with f1_ f2_ f3_; have f4_ := f1_.symm; have f5_ := f3_.symm; clear f1_ f2_ f3_; subst f4_; subst f5_)); refine hK.out _ _ (zb5 BK1278.out) (fun hHeld => ?_); clear hK K; refine znm ?_; refine zone 6 8063 (fun K hK => ?_); refine zG2 Try.func97 #[.pointer (some ⟨g1266, 0, none⟩), .slice Ao37 y1283.length co37] ?_
    with_reducible refine (spec_l6Rd_of.calls kj3 g1266 t1264 t1282 _ _ y1283 t1286 t1287 w _ ?side1 ?side2 ?side3 ?side4 ?side5 A24.out).mono ?_
    (case side1 => repeat (first | (with_reducible first | exact HI1266.out | apply IsS98.alloc | apply IsS98.drewN | apply IsS98.drew | apply IsS98.set_1 | refine IsS98.far ?_ NB1266_1263.out _ | refine IsS98.far ?_ NB1266_1278.out _) | exact HI1266.out)); (case side2 => repeat (first | (with_reducible first | exact HB.out | apply below_alloc | apply pw_below_drewN | apply below_drew1 | refine below_set ?_ (IsS98.ge HI1266.out) | refine below_set ?_ GE1263.out | refine below_set ?_ GE1278.out) | exact HB.out)); (case side3 => repeat (first | exact (Kd.R_reads' HO1285.out).2.2 | (with_reducible refine Kd.C_alloc ?_ _) | (with_reducible refine Kd.C_drewN ?_ _) | (with_reducible refine Kd.C_drew ?_))); (case side4 => exact (Kd.R_reads' HO1285.out).2.1); (case side5 => exact far_slice (IsS98.own_ne HI1266.out HO1285.out (by decide))); rintro e w38 ⟨rfl, hi, hb, hk⟩; refine ⟨_, rfl, ?_⟩; replace HO_1279003 := z0 (Kd.R_mono (Kd.R_keep (IsS98.apart (show IsS98 w _ g1266 t1264 t1282 from HI1266.out.zI) (zr HO_1279003.out) (by decide)) hk (fun _ h => h.2)) (fun _ h => h.1)); replace BK1263 := z0 (KeepBut.blk hk (g' := gb1263) (o := .cells #[.string ⟨#[]⟩, .string ⟨#[]⟩, .string ⟨#[]⟩, .slice none 0 0, .int .i64 0] 25 (0, 0)) (zl BK1263.out) NB1263_1266.out (by simp)); replace BK1278 := z0 (KeepBut.blk hk (g' := gb1278) (o := .cells #[.string t1267, .string t1268, .string t1269, .slice Ao12 t1270.length co12, .int .i64 t1273] 25 (0, 0)) (zl BK1278.out) NB1278_1266.out (by simp)); replace HO1285 := z0 (Kd.R_mono (Kd.R_keep (IsS98.apart (show IsS98 w _ g1266 t1264 t1282 from HI1266.out.zI) (zr HO1285.out) (by decide)) hk (fun _ h => h.2)) (fun _ h => h.1)); replace HB := z0 (hb); replace HI1266 := z0 (hi); (try clear hb hk hi); refine hK.out _ _ (zb5 BK1278.out) (fun hHeld => ?_); clear hK K; refine znm ?_; refine zu 7 8191 ?_; refine zu 13 16383 ?_; refine zu 14 32767 ?_; refine last_ (i := 15) (N := none) (fb 16 65535) rfl rfl (one_of HT_.out (by kernel_rfl)) (by decide) (fun K hK => ?_); have hs39 : w38.cell? ⟨gb1278, 0, none⟩ = some (.string t1267) := (blk_cell BK1278.out 0).trans rfl; have hfs39 := blk_frozen BK1278.out 0; have hns39_0 := NB1263_1278.out; have hms39_0 := NB1278_1263.out; refine skip_ (w1 := ?_) (by rfl) rfl ?_ ?_; rotate_left
    ·go_simp
     rfl
    refine hK.out _ _ ?_; clear hK K; refine done_ (done_of HT_.out (by kernel_rfl)) ?_; have hcz40 := zc5 BK1278.out; have hnb41 := NB1263_1266.out; have hnc41 := NB1266_1263.out; have hcz42 := zc5 BK1263.out
    try go_wp2
    refine bodyPost_ret (results_cell_row rfl _ _ gb1263 25 #[.string (((t1267.extract 0 (t1281 : Int).toNat) ++ t1286) ++ (t1267.extract ((ji26) : Int).toNat t1267.size)), .string t1268, .string t1269, .slice Ao12 t1270.length co12, .int .i64 t1273] (0, 0) _ rfl (zp BK1263.out) Try.underlying25 rfl (by kernel_rfl)) rfl ?_; exact ⟨_, by first | rfl | (simp [errW_none, errW_some] <;> rfl) | (simp only [← hji26]; first | rfl | (simp [errW_none, errW_some] <;> rfl)) | (simp [*, errW_none, errW_some] <;> rfl), Kd.R_mono (ztt HO_1279003.out BK1278.out BK1263.out) (fun _ hk => trivial), HI1266.out.zb HB.out⟩
   ·replace c20 := Bool.eq_false_iff.mpr c20; subst c20
    have H1 : (some (t1267, t1268, t1269, t1270, t1273)) = some (r1, r2, r3, r4, r5) := by rw [if_neg (show ¬ (false = true) by decide)] at H; exact H
    clear H; have H := H1; clear H1; simp only [Option.some.injEq, Prod.mk.injEq] at H; obtain ⟨rfl, rfl, rfl, rfl, rfl⟩ := H; have hnb43 := NB1278_1263.out; have hnc43 := NB1263_1278.out; have hnb44 := NB1278_1266.out; have hnc44 := NB1266_1278.out; have hcz45 := zc5 BK1278.out; have hnb46 := NB1263_1266.out; have hnc46 := NB1266_1263.out; have hcz47 := zc5 BK1263.out; go_wp2; refine bodyPost_ret (results_cell_row rfl _ _ gb1263 25 #[.string t1267, .string t1268, .string t1269, .slice Ao12 t1270.length co12, .int .i64 t1273] (0, 0) _ rfl (zp BK1263.out) Try.underlying25 rfl (by kernel_rfl)) rfl ?_; exact ⟨_, ze, Kd.R_mono (zt HO_1279003.out BK1263.out) (fun _ hk => trivial), HI1266.out.zb HB.out⟩
theorem impl_BitsOnes.mono : ∀ a0 a1 k, LeO (impl_BitsOnes.f k a0 a1) (impl_BitsOnes.f (k + 1) a0 a1) := by
  intro a0 a1 k
  unfold impl_BitsOnes.f
  repeat' first | (with_reducible first | apply impl_BitsOk.mono | exact LeO.refl _ | exact LeO.none _ | refine LeO.ite ?_ ?_ | refine LeO.bind ?_ (fun _ => ?_)) | exact LeO.none _ | refine LeO.ite ?_ ?_ | refine LeO.bind ?_ (fun _ => ?_)
theorem impl_BitsOnes.calls (k : Nat) (a0 : ByteArray) (a1 r : Int) (w : World) (h : impl_BitsOnes.f k a0 a1 = some r) :
    Calls Try.prog 59 #[.string a0, .int .i64 a1] w fun e w' => e = .returned (.int .i64 r) ∧ Drawn0 w w' := by
 have H : ((impl_BitsOk.f k a0).bind fun t1288 => (if t1288 = true then ((impl_in.f a1 0 (a0.size : Int)).bind fun t1289 => (if t1289 = true then (if 0 ≤ a1 then (if a1 ≤ (a0.size : Int) then ((strings_Count.f (a0.extract 0 (a1 : Int).toNat) (⟨#[49]⟩ : ByteArray)).bind fun t1290 => (some t1290)) else (none)) else (none)) else (some (-1)))) else (some (-1)))) = some r := h; clear h; replace H := zi H; obtain ⟨t1288, A3, H⟩ := H
 by_cases c4 : t1288 = true
 ·subst c4
  have H1 : ((impl_in.f a1 0 (a0.size : Int)).bind fun t1289 => (if t1289 = true then (if 0 ≤ a1 then (if a1 ≤ (a0.size : Int) then ((strings_Count.f (a0.extract 0 (a1 : Int).toNat) (⟨#[49]⟩ : ByteArray)).bind fun t1290 => (some t1290)) else (none)) else (none)) else (some (-1)))) = some r := by rw [if_pos rfl] at H; exact H
  clear H; have H := H1; clear H1; replace H := zi H; obtain ⟨t1289, A5, H⟩ := H
  by_cases c6 : t1289 = true
  ·subst c6
   have H1 : (if 0 ≤ a1 then (if a1 ≤ (a0.size : Int) then ((strings_Count.f (a0.extract 0 (a1 : Int).toNat) (⟨#[49]⟩ : ByteArray)).bind fun t1290 => (some t1290)) else (none)) else (none)) = some r := by rw [if_pos rfl] at H; exact H
   clear H; have H := H1; clear H1; replace H := zn H; obtain ⟨c7, H⟩ := H; have c7b0 := eq_true c7; have c7b1 := decide_eq_true c7; clear c7; replace H := zn H; obtain ⟨c8, H⟩ := H; have c8b0 := eq_true c8; have c8b1 := decide_eq_true c8; clear c8; replace H := zi H; obtain ⟨t1290, A9, H⟩ := H; obtain rfl := Option.some.inj H; go_enter Try.func59, Try.ntmps59
   go_wp2_with (first | ((with_reducible refine gc 98 ?_); refine zL (some 6) Try.func98 #[.string a0] ?_; (with_reducible refine (impl_BitsOk.calls k a0 true _ A3.out).mono ?_); rintro e w' ⟨rfl, ⟨nd, rfl⟩⟩; refine ⟨_, rfl, ?_⟩) | (go_at_call 99; (with_reducible refine (impl_in.calls a1 0 (a0.size : Int) true _ A5.out).mono ?_); rintro e w' ⟨rfl, ⟨nd, rfl⟩⟩) | ((with_reducible refine gc 100 ?_); refine zL (some 18) Try.func100 #[.string (a0.extract 0 (a1 : Int).toNat), .string ⟨#[49]⟩] ?_; (with_reducible refine (strings_Count.calls (a0.extract 0 (a1 : Int).toNat) (⟨#[49]⟩ : ByteArray) t1290 _ A9.out).mono ?_); rintro e w' ⟨rfl, ⟨nd, rfl⟩⟩; refine ⟨_, rfl, ?_⟩))
   go_ret; exact ⟨zf, by repeat (first | exact Drawn0.refl _ | apply Drawn0.step)⟩
  ·replace c6 := Bool.eq_false_iff.mpr c6; subst c6
   have H1 : (some (-1)) = some r := by rw [if_neg (show ¬ (false = true) by decide)] at H; exact H
   clear H; have H := H1; clear H1; obtain rfl := Option.some.inj H; go_enter Try.func59, Try.ntmps59
   go_wp2_with (first | ((with_reducible refine gc 98 ?_); refine zL (some 6) Try.func98 #[.string a0] ?_; (with_reducible refine (impl_BitsOk.calls k a0 true _ A3.out).mono ?_); rintro e w' ⟨rfl, ⟨nd, rfl⟩⟩; refine ⟨_, rfl, ?_⟩) | (go_at_call 99; (with_reducible refine (impl_in.calls a1 0 (a0.size : Int) false _ A5.out).mono ?_); rintro e w' ⟨rfl, ⟨nd, rfl⟩⟩))
   go_ret; exact ⟨zf, by repeat (first | exact Drawn0.refl _ | apply Drawn0.step)⟩
 ·replace c4 := Bool.eq_false_iff.mpr c4; subst c4
  have H1 : (some (-1)) = some r := by rw [if_neg (show ¬ (false = true) by decide)] at H; exact H
  clear H; have H := H1; clear H1; obtain rfl := Option.some.inj H; go_enter Try.func59, Try.ntmps59
  go_wp2_with (first | ((with_reducible refine gc 98 ?_); refine zL (some 6) Try.func98 #[.string a0] ?_; (with_reducible refine (impl_BitsOk.calls k a0 false _ A3.out).mono ?_); rintro e w' ⟨rfl, ⟨nd, rfl⟩⟩; refine ⟨_, rfl, ?_⟩))
  go_ret; exact ⟨zf, by repeat (first | exact Drawn0.refl _ | apply Drawn0.step)⟩
theorem laws_FnSieveOk.mono_l : ∀ k, (∀ y0 y1 y2 y3 y4 y5 y6, LeO (laws_FnSieveOk.j0 k y0 y1 y2 y3 y4 y5 y6) (laws_FnSieveOk.j0 (k + 1) y0 y1 y2 y3 y4 y5 y6))
  | 0 => fun _ _ _ _ _ _ _ r h => by simp [laws_FnSieveOk.j0] at h
  | k + 1 => by
    have ih0 := laws_FnSieveOk.mono_l k
    · intro y0 y1 y2 y3 y4 y5 y6
      unfold laws_FnSieveOk.j0
      repeat' first | (with_reducible first | apply ih0 | apply impl_BitsOnes.mono | apply impl_SieveOk.mono | apply spec_DrawSieveOk.mono | apply spec_SieveOk.mono | exact LeO.refl _ | exact LeO.none _ | refine LeO.ite ?_ ?_ | refine LeO.bind ?_ (fun _ => ?_)) | exact LeO.none _ | refine LeO.ite ?_ ?_ | refine LeO.bind ?_ (fun _ => ?_)
theorem laws_FnSieveOk.mono : ∀ a0 k, LeO (laws_FnSieveOk.f k a0) (laws_FnSieveOk.f (k + 1) a0) := by
  intro a0 k
  have ih0 := laws_FnSieveOk.mono_l k
  unfold laws_FnSieveOk.f
  repeat' first | (with_reducible first | apply ih0 | apply impl_BitsOnes.mono | apply impl_SieveOk.mono | apply spec_DrawSieveOk.mono | apply spec_SieveOk.mono | exact LeO.refl _ | exact LeO.none _ | refine LeO.ite ?_ ?_ | refine LeO.bind ?_ (fun _ => ?_)) | exact LeO.none _ | refine LeO.ite ?_ ?_ | refine LeO.bind ?_ (fun _ => ?_)
theorem laws_FnSieveOk.calls (k : Nat) (A0 : Option Addr) (c0 : Nat) (l0 : List Int) (r : Bool) (w : World) (hr0 : Kd.C (Kd.int .u8) w A0 l0.length l0) (hc0 : l0.length ≤ c0) (h : laws_FnSieveOk.f k l0 = some r) :
    Calls Try.prog 16 #[.slice A0 l0.length c0] w fun e w' => e = .returned (.bool r) ∧ Below w.heap.size w w' := by
 have hu25 := Try.underlying25; have HR0 := z0 hr0; have HC0 := z0 hc0; clear hr0 hc0; have HB := z0 (Below.refl w.heap.size w); have H : (if (l0.length : Int) > 1048576 then (some true) else ((spec_DrawSieveOk.f k l0).bind fun bt1291 => ((impl_SieveOk.f k bt1291.1 bt1291.2.1 bt1291.2.2.1 bt1291.2.2.2.1 bt1291.2.2.2.2).bind fun t1299 => ((spec_SieveOk.f k bt1291.1 bt1291.2.1 bt1291.2.2.1 bt1291.2.2.2.1 bt1291.2.2.2.2).bind fun t1300 => (if (t1299 != t1300) = true then (laws_FnSieveOk.j0 k t1299 true bt1291.1 bt1291.2.1 bt1291.2.2.1 bt1291.2.2.2.1 bt1291.2.2.2.2) else (laws_FnSieveOk.j0 k t1299 (!t1299) bt1291.1 bt1291.2.1 bt1291.2.2.1 bt1291.2.2.2.1 bt1291.2.2.2.2)))))) = some r := h; clear h
 by_cases c2 : (l0.length : Int) > 1048576
 ·rw [if_pos c2] at H; have c2b0 : decide (1048576 < (l0.length : Int)) = true := decide_eq_true c2; have c2b1 : decide (1048576 < l0.length) = true := decide_eq_true (by omega); clear c2; obtain rfl := Option.some.inj H; go_enter Try.func16, Try.ntmps16; go_wp2
  repeat (go_quiet (fail); try go_wp2)
  go_ret; exact ⟨ze, zb HB.out⟩
 ·rw [if_neg c2] at H; have c2b0 : decide (1048576 < (l0.length : Int)) = false := decide_eq_false c2; have c2b1 : decide (1048576 < l0.length) = false := decide_eq_false (by omega); clear c2; replace H := zi H; obtain ⟨⟨t1291, t1292, t1293, t1294, t1297⟩, A3, H⟩ := H; (try dsimp only at H); replace H := zi H; obtain ⟨t1299, A4, H⟩ := H; have HC5 := z0 H; clear H; go_enter Try.func16, Try.ntmps16
  go_upto_region 5 with (first | (go_at_call 58; (with_reducible refine (spec_DrawSieveOk.calls k _ _ l0 t1291 t1292 t1293 t1294 t1297 _ ?side1 ?side2 A3.out).mono ?_); (case side1 => repeat (first | exact HR0.out | (with_reducible refine Kd.C_alloc ?_ _) | (with_reducible refine Kd.C_drewN ?_ _) | (with_reducible refine Kd.C_drew ?_))); (case side2 => exact HC0.out); rintro e w6 ⟨v1295, rfl, ho0, hb⟩; have HO1296 := z0 (Kd.R_lower ho0 (below_size (zb HB.out))); replace HB := zH HB hb; (try clear hb ho0)) | ((with_reducible refine gd 3 ?_); (try (refine gate_guard (by rfl) ?_; dsimp only)); refine zbx 25 #[.string ⟨#[]⟩, .string ⟨#[]⟩, .string ⟨#[]⟩, .slice none 0 0, .int .i64 0] ?_; intro gb1298 hg w7 hbox hb; replace HO1296 := zA HO1296 hb; have BK1298 := z0 (hbox); have GE1298 := zG hg HB; replace HB := zH HB hb; clear hb hbox hg; have hcz8 := zc5 BK1298.out; obtain ⟨Ao9, co9, eo9⟩ := Kd.R_slice HO1296.out; subst eo9) | (go_at_call 48; (with_reducible refine (impl_SieveOk.calls k t1291 t1292 t1293 _ _ t1294 t1297 t1299 _ ?side1 ?side2 A4.out).mono ?_); (case side1 => refine (Kd.R_reads' (e := 9) (base := w.heap.size) (ok := fun k_ => True) (n := t1294.length) (c := co9) ?_).2.2; exact (zs HO1296.out BK1298.out)); (case side2 => exact (Kd.R_reads' HO1296.out).2.1); rintro e w10 ⟨rfl, hb⟩; replace HO1296 := zAs HO1296 BK1298 hb; replace BK1298 := z0 (blk_below (zpc BK1298.out #[.string t1291, .string t1292, .string t1293, .slice Ao9 t1294.length co9, .int .i64 t1297]) hb); replace HB := zH HB hb; (try clear hb)))
  repeat (go_quiet (first | (go_at_call 58; (with_reducible refine (spec_DrawSieveOk.calls k _ _ l0 t1291 t1292 t1293 t1294 t1297 _ ?side1 ?side2 A3.out).mono ?_); (case side1 => repeat (first | exact HR0.out | (with_reducible refine Kd.C_alloc ?_ _) | (with_reducible refine Kd.C_drewN ?_ _) | (with_reducible refine Kd.C_drew ?_))); (case side2 => exact HC0.out); rintro e w6 ⟨v1295, rfl, ho0, hb⟩; have HO1296 := z0 (Kd.R_lower ho0 (below_size (zb HB.out))); replace HB := zH HB hb; (try clear hb ho0)) | ((with_reducible refine gd 3 ?_); (try (refine gate_guard (by rfl) ?_; dsimp only)); refine zbx 25 #[.string ⟨#[]⟩, .string ⟨#[]⟩, .string ⟨#[]⟩, .slice none 0 0, .int .i64 0] ?_; intro gb1298 hg w7 hbox hb; replace HO1296 := zA HO1296 hb; have BK1298 := z0 (hbox); have GE1298 := zG hg HB; replace HB := zH HB hb; clear hb hbox hg; have hcz8 := zc5 BK1298.out; obtain ⟨Ao9, co9, eo9⟩ := Kd.R_slice HO1296.out; subst eo9) | (go_at_call 48; (with_reducible refine (impl_SieveOk.calls k t1291 t1292 t1293 _ _ t1294 t1297 t1299 _ ?side1 ?side2 A4.out).mono ?_); (case side1 => refine (Kd.R_reads' (e := 9) (base := w.heap.size) (ok := fun k_ => True) (n := t1294.length) (c := co9) ?_).2.2; exact (zs HO1296.out BK1298.out)); (case side2 => exact (Kd.R_reads' HO1296.out).2.1); rintro e w10 ⟨rfl, hb⟩; replace HO1296 := zAs HO1296 BK1298 hb; replace BK1298 := z0 (blk_below (zpc BK1298.out #[.string t1291, .string t1292, .string t1293, .slice Ao9 t1294.length co9, .int .i64 t1297]) hb); replace HB := zH HB hb; (try clear hb))); go_upto_region 5 with (first | (go_at_call 58; (with_reducible refine (spec_DrawSieveOk.calls k _ _ l0 t1291 t1292 t1293 t1294 t1297 _ ?side1 ?side2 A3.out).mono ?_); (case side1 => repeat (first | exact HR0.out | (with_reducible refine Kd.C_alloc ?_ _) | (with_reducible refine Kd.C_drewN ?_ _) | (with_reducible refine Kd.C_drew ?_))); (case side2 => exact HC0.out); rintro e w6 ⟨v1295, rfl, ho0, hb⟩; have HO1296 := z0 (Kd.R_lower ho0 (below_size (zb HB.out))); replace HB := zH HB hb; (try clear hb ho0)) | ((with_reducible refine gd 3 ?_); (try (refine gate_guard (by rfl) ?_; dsimp only)); refine zbx 25 #[.string ⟨#[]⟩, .string ⟨#[]⟩, .string ⟨#[]⟩, .slice none 0 0, .int .i64 0] ?_; intro gb1298 hg w7 hbox hb; replace HO1296 := zA HO1296 hb; have BK1298 := z0 (hbox); have GE1298 := zG hg HB; replace HB := zH HB hb; clear hb hbox hg; have hcz8 := zc5 BK1298.out; obtain ⟨Ao9, co9, eo9⟩ := Kd.R_slice HO1296.out; subst eo9) | (go_at_call 48; (with_reducible refine (impl_SieveOk.calls k t1291 t1292 t1293 _ _ t1294 t1297 t1299 _ ?side1 ?side2 A4.out).mono ?_); (case side1 => refine (Kd.R_reads' (e := 9) (base := w.heap.size) (ok := fun k_ => True) (n := t1294.length) (c := co9) ?_).2.2; exact (zs HO1296.out BK1298.out)); (case side2 => exact (Kd.R_reads' HO1296.out).2.1); rintro e w10 ⟨rfl, hb⟩; replace HO1296 := zAs HO1296 BK1298 hb; replace BK1298 := z0 (blk_below (zpc BK1298.out #[.string t1291, .string t1292, .string t1293, .slice Ao9 t1294.length co9, .int .i64 t1297]) hb); replace HB := zH HB hb; (try clear hb))))
  (try simp only [Act.put, List.setIfInBounds_toArray, List.set_cons_zero, List.set_cons_succ])
  go_cut [20] (fun v20 wc => ∃ (kq : Nat) (x20_4 : Bool), v20 = .bool x20_4 ∧ Aside0 (laws_FnSieveOk.j0 kq t1299 x20_4 t1291 t1292 t1293 t1294 t1297 = some r) ∧ Aside0 (kq ≤ k) ∧ Aside0 (Kd.R Kd.string 9 wc w.heap.size (fun _ => True) (.slice Ao9 t1294.length co9) t1294) ∧ Aside0 (wc.heap[gb1298]? = some (.cells #[.string t1291, .string t1292, .string t1293, (.slice Ao9 t1294.length co9), .int .i64 t1297] 25 (0, 0))) ∧ Aside0 (Below w.heap.size w wc))
  case first =>
   have H := HC5.out; clear HC5; replace H := zi H; obtain ⟨t1300, A11, H⟩ := H
   by_cases c12 : (t1299 != t1300) = true
   ·rw [if_pos c12] at H; have c12b0 : (t1299 != t1300) = true := c12; (try (have c12b1 : decide (t1299 = t1300) = false := by simpa using c12)); (try (have c12b2 : (t1299 == t1300) = false := by simpa using c12)); (try (have c12b3 : ¬ (t1299 = t1300) := by simpa using c12)); clear c12; (first | rw [c12b0] | (simp only [i64_w, i32_w]; rw [c12b0]) | simp only [*, Bool.not_true, Bool.not_false] | skip); have H' := z0 H; clear H; have hcz13 := zc5 BK1298.out
    go_wp2_with (first | (go_at_call 46; (with_reducible refine (spec_SieveOk.calls k t1291 t1292 t1293 _ _ t1294 t1297 t1300 _ ?side1 ?side2 A11.out).mono ?_); (case side1 => repeat (first | exact (Kd.R_reads' HO1296.out).2.2 | (with_reducible refine Kd.C_alloc ?_ _) | (with_reducible refine Kd.C_drewN ?_ _) | (with_reducible refine Kd.C_drew ?_))); (case side2 => exact (Kd.R_reads' HO1296.out).2.1); rintro e w14 ⟨rfl, hb⟩; replace HO1296 := zA HO1296 hb; replace BK1298 := zK BK1298 hb; replace HB := zH HB hb; (try clear hb)))
    repeat (go_quiet (first | (go_at_call 46; (with_reducible refine (spec_SieveOk.calls k t1291 t1292 t1293 _ _ t1294 t1297 t1300 _ ?side1 ?side2 A11.out).mono ?_); (case side1 => repeat (first | exact (Kd.R_reads' HO1296.out).2.2 | (with_reducible refine Kd.C_alloc ?_ _) | (with_reducible refine Kd.C_drewN ?_ _) | (with_reducible refine Kd.C_drew ?_))); (case side2 => exact (Kd.R_reads' HO1296.out).2.1); rintro e w14 ⟨rfl, hb⟩; replace HO1296 := zA HO1296 hb; replace BK1298 := zK BK1298 hb; replace HB := zH HB hb; (try clear hb))); try go_wp2_with (first | (go_at_call 46; (with_reducible refine (spec_SieveOk.calls k t1291 t1292 t1293 _ _ t1294 t1297 t1300 _ ?side1 ?side2 A11.out).mono ?_); (case side1 => repeat (first | exact (Kd.R_reads' HO1296.out).2.2 | (with_reducible refine Kd.C_alloc ?_ _) | (with_reducible refine Kd.C_drewN ?_ _) | (with_reducible refine Kd.C_drew ?_))); (case side2 => exact (Kd.R_reads' HO1296.out).2.1); rintro e w14 ⟨rfl, hb⟩; replace HO1296 := zA HO1296 hb; replace BK1298 := zK BK1298 hb; replace HB := zH HB hb; (try clear hb))))
    go_meet
    case rel => exact ⟨_, (true), zf, H', ⟨by first | omega | exact Nat.le_refl _⟩, ⟨zr HO1296.out⟩, ⟨zl BK1298.out⟩, ⟨zb HB.out⟩⟩
   ·rw [if_neg c12] at H
    have c12b0 : (t1299 != t1300) = false := by simpa using c12
    (try (have c12b1 : decide (t1299 = t1300) = true := by simpa using c12)); (try (have c12b2 : (t1299 == t1300) = true := by simpa using c12)); clear c12; (first | rw [c12b0] | (simp only [i64_w, i32_w]; rw [c12b0]) | simp only [*, Bool.not_true, Bool.not_false] | skip); have H' := z0 H; clear H; have hcz15 := zc5 BK1298.out
    go_wp2_with (first | (go_at_call 46; (with_reducible refine (spec_SieveOk.calls k t1291 t1292 t1293 _ _ t1294 t1297 t1300 _ ?side1 ?side2 A11.out).mono ?_); (case side1 => repeat (first | exact (Kd.R_reads' HO1296.out).2.2 | (with_reducible refine Kd.C_alloc ?_ _) | (with_reducible refine Kd.C_drewN ?_ _) | (with_reducible refine Kd.C_drew ?_))); (case side2 => exact (Kd.R_reads' HO1296.out).2.1); rintro e w16 ⟨rfl, hb⟩; replace HO1296 := zA HO1296 hb; replace BK1298 := zK BK1298 hb; replace HB := zH HB hb; (try clear hb)))
    repeat (go_quiet (first | (go_at_call 46; (with_reducible refine (spec_SieveOk.calls k t1291 t1292 t1293 _ _ t1294 t1297 t1300 _ ?side1 ?side2 A11.out).mono ?_); (case side1 => repeat (first | exact (Kd.R_reads' HO1296.out).2.2 | (with_reducible refine Kd.C_alloc ?_ _) | (with_reducible refine Kd.C_drewN ?_ _) | (with_reducible refine Kd.C_drew ?_))); (case side2 => exact (Kd.R_reads' HO1296.out).2.1); rintro e w16 ⟨rfl, hb⟩; replace HO1296 := zA HO1296 hb; replace BK1298 := zK BK1298 hb; replace HB := zH HB hb; (try clear hb))); try go_wp2_with (first | (go_at_call 46; (with_reducible refine (spec_SieveOk.calls k t1291 t1292 t1293 _ _ t1294 t1297 t1300 _ ?side1 ?side2 A11.out).mono ?_); (case side1 => repeat (first | exact (Kd.R_reads' HO1296.out).2.2 | (with_reducible refine Kd.C_alloc ?_ _) | (with_reducible refine Kd.C_drewN ?_ _) | (with_reducible refine Kd.C_drew ?_))); (case side2 => exact (Kd.R_reads' HO1296.out).2.1); rintro e w16 ⟨rfl, hb⟩; replace HO1296 := zA HO1296 hb; replace BK1298 := zK BK1298 hb; replace HB := zH HB hb; (try clear hb))))
    go_meet
    case rel => exact ⟨_, (!t1299), zf, H', ⟨by first | omega | exact Nat.le_refl _⟩, ⟨zr HO1296.out⟩, ⟨zl BK1298.out⟩, ⟨zb HB.out⟩⟩
  case rest =>
   clear HC5
   try clear c1
   try clear c2
   try clear c2b0
   try clear c2b1
   try clear p2
   try clear c12
   try clear c12b0
   try clear c12b1
   try clear c12b2
   try clear c16
   try clear hcz13
   try clear hcz15
   try clear hcz8
   obtain ⟨kq, x20_4, rfl, HA, HJ4, HO_1299003, BK1298, HB⟩ := hcut
   cases kq with
   | zero => exact absurd HA.out (by simp [laws_FnSieveOk.j0])
   | succ kj4 =>
    have H := HA.out; clear HA; simp only [laws_FnSieveOk.j0] at H
    by_cases c17 : x20_4 = true
    ·subst c17
     have H1 : ((spec_SieveOk.f kj4 t1291 t1292 t1293 t1294 t1297).bind fun t1301 => (some (t1299 == t1301))) = some r := by rw [if_pos rfl] at H; exact H
     clear H; have H := H1; clear H1; replace H := zi H; obtain ⟨t1301, A18, H⟩ := H; obtain rfl := Option.some.inj H; have hcz19 := zc5 BK1298.out
     go_wp2_with (first | (go_at_call 46; (with_reducible refine (spec_SieveOk.calls kj4 t1291 t1292 t1293 _ _ t1294 t1297 t1301 _ ?side1 ?side2 A18.out).mono ?_); (case side1 => repeat (first | exact (Kd.R_reads' HO_1299003.out).2.2 | (with_reducible refine Kd.C_alloc ?_ _) | (with_reducible refine Kd.C_drewN ?_ _) | (with_reducible refine Kd.C_drew ?_))); (case side2 => exact (Kd.R_reads' HO_1299003.out).2.1); rintro e w20 ⟨rfl, hb⟩; replace HO_1299003 := zA HO_1299003 hb; replace BK1298 := zK BK1298 hb; replace HB := zH HB hb; (try clear hb)))
     repeat (go_quiet (first | (go_at_call 46; (with_reducible refine (spec_SieveOk.calls kj4 t1291 t1292 t1293 _ _ t1294 t1297 t1301 _ ?side1 ?side2 A18.out).mono ?_); (case side1 => repeat (first | exact (Kd.R_reads' HO_1299003.out).2.2 | (with_reducible refine Kd.C_alloc ?_ _) | (with_reducible refine Kd.C_drewN ?_ _) | (with_reducible refine Kd.C_drew ?_))); (case side2 => exact (Kd.R_reads' HO_1299003.out).2.1); rintro e w20 ⟨rfl, hb⟩; replace HO_1299003 := zA HO_1299003 hb; replace BK1298 := zK BK1298 hb; replace HB := zH HB hb; (try clear hb))); try go_wp2_with (first | (go_at_call 46; (with_reducible refine (spec_SieveOk.calls kj4 t1291 t1292 t1293 _ _ t1294 t1297 t1301 _ ?side1 ?side2 A18.out).mono ?_); (case side1 => repeat (first | exact (Kd.R_reads' HO_1299003.out).2.2 | (with_reducible refine Kd.C_alloc ?_ _) | (with_reducible refine Kd.C_drewN ?_ _) | (with_reducible refine Kd.C_drew ?_))); (case side2 => exact (Kd.R_reads' HO_1299003.out).2.1); rintro e w20 ⟨rfl, hb⟩; replace HO_1299003 := zA HO_1299003 hb; replace BK1298 := zK BK1298 hb; replace HB := zH HB hb; (try clear hb))))
     go_ret; exact ⟨ze, zb HB.out⟩
    ·replace c17 := Bool.eq_false_iff.mpr c17; subst c17
     have H1 : (if (t1292.size : Int) = (t1291.size : Int) then (if (t1293.size : Int) = (t1291.size : Int) then ((impl_BitsOnes.f kj4 t1292 (t1291.size : Int)).bind fun t1302 => (if (t1294.length : Int) = (wrap64 ((t1291.size : Int) - t1302)) then ((impl_BitsOnes.f kj4 t1293 (t1291.size : Int)).bind fun t1303 => ((impl_BitsOnes.f kj4 t1292 (t1291.size : Int)).bind fun t1304 => (some (t1303 == (wrap64 (t1304 + (mn (t1291.size : Int) 1))))))) else (some false))) else (some false)) else (some false)) = some r := by rw [if_neg (show ¬ (false = true) by decide)] at H; exact H
     clear H; have H := H1; clear H1
     by_cases c21 : (t1292.size : Int) = (t1291.size : Int)
     ·rw [if_pos c21] at H; have c21b0 : ((t1292.size : Int) == (t1291.size : Int)) = true := beq_iff_eq.mpr c21; have c21b1 : ((t1292.size : Int) != (t1291.size : Int)) = false := bne_eq_false_iff_eq.mpr c21
      have c21b2 : (t1292.size == t1291.size) = true := by first | simpa using c21 | (simp at c21 ⊢; omega)
      clear c21
      by_cases c22 : (t1293.size : Int) = (t1291.size : Int)
      ·rw [if_pos c22] at H; have c22b0 : ((t1293.size : Int) == (t1291.size : Int)) = true := beq_iff_eq.mpr c22; have c22b1 : ((t1293.size : Int) != (t1291.size : Int)) = false := bne_eq_false_iff_eq.mpr c22
       have c22b2 : (t1293.size == t1291.size) = true := by first | simpa using c22 | (simp at c22 ⊢; omega)
       clear c22; replace H := zi H; obtain ⟨t1302, A23, H⟩ := H
       by_cases c24 : (t1294.length : Int) = (wrap64 ((t1291.size : Int) - t1302))
       ·rw [if_pos c24] at H; have c24b0 : ((t1294.length : Int) == (wrap64 ((t1291.size : Int) - t1302))) = true := beq_iff_eq.mpr c24; have c24b1 : ((t1294.length : Int) != (wrap64 ((t1291.size : Int) - t1302))) = false := bne_eq_false_iff_eq.mpr c24; clear c24; replace H := zi H; obtain ⟨t1303, A25, H⟩ := H; replace H := zi H; obtain ⟨t1304, A26, H⟩ := H; obtain rfl : t1304 = t1302 := Option.some.inj (A26.out.symm.trans A23.out); obtain ⟨ji27, hji27⟩ : ∃ j_ : Int, (mn (t1291.size : Int) 1) = j_ := ⟨_, rfl⟩
        replace H : (some (t1303 == (wrap64 (t1304 + (ji27))))) = some r := by first | (rw [hji27] at H; exact H) | (simp only [hji27] at H ⊢; exact H)
        (try rw [hji27] at A23); (try rw [hji27] at A25); (try rw [hji27] at A26); have hji27_ : (if 1 < (t1291.size : Int) then 1 else (t1291.size : Int)) = ji27 := hji27; obtain rfl := Option.some.inj H; have hcz28 := zc5 BK1298.out
        go_wp2_with (first | (go_at_call 59; (with_reducible refine (impl_BitsOnes.calls kj4 t1292 (t1291.size : Int) t1302 _ A23.out).mono ?_); rintro e w' ⟨rfl, ⟨nd, rfl⟩⟩; (try exact zdd)) | (go_at_call 59; (with_reducible refine (impl_BitsOnes.calls kj4 t1293 (t1291.size : Int) t1303 _ A25.out).mono ?_); rintro e w' ⟨rfl, ⟨nd, rfl⟩⟩; (try exact zdd)) | (go_at_call 59; (with_reducible refine (impl_BitsOnes.calls kj4 t1292 (t1291.size : Int) t1304 _ A26.out).mono ?_); rintro e w' ⟨rfl, ⟨nd, rfl⟩⟩; (try exact zdd)))
        repeat (go_quiet (first | (go_at_call 59; (with_reducible refine (impl_BitsOnes.calls kj4 t1292 (t1291.size : Int) t1302 _ A23.out).mono ?_); rintro e w' ⟨rfl, ⟨nd, rfl⟩⟩; (try exact zdd)) | (go_at_call 59; (with_reducible refine (impl_BitsOnes.calls kj4 t1293 (t1291.size : Int) t1303 _ A25.out).mono ?_); rintro e w' ⟨rfl, ⟨nd, rfl⟩⟩; (try exact zdd)) | (go_at_call 59; (with_reducible refine (impl_BitsOnes.calls kj4 t1292 (t1291.size : Int) t1304 _ A26.out).mono ?_); rintro e w' ⟨rfl, ⟨nd, rfl⟩⟩; (try exact zdd))); try go_wp2_with (first | (go_at_call 59; (with_reducible refine (impl_BitsOnes.calls kj4 t1292 (t1291.size : Int) t1302 _ A23.out).mono ?_); rintro e w' ⟨rfl, ⟨nd, rfl⟩⟩; (try exact zdd)) | (go_at_call 59; (with_reducible refine (impl_BitsOnes.calls kj4 t1293 (t1291.size : Int) t1303 _ A25.out).mono ?_); rintro e w' ⟨rfl, ⟨nd, rfl⟩⟩; (try exact zdd)) | (go_at_call 59; (with_reducible refine (impl_BitsOnes.calls kj4 t1292 (t1291.size : Int) t1304 _ A26.out).mono ?_); rintro e w' ⟨rfl, ⟨nd, rfl⟩⟩; (try exact zdd))))
        go_ret; exact ⟨by first | rfl | (simp [errW_none, errW_some] <;> rfl) | (simp only [← hji27]; first | rfl | (simp [errW_none, errW_some] <;> rfl)) | (simp [*, errW_none, errW_some] <;> rfl), zb HB.out⟩
       ·rw [if_neg c24] at H; have c24b0 : ((t1294.length : Int) == (wrap64 ((t1291.size : Int) - t1302))) = false := beq_eq_false_iff_ne.mpr c24; have c24b1 : ((t1294.length : Int) != (wrap64 ((t1291.size : Int) - t1302))) = true := bne_iff_ne.mpr c24; obtain rfl := Option.some.inj H; have hcz29 := zc5 BK1298.out
        go_wp2_with (first | (go_at_call 59; (with_reducible refine (impl_BitsOnes.calls kj4 t1292 (t1291.size : Int) t1302 _ A23.out).mono ?_); rintro e w' ⟨rfl, ⟨nd, rfl⟩⟩; (try exact zdd)))
        repeat (go_quiet (first | (go_at_call 59; (with_reducible refine (impl_BitsOnes.calls kj4 t1292 (t1291.size : Int) t1302 _ A23.out).mono ?_); rintro e w' ⟨rfl, ⟨nd, rfl⟩⟩; (try exact zdd))); try go_wp2_with (first | (go_at_call 59; (with_reducible refine (impl_BitsOnes.calls kj4 t1292 (t1291.size : Int) t1302 _ A23.out).mono ?_); rintro e w' ⟨rfl, ⟨nd, rfl⟩⟩; (try exact zdd))))
        go_ret; exact ⟨ze, zb HB.out⟩
      ·rw [if_neg c22] at H; have c22b0 : ((t1293.size : Int) == (t1291.size : Int)) = false := beq_eq_false_iff_ne.mpr c22; have c22b1 : ((t1293.size : Int) != (t1291.size : Int)) = true := bne_iff_ne.mpr c22
       have c22b2 : (t1293.size == t1291.size) = false := by first | simpa using c22 | (simp at c22 ⊢; omega)
       obtain rfl := Option.some.inj H; have hcz30 := zc5 BK1298.out; go_wp2
       repeat (go_quiet (fail); try go_wp2)
       go_ret; exact ⟨ze, zb HB.out⟩
     ·rw [if_neg c21] at H; have c21b0 : ((t1292.size : Int) == (t1291.size : Int)) = false := beq_eq_false_iff_ne.mpr c21; have c21b1 : ((t1292.size : Int) != (t1291.size : Int)) = true := bne_iff_ne.mpr c21
      have c21b2 : (t1292.size == t1291.size) = false := by first | simpa using c21 | (simp at c21 ⊢; omega)
      obtain rfl := Option.some.inj H; have hcz31 := zc5 BK1298.out; go_wp2
      repeat (go_quiet (fail); try go_wp2)
      go_ret; exact ⟨ze, zb HB.out⟩
theorem laws_FnSieveOk.walk (P : laws_FnSieveOk.Pure) (a0 : Option Addr) (len0 cap0 : Nat) (z0 : List Int) (w : World) (w0 : (a0 = none ∧ len0 = 0 ∧ cap0 = 0 ∧ z0 = []) ∨ ∃ x, a0 = some x ∧ len0 ≤ cap0 ∧ cap0 ≤ maxLen ∧ z0.length = cap0 ∧ (∀ i, i < z0.length → w.cell? (x.add i) = some (.int .u8 (z0.getD i 0))) ∧ ∀ n ∈ z0, (Lit.int .u8 n).wf = true) (y0 : len0 * 1 ≤ 140737488351232) :
    Calls Try.prog 16 #[.slice a0 len0 cap0] w fun e w' => e = .returned (.bool true) ∧ Below w.heap.size w w' := by
  obtain ⟨l0, rfl, hr0, hm0, hw0, hc0⟩ := ReadsInt.ofRowC w0
  obtain ⟨k, h⟩ := P l0 hm0 y0 hw0
  refine (laws_FnSieveOk.calls k _ _ l0 true w (Kd.C_of_reads (d := (0 : Int)) (h1 := fun _ => rfl) hr0) hc0 h).mono ?_
  rintro e w' ⟨rfl, hd⟩
  exact ⟨rfl, hd⟩
end Go.Proofs.Ytifgcajpkgamgaa.Q
end
section
set_option linter.unusedVariables false
set_option linter.unusedSimpArgs false
namespace Go.Proofs.Ytifgcajpkgamgaa.Pb
open Go Go.RowKit Go.Proofs.YtifgcajpkgamgaaW.PrintWords Go.Proofs.YtifgcajpkgamgaaW.PrintLast Go.Proofs.YtifgcajpkgamgaaW.PrintMore Go.Proofs.Ytifgcajpkgamgaa.Trie Go.Proofs.Ytifgcajpkgamgaa.Q
theorem onesF : ∀ (X : List Nd), Full X → (encF X).countP (· == 49) = X.length
 | [], _ => rfl
 | x :: X, h => by
  have ih := onesF X (fun y hy => h y (List.mem_cons_of_mem _ hy))
  have h0 := h x (List.mem_cons_self ..)
  unfold encF at ih ⊢
  rw [List.flatMap_cons, List.countP_append, ih, List.length_cons]
  obtain ⟨n, hn⟩ : ∃ n, (runs x.2 x.1).length = n + 1 := ⟨(runs x.2 x.1).length - 1, by omega⟩
  rw [hn]
  unfold fst1
  rw [List.countP_cons]
  have : (List.replicate n (48 : UInt8)).countP (· == 49) = 0 := by
   rw [List.countP_replicate]
   simp
  rw [this]
  simp
  omega
section
variable {K : List Key} {keep : Nat} {Lt Mo Fi : ByteArray} {Rs : List ByteArray}
theorem forks_more (h : Is K keep Lt Mo Fi Rs) : onesB (L Mo) (brs (lvls K)).length + 1 = (lvls K).length := by
 have hl := (lvls_is h.ok).1
 have h1 : onesB (L Mo) (brs (lvls K)).length = ((lvls K).flatMap conts).length := by
  rw [h.enc.m, onesB_enc, List.take_length, countP_conts]
 have h2 : (lvls K).length = ((lvls K).flatMap conts).length + 1 := by
  conv => lhs; rw [hl.eq]
  rw [List.length_cons]
 omega
theorem forks_first (h : Is K keep Lt Mo Fi Rs) (h0 : K ≠ []) : onesB (L Fi) (brs (lvls K)).length = (lvls K).length := by
 have hl := (lvls_is h.ok).1
 have hf := h.enc.fm.fn
 unfold onesB
 rw [← hf, List.take_length, h.enc.f]
 exact onesF _ (hl.full h0)
theorem branches (h : Is K keep Lt Mo Fi Rs) : (brs (lvls K)).length + 1 = (lvls K).length + K.length := size_eq (lvls_is h.ok).1.eq
theorem branches_size (h : Is K keep Lt Mo Fi Rs) : Lt.size = (brs (lvls K)).length := by rw [size_L, h.enc.fm.ln]
end
end Go.Proofs.Ytifgcajpkgamgaa.Pb
end
section
set_option linter.unusedVariables false
set_option linter.unusedSimpArgs false
namespace Go.Proofs.Ytifgcajpkgamgaa.Pure
open Go Go.RowKit Go.Proofs.YtifgcajpkgamgaaW.PrintWords Go.Proofs.YtifgcajpkgamgaaW.PrintLast Go.Proofs.YtifgcajpkgamgaaW.PrintMore Go.Proofs.Ytifgcajpkgamgaa.Trie Go.Proofs.Ytifgcajpkgamgaa.Q Go.Proofs.Ytifgcajpkgamgaa.Pb
theorem FnSieveOk : laws_FnSieveOk.Pure := by
 intro l0 hl _ hw
 refine Ev.rounds ?_
 unfold laws_FnSieveOk.f
 by_cases c : (l0.length : Int) > 1048576
 ·exact ev_pos c (ev_some rfl)
 ·obtain ⟨Lt, Mo, Fi, Rs, a, hd, hz⟩ := DrawSieveOk_ev l0 hl hw
  rcases both hz a with ⟨K, keep, rfl, hI, hh, hok, _⟩ | ⟨_, hh, hok⟩
  ·have m1 := impl_SieveOk_of hh
   have F := hI.enc.fm
   have s1 := size_L Lt
   have s2 := size_L Mo
   have s3 := size_L Fi
   have f1 := F.ln
   have f2 := F.mn
   have f3 := F.fn
   have f4 := F.few
   have hbr := branches hI
   have hmo := forks_more hI
   have hrs := F.rs
   have hlt : Lt.size = (brs (lvls K)).length := branches_size hI
   have ones : ∀ x : ByteArray, (L x).length = (brs (lvls K)).length → (L x).all bitc = true → Ev (fun k => impl_BitsOnes.f k x (Lt.size : Int)) ((onesB (L x) (brs (lvls K)).length : Nat) : Int) := by
    intro x hx hb
    have h1 := impl_BitsOnes_ev x (by rw [size_L]; omega) (Lt.size : Int)
    unfold bitsOnesI at h1
    rw [if_pos ⟨by unfold bitsB; rw [hb, Bool.true_and, decide_eq_true_eq]; omega, by omega, by omega⟩, Int.toNat_natCast] at h1
    refine ev_eq h1 ?_
    rw [hlt]
   have o1 := ones Mo f2 F.mb
   have o2 := ones Fi f3 F.fb
   refine ev_neg c (Ev.bind hd (Ev.bind m1 (Ev.bind hok (ev_neg (by simp) (ev_succ ?_)))))
   simp only [laws_FnSieveOk.j0, Bool.not_true]
   have hw1 : ∀ _ : Unit, wrap64 ((Lt.size : Int) - ((onesB (L Mo) (brs (lvls K)).length : Nat) : Int)) = (Lt.size : Int) - ((onesB (L Mo) (brs (lvls K)).length : Nat) : Int) := fun _ => w64 (by omega) (by omega)
   refine ev_neg (by simp) (ev_pos (by omega) (ev_pos (by omega) (Ev.bind o1 (ev_pos (by rw [hw1 ()]; omega) (Ev.bind o2 (Ev.bind o1 (ev_some ?_)))))))
   rw [beq_iff_eq]
   by_cases h0 : K = []
   ·subst h0
    have hx := lvl_nil (lvls_is hI.ok).1
    have e1 : (lvls ([] : List Key)).length = 1 := by rw [hx]; rfl
    have e2 : (brs (lvls ([] : List Key))).length = 0 := by rw [hx, brs_nil]; rfl
    rw [e2] at hlt
    have z : ∀ l : List UInt8, onesB l 0 = 0 := fun l => by simp [onesB]
    have e3 : mn ((0 : Nat) : Int) 1 = 0 := by unfold mn; simp
    rw [hlt, e2, z, z, e3, w64 (by omega) (by omega)]
    rfl
   ·have hfi := forks_first hI h0
    have hk : 1 ≤ K.length := by
     rcases Nat.eq_zero_or_pos K.length with q | q
     ·exact absurd (List.eq_nil_of_length_eq_zero q) h0
     ·exact q
    have hmn : mn (Lt.size : Int) 1 = 1 := by unfold mn; split <;> omega
    have hb1 : onesB (L Mo) (brs (lvls K)).length ≤ 401 := by omega
    rw [hfi, hmn, w64 (i := ((onesB (L Mo) (brs (lvls K)).length : Nat) : Int) + 1) (by omega) (by omega)]
    omega
  ·have m1 := impl_SieveOk_of hh
   refine ev_neg c (Ev.bind hd (Ev.bind m1 (Ev.bind hok (ev_neg (by simp) (ev_succ ?_)))))
   simp only [laws_FnSieveOk.j0]
   exact ev_pos (by simp) (Ev.bind hok (ev_some rfl))
end Go.Proofs.Ytifgcajpkgamgaa.Pure
end
