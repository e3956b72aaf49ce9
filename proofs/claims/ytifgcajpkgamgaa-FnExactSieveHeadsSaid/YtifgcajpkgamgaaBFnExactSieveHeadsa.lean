/- What the law FnExactSieveHeads needs: the kit's printed words, the printed functions with their proofs, and plain facts on them. -/
import Derived.Test.YtifgcajpkgamgaaBSQe
section
namespace Go.Proofs.Ytifgcajpkgamgaa.Q
open Go.RowKit Go.Proofs.YtifgcajpkgamgaaW.PrintWords Go.Proofs.YtifgcajpkgamgaaW.PrintLast Go.Proofs.YtifgcajpkgamgaaW.PrintMore
attribute [local go_sem] max2_int min2_int max_two min_two max_three min_three max_four min_four   
set_option linter.unusedVariables false
set_option linter.unusedSimpArgs false
set_option maxHeartbeats 8000000
set_option maxRecDepth 100000
theorem impl_SieveHeads.mono : ∀ a0 a1 a2 a3 a4 k, LeO (impl_SieveHeads.f k a0 a1 a2 a3 a4) (impl_SieveHeads.f (k + 1) a0 a1 a2 a3 a4) := by
  intro a0 a1 a2 a3 a4 k
  unfold impl_SieveHeads.f
  repeat' first | (with_reducible first | apply impl_Sieve_heads.mono | apply impl_texts.mono | exact LeO.refl _ | exact LeO.none _ | refine LeO.ite ?_ ?_ | refine LeO.bind ?_ (fun _ => ?_)) | exact LeO.none _ | refine LeO.ite ?_ ?_ | refine LeO.bind ?_ (fun _ => ?_)
theorem impl_SieveHeads.calls (k : Nat) (a0_0 a0_1 a0_2 : ByteArray) (A0_3 : Option Addr) (c0_3 : Nat) (l0_3 : List ByteArray) (a0_4 : Int) (r : List ByteArray) (w : World) (hr0_3 : Kd.C Kd.string w A0_3 l0_3.length l0_3) (hc0_3 : l0_3.length ≤ c0_3) (h : impl_SieveHeads.f k a0_0 a0_1 a0_2 l0_3 a0_4 = some r) :
    Calls Try.prog 41 #[.agg #[.string a0_0, .string a0_1, .string a0_2, .slice A0_3 l0_3.length c0_3, .int .i64 a0_4]] w fun e w' => ∃ v0_ : Value, e = .returned (v0_) ∧ Kd.R Kd.string 9 w' w.heap.size (fun _ => True) v0_ r ∧ Below w.heap.size w w' := by
 have hu25 := Try.underlying25; have HR0_3 := z0 hr0_3; have HC0_3 := z0 hc0_3; clear hr0_3 hc0_3; have HB := z0 (Below.refl w.heap.size w); have H : ((impl_Sieve_heads.f k a0_0 a0_1 a0_2 l0_3 a0_4).bind fun bt870 => ((impl_texts.f k bt870.1).bind fun t874 => (some t874))) = some r := h; clear h; replace H := zi H; obtain ⟨⟨t870, t873⟩, A2, H⟩ := H; (try dsimp only at H); replace H := zi H; obtain ⟨t874, A3, H⟩ := H; obtain rfl := Option.some.inj H; go_enter Try.func41, Try.ntmps41
 go_wp2_with (first | ((with_reducible refine gd 1 ?_); refine zbx 25 #[.string a0_0, .string a0_1, .string a0_2, .slice A0_3 l0_3.length c0_3, .int .i64 a0_4] ?_; intro gb869 hg w4 hbox hb; have BK869 := z0 (hbox); have GE869 := zG hg HB; replace HB := zH HB hb; clear hb hbox hg; have hcz5 := zc5 BK869.out) | ((with_reducible refine gc 89 ?_); refine zL (some 7) Try.func89 #[.agg #[.string a0_0, .string a0_1, .string a0_2, .slice A0_3 l0_3.length c0_3, .int .i64 a0_4]] ?_; (with_reducible refine (impl_Sieve_heads.calls k a0_0 a0_1 a0_2 _ _ l0_3 a0_4 t870 t873 _ (zC (Kd.C_below HR0_3.out HB.out)) HC0_3.out A2.out).mono ?_); rintro e w6 ⟨v871, rfl, ho0, hb⟩; refine zv ?_; have HO872 := z0 (Kd.R_lower ho0 (below_size (zb HB.out))); replace BK869 := zK BK869 hb; replace HB := zH HB hb; (try clear hb ho0); obtain ⟨Ao7, co7, eo7⟩ := Kd.R_slice HO872.out; subst eo7) | ((with_reducible refine gc 90 ?_); refine zL (some 11) Try.func90 #[.slice Ao7 t870.length co7] ?_; (with_reducible refine (impl_texts.calls k _ _ t870 t874 _ (zC ((Kd.R_reads' HO872.out).2.2)) ((Kd.R_reads' HO872.out).2.1) A3.out).mono ?_); rintro e w8 ⟨v875, rfl, ho0, hb⟩; refine zv ?_; replace HO872 := zA HO872 hb; have HO876 := z0 (Kd.R_lower ho0 (below_size (zb HB.out))); replace BK869 := zK BK869 hb; replace HB := zH HB hb; (try clear hb ho0)))
 go_ret; exact ⟨_, ze, zr HO876.out, zb HB.out⟩
theorem laws_szStringS.mono_l : ∀ k, (∀ y0 y1 y2, LeO (laws_szStringS.l0 k y0 y1 y2) (laws_szStringS.l0 (k + 1) y0 y1 y2))
  | 0 => fun _ _ _ r h => by simp [laws_szStringS.l0] at h
  | k + 1 => by
    have ih0 := laws_szStringS.mono_l k
    · intro y0 y1 y2
      unfold laws_szStringS.l0
      repeat' first | (with_reducible first | apply ih0 | exact LeO.refl _ | exact LeO.none _ | refine LeO.ite ?_ ?_ | refine LeO.bind ?_ (fun _ => ?_)) | exact LeO.none _ | refine LeO.ite ?_ ?_ | refine LeO.bind ?_ (fun _ => ?_)
theorem laws_szStringS.mono : ∀ a0 a1 k, LeO (laws_szStringS.f k a0 a1) (laws_szStringS.f (k + 1) a0 a1) := by
  intro a0 a1 k
  have ih0 := laws_szStringS.mono_l k
  unfold laws_szStringS.f
  repeat' first | (with_reducible first | apply ih0 | exact LeO.refl _ | exact LeO.none _ | refine LeO.ite ?_ ?_ | refine LeO.bind ?_ (fun _ => ?_)) | exact LeO.none _ | refine LeO.ite ?_ ?_ | refine LeO.bind ?_ (fun _ => ?_)
theorem laws_szStringS.calls (k : Nat) (A0 : Option Addr) (c0 : Nat) (l0 : List ByteArray) (a1 r : Int) (w : World) (hr0 : Kd.C Kd.string w A0 l0.length l0) (hc0 : l0.length ≤ c0) (h : laws_szStringS.f k l0 a1 = some r) :
    Calls Try.prog 92 #[.slice A0 l0.length c0, .int .i64 a1] w fun e w' => e = .returned (.int .i64 r) ∧ Drawn0 w w' := by
 have HR0 := z0 hr0; have HC0 := z0 hc0; clear hr0 hc0; have H : (if (wrap64 (a1 - (l0.length : Int))) < 0 then (some (-1)) else (laws_szStringS.l0 k l0 (wrap64 (a1 - (l0.length : Int))) 0)) = some r := h; clear h
 by_cases c3 : (wrap64 (a1 - (l0.length : Int))) < 0
 ·rw [if_pos c3] at H; have c3b0 := decide_eq_true c3; clear c3; obtain rfl := Option.some.inj H; go_enter Try.func92, Try.ntmps92; go_wp2; go_ret; exact ⟨zf, by repeat (first | exact Drawn0.refl _ | apply Drawn0.step)⟩
 ·rw [if_neg c3] at H; have c3b0 := decide_eq_false c3; clear c3; have H' := z0 H; clear H; go_enter Try.func92, Try.ntmps92; go_wp2
  go_loopg [1, 5] k (fun kq v1 v5 w' => ∃ (x1_1 : Int) (x5_1 : Int), v1 = .int .i64 x1_1 ∧ v5 = .int .i64 x5_1 ∧ Aside0 (laws_szStringS.l0 kq l0 x1_1 x5_1 = some r) ∧ Aside0 (kq ≤ k) ∧ Drawn0 w w')
  case atStart => exact ⟨(wrap64 (a1 - (l0.length : Int))), (0), zf, zf, H', ⟨Nat.le_refl _⟩, by repeat (first | exact Drawn0.refl _ | apply Drawn0.step)⟩
  case round =>
   clear H'
   try clear p2
   try clear c3
   try clear c3b0
   obtain ⟨x1_1, x5_1, rfl, rfl, HA, HK1, ⟨m1, rfl⟩⟩ := hrel
   cases gk with
   | zero => exact absurd HA.out (by simp [laws_szStringS.l0])
   | succ k1 =>
    have H := HA.out; clear HA; simp only [laws_szStringS.l0] at H
    by_cases c4 : x5_1 < (l0.length : Int)
    ·rw [if_pos c4] at H; have c4b0 := decide_eq_true c4; clear c4; replace H := zn H; obtain ⟨c5, H⟩ := H; have c5b0 := decide_eq_true c5; clear c5
     by_cases c6 : (wrap64 (x1_1 - ((rdOf ByteArray.empty l0 x5_1).size : Int))) < 0
     ·rw [if_pos c6] at H; have c6b0 := decide_eq_true c6; clear c6; obtain rfl := Option.some.inj H; have p1010 : 0 ≤ (x5_1 : Int) := zd; have q1010 : x5_1 < (l0.length : Int) := zd; obtain ⟨ad1010, e1010, hx1010_0⟩ := Kd.at_string HR0.out x5_1 p1010 q1010; cases e1010; replace p1010 := eq_true p1010; replace q1010 := eq_true q1010; go_wp2; go_ret; exact ⟨zf, by repeat (first | exact Drawn0.refl _ | apply Drawn0.step)⟩
     ·rw [if_neg c6] at H; have c6b0 := decide_eq_false c6; clear c6; have H' := z0 H; clear H; have p1010 : 0 ≤ (x5_1 : Int) := zd; have q1010 : x5_1 < (l0.length : Int) := zd; obtain ⟨ad1010, e1010, hx1010_0⟩ := Kd.at_string HR0.out x5_1 p1010 q1010; cases e1010; replace p1010 := eq_true p1010; replace q1010 := eq_true q1010; go_wp2; go_roundg k1
      case measure => have := HK1.out; omega
      case rel => exact ⟨(wrap64 (x1_1 - ((rdOf ByteArray.empty l0 x5_1).size : Int))), (wrap64 (x5_1 + 1)), zf, zf, H', ⟨by have := HK1.out; omega⟩, by repeat (first | exact Drawn0.refl _ | apply Drawn0.step)⟩
    ·rw [if_neg c4] at H; have c4b0 := decide_eq_false c4; clear c4; obtain rfl := Option.some.inj H; go_wp2; go_ret; exact ⟨zf, by repeat (first | exact Drawn0.refl _ | apply Drawn0.step)⟩
theorem laws_szSieve.mono : ∀ a0 a1 a2 a3 a4 a5 k, LeO (laws_szSieve.f k a0 a1 a2 a3 a4 a5) (laws_szSieve.f (k + 1) a0 a1 a2 a3 a4 a5) := by
  intro a0 a1 a2 a3 a4 a5 k
  unfold laws_szSieve.f
  repeat' first | (with_reducible first | apply laws_szStringS.mono | exact LeO.refl _ | exact LeO.none _ | refine LeO.ite ?_ ?_ | refine LeO.bind ?_ (fun _ => ?_)) | exact LeO.none _ | refine LeO.ite ?_ ?_ | refine LeO.bind ?_ (fun _ => ?_)
theorem laws_szSieve.calls (k : Nat) (a0_0 a0_1 a0_2 : ByteArray) (A0_3 : Option Addr) (c0_3 : Nat) (l0_3 : List ByteArray) (a0_4 a1 r : Int) (w : World) (hr0_3 : Kd.C Kd.string w A0_3 l0_3.length l0_3) (hc0_3 : l0_3.length ≤ c0_3) (h : laws_szSieve.f k a0_0 a0_1 a0_2 l0_3 a0_4 a1 = some r) :
    Calls Try.prog 45 #[.agg #[.string a0_0, .string a0_1, .string a0_2, .slice A0_3 l0_3.length c0_3, .int .i64 a0_4], .int .i64 a1] w fun e w' => e = .returned (.int .i64 r) ∧ Below w.heap.size w w' := by
 have hu49 := Try.underlying49; have HR0_3 := z0 hr0_3; have HC0_3 := z0 hc0_3; clear hr0_3 hc0_3; have HB := z0 (Below.refl w.heap.size w); have H : (if (wrap64 (a1 - (a0_0.size : Int))) < 0 then (some (-1)) else (if (wrap64 ((wrap64 (a1 - (a0_0.size : Int))) - (a0_1.size : Int))) < 0 then (some (-1)) else (if (wrap64 ((wrap64 ((wrap64 (a1 - (a0_0.size : Int))) - (a0_1.size : Int))) - (a0_2.size : Int))) < 0 then (some (-1)) else ((laws_szStringS.f k l0_3 (wrap64 ((wrap64 ((wrap64 (a1 - (a0_0.size : Int))) - (a0_1.size : Int))) - (a0_2.size : Int)))).bind fun t1012 => (if t1012 < 0 then (some (-1)) else (some t1012)))))) = some r := h; clear h
 by_cases c3 : (wrap64 (a1 - (a0_0.size : Int))) < 0
 ·rw [if_pos c3] at H; have c3b0 := decide_eq_true c3; clear c3; obtain rfl := Option.some.inj H; go_enter Try.func45, Try.ntmps45
  go_wp2_with (first | ((with_reducible refine gd 2 ?_); refine zbx 49 #[.string a0_0, .string a0_1, .string a0_2, .slice A0_3 l0_3.length c0_3, .int .i64 a0_4] ?_; intro gb1011 hg w4 hbox hb; have BK1011 := z0 (hbox); have GE1011 := zG hg HB; replace HB := zH HB hb; clear hb hbox hg; have hcz5 := zc5 BK1011.out))
  go_ret; exact ⟨ze, zb HB.out⟩
 ·rw [if_neg c3] at H; have c3b0 := decide_eq_false c3; clear c3
  by_cases c6 : (wrap64 ((wrap64 (a1 - (a0_0.size : Int))) - (a0_1.size : Int))) < 0
  ·rw [if_pos c6] at H; have c6b0 := decide_eq_true c6; clear c6; obtain rfl := Option.some.inj H; go_enter Try.func45, Try.ntmps45
   go_wp2_with (first | ((with_reducible refine gd 2 ?_); refine zbx 49 #[.string a0_0, .string a0_1, .string a0_2, .slice A0_3 l0_3.length c0_3, .int .i64 a0_4] ?_; intro gb1011 hg w7 hbox hb; have BK1011 := z0 (hbox); have GE1011 := zG hg HB; replace HB := zH HB hb; clear hb hbox hg; have hcz8 := zc5 BK1011.out))
   go_ret; exact ⟨ze, zb HB.out⟩
  ·rw [if_neg c6] at H; have c6b0 := decide_eq_false c6; clear c6
   by_cases c9 : (wrap64 ((wrap64 ((wrap64 (a1 - (a0_0.size : Int))) - (a0_1.size : Int))) - (a0_2.size : Int))) < 0
   ·rw [if_pos c9] at H; have c9b0 := decide_eq_true c9; clear c9; obtain rfl := Option.some.inj H; go_enter Try.func45, Try.ntmps45
    go_wp2_with (first | ((with_reducible refine gd 2 ?_); refine zbx 49 #[.string a0_0, .string a0_1, .string a0_2, .slice A0_3 l0_3.length c0_3, .int .i64 a0_4] ?_; intro gb1011 hg w10 hbox hb; have BK1011 := z0 (hbox); have GE1011 := zG hg HB; replace HB := zH HB hb; clear hb hbox hg; have hcz11 := zc5 BK1011.out))
    go_ret; exact ⟨ze, zb HB.out⟩
   ·rw [if_neg c9] at H; have c9b0 := decide_eq_false c9; clear c9; replace H := zi H; obtain ⟨t1012, A12, H⟩ := H; go_enter Try.func45, Try.ntmps45
    go_upto_if 31 with (first | ((with_reducible refine gd 2 ?_); refine zbx 49 #[.string a0_0, .string a0_1, .string a0_2, .slice A0_3 l0_3.length c0_3, .int .i64 a0_4] ?_; intro gb1011 hg w13 hbox hb; have BK1011 := z0 (hbox); have GE1011 := zG hg HB; replace HB := zH HB hb; clear hb hbox hg; have hcz14 := zc5 BK1011.out) | ((with_reducible refine gc 92 ?_); refine zL (some 29) Try.func92 #[.slice A0_3 l0_3.length c0_3, .int .i64 (wrap64 ((wrap64 ((wrap64 (a1 - (a0_0.size : Int))) - (a0_1.size : Int))) - (a0_2.size : Int)))] ?_; (with_reducible refine (laws_szStringS.calls k _ _ l0_3 (wrap64 ((wrap64 ((wrap64 (a1 - (a0_0.size : Int))) - (a0_1.size : Int))) - (a0_2.size : Int))) t1012 _ ?side1 ?side2 A12.out).mono ?_); (case side1 => repeat (first | exact (Kd.C_below HR0_3.out HB.out) | (with_reducible refine Kd.C_alloc ?_ _) | (with_reducible refine Kd.C_drewN ?_ _) | (with_reducible refine Kd.C_drew ?_))); (case side2 => exact HC0_3.out); rintro e w' ⟨rfl, ⟨nd, rfl⟩⟩; refine ⟨_, rfl, ?_⟩))
    by_cases c15 : t1012 < 0
    ·rw [if_pos c15] at H; have c15b0 := decide_eq_true c15; clear c15; (first | rw [c15b0] | (simp only [i64_w, i32_w]; rw [c15b0]) | simp only [*, Bool.not_true, Bool.not_false] | skip); obtain rfl := Option.some.inj H; go_wp2; go_ret; exact ⟨ze, zb HB.out⟩
    ·rw [if_neg c15] at H; have c15b0 := decide_eq_false c15; clear c15; (first | rw [c15b0] | (simp only [i64_w, i32_w]; rw [c15b0]) | simp only [*, Bool.not_true, Bool.not_false] | skip); obtain rfl := Option.some.inj H; go_wp2; go_ret; exact ⟨ze, zb HB.out⟩
theorem laws_toStringS.mono_l : ∀ k, (∀ y0 y1 y2, LeO (laws_toStringS.l0 k y0 y1 y2) (laws_toStringS.l0 (k + 1) y0 y1 y2))
  | 0 => fun _ _ _ r h => by simp [laws_toStringS.l0] at h
  | k + 1 => by
    have ih0 := laws_toStringS.mono_l k
    · intro y0 y1 y2
      unfold laws_toStringS.l0
      repeat' first | (with_reducible first | apply ih0 | exact LeO.refl _ | exact LeO.none _ | refine LeO.ite ?_ ?_ | refine LeO.bind ?_ (fun _ => ?_)) | exact LeO.none _ | refine LeO.ite ?_ ?_ | refine LeO.bind ?_ (fun _ => ?_)
theorem laws_toStringS.mono : ∀ a0 k, LeO (laws_toStringS.f k a0) (laws_toStringS.f (k + 1) a0) := by
  intro a0 k
  have ih0 := laws_toStringS.mono_l k
  unfold laws_toStringS.f
  repeat' first | (with_reducible first | apply ih0 | exact LeO.refl _ | exact LeO.none _ | refine LeO.ite ?_ ?_ | refine LeO.bind ?_ (fun _ => ?_)) | exact LeO.none _ | refine LeO.ite ?_ ?_ | refine LeO.bind ?_ (fun _ => ?_)
theorem laws_toStringS.calls (k : Nat) (A0 : Option Addr) (c0 : Nat) (l0 r : List ByteArray) (w : World) (hr0 : Kd.C Kd.string w A0 l0.length l0) (hc0 : l0.length ≤ c0) (h : laws_toStringS.f k l0 = some r) :
    Calls Try.prog 95 #[.slice A0 l0.length c0] w fun e w' => ∃ v0_ : Value, e = .returned (v0_) ∧ Kd.R Kd.string 9 w' w.heap.size (fun _ => True) v0_ r ∧ Below w.heap.size w w' := by
 have HR0 := z0 hr0; have HC0 := z0 hc0; clear hr0 hc0; have HB := z0 (Below.refl w.heap.size w); have H : (if 0 ≤ (l0.length : Int) then (if ((l0.length : Int) : Int).toNat ≤ 17592186044416 then (laws_toStringS.l0 k l0 (List.replicate ((l0.length : Int) : Int).toNat (⟨#[]⟩ : ByteArray)) 0) else (none)) else (none)) = some r := h; clear h; replace H := zn H; obtain ⟨c2, H⟩ := H; have c2b0 := eq_true c2; have c2b1 := decide_eq_true c2; clear c2; replace H := zn H; obtain ⟨c3, H⟩ := H; have c3b0 := eq_true c3; have c3b1 := decide_eq_true c3; clear c3; obtain ⟨y1013, hy1013⟩ : ∃ y_ : List ByteArray, y_ = (List.replicate ((l0.length : Int) : Int).toNat (⟨#[]⟩ : ByteArray)) := ⟨_, rfl⟩; replace H : (laws_toStringS.l0 k l0 y1013 0) = some r := zH2 hy1013 H; have Ny1013 := z0 hy1013; clear hy1013; have H' := z0 H; clear H; go_enter Try.func95, Try.ntmps95
 go_wp2_with (first | ((with_reducible refine gd 7 ?_); refine Kd.R_make Kd.string _ 9 rfl (N := 7) rfl 23 _ _ rfl (l0.length : Int) rfl rfl Try.underlying23 (.string ⟨#[]⟩) 16 info9 rfl (by decide) (by omega) (⟨#[]⟩ : ByteArray) (ok := fun _ => True) (okp := fun _ => True) rfl (fun _ hk => hk) trivial (zd) (Nat.le_trans (Nat.mul_le_mul_right _ (zd : (l0.length : Int).toNat ≤ 17592186044416)) (by omega)) (Below.refl _ _) (Nat.le_refl _) ?_; intro v1014 w4 ho5 hb hg_ hnew_; clear hg_ hnew_; (first | rw [← Ny1013.out] at ho5 | (simp only [Int.reduceToNat] at ho5; rw [← Ny1013.out] at ho5)); have HO1015 := z0 (Kd.R_lower ho5 (below_size (zb HB.out))); replace HB := zH HB hb; clear hb ho5))
 go_loopg [4] k (fun kq v4 w' => ∃ (x3_1 : List ByteArray) (x4_1 : Int), v4 = .int .i64 x4_1 ∧ Aside0 (laws_toStringS.l0 kq l0 x3_1 x4_1 = some r) ∧ Aside0 (kq ≤ k) ∧ Aside0 (Kd.R Kd.string 9 w' w.heap.size (fun _ => True) v1014 x3_1) ∧ Aside0 (Below w.heap.size w w'))
 case atStart => exact ⟨(y1013), (0), zf, H', ⟨Nat.le_refl _⟩, ⟨zr HO1015.out⟩, ⟨zb HB.out⟩⟩
 case round =>
  clear H'
  try clear c2
  try clear c2b0
  try clear c2b1
  try clear p2
  try clear c3
  try clear c3b0
  try clear c3b1
  obtain ⟨x3_1, x4_1, rfl, HA, HK1, HO_3, HB⟩ := hrel
  cases gk with
  | zero => exact absurd HA.out (by simp [laws_toStringS.l0])
  | succ k1 =>
   have H := HA.out; clear HA; simp only [laws_toStringS.l0] at H
   by_cases c6 : x4_1 < (l0.length : Int)
   ·rw [if_pos c6] at H; have c6b0 := decide_eq_true c6; clear c6; replace H := zn H; obtain ⟨c7, H⟩ := H; have c7b0 := decide_eq_true c7; clear c7; replace H := zn H; obtain ⟨c8, H⟩ := H; have c8b0 := decide_eq_true c8; clear c8; obtain ⟨y1017, hy1017⟩ : ∃ y_ : List ByteArray, y_ = (x3_1.set (x4_1 : Int).toNat (rdOf ByteArray.empty l0 x4_1)) := ⟨_, rfl⟩; replace H : (laws_toStringS.l0 k1 l0 y1017 (wrap64 (x4_1 + 1))) = some r := zH2 hy1017 H; have Ny1017 := z0 hy1017; clear hy1017; have H' := z0 H; clear H; have p1016 : 0 ≤ (x4_1 : Int) := zd; have q1016 : x4_1 < (l0.length : Int) := zd; obtain ⟨ad1016, e1016, hx1016_0⟩ := Kd.at_string HR0.out x4_1 p1016 q1016; cases e1016; replace hx1016_0 := (HB.out.cell (World.block_lt_of_cell? w _ hx1016_0)).trans hx1016_0; replace p1016 := eq_true p1016; replace q1016 := eq_true q1016; have p9 : 0 ≤ (x4_1 : Int) := zd; have q9 : (x4_1 : Int) < ((x3_1.length : Int) : Int) := zd; obtain ⟨go9, co9, eo9, gb9, gl9, cl9, HG9⟩ := Kd.R_form HO_3.out (by omega); (first | cases eo9 | (injection eo9 with ea_ en_ ec_; (first | subst ea_ | (injection ea_ with ea_; subst ea_)); subst ec_; clear en_)); have GB9 := z0 gb9; have GG9 := z0 HG9; clear gb9 gl9 HG9; obtain ⟨hx9_0, hf9_0⟩ := Kd.R_celln (⟨#[]⟩ : ByteArray) HO_3.out (x4_1 : Int) p9 q9; replace p9 := eq_true p9; replace q9 := eq_true q9; have HP10 := Kd.R_putg HO_3.out (x4_1 : Int) (rdOf ByteArray.empty l0 x4_1)
    go_wp2_with (first | ((with_reducible refine gs 9 20 ?_); refine store_event (t := 9) (p := 20) (v := ?vo_w11) (w1 := (wr.setCell ⟨go9, (x4_1 : Int).toNat, none⟩ (.string (rdOf ByteArray.empty l0 x4_1)))) ?hg ?ho ?hn ?hr ?_; (case ho => rfl); (case hg => rfl); (case hn => rfl); (case hr => first | (go_simp; done) | (go_simp; rfl)); intro w11 hw; have hg : wr.grownBy w11 (some go9) := (by rw [hw]; exact HP10.2); have hp_ : Kd.R Kd.string 9 w11 w.heap.size (fun _ => True) (.slice (some ⟨go9, 0, none⟩) x3_1.length co9) y1017 := (by rw [hw, Ny1017.out]; exact HP10.1); clear HP10; replace HO_3 := z0 (hp_); replace HB := z0 ((by rw [hw]; exact below_set (HB.out) GB9.out : Below w.heap.size w w11)); clear hg hw hp_))
    go_roundg k1
    case measure => have := HK1.out; omega
    case rel => exact ⟨(y1017), (wrap64 (x4_1 + 1)), zf, H', ⟨by have := HK1.out; omega⟩, ⟨zr HO_3.out⟩, ⟨zb HB.out⟩⟩
   ·rw [if_neg c6] at H; have c6b0 := decide_eq_false c6; clear c6; obtain rfl := Option.some.inj H; go_wp2; go_ret; exact ⟨_, ze, zr HO_3.out, zb HB.out⟩
theorem laws_toSieve.mono : ∀ a0 a1 a2 a3 a4 k, LeO (laws_toSieve.f k a0 a1 a2 a3 a4) (laws_toSieve.f (k + 1) a0 a1 a2 a3 a4) := by
  intro a0 a1 a2 a3 a4 k
  unfold laws_toSieve.f
  repeat' first | (with_reducible first | apply laws_toStringS.mono | exact LeO.refl _ | exact LeO.none _ | refine LeO.ite ?_ ?_ | refine LeO.bind ?_ (fun _ => ?_)) | exact LeO.none _ | refine LeO.ite ?_ ?_ | refine LeO.bind ?_ (fun _ => ?_)
theorem laws_toSieve.calls (k : Nat) (a0_0 a0_1 a0_2 : ByteArray) (A0_3 : Option Addr) (c0_3 : Nat) (l0_3 : List ByteArray) (a0_4 : Int) (r1 r2 r3 : ByteArray) (r4 : List ByteArray) (r5 : Int) (w : World) (hr0_3 : Kd.C Kd.string w A0_3 l0_3.length l0_3) (hc0_3 : l0_3.length ≤ c0_3) (h : laws_toSieve.f k a0_0 a0_1 a0_2 l0_3 a0_4 = some (r1, r2, r3, r4, r5)) :
    Calls Try.prog 47 #[.agg #[.string a0_0, .string a0_1, .string a0_2, .slice A0_3 l0_3.length c0_3, .int .i64 a0_4]] w fun e w' => ∃ v3_ : Value, e = .returned (.agg #[.string r1, .string r2, .string r3, v3_, .int .i64 r5]) ∧ Kd.R Kd.string 9 w' w.heap.size (fun _ => True) v3_ r4 ∧ Below w.heap.size w w' := by
 have hu49 := Try.underlying49; have hu25 := Try.underlying25; have HR0_3 := z0 hr0_3; have HC0_3 := z0 hc0_3; clear hr0_3 hc0_3; have HB := z0 (Below.refl w.heap.size w); have H : ((laws_toStringS.f k l0_3).bind fun t1021 => (some (a0_0, a0_1, a0_2, t1021, a0_4))) = some (r1, r2, r3, r4, r5) := h; clear h; replace H := zi H; obtain ⟨t1021, A2, H⟩ := H; simp only [Option.some.injEq, Prod.mk.injEq] at H; obtain ⟨rfl, rfl, rfl, rfl, rfl⟩ := H; go_enter Try.func47, Try.ntmps47
 go_wp2_with (first | ((with_reducible refine gd 1 ?_); refine zbx 49 #[.string a0_0, .string a0_1, .string a0_2, .slice A0_3 l0_3.length c0_3, .int .i64 a0_4] ?_; intro gb1018 hg w3 hbox hb; have BK1018 := z0 (hbox); have GE1018 := zG hg HB; replace HB := zH HB hb; clear hb hbox hg) | ((with_reducible refine gd 2 ?_); refine zbx 25 #[.string ⟨#[]⟩, .string ⟨#[]⟩, .string ⟨#[]⟩, .slice none 0 0, .int .i64 0] ?_; intro gb1019 hg w4 hbox hb; have BK1019 := z0 (hbox); have GE1019 := zG hg HB; replace HB := zH HB hb; have NB1018_1019 := zLt hg BK1018; have NB1019_1018 := zGt hg BK1018; replace BK1018 := zK BK1018 hb; clear hb hbox hg) | ((with_reducible refine gd 3 ?_); refine zbx 25 #[.string ⟨#[]⟩, .string ⟨#[]⟩, .string ⟨#[]⟩, .slice none 0 0, .int .i64 0] ?_; intro gb1020 hg w5 hbox hb; have BK1020 := z0 (hbox); have GE1020 := zG hg HB; replace HB := zH HB hb; have NB1018_1020 := zLt hg BK1018; have NB1020_1018 := zGt hg BK1018; replace BK1018 := zK BK1018 hb; have NB1019_1020 := zLt hg BK1019; have NB1020_1019 := zGt hg BK1019; replace BK1019 := zK BK1019 hb; clear hb hbox hg; have hnb6 := NB1018_1019.out; have hnc6 := NB1019_1018.out; have hnb7 := NB1018_1020.out; have hnc7 := NB1020_1018.out; have hcz8 := zc5 BK1018.out; have hnb9 := NB1020_1019.out; have hnc9 := NB1019_1020.out; have hcz10 := zc5 BK1020.out) | ((with_reducible refine gc 95 ?_); refine zL (some 15) Try.func95 #[.slice A0_3 l0_3.length c0_3] ?_; (with_reducible refine (laws_toStringS.calls k _ _ l0_3 t1021 _ (Kd.C_below HR0_3.out (zb HB.out)) HC0_3.out A2.out).mono ?_); rintro e w11 ⟨v1022, rfl, ho0, hb⟩; refine zv ?_; have HO1023 := z0 (Kd.R_lower ho0 (below_size (zb HB.out))); replace BK1018 := zKy BK1018 hb; replace BK1019 := zKy BK1019 hb; replace BK1020 := z0 (blk_below (zpc BK1020.out #[.string a0_0, .string a0_1, .string a0_2, .slice none 0 0, .int .i64 0]) hb); replace HB := zH HB hb; (try clear hb ho0); obtain ⟨Ao12, co12, eo12⟩ := Kd.R_slice HO1023.out; subst eo12; have hcz13 := zc5 BK1020.out; have hcz14 := zc5 BK1018.out; have hcz15 := zc5 BK1019.out))
 refine bodyPost_ret (results_cell_row rfl _ _ gb1019 25 #[.string a0_0, .string a0_1, .string a0_2, .slice Ao12 t1021.length co12, .int .i64 a0_4] (0, 0) _ rfl (zp BK1019.out) Try.underlying25 rfl (by kernel_rfl)) rfl ?_; exact ⟨_, ze, Kd.R_mono (ztt HO1023.out BK1020.out BK1019.out) (fun _ hk => trivial), zb HB.out⟩
theorem laws_eqStringS.mono_l : ∀ k, (∀ y0 y1 y2, LeO (laws_eqStringS.l0 k y0 y1 y2) (laws_eqStringS.l0 (k + 1) y0 y1 y2))
  | 0 => fun _ _ _ r h => by simp [laws_eqStringS.l0] at h
  | k + 1 => by
    have ih0 := laws_eqStringS.mono_l k
    · intro y0 y1 y2
      unfold laws_eqStringS.l0
      repeat' first | (with_reducible first | apply ih0 | exact LeO.refl _ | exact LeO.none _ | refine LeO.ite ?_ ?_ | refine LeO.bind ?_ (fun _ => ?_)) | exact LeO.none _ | refine LeO.ite ?_ ?_ | refine LeO.bind ?_ (fun _ => ?_)
theorem laws_eqStringS.mono : ∀ a0 a1 k, LeO (laws_eqStringS.f k a0 a1) (laws_eqStringS.f (k + 1) a0 a1) := by
  intro a0 a1 k
  have ih0 := laws_eqStringS.mono_l k
  unfold laws_eqStringS.f
  repeat' first | (with_reducible first | apply ih0 | exact LeO.refl _ | exact LeO.none _ | refine LeO.ite ?_ ?_ | refine LeO.bind ?_ (fun _ => ?_)) | exact LeO.none _ | refine LeO.ite ?_ ?_ | refine LeO.bind ?_ (fun _ => ?_)
theorem laws_eqStringS.calls (k : Nat) (A0 : Option Addr) (c0 : Nat) (l0 : List ByteArray) (A1 : Option Addr) (c1 : Nat) (l1 : List ByteArray) (r : Bool) (w : World) (hr0 : Kd.C Kd.string w A0 l0.length l0) (hc0 : l0.length ≤ c0) (hr1 : Kd.C Kd.string w A1 l1.length l1) (hc1 : l1.length ≤ c1) (h : laws_eqStringS.f k l0 l1 = some r) :
    Calls Try.prog 54 #[.slice A0 l0.length c0, .slice A1 l1.length c1] w fun e w' => e = .returned (.bool r) ∧ Drawn0 w w' := by
 have HR0 := z0 hr0; have HC0 := z0 hc0; clear hr0 hc0; have HR1 := z0 hr1; have HC1 := z0 hc1; clear hr1 hc1; have H : (if (l0.length : Int) = (l1.length : Int) then (laws_eqStringS.l0 k l0 l1 0) else (some false)) = some r := h; clear h
 by_cases c3 : (l0.length : Int) = (l1.length : Int)
 ·rw [if_pos c3] at H; have c3b0 : ((l0.length : Int) == (l1.length : Int)) = true := beq_iff_eq.mpr c3; have c3b1 : ((l0.length : Int) != (l1.length : Int)) = false := bne_eq_false_iff_eq.mpr c3
  have c3b2 : (l0.length == l1.length) = true := by first | simpa using c3 | (simp at c3 ⊢; omega)
  clear c3; have H' := z0 H; clear H; go_enter Try.func54, Try.ntmps54; go_wp2
  repeat (go_quiet (fail); try go_wp2)
  go_loopg [5] k (fun kq v5 w' => ∃ (x5_1 : Int), v5 = .int .i64 x5_1 ∧ Aside0 (laws_eqStringS.l0 kq l0 l1 x5_1 = some r) ∧ Aside0 (kq ≤ k) ∧ Drawn0 w w')
  case atStart => exact ⟨(0), zf, H', ⟨Nat.le_refl _⟩, by repeat (first | exact Drawn0.refl _ | apply Drawn0.step)⟩
  case round =>
   clear H'
   try clear c1
   try clear p2
   try clear c3
   try clear c3b0
   try clear c3b1
   try clear c3b2
   obtain ⟨x5_1, rfl, HA, HK1, ⟨m1, rfl⟩⟩ := hrel
   cases gk with
   | zero => exact absurd HA.out (by simp [laws_eqStringS.l0])
   | succ k1 =>
    have H := HA.out; clear HA; simp only [laws_eqStringS.l0] at H
    by_cases c4 : x5_1 < (l0.length : Int)
    ·rw [if_pos c4] at H; have c4b0 := decide_eq_true c4; clear c4; replace H := zn H; obtain ⟨c5, H⟩ := H; have c5b0 := decide_eq_true c5; clear c5; replace H := zn H; obtain ⟨c6, H⟩ := H; have c6b0 := decide_eq_true c6; clear c6
     by_cases c7 : (rdOf ByteArray.empty l0 x5_1).toList = (rdOf ByteArray.empty l1 x5_1).toList
     ·rw [if_pos c7] at H; have c7b0 : ((rdOf ByteArray.empty l0 x5_1).toList == (rdOf ByteArray.empty l1 x5_1).toList) = true := beq_iff_eq.mpr c7; have c7b1 : ((rdOf ByteArray.empty l0 x5_1).toList != (rdOf ByteArray.empty l1 x5_1).toList) = false := bne_eq_false_iff_eq.mpr c7; clear c7; have H' := z0 H; clear H; have p1024 : 0 ≤ (x5_1 : Int) := zd; have q1024 : x5_1 < (l0.length : Int) := zd; obtain ⟨ad1024, e1024, hx1024_0⟩ := Kd.at_string HR0.out x5_1 p1024 q1024; cases e1024; replace p1024 := eq_true p1024; replace q1024 := eq_true q1024; have p1025 : 0 ≤ (x5_1 : Int) := zd; have q1025 : x5_1 < (l1.length : Int) := zd; obtain ⟨ad1025, e1025, hx1025_0⟩ := Kd.at_string HR1.out x5_1 p1025 q1025; cases e1025; replace p1025 := eq_true p1025; replace q1025 := eq_true q1025; go_wp2
      repeat (go_quiet (fail); try go_wp2)
      go_roundg k1
      case measure => have := HK1.out; omega
      case rel => exact ⟨(wrap64 (x5_1 + 1)), zf, H', ⟨by have := HK1.out; omega⟩, by repeat (first | exact Drawn0.refl _ | apply Drawn0.step)⟩
     ·rw [if_neg c7] at H; have c7b0 : ((rdOf ByteArray.empty l0 x5_1).toList == (rdOf ByteArray.empty l1 x5_1).toList) = false := beq_eq_false_iff_ne.mpr c7; have c7b1 : ((rdOf ByteArray.empty l0 x5_1).toList != (rdOf ByteArray.empty l1 x5_1).toList) = true := bne_iff_ne.mpr c7; obtain rfl := Option.some.inj H; have p1024 : 0 ≤ (x5_1 : Int) := zd; have q1024 : x5_1 < (l0.length : Int) := zd; obtain ⟨ad1024, e1024, hx1024_0⟩ := Kd.at_string HR0.out x5_1 p1024 q1024; cases e1024; replace p1024 := eq_true p1024; replace q1024 := eq_true q1024; have p1025 : 0 ≤ (x5_1 : Int) := zd; have q1025 : x5_1 < (l1.length : Int) := zd; obtain ⟨ad1025, e1025, hx1025_0⟩ := Kd.at_string HR1.out x5_1 p1025 q1025; cases e1025; replace p1025 := eq_true p1025; replace q1025 := eq_true q1025; go_wp2
      repeat (go_quiet (fail); try go_wp2)
      go_ret; exact ⟨zf, by repeat (first | exact Drawn0.refl _ | apply Drawn0.step)⟩
    ·rw [if_neg c4] at H; have c4b0 := decide_eq_false c4; clear c4; obtain rfl := Option.some.inj H; go_wp2
     repeat (go_quiet (fail); try go_wp2)
     go_ret; exact ⟨zf, by repeat (first | exact Drawn0.refl _ | apply Drawn0.step)⟩
 ·rw [if_neg c3] at H; have c3b0 : ((l0.length : Int) == (l1.length : Int)) = false := beq_eq_false_iff_ne.mpr c3; have c3b1 : ((l0.length : Int) != (l1.length : Int)) = true := bne_iff_ne.mpr c3
  have c3b2 : (l0.length == l1.length) = false := by first | simpa using c3 | (simp at c3 ⊢; omega)
  obtain rfl := Option.some.inj H; go_enter Try.func54, Try.ntmps54; go_wp2
  repeat (go_quiet (fail); try go_wp2)
  go_ret; exact ⟨zf, by repeat (first | exact Drawn0.refl _ | apply Drawn0.step)⟩
theorem laws_eqSieve.mono : ∀ a0 a1 a2 a3 a4 a5 a6 a7 a8 a9 k, LeO (laws_eqSieve.f k a0 a1 a2 a3 a4 a5 a6 a7 a8 a9) (laws_eqSieve.f (k + 1) a0 a1 a2 a3 a4 a5 a6 a7 a8 a9) := by
  intro a0 a1 a2 a3 a4 a5 a6 a7 a8 a9 k
  unfold laws_eqSieve.f
  repeat' first | (with_reducible first | apply laws_eqStringS.mono | exact LeO.refl _ | exact LeO.none _ | refine LeO.ite ?_ ?_ | refine LeO.bind ?_ (fun _ => ?_)) | exact LeO.none _ | refine LeO.ite ?_ ?_ | refine LeO.bind ?_ (fun _ => ?_)
theorem laws_eqSieve.calls (k : Nat) (a0_0 a0_1 a0_2 : ByteArray) (A0_3 : Option Addr) (c0_3 : Nat) (l0_3 : List ByteArray) (a0_4 : Int) (a1_0 a1_1 a1_2 : ByteArray) (A1_3 : Option Addr) (c1_3 : Nat) (l1_3 : List ByteArray) (a1_4 : Int) (r : Bool) (w : World) (hr0_3 : Kd.C Kd.string w A0_3 l0_3.length l0_3) (hc0_3 : l0_3.length ≤ c0_3) (hr1_3 : Kd.C Kd.string w A1_3 l1_3.length l1_3) (hc1_3 : l1_3.length ≤ c1_3) (h : laws_eqSieve.f k a0_0 a0_1 a0_2 l0_3 a0_4 a1_0 a1_1 a1_2 l1_3 a1_4 = some r) :
    Calls Try.prog 49 #[.agg #[.string a0_0, .string a0_1, .string a0_2, .slice A0_3 l0_3.length c0_3, .int .i64 a0_4], .agg #[.string a1_0, .string a1_1, .string a1_2, .slice A1_3 l1_3.length c1_3, .int .i64 a1_4]] w fun e w' => e = .returned (.bool r) ∧ Below w.heap.size w w' := by
 have hu25 := Try.underlying25; have HR0_3 := z0 hr0_3; have HC0_3 := z0 hc0_3; clear hr0_3 hc0_3; have HR1_3 := z0 hr1_3; have HC1_3 := z0 hc1_3; clear hr1_3 hc1_3; have HB := z0 (Below.refl w.heap.size w); have H : (if a0_0.toList = a1_0.toList then (if a0_1.toList = a1_1.toList then (if a0_2.toList = a1_2.toList then ((laws_eqStringS.f k l0_3 l1_3).bind fun t1028 => (if t1028 = true then (if a0_4 = a1_4 then (some true) else (some false)) else (some false))) else (some false)) else (some false)) else (some false)) = some r := h; clear h
 by_cases c3 : a0_0.toList = a1_0.toList
 ·rw [if_pos c3] at H; have c3b0 : (a0_0.toList == a1_0.toList) = true := beq_iff_eq.mpr c3; have c3b1 : (a0_0.toList != a1_0.toList) = false := bne_eq_false_iff_eq.mpr c3; clear c3
  by_cases c4 : a0_1.toList = a1_1.toList
  ·rw [if_pos c4] at H; have c4b0 : (a0_1.toList == a1_1.toList) = true := beq_iff_eq.mpr c4; have c4b1 : (a0_1.toList != a1_1.toList) = false := bne_eq_false_iff_eq.mpr c4; clear c4
   by_cases c5 : a0_2.toList = a1_2.toList
   ·rw [if_pos c5] at H; have c5b0 : (a0_2.toList == a1_2.toList) = true := beq_iff_eq.mpr c5; have c5b1 : (a0_2.toList != a1_2.toList) = false := bne_eq_false_iff_eq.mpr c5; clear c5; replace H := zi H; obtain ⟨t1028, A6, H⟩ := H
    by_cases c7 : t1028 = true
    ·subst c7
     have H1 : (if a0_4 = a1_4 then (some true) else (some false)) = some r := by rw [if_pos rfl] at H; exact H
     clear H; have H := H1; clear H1; go_enter Try.func49, Try.ntmps49
     go_upto_if 30 with (first | ((with_reducible refine gd 2 ?_); refine zbx 25 #[.string a0_0, .string a0_1, .string a0_2, .slice A0_3 l0_3.length c0_3, .int .i64 a0_4] ?_; intro gb1026 hg w8 hbox hb; have BK1026 := z0 (hbox); have GE1026 := zG hg HB; replace HB := zH HB hb; clear hb hbox hg) | ((with_reducible refine gd 3 ?_); refine zbx 25 #[.string a1_0, .string a1_1, .string a1_2, .slice A1_3 l1_3.length c1_3, .int .i64 a1_4] ?_; intro gb1027 hg w9 hbox hb; have BK1027 := z0 (hbox); have GE1027 := zG hg HB; replace HB := zH HB hb; have NB1026_1027 := zLt hg BK1026; have NB1027_1026 := zGt hg BK1026; replace BK1026 := zK BK1026 hb; clear hb hbox hg; have hnb10 := NB1026_1027.out; have hnc10 := NB1027_1026.out; have hcz11 := zc5 BK1026.out; have hcz12 := zc5 BK1027.out) | ((with_reducible refine gc 54 ?_); refine zL (some 24) Try.func54 #[.slice A0_3 l0_3.length c0_3, .slice A1_3 l1_3.length c1_3] ?_; (with_reducible refine (laws_eqStringS.calls k _ _ l0_3 _ _ l1_3 true _ ?side1 ?side2 ?side3 ?side4 A6.out).mono ?_); (case side1 => repeat (first | exact (Kd.C_below HR0_3.out HB.out) | (with_reducible refine Kd.C_alloc ?_ _) | (with_reducible refine Kd.C_drewN ?_ _) | (with_reducible refine Kd.C_drew ?_))); (case side2 => exact HC0_3.out); (case side3 => repeat (first | exact (Kd.C_below HR1_3.out HB.out) | (with_reducible refine Kd.C_alloc ?_ _) | (with_reducible refine Kd.C_drewN ?_ _) | (with_reducible refine Kd.C_drew ?_))); (case side4 => exact HC1_3.out); rintro e w' ⟨rfl, ⟨nd, rfl⟩⟩; refine ⟨_, rfl, ?_⟩))
     by_cases c13 : a0_4 = a1_4
     ·rw [if_pos c13] at H; have c13b0 : (a0_4 == a1_4) = true := beq_iff_eq.mpr c13; have c13b1 : (a0_4 != a1_4) = false := bne_eq_false_iff_eq.mpr c13; clear c13; (first | rw [c13b0] | (simp only [i64_w, i32_w]; rw [c13b0]) | simp only [*, Bool.not_true, Bool.not_false] | skip); obtain rfl := Option.some.inj H; go_wp2; go_ret; exact ⟨ze, zb HB.out⟩
     ·rw [if_neg c13] at H; have c13b0 : (a0_4 == a1_4) = false := beq_eq_false_iff_ne.mpr c13; have c13b1 : (a0_4 != a1_4) = true := bne_iff_ne.mpr c13; (first | rw [c13b0] | (simp only [i64_w, i32_w]; rw [c13b0]) | simp only [*, Bool.not_true, Bool.not_false] | skip); obtain rfl := Option.some.inj H; go_wp2; go_ret; exact ⟨ze, zb HB.out⟩
    ·replace c7 := Bool.eq_false_iff.mpr c7; subst c7
     have H1 : (some false) = some r := by rw [if_neg (show ¬ (false = true) by decide)] at H; exact H
     clear H; have H := H1; clear H1; obtain rfl := Option.some.inj H; go_enter Try.func49, Try.ntmps49
     go_wp2_with (first | ((with_reducible refine gd 2 ?_); refine zbx 25 #[.string a0_0, .string a0_1, .string a0_2, .slice A0_3 l0_3.length c0_3, .int .i64 a0_4] ?_; intro gb1026 hg w14 hbox hb; have BK1026 := z0 (hbox); have GE1026 := zG hg HB; replace HB := zH HB hb; clear hb hbox hg) | ((with_reducible refine gd 3 ?_); refine zbx 25 #[.string a1_0, .string a1_1, .string a1_2, .slice A1_3 l1_3.length c1_3, .int .i64 a1_4] ?_; intro gb1027 hg w15 hbox hb; have BK1027 := z0 (hbox); have GE1027 := zG hg HB; replace HB := zH HB hb; have NB1026_1027 := zLt hg BK1026; have NB1027_1026 := zGt hg BK1026; replace BK1026 := zK BK1026 hb; clear hb hbox hg; have hnb16 := NB1026_1027.out; have hnc16 := NB1027_1026.out; have hcz17 := zc5 BK1026.out; have hcz18 := zc5 BK1027.out) | ((with_reducible refine gc 54 ?_); refine zL (some 24) Try.func54 #[.slice A0_3 l0_3.length c0_3, .slice A1_3 l1_3.length c1_3] ?_; (with_reducible refine (laws_eqStringS.calls k _ _ l0_3 _ _ l1_3 false _ ?side1 ?side2 ?side3 ?side4 A6.out).mono ?_); (case side1 => repeat (first | exact (Kd.C_below HR0_3.out HB.out) | (with_reducible refine Kd.C_alloc ?_ _) | (with_reducible refine Kd.C_drewN ?_ _) | (with_reducible refine Kd.C_drew ?_))); (case side2 => exact HC0_3.out); (case side3 => repeat (first | exact (Kd.C_below HR1_3.out HB.out) | (with_reducible refine Kd.C_alloc ?_ _) | (with_reducible refine Kd.C_drewN ?_ _) | (with_reducible refine Kd.C_drew ?_))); (case side4 => exact HC1_3.out); rintro e w' ⟨rfl, ⟨nd, rfl⟩⟩; refine ⟨_, rfl, ?_⟩))
     go_ret; exact ⟨ze, zb HB.out⟩
   ·rw [if_neg c5] at H; have c5b0 : (a0_2.toList == a1_2.toList) = false := beq_eq_false_iff_ne.mpr c5; have c5b1 : (a0_2.toList != a1_2.toList) = true := bne_iff_ne.mpr c5; obtain rfl := Option.some.inj H; go_enter Try.func49, Try.ntmps49
    go_wp2_with (first | ((with_reducible refine gd 2 ?_); refine zbx 25 #[.string a0_0, .string a0_1, .string a0_2, .slice A0_3 l0_3.length c0_3, .int .i64 a0_4] ?_; intro gb1026 hg w19 hbox hb; have BK1026 := z0 (hbox); have GE1026 := zG hg HB; replace HB := zH HB hb; clear hb hbox hg) | ((with_reducible refine gd 3 ?_); refine zbx 25 #[.string a1_0, .string a1_1, .string a1_2, .slice A1_3 l1_3.length c1_3, .int .i64 a1_4] ?_; intro gb1027 hg w20 hbox hb; have BK1027 := z0 (hbox); have GE1027 := zG hg HB; replace HB := zH HB hb; have NB1026_1027 := zLt hg BK1026; have NB1027_1026 := zGt hg BK1026; replace BK1026 := zK BK1026 hb; clear hb hbox hg; have hnb21 := NB1026_1027.out; have hnc21 := NB1027_1026.out; have hcz22 := zc5 BK1026.out; have hcz23 := zc5 BK1027.out))
    go_ret; exact ⟨ze, zb HB.out⟩
  ·rw [if_neg c4] at H; have c4b0 : (a0_1.toList == a1_1.toList) = false := beq_eq_false_iff_ne.mpr c4; have c4b1 : (a0_1.toList != a1_1.toList) = true := bne_iff_ne.mpr c4; obtain rfl := Option.some.inj H; go_enter Try.func49, Try.ntmps49
   go_wp2_with (first | ((with_reducible refine gd 2 ?_); refine zbx 25 #[.string a0_0, .string a0_1, .string a0_2, .slice A0_3 l0_3.length c0_3, .int .i64 a0_4] ?_; intro gb1026 hg w24 hbox hb; have BK1026 := z0 (hbox); have GE1026 := zG hg HB; replace HB := zH HB hb; clear hb hbox hg) | ((with_reducible refine gd 3 ?_); refine zbx 25 #[.string a1_0, .string a1_1, .string a1_2, .slice A1_3 l1_3.length c1_3, .int .i64 a1_4] ?_; intro gb1027 hg w25 hbox hb; have BK1027 := z0 (hbox); have GE1027 := zG hg HB; replace HB := zH HB hb; have NB1026_1027 := zLt hg BK1026; have NB1027_1026 := zGt hg BK1026; replace BK1026 := zK BK1026 hb; clear hb hbox hg; have hnb26 := NB1026_1027.out; have hnc26 := NB1027_1026.out; have hcz27 := zc5 BK1026.out; have hcz28 := zc5 BK1027.out))
   go_ret; exact ⟨ze, zb HB.out⟩
 ·rw [if_neg c3] at H; have c3b0 : (a0_0.toList == a1_0.toList) = false := beq_eq_false_iff_ne.mpr c3; have c3b1 : (a0_0.toList != a1_0.toList) = true := bne_iff_ne.mpr c3; obtain rfl := Option.some.inj H; go_enter Try.func49, Try.ntmps49
  go_wp2_with (first | ((with_reducible refine gd 2 ?_); refine zbx 25 #[.string a0_0, .string a0_1, .string a0_2, .slice A0_3 l0_3.length c0_3, .int .i64 a0_4] ?_; intro gb1026 hg w29 hbox hb; have BK1026 := z0 (hbox); have GE1026 := zG hg HB; replace HB := zH HB hb; clear hb hbox hg) | ((with_reducible refine gd 3 ?_); refine zbx 25 #[.string a1_0, .string a1_1, .string a1_2, .slice A1_3 l1_3.length c1_3, .int .i64 a1_4] ?_; intro gb1027 hg w30 hbox hb; have BK1027 := z0 (hbox); have GE1027 := zG hg HB; replace HB := zH HB hb; have NB1026_1027 := zLt hg BK1026; have NB1027_1026 := zGt hg BK1026; replace BK1026 := zK BK1026 hb; clear hb hbox hg; have hnb31 := NB1026_1027.out; have hnc31 := NB1027_1026.out; have hcz32 := zc5 BK1026.out; have hcz33 := zc5 BK1027.out))
  go_ret; exact ⟨ze, zb HB.out⟩
theorem spec_l1One.mono_l : ∀ k, (∀ y0 y1 y2, LeO (spec_l1One.l0 k y0 y1 y2) (spec_l1One.l0 (k + 1) y0 y1 y2))
  | 0 => fun _ _ _ r h => by simp [spec_l1One.l0] at h
  | k + 1 => by
    have ih0 := spec_l1One.mono_l k
    · intro y0 y1 y2
      unfold spec_l1One.l0
      repeat' first | (with_reducible first | apply ih0 | exact LeO.refl _ | exact LeO.none _ | refine LeO.ite ?_ ?_ | refine LeO.bind ?_ (fun _ => ?_)) | exact LeO.none _ | refine LeO.ite ?_ ?_ | refine LeO.bind ?_ (fun _ => ?_)
theorem spec_l1One.mono : ∀ a0 a1 k, LeO (spec_l1One.f k a0 a1) (spec_l1One.f (k + 1) a0 a1) := by
  intro a0 a1 k
  have ih0 := spec_l1One.mono_l k
  unfold spec_l1One.f
  repeat' first | (with_reducible first | apply ih0 | exact LeO.refl _ | exact LeO.none _ | refine LeO.ite ?_ ?_ | refine LeO.bind ?_ (fun _ => ?_)) | exact LeO.none _ | refine LeO.ite ?_ ?_ | refine LeO.bind ?_ (fun _ => ?_)
theorem spec_l1One.calls (k : Nat) (a0 : ByteArray) (a1 r : Int) (w : World) (h : spec_l1One.f k a0 a1 = some r) :
    Calls Try.prog 85 #[.string a0, .int .i64 a1] w fun e w' => e = .returned (.int .i64 r) ∧ Drawn0 w w' := by
 have H : (spec_l1One.l0 k a0 a1 0) = some r := h; clear h; have H' := z0 H; clear H; go_enter Try.func85, Try.ntmps85; go_wp2
 go_loopg [1, 5] k (fun kq v1 v5 w' => ∃ (x1_1 : Int) (x5_1 : Int), v1 = .int .i64 x1_1 ∧ v5 = .int .i64 x5_1 ∧ Aside0 (spec_l1One.l0 kq a0 x1_1 x5_1 = some r) ∧ Aside0 (kq ≤ k) ∧ Drawn0 w w')
 case atStart => exact ⟨(a1), (0), zf, zf, H', ⟨Nat.le_refl _⟩, by repeat (first | exact Drawn0.refl _ | apply Drawn0.step)⟩
 case round =>
  clear H'
  try clear p2
  obtain ⟨x1_1, x5_1, rfl, rfl, HA, HK1, ⟨m1, rfl⟩⟩ := hrel
  cases gk with
  | zero => exact absurd HA.out (by simp [spec_l1One.l0])
  | succ k1 =>
   have H := HA.out; clear HA; simp only [spec_l1One.l0] at H
   by_cases c3 : x5_1 < (a0.size : Int)
   ·rw [if_pos c3] at H; have c3b0 := decide_eq_true c3; clear c3; replace H := zn H; obtain ⟨c4, H⟩ := H; have c4b0 := decide_eq_true c4; clear c4
    by_cases c6 : (bt a0 x5_1) = 49
    ·rw [if_pos c6] at H; have c6b0 : ((bt a0 x5_1) == 49) = true := beq_iff_eq.mpr c6; have c6b1 : ((bt a0 x5_1) != 49) = false := bne_eq_false_iff_eq.mpr c6; clear c6
     by_cases c7 : x1_1 = 0
     ·rw [if_pos c7] at H; have c7b0 : (x1_1 == 0) = true := beq_iff_eq.mpr c7; have c7b1 : (x1_1 != 0) = false := bne_eq_false_iff_eq.mpr c7; clear c7; obtain rfl := Option.some.inj H; have p5 : 0 ≤ (x5_1 : Int) := zd; have q5 : x5_1 < (a0.size : Int) := zd; have hx5 := bt_at a0 x5_1; replace p5 := eq_true p5; replace q5 := eq_true q5; go_wp2; go_ret; exact ⟨zf, by repeat (first | exact Drawn0.refl _ | apply Drawn0.step)⟩
     ·rw [if_neg c7] at H; have c7b0 : (x1_1 == 0) = false := beq_eq_false_iff_ne.mpr c7; have c7b1 : (x1_1 != 0) = true := bne_iff_ne.mpr c7; have H' := z0 H; clear H; have p5 : 0 ≤ (x5_1 : Int) := zd; have q5 : x5_1 < (a0.size : Int) := zd; have hx5 := bt_at a0 x5_1; replace p5 := eq_true p5; replace q5 := eq_true q5; go_wp2; go_roundg k1
      case measure => have := HK1.out; omega
      case rel => exact ⟨(wrap64 (x1_1 - 1)), (wrap64 (x5_1 + 1)), zf, zf, H', ⟨by have := HK1.out; omega⟩, by repeat (first | exact Drawn0.refl _ | apply Drawn0.step)⟩
    ·rw [if_neg c6] at H; have c6b0 : ((bt a0 x5_1) == 49) = false := beq_eq_false_iff_ne.mpr c6; have c6b1 : ((bt a0 x5_1) != 49) = true := bne_iff_ne.mpr c6; have H' := z0 H; clear H; have p5 : 0 ≤ (x5_1 : Int) := zd; have q5 : x5_1 < (a0.size : Int) := zd; have hx5 := bt_at a0 x5_1; replace p5 := eq_true p5; replace q5 := eq_true q5; go_wp2; go_roundg k1
     case measure => have := HK1.out; omega
     case rel => exact ⟨(x1_1), (wrap64 (x5_1 + 1)), zf, zf, H', ⟨by have := HK1.out; omega⟩, by repeat (first | exact Drawn0.refl _ | apply Drawn0.step)⟩
   ·rw [if_neg c3] at H; have c3b0 := decide_eq_false c3; clear c3; obtain rfl := Option.some.inj H; go_wp2; go_ret; exact ⟨zf, by repeat (first | exact Drawn0.refl _ | apply Drawn0.step)⟩
theorem spec_l1Ones.mono_l : ∀ k, (∀ y0 y1 y2 y3, LeO (spec_l1Ones.l0 k y0 y1 y2 y3) (spec_l1Ones.l0 (k + 1) y0 y1 y2 y3)) ∧ (∀ y0 y1 y2 y3 y4, LeO (spec_l1Ones.j1 k y0 y1 y2 y3 y4) (spec_l1Ones.j1 (k + 1) y0 y1 y2 y3 y4))
  | 0 => ⟨fun _ _ _ _ r h => by simp [spec_l1Ones.l0] at h, fun _ _ _ _ _ r h => by simp [spec_l1Ones.j1] at h⟩
  | k + 1 => by
    obtain ⟨ih0, ih1⟩ := spec_l1Ones.mono_l k
    refine ⟨?_, ?_⟩
    · intro y0 y1 y2 y3
      unfold spec_l1Ones.l0
      repeat' first | (with_reducible first | apply ih0 | apply ih1 | exact LeO.refl _ | exact LeO.none _ | refine LeO.ite ?_ ?_ | refine LeO.bind ?_ (fun _ => ?_)) | exact LeO.none _ | refine LeO.ite ?_ ?_ | refine LeO.bind ?_ (fun _ => ?_)
    · intro y0 y1 y2 y3 y4
      unfold spec_l1Ones.j1
      repeat' first | (with_reducible first | apply ih0 | apply ih1 | exact LeO.refl _ | exact LeO.none _ | refine LeO.ite ?_ ?_ | refine LeO.bind ?_ (fun _ => ?_)) | exact LeO.none _ | refine LeO.ite ?_ ?_ | refine LeO.bind ?_ (fun _ => ?_)
theorem spec_l1Ones.mono : ∀ a0 a1 k, LeO (spec_l1Ones.f k a0 a1) (spec_l1Ones.f (k + 1) a0 a1) := by
  intro a0 a1 k
  obtain ⟨ih0, ih1⟩ := spec_l1Ones.mono_l k
  unfold spec_l1Ones.f
  repeat' first | (with_reducible first | apply ih0 | apply ih1 | exact LeO.refl _ | exact LeO.none _ | refine LeO.ite ?_ ?_ | refine LeO.bind ?_ (fun _ => ?_)) | exact LeO.none _ | refine LeO.ite ?_ ?_ | refine LeO.bind ?_ (fun _ => ?_)
theorem spec_l1Ones.calls (k : Nat) (a0 : ByteArray) (a1 r : Int) (w : World) (h : spec_l1Ones.f k a0 a1 = some r) :
    Calls Try.prog 70 #[.string a0, .int .i64 a1] w fun e w' => e = .returned (.int .i64 r) ∧ Drawn0 w w' := by
 have H : (spec_l1Ones.l0 k a0 a1 0 0) = some r := h; clear h; have H' := z0 H; clear H; go_enter Try.func70, Try.ntmps70; go_wp2
 go_loopg [5, 6] k (fun kq v5 v6 w' => ∃ (x5_1 : Int) (x6_1 : Int), v5 = .int .i64 x5_1 ∧ v6 = .int .i64 x6_1 ∧ Aside0 (spec_l1Ones.l0 kq a0 a1 x5_1 x6_1 = some r) ∧ Aside0 (kq ≤ k) ∧ Drawn0 w w')
 case atStart => exact ⟨(0), (0), zf, zf, H', ⟨Nat.le_refl _⟩, by repeat (first | exact Drawn0.refl _ | apply Drawn0.step)⟩
 case round =>
  clear H'
  try clear p2
  obtain ⟨x5_1, x6_1, rfl, rfl, HA, HK1, ⟨m1, rfl⟩⟩ := hrel
  cases gk with
  | zero => exact absurd HA.out (by simp [spec_l1Ones.l0])
  | succ k1 =>
   have H := HA.out; clear HA; simp only [spec_l1Ones.l0] at H; have HC3 := z0 H; clear H
   go_upto_region 3 with (fail)
   go_cut [15] (fun v15 wc => ∃ (kq : Nat) (x15_2 : Bool), v15 = .bool x15_2 ∧ Aside0 (spec_l1Ones.j1 kq a0 a1 x5_1 x6_1 x15_2 = some r) ∧ Aside0 (kq ≤ k1) ∧ Drawn0 w wc)
   case first =>
    have H := HC3.out; clear HC3
    by_cases c4 : x6_1 < a1
    ·rw [if_pos c4] at H; have c4b0 := decide_eq_true c4; clear c4; (first | rw [c4b0] | (simp only [i64_w, i32_w]; rw [c4b0]) | simp only [*, Bool.not_true, Bool.not_false] | skip); have H' := z0 H; clear H; go_wp2; go_meet
     case rel => exact ⟨_, (decide (x6_1 < (a0.size : Int))), zf, H', ⟨by have := HK1.out; first | omega | exact Nat.le_refl _⟩, by repeat (first | exact Drawn0.refl _ | apply Drawn0.step)⟩
    ·rw [if_neg c4] at H; have c4b0 := decide_eq_false c4; clear c4; (first | rw [c4b0] | (simp only [i64_w, i32_w]; rw [c4b0]) | simp only [*, Bool.not_true, Bool.not_false] | skip); have H' := z0 H; clear H; go_wp2; go_meet
     case rel => exact ⟨_, (false), zf, H', ⟨by have := HK1.out; first | omega | exact Nat.le_refl _⟩, by repeat (first | exact Drawn0.refl _ | apply Drawn0.step)⟩
   case rest =>
    clear HC3
    try clear p2
    try clear c4
    try clear c4b0
    try clear p2
    obtain ⟨kq, x15_2, rfl, HA, HJ2, ⟨mc2, rfl⟩⟩ := hcut
    cases kq with
    | zero => exact absurd HA.out (by simp [spec_l1Ones.j1])
    | succ kj2 =>
     have H := HA.out; clear HA; simp only [spec_l1Ones.j1] at H
     by_cases c5 : x15_2 = true
     ·subst c5
      have H1 : (if 0 ≤ x6_1 then (if x6_1 < (a0.size : Int) then (if (bt a0 x6_1) = 49 then (spec_l1Ones.l0 kj2 a0 a1 (wrap64 (x5_1 + 1)) (wrap64 (x6_1 + 1))) else (spec_l1Ones.l0 kj2 a0 a1 x5_1 (wrap64 (x6_1 + 1)))) else (none)) else (none)) = some r := by rw [if_pos rfl] at H; exact H
      clear H; have H := H1; clear H1; replace H := zn H; obtain ⟨c6, H⟩ := H; have c6b0 := decide_eq_true c6; clear c6; replace H := zn H; obtain ⟨c7, H⟩ := H; have c7b0 := decide_eq_true c7; clear c7
      by_cases c9 : (bt a0 x6_1) = 49
      ·rw [if_pos c9] at H; have c9b0 : ((bt a0 x6_1) == 49) = true := beq_iff_eq.mpr c9; have c9b1 : ((bt a0 x6_1) != 49) = false := bne_eq_false_iff_eq.mpr c9; clear c9; have H' := z0 H; clear H; have p8 : 0 ≤ (x6_1 : Int) := zd; have q8 : x6_1 < (a0.size : Int) := zd; have hx8 := bt_at a0 x6_1; replace p8 := eq_true p8; replace q8 := eq_true q8; go_wp2; go_roundg kj2
       case measure => have := HK1.out; have := HJ2.out; omega
       case rel => exact ⟨(wrap64 (x5_1 + 1)), (wrap64 (x6_1 + 1)), zf, zf, H', ⟨by have := HK1.out; have := HJ2.out; omega⟩, by repeat (first | exact Drawn0.refl _ | apply Drawn0.step)⟩
      ·rw [if_neg c9] at H; have c9b0 : ((bt a0 x6_1) == 49) = false := beq_eq_false_iff_ne.mpr c9; have c9b1 : ((bt a0 x6_1) != 49) = true := bne_iff_ne.mpr c9; have H' := z0 H; clear H; have p8 : 0 ≤ (x6_1 : Int) := zd; have q8 : x6_1 < (a0.size : Int) := zd; have hx8 := bt_at a0 x6_1; replace p8 := eq_true p8; replace q8 := eq_true q8; go_wp2; go_roundg kj2
       case measure => have := HK1.out; have := HJ2.out; omega
       case rel => exact ⟨(x5_1), (wrap64 (x6_1 + 1)), zf, zf, H', ⟨by have := HK1.out; have := HJ2.out; omega⟩, by repeat (first | exact Drawn0.refl _ | apply Drawn0.step)⟩
     ·replace c5 := Bool.eq_false_iff.mpr c5; subst c5
      have H1 : (some x5_1) = some r := by rw [if_neg (show ¬ (false = true) by decide)] at H; exact H
      clear H; have H := H1; clear H1; obtain rfl := Option.some.inj H; go_wp2; go_ret; exact ⟨zf, by repeat (first | exact Drawn0.refl _ | apply Drawn0.step)⟩
theorem spec_l3Kids.mono : ∀ a0 a1 a2 a3 a4 a5 k, LeO (spec_l3Kids.f k a0 a1 a2 a3 a4 a5) (spec_l3Kids.f (k + 1) a0 a1 a2 a3 a4 a5) := by
  intro a0 a1 a2 a3 a4 a5 k
  unfold spec_l3Kids.f
  repeat' first | (with_reducible first | apply spec_l1One.mono | apply spec_l1Ones.mono | exact LeO.refl _ | exact LeO.none _ | refine LeO.ite ?_ ?_ | refine LeO.bind ?_ (fun _ => ?_)) | exact LeO.none _ | refine LeO.ite ?_ ?_ | refine LeO.bind ?_ (fun _ => ?_)
theorem spec_l3Kids.calls (k : Nat) (a0_0 a0_1 a0_2 : ByteArray) (A0_3 : Option Addr) (c0_3 : Nat) (l0_3 : List ByteArray) (a0_4 a1 r1 r2 : Int) (w : World) (hr0_3 : Kd.C Kd.string w A0_3 l0_3.length l0_3) (hc0_3 : l0_3.length ≤ c0_3) (h : spec_l3Kids.f k a0_0 a0_1 a0_2 l0_3 a0_4 a1 = some (r1, r2)) :
    Calls Try.prog 108 #[.agg #[.string a0_0, .string a0_1, .string a0_2, .slice A0_3 l0_3.length c0_3, .int .i64 a0_4], .int .i64 a1] w fun e w' => e = .returned (.tuple #[.int .i64 r1, .int .i64 r2]) ∧ Below w.heap.size w w' := by
 have hu25 := Try.underlying25; have HR0_3 := z0 hr0_3; have HC0_3 := z0 hc0_3; clear hr0_3 hc0_3; have HB := z0 (Below.refl w.heap.size w); have H : ((spec_l1Ones.f k a0_1 (wrap64 (a1 + 1))).bind fun t410 => ((spec_l1One.f k a0_2 t410).bind fun t411 => ((spec_l1One.f k a0_2 (wrap64 (t410 + 1))).bind fun t412 => (some (t411, t412))))) = some (r1, r2) := h; clear h; replace H := zi H; obtain ⟨t410, A3, H⟩ := H; replace H := zi H; obtain ⟨t411, A4, H⟩ := H; replace H := zi H; obtain ⟨t412, A5, H⟩ := H; simp only [Option.some.injEq, Prod.mk.injEq] at H; obtain ⟨rfl, rfl⟩ := H; go_enter Try.func108, Try.ntmps108
 go_wp2_with (first | ((with_reducible refine gd 2 ?_); refine zbx 25 #[.string a0_0, .string a0_1, .string a0_2, .slice A0_3 l0_3.length c0_3, .int .i64 a0_4] ?_; intro gb409 hg w6 hbox hb; have BK409 := z0 (hbox); have GE409 := zG hg HB; replace HB := zH HB hb; clear hb hbox hg; have hcz7 := zc5 BK409.out) | ((with_reducible refine gc 70 ?_); refine zL (some 13) Try.func70 #[.string a0_1, .int .i64 (wrap64 (a1 + 1))] ?_; (with_reducible refine (spec_l1Ones.calls k a0_1 (wrap64 (a1 + 1)) t410 _ A3.out).mono ?_); rintro e w' ⟨rfl, ⟨nd, rfl⟩⟩; refine ⟨_, rfl, ?_⟩) | ((with_reducible refine gc 85 ?_); refine zL (some 17) Try.func85 #[.string a0_2, .int .i64 t410] ?_; (with_reducible refine (spec_l1One.calls k a0_2 t410 t411 _ A4.out).mono ?_); rintro e w' ⟨rfl, ⟨nd, rfl⟩⟩; refine ⟨_, rfl, ?_⟩) | ((with_reducible refine gc 85 ?_); refine zL (some 22) Try.func85 #[.string a0_2, .int .i64 (wrap64 (t410 + 1))] ?_; (with_reducible refine (spec_l1One.calls k a0_2 (wrap64 (t410 + 1)) t412 _ A5.out).mono ?_); rintro e w' ⟨rfl, ⟨nd, rfl⟩⟩; refine ⟨_, rfl, ?_⟩))
 go_ret2
 exact ⟨ze, zb HB.out⟩
theorem spec_l3Add.mono_l : ∀ k, (∀ y0 y1 y2 y3 y4 y5 y6 y7 y8, LeO (spec_l3Add.f k y0 y1 y2 y3 y4 y5 y6 y7 y8) (spec_l3Add.f (k + 1) y0 y1 y2 y3 y4 y5 y6 y7 y8)) ∧ (∀ y0 y1 y2 y3 y4 y5 y6 y7 y8, LeO (spec_l3Add.l0 k y0 y1 y2 y3 y4 y5 y6 y7 y8) (spec_l3Add.l0 (k + 1) y0 y1 y2 y3 y4 y5 y6 y7 y8)) ∧ (∀ y0 y1 y2 y3 y4 y5 y6 y7 y8 y9, LeO (spec_l3Add.j1 k y0 y1 y2 y3 y4 y5 y6 y7 y8 y9) (spec_l3Add.j1 (k + 1) y0 y1 y2 y3 y4 y5 y6 y7 y8 y9)) ∧ (∀ y0 y1 y2 y3 y4 y5 y6 y7 y8 y9, LeO (spec_l3Add.j2 k y0 y1 y2 y3 y4 y5 y6 y7 y8 y9) (spec_l3Add.j2 (k + 1) y0 y1 y2 y3 y4 y5 y6 y7 y8 y9))
  | 0 => ⟨fun _ _ _ _ _ _ _ _ _ r h => by simp [spec_l3Add.f] at h, fun _ _ _ _ _ _ _ _ _ r h => by simp [spec_l3Add.l0] at h, fun _ _ _ _ _ _ _ _ _ _ r h => by simp [spec_l3Add.j1] at h, fun _ _ _ _ _ _ _ _ _ _ r h => by simp [spec_l3Add.j2] at h⟩
  | k + 1 => by
    obtain ⟨ih0, ih1, ih2, ih3⟩ := spec_l3Add.mono_l k
    refine ⟨?_, ?_, ?_, ?_⟩
    · intro y0 y1 y2 y3 y4 y5 y6 y7 y8
      unfold spec_l3Add.f
      repeat' first | (with_reducible first | apply ih0 | apply ih1 | apply ih2 | apply ih3 | apply spec_l1Ones.mono | apply spec_l3Kids.mono | exact LeO.refl _ | exact LeO.none _ | refine LeO.ite ?_ ?_ | refine LeO.bind ?_ (fun _ => ?_)) | exact LeO.none _ | refine LeO.ite ?_ ?_ | refine LeO.bind ?_ (fun _ => ?_)
    · intro y0 y1 y2 y3 y4 y5 y6 y7 y8
      unfold spec_l3Add.l0
      repeat' first | (with_reducible first | apply ih0 | apply ih1 | apply ih2 | apply ih3 | apply spec_l1Ones.mono | apply spec_l3Kids.mono | exact LeO.refl _ | exact LeO.none _ | refine LeO.ite ?_ ?_ | refine LeO.bind ?_ (fun _ => ?_)) | exact LeO.none _ | refine LeO.ite ?_ ?_ | refine LeO.bind ?_ (fun _ => ?_)
    · intro y0 y1 y2 y3 y4 y5 y6 y7 y8 y9
      unfold spec_l3Add.j1
      repeat' first | (with_reducible first | apply ih0 | apply ih1 | apply ih2 | apply ih3 | apply spec_l1Ones.mono | apply spec_l3Kids.mono | exact LeO.refl _ | exact LeO.none _ | refine LeO.ite ?_ ?_ | refine LeO.bind ?_ (fun _ => ?_)) | exact LeO.none _ | refine LeO.ite ?_ ?_ | refine LeO.bind ?_ (fun _ => ?_)
    · intro y0 y1 y2 y3 y4 y5 y6 y7 y8 y9
      unfold spec_l3Add.j2
      repeat' first | (with_reducible first | apply ih0 | apply ih1 | apply ih2 | apply ih3 | apply spec_l1Ones.mono | apply spec_l3Kids.mono | exact LeO.refl _ | exact LeO.none _ | refine LeO.ite ?_ ?_ | refine LeO.bind ?_ (fun _ => ?_)) | exact LeO.none _ | refine LeO.ite ?_ ?_ | refine LeO.bind ?_ (fun _ => ?_)
theorem spec_l3Add.mono : ∀ a0 a1 a2 a3 a4 a5 a6 a7 a8 k, LeO (spec_l3Add.f k a0 a1 a2 a3 a4 a5 a6 a7 a8) (spec_l3Add.f (k + 1) a0 a1 a2 a3 a4 a5 a6 a7 a8) := by
  intro a0 a1 a2 a3 a4 a5 a6 a7 a8 k
  obtain ⟨ih0, ih1, ih2, ih3⟩ := spec_l3Add.mono_l k
  exact ih0 a0 a1 a2 a3 a4 a5 a6 a7 a8
theorem spec_l3Add.calls (k : Nat) : ∀ (a0_0 a0_1 a0_2 : ByteArray) (A0_3 : Option Addr) (c0_3 : Nat) (l0_3 : List ByteArray) (a0_4 a1 a2 : Int) (a3 : ByteArray) (P4_ : Nat → Prop) (u9000_ : Value) (l4 r : List ByteArray) (w0 w : World) (hB : Below w0.heap.size w0 w) (hr0_3 : ∀ W_, Kept w W_ (fun k_ => P4_ k_) → Kd.C Kd.string W_ A0_3 l0_3.length l0_3) (hc0_3 : l0_3.length ≤ c0_3) (ho4 : Kd.R Kd.string 9 w w0.heap.size P4_ u9000_ l4) (h : spec_l3Add.f k a0_0 a0_1 a0_2 l0_3 a0_4 a1 a2 a3 l4 = some r),
    Calls Try.prog 115 #[.agg #[.string a0_0, .string a0_1, .string a0_2, .slice A0_3 l0_3.length c0_3, .int .i64 a0_4], .int .i64 a1, .int .i64 a2, .string a3, u9000_] w fun e w' => ∃ v0_ : Value, e = .returned (v0_) ∧ Kd.R Kd.string 9 w' w0.heap.size (fun k_ => (P4_ k_ ∨ w.heap.size ≤ k_)) v0_ r ∧ Below w0.heap.size w0 w' ∧ Kept w w' (fun k_ => P4_ k_) := by
 induction k using Nat.strongRecOn with
 | _ k ih =>
 intro a0_0 a0_1 a0_2 A0_3 c0_3 l0_3 a0_4 a1 a2 a3 P4_ u9000_ l4 r w0 w hB hr0_3 hc0_3 ho4 h
 cases k with
 | zero => exact absurd h (by simp [spec_l3Add.f])
 | succ k =>
 simp only [spec_l3Add.f] at h; have hu25 := Try.underlying25; have HR0_3 := z0 hr0_3; have HC0_3 := z0 hc0_3; clear hr0_3 hc0_3; have HO4 := z0 (show Kd.R Kd.string 9 w w0.heap.size (fun k_ => (P4_ k_ ∨ w.heap.size ≤ k_)) u9000_ l4 from Kd.R_mono ho4 (fun k_ hk => (.inl hk))); have HK := z0 (Kept.refl w (fun k_ => P4_ k_)); have HW0 := z0 hB.size; have HB := z0 hB; clear hB; have H : (spec_l3Add.l0 k a2 a3 l4 a1 a0_0 a0_1 a0_2 l0_3 a0_4) = some r := h; clear h; have H' := z0 H; clear H; go_enter Try.func115, Try.ntmps115
 go_wp2_with (first | ((with_reducible refine gd 5 ?_); (try (refine gate_guard (by rfl) ?_; dsimp only)); refine zbx 25 #[.string a0_0, .string a0_1, .string a0_2, .slice A0_3 l0_3.length c0_3, .int .i64 a0_4] ?_; intro gb413 hg w6 hbox hb; replace HO4 := zA HO4 hb; have BK413 := z0 (hbox); have GW413 := z0 ((by rw [hg]; exact (by first | exact HK.out.1 | exact (show Kept w _ (fun k_ => P4_ k_) from zk HK.out).1) : w.heap.size ≤ gb413)); replace HK := z0 (Kept.below (zk HK.out) hb); have GE413 := zG hg HB; replace HB := zH HB hb; clear hb hbox hg))
 go_loopg [4, 11] k (fun kq v4 v11 w' => ∃ (x4_1 : List ByteArray) (x11_1 : Int), v11 = .int .i64 x11_1 ∧ Aside0 (spec_l3Add.l0 kq a2 a3 x4_1 x11_1 a0_0 a0_1 a0_2 l0_3 a0_4 = some r) ∧ Aside0 (kq ≤ k) ∧ Aside0 (Kd.R Kd.string 9 w' w0.heap.size (fun k_ => (P4_ k_ ∨ w.heap.size ≤ k_)) v4 x4_1) ∧ Aside0 (w'.heap[gb413]? = some (.cells #[.string a0_0, .string a0_1, .string a0_2, (.slice A0_3 l0_3.length c0_3), .int .i64 a0_4] 25 (0, 0))) ∧ Aside0 (Kept w w' (fun k_ => P4_ k_)) ∧ Aside0 (Below w0.heap.size w0 w'))
 case atStart => exact ⟨(l4), (a1), zf, H', ⟨Nat.le_refl _⟩, ⟨zr HO4.out⟩, ⟨zl BK413.out⟩, ⟨zk HK.out⟩, ⟨zb HB.out⟩⟩
 case round =>
  clear H'
  try clear c1
  try clear p2
  obtain ⟨x4_1, x11_1, rfl, HA, HK1, HO_4, BK413, HK, HB⟩ := hrel
  cases gk with
  | zero => exact absurd HA.out (by simp [spec_l3Add.l0])
  | succ k1 =>
   have H := HA.out; clear HA; simp only [spec_l3Add.l0] at H; have HC7 := z0 H; clear H
   go_upto_region 2 with (fail)
   go_cut [31] (fun v31 wc => ∃ (kq : Nat) (x31_6 : Bool), v31 = .bool x31_6 ∧ Aside0 (spec_l3Add.j1 kq a2 a3 x4_1 x11_1 x31_6 a0_0 a0_1 a0_2 l0_3 a0_4 = some r) ∧ Aside0 (kq ≤ k1) ∧ Aside0 (Kd.R Kd.string 9 wc w0.heap.size (fun k_ => (P4_ k_ ∨ w.heap.size ≤ k_)) u4 x4_1) ∧ Aside0 (wc.heap[gb413]? = some (.cells #[.string a0_0, .string a0_1, .string a0_2, (.slice A0_3 l0_3.length c0_3), .int .i64 a0_4] 25 (0, 0))) ∧ Aside0 (Kept w wc (fun k_ => P4_ k_)) ∧ Aside0 (Below w0.heap.size w0 wc))
   case first =>
    have H := HC7.out; clear HC7
    by_cases c8 : x11_1 < a2
    ·rw [if_pos c8] at H; have c8b0 := decide_eq_true c8; clear c8; (first | rw [c8b0] | (simp only [i64_w, i32_w]; rw [c8b0]) | simp only [*, Bool.not_true, Bool.not_false] | skip)
     by_cases c9 : x11_1 < (a0_0.size : Int)
     ·rw [if_pos c9] at H; have c9b0 := decide_eq_true c9; clear c9; have H' := z0 H; clear H; have hcz10 := zc5 BK413.out; go_wp2; go_meet
      case rel => exact ⟨_, (decide ((a3.size : Int) ≤ 5)), zf, H', ⟨by have := HK1.out; first | omega | exact Nat.le_refl _⟩, ⟨zr HO_4.out⟩, ⟨zl BK413.out⟩, ⟨zk HK.out⟩, ⟨zb HB.out⟩⟩
     ·rw [if_neg c9] at H; have c9b0 := decide_eq_false c9; clear c9; have H' := z0 H; clear H; have hcz11 := zc5 BK413.out; go_wp2; go_meet
      case rel => exact ⟨_, (false), zf, H', ⟨by have := HK1.out; first | omega | exact Nat.le_refl _⟩, ⟨zr HO_4.out⟩, ⟨zl BK413.out⟩, ⟨zk HK.out⟩, ⟨zb HB.out⟩⟩
    ·rw [if_neg c8] at H; have c8b0 := decide_eq_false c8; clear c8; (first | rw [c8b0] | (simp only [i64_w, i32_w]; rw [c8b0]) | simp only [*, Bool.not_true, Bool.not_false] | skip); have H' := z0 H; clear H; go_wp2; go_meet
     case rel => exact ⟨_, (false), zf, H', ⟨by have := HK1.out; first | omega | exact Nat.le_refl _⟩, ⟨zr HO_4.out⟩, ⟨zl BK413.out⟩, ⟨zk HK.out⟩, ⟨zb HB.out⟩⟩
   case rest =>
    clear HC7
    try clear c1
    try clear p2
    try clear c8
    try clear c8b0
    try clear c9
    try clear c9b0
    try clear c11
    try clear hcz10
    try clear hcz11
    try clear p2
    obtain ⟨kq, x31_6, rfl, HA, HJ6, HO_4, BK413, HK, HB⟩ := hcut
    cases kq with
    | zero => exact absurd HA.out (by simp [spec_l3Add.j1])
    | succ kj6 =>
     have H := HA.out; clear HA; simp only [spec_l3Add.j1] at H
     by_cases c12 : x31_6 = true
     ·subst c12
      have H1 : (if 0 ≤ x11_1 then (if x11_1 < (a0_0.size : Int) then (if (bt a0_0 x11_1) = 45 then (spec_l3Add.j2 kj6 a2 a3 x4_1 x11_1 a3 a0_0 a0_1 a0_2 l0_3 a0_4) else (if x11_1 ≤ (wrap64 (x11_1 + 1)) then (if (wrap64 (x11_1 + 1)) ≤ (a0_0.size : Int) then (if a3.size + (a0_0.extract (x11_1 : Int).toNat ((wrap64 (x11_1 + 1)) : Int).toNat).size ≤ 9223372036854775807 then (spec_l3Add.j2 kj6 a2 a3 x4_1 x11_1 (a3 ++ (a0_0.extract (x11_1 : Int).toNat ((wrap64 (x11_1 + 1)) : Int).toNat)) a0_0 a0_1 a0_2 l0_3 a0_4) else (none)) else (none)) else (none))) else (none)) else (none)) = some r := by rw [if_pos rfl] at H; exact H
      clear H; have H := H1; clear H1; replace H := zn H; obtain ⟨c13, H⟩ := H; have c13b0 := decide_eq_true c13; clear c13; replace H := zn H; obtain ⟨c14, H⟩ := H; have c14b0 := decide_eq_true c14; clear c14; have HC16 := z0 H; clear H; have hcz17 := zc5 BK413.out; have p15 : 0 ≤ (x11_1 : Int) := zd; have q15 : x11_1 < (a0_0.size : Int) := zd; have hx15 := bt_at a0_0 x11_1; replace p15 := eq_true p15; replace q15 := eq_true q15
      go_upto_if 39 with (fail)
      go_cut [12] (fun v12 wc => ∃ (kq : Nat) (x12_15 : ByteArray), v12 = .string x12_15 ∧ Aside0 (spec_l3Add.j2 kq a2 a3 x4_1 x11_1 x12_15 a0_0 a0_1 a0_2 l0_3 a0_4 = some r) ∧ Aside0 (kq ≤ kj6) ∧ Aside0 (Kd.R Kd.string 9 wc w0.heap.size (fun k_ => (P4_ k_ ∨ w.heap.size ≤ k_)) u4 x4_1) ∧ Aside0 (wc.heap[gb413]? = some (.cells #[.string a0_0, .string a0_1, .string a0_2, (.slice A0_3 l0_3.length c0_3), .int .i64 a0_4] 25 (0, 0))) ∧ Aside0 (Kept w wc (fun k_ => P4_ k_)) ∧ Aside0 (Below w0.heap.size w0 wc))
      case first =>
       have H := HC16.out; clear HC16
       by_cases c18 : (bt a0_0 x11_1) = 45
       ·rw [if_pos c18] at H; have c18b0 : ((bt a0_0 x11_1) == 45) = true := beq_iff_eq.mpr c18; have c18b1 : ((bt a0_0 x11_1) != 45) = false := bne_eq_false_iff_eq.mpr c18; clear c18; (first | rw [c18b0] | (simp only [i64_w, i32_w]; rw [c18b0]) | simp only [*, Bool.not_true, Bool.not_false] | skip); have H' := z0 H; clear H; go_wp2; go_meet
        case rel => exact ⟨_, (a3), zf, H', ⟨by have := HK1.out; have := HJ6.out; first | omega | exact Nat.le_refl _⟩, ⟨zr HO_4.out⟩, ⟨zl BK413.out⟩, ⟨zk HK.out⟩, ⟨zb HB.out⟩⟩
       ·rw [if_neg c18] at H; have c18b0 : ((bt a0_0 x11_1) == 45) = false := beq_eq_false_iff_ne.mpr c18; have c18b1 : ((bt a0_0 x11_1) != 45) = true := bne_iff_ne.mpr c18; (first | rw [c18b0] | (simp only [i64_w, i32_w]; rw [c18b0]) | simp only [*, Bool.not_true, Bool.not_false] | skip); have c19b0 := eq_true (zd : 0 ≤ x11_1); replace H := zn H; obtain ⟨c20, H⟩ := H; have c20b0 := eq_true c20; have c20b1 := decide_eq_true c20; replace H := zn H; obtain ⟨c21, H⟩ := H; have c21b0 := eq_true c21; have c21b1 := decide_eq_true c21; replace H := zn H; obtain ⟨c22, H⟩ := H; have c22b0 := eq_true c22; have c22b1 := decide_eq_true c22
        try have c22b2 : (9223372036854775807 < a3.size + (a0_0.extract (x11_1 : Int).toNat ((wrap64 (x11_1 + 1)) : Int).toNat).size) = False := eq_false (Nat.not_lt.2 c22)
        have H' := z0 H; clear H; have hcz23 := zc5 BK413.out; go_wp2; go_meet
        case rel => exact ⟨_, (a3 ++ (a0_0.extract (x11_1 : Int).toNat ((wrap64 (x11_1 + 1)) : Int).toNat)), zf, H', ⟨by have := HK1.out; have := HJ6.out; first | omega | exact Nat.le_refl _⟩, ⟨zr HO_4.out⟩, ⟨zl BK413.out⟩, ⟨zk HK.out⟩, ⟨zb HB.out⟩⟩
      case rest =>
       clear HC16
       try clear c1
       try clear p1
       try clear q1
       try clear hx1
       try clear c2
       try clear p2
       try clear p6
       try clear c8
       try clear c8b0
       try clear c9
       try clear c9b0
       try clear c11
       try clear c12
       try clear c13
       try clear c13b0
       try clear c14
       try clear c14b0
       try clear p15
       try clear q15
       try clear hx15
       try clear c18
       try clear c18b0
       try clear c18b1
       try clear c19
       try clear c19b0
       try clear c20
       try clear c20b0
       try clear c20b1
       try clear c21
       try clear c21b0
       try clear c21b1
       try clear c22
       try clear c22b0
       try clear c22b1
       try clear c22b2
       try clear hcz10
       try clear hcz11
       try clear hcz17
       try clear hcz23
       try clear p15
       try clear p2
       try clear q15
       obtain ⟨kq, x12_15, rfl, HA, HJ15, HO_4, BK413, HK, HB⟩ := hcut
       cases kq with
       | zero => exact absurd HA.out (by simp [spec_l3Add.j2])
       | succ kj15 =>
        have H := HA.out; clear HA; simp only [spec_l3Add.j2] at H; replace H := zn H; obtain ⟨c24, H⟩ := H; have c24b0 := decide_eq_true c24; clear c24; replace H := zn H; obtain ⟨c25, H⟩ := H; have c25b0 := decide_eq_true c25; clear c25
        by_cases c27 : (bt a0_1 x11_1) = 49
        ·rw [if_pos c27] at H; have c27b0 : ((bt a0_1 x11_1) == 49) = true := beq_iff_eq.mpr c27; have c27b1 : ((bt a0_1 x11_1) != 49) = false := bne_eq_false_iff_eq.mpr c27; clear c27; replace H := zi H; obtain ⟨⟨t414, t415⟩, A28, H⟩ := H; (try dsimp only at H); have hcz29 := zc5 BK413.out; have p26 : 0 ≤ (x11_1 : Int) := zd; have q26 : x11_1 < (a0_1.size : Int) := zd; have hx26 := bt_at a0_1 x11_1; replace p26 := eq_true p26; replace q26 := eq_true q26
         go_upto_if 61 with (first | ((with_reducible refine gc 108 ?_); refine zL (some 56) Try.func108 #[.agg #[.string a0_0, .string a0_1, .string a0_2, .slice A0_3 l0_3.length c0_3, .int .i64 a0_4], .int .i64 x11_1] ?_; (with_reducible refine (spec_l3Kids.calls kj15 a0_0 a0_1 a0_2 _ _ l0_3 a0_4 x11_1 t414 t415 _ (Kd.C_kept_now HR0_3.out (zk HK.out)) HC0_3.out A28.out).mono ?_); rintro e w30 ⟨rfl, hb⟩; refine zv ?_; replace HO_4 := zA HO_4 hb; replace BK413 := zK BK413 hb; replace HK := z0 (Kept.below (zk HK.out) hb); replace HB := zH HB hb; (try clear hb)))
         by_cases c31 : t414 ≤ x11_1
         ·rw [if_pos c31] at H; have c31b0 := decide_eq_true c31; clear c31; (first | rw [c31b0] | (simp only [i64_w, i32_w]; rw [c31b0]) | simp only [*, Bool.not_true, Bool.not_false] | skip); obtain rfl := Option.some.inj H; go_wp2; go_ret; exact ⟨_, ze, zr HO_4.out, zb HB.out, zk HK.out⟩
         ·rw [if_neg c31] at H; have c31b0 := decide_eq_false c31; clear c31; (first | rw [c31b0] | (simp only [i64_w, i32_w]; rw [c31b0]) | simp only [*, Bool.not_true, Bool.not_false] | skip); replace H := zi H; obtain ⟨t416, A32, H⟩ := H; have H' := z0 H; clear H; have hcz33 := zc5 BK413.out; obtain ⟨Ao34, co34, eo34⟩ := Kd.R_slice HO_4.out; subst eo34
          go_wp2_with (first | ((with_reducible refine gc 115 ?_); refine zL (some 68) Try.func115 #[.agg #[.string a0_0, .string a0_1, .string a0_2, .slice A0_3 l0_3.length c0_3, .int .i64 a0_4], .int .i64 t414, .int .i64 t415, .string x12_15, .slice Ao34 x4_1.length co34] ?_; (with_reducible refine (ih kj15 (by have := HK1.out; have := HJ6.out; have := HJ15.out; omega) a0_0 a0_1 a0_2 _ _ l0_3 a0_4 t414 t415 x12_15 (fun k_ => some k_ = (.slice Ao34 x4_1.length co34 : Value).ownBlock) (.slice Ao34 x4_1.length co34) x4_1 t416 w0 _ ?side1 ?side2 ?side3 ?side4 A32.out).mono ?_); (case side1 => repeat (first | (with_reducible first | exact HB.out | apply below_alloc | apply pw_below_drewN | apply below_drew1 | refine below_set ?_ GE413.out) | exact HB.out)); (case side2 => exact Kd.C_kept_call HR0_3.out (zk HK.out) (fun k_ hs_ => (fun e_ => (HO_4.out.1 k_ e_.symm)) hs_)); (case side3 => exact HC0_3.out); (case side4 => exact Kd.R_tight rfl HO_4.out); rintro e w35 ⟨v417, rfl, ho0, hb, hkp⟩; refine ⟨_, rfl, ?_⟩; replace BK413 := z0 (blk_kept (zl BK413.out) hkp (fun hs_ => (fun e_ => (Kd.R_ne HO_4.out BK413.out (by decide)) e_) hs_)); have HO418 := z0 (Kd.R_mono (ok' := fun k_ => (P4_ k_ ∨ w.heap.size ≤ k_)) ho0 (fun k_ hk_ => Or.elim hk_ (fun hs_ => (HO_4.out.1 k_ (hs_).symm)) (fun hn_ => (.inr (Nat.le_trans (by first | exact HK.out.1 | exact (show Kept w _ (fun k_ => P4_ k_) from zk HK.out).1) hn_))))); replace HK := z0 (Kept.then_ (S := (fun k_ => P4_ k_)) (zk HK.out) hkp (fun k_ hs_ => (fun e_ => (HO_4.out.1 k_ e_.symm)) hs_)); replace HB := z0 (hb); clear HO_4; (try clear hb); (try clear hkp); (try clear ho0)))
          go_roundg kj15
          case measure => have := HK1.out; have := HJ6.out; have := HJ15.out; omega
          case rel => exact ⟨(t416), (wrap64 (x11_1 + 1)), zf, H', ⟨by have := HK1.out; have := HJ6.out; have := HJ15.out; omega⟩, ⟨zr HO418.out⟩, ⟨zl BK413.out⟩, ⟨zk HK.out⟩, ⟨zb HB.out⟩⟩
        ·rw [if_neg c27] at H; have c27b0 : ((bt a0_1 x11_1) == 49) = false := beq_eq_false_iff_ne.mpr c27; have c27b1 : ((bt a0_1 x11_1) != 49) = true := bne_iff_ne.mpr c27; replace H := zi H; obtain ⟨t419, A36, H⟩ := H; have hcz37 := zc5 BK413.out; have p26 : 0 ≤ (x11_1 : Int) := zd; have q26 : x11_1 < (a0_1.size : Int) := zd; have hx26 := bt_at a0_1 x11_1; replace p26 := eq_true p26; replace q26 := eq_true q26
         go_upto_if 79 with (first | ((with_reducible refine gc 70 ?_); refine zL (some 73) Try.func70 #[.string a0_1, .int .i64 x11_1] ?_; (with_reducible refine (spec_l1Ones.calls kj15 a0_1 x11_1 t419 _ A36.out).mono ?_); rintro e w' ⟨rfl, ⟨nd, rfl⟩⟩; refine ⟨_, rfl, ?_⟩))
         by_cases c38 : (wrap64 (x11_1 - t419)) < (l0_3.length : Int)
         ·rw [if_pos c38] at H; have c38b0 := decide_eq_true c38; clear c38; (first | rw [c38b0] | (simp only [i64_w, i32_w]; rw [c38b0]) | simp only [*, Bool.not_true, Bool.not_false] | skip); obtain ⟨ji39, hji39⟩ : ∃ j_ : Int, (wrap64 (x11_1 - t419)) = j_ := ⟨_, rfl⟩
          replace H : (if 0 ≤ (ji39) then (if x12_15.size + (rdOf ByteArray.empty l0_3 (ji39)).size ≤ 9223372036854775807 then (if x4_1.length < 8796093022208 then (spec_l3Add.l0 kj15 a2 a3 (x4_1 ++ [x12_15 ++ (rdOf ByteArray.empty l0_3 (ji39))]) (wrap64 (x11_1 + 1)) a0_0 a0_1 a0_2 l0_3 a0_4) else (none)) else (none)) else (none)) = some r := by first | (rw [hji39] at H; exact H) | (simp only [hji39] at H ⊢; exact H)
          (try rw [hji39] at c38b0); have hji39w : (IntKind.i64.wrap (x11_1 - t419)) = ji39 := (i64_w _).trans hji39; replace H := zn H; obtain ⟨c40, H⟩ := H; have c40b0 := decide_eq_true c40; clear c40; replace H := zn H; obtain ⟨c41, H⟩ := H; have c41b0 := eq_true c41; have c41b1 := decide_eq_true c41
          try have c41b2 : (9223372036854775807 < x12_15.size + (rdOf ByteArray.empty l0_3 (ji39)).size) = False := eq_false (Nat.not_lt.2 c41)
          replace H := zn H; obtain ⟨c42, H⟩ := H; have LMc42 := z0 c42; clear c42; obtain ⟨y421, hy421⟩ : ∃ y_ : List ByteArray, y_ = (x4_1 ++ [x12_15 ++ (rdOf ByteArray.empty l0_3 (ji39))]) := ⟨_, rfl⟩; replace H : (spec_l3Add.l0 kj15 a2 a3 y421 (wrap64 (x11_1 + 1)) a0_0 a0_1 a0_2 l0_3 a0_4) = some r := zH2 hy421 H; have Ny421 := z0 hy421; clear hy421; have H' := z0 H; clear H; have hcz43 := zc5 BK413.out; have p420 : 0 ≤ ((ji39) : Int) := zd; have q420 : (ji39) < (l0_3.length : Int) := zd; obtain ⟨ad420, e420, hx420_0⟩ := Kd.at_string (Kd.C_kept_now HR0_3.out HK.out) (ji39) p420 q420; cases e420; replace p420 := eq_true p420; replace q420 := eq_true q420
          go_wp2_with (first | ((with_reducible refine gate_builtin (b := .append) (xs := #[.tmp 80, .tmp 88]) rfl ?_); (try (refine gate_guard (by rfl) ?_; dsimp only)); at_builtin; refine Kd.R_append Kd.string (w0 := w0) w0.heap.size rfl (.tmp 80) (.tmp 88) 23 9 (.string ⟨#[]⟩) 16 rfl Try.underlying23 info9 rfl (by decide) (by omega) u4 x4_1 (x12_15 ++ (rdOf ByteArray.empty l0_3 (ji39))) [.string (x12_15 ++ (rdOf ByteArray.empty l0_3 (ji39)))] (fun k_ => (P4_ k_ ∨ w.heap.size ≤ k_)) (fun _ => False) rfl rfl ?aP (fun _ hk => hk.elim) ?aF ?aO ?aB ?aS ?aL ?_; (case aP => exact rfl); (case aB => exact (zb HB.out)); (case aF => exact (fun k_ hk => (.inr (Nat.le_trans (by first | exact HK.out.1 | exact (show Kept w _ (fun k_ => P4_ k_) from zk HK.out).1) hk)))); (case aO => exact (zr HO_4.out)); (case aS => exact (below_size (zb HB.out))); (case aL => have := LMc42.out; omega); intro v422 w44 ho hb hg hat; rw [← Ny421.out] at ho; replace BK413 := z0 (blk_grown (zl BK413.out) hg (Kd.R_ne HO_4.out BK413.out (by decide))); replace HB := z0 (hb); replace HK := z0 (Kept.of_grown (S := (fun k_ => P4_ k_)) hg (zk HK.out) (fun k_ e_ => (HO_4.out.1 k_ e_))); have HO423 := z0 (ho); clear HO_4; clear ho hb hg hat))
          go_roundg kj15
          case measure => have := HK1.out; have := HJ6.out; have := HJ15.out; omega
          case rel => exact ⟨(y421), (wrap64 (x11_1 + 1)), zf, H', ⟨by have := HK1.out; have := HJ6.out; have := HJ15.out; omega⟩, ⟨zr HO423.out⟩, ⟨zl BK413.out⟩, ⟨zk HK.out⟩, ⟨zb HB.out⟩⟩
         ·rw [if_neg c38] at H; have c38b0 := decide_eq_false c38; clear c38; (first | rw [c38b0] | (simp only [i64_w, i32_w]; rw [c38b0]) | simp only [*, Bool.not_true, Bool.not_false] | skip); have H' := z0 H; clear H; go_wp2; go_roundg kj15
          case measure => have := HK1.out; have := HJ6.out; have := HJ15.out; omega
          case rel => exact ⟨(x4_1), (wrap64 (x11_1 + 1)), zf, H', ⟨by have := HK1.out; have := HJ6.out; have := HJ15.out; omega⟩, ⟨zr HO_4.out⟩, ⟨zl BK413.out⟩, ⟨zk HK.out⟩, ⟨zb HB.out⟩⟩
     ·replace c12 := Bool.eq_false_iff.mpr c12; subst c12
      have H1 : (some x4_1) = some r := by rw [if_neg (show ¬ (false = true) by decide)] at H; exact H
      clear H; have H := H1; clear H1; obtain rfl := Option.some.inj H; go_wp2; go_ret; exact ⟨_, ze, zr HO_4.out, zb HB.out, zk HK.out⟩
theorem spec_l3Heads.mono : ∀ a0 a1 a2 a3 a4 k, LeO (spec_l3Heads.f k a0 a1 a2 a3 a4) (spec_l3Heads.f (k + 1) a0 a1 a2 a3 a4) := by
  intro a0 a1 a2 a3 a4 k
  unfold spec_l3Heads.f
  repeat' first | (with_reducible first | apply spec_l1One.mono | apply spec_l3Add.mono | exact LeO.refl _ | exact LeO.none _ | refine LeO.ite ?_ ?_ | refine LeO.bind ?_ (fun _ => ?_)) | exact LeO.none _ | refine LeO.ite ?_ ?_ | refine LeO.bind ?_ (fun _ => ?_)
theorem spec_l3Heads.calls (k : Nat) (a0_0 a0_1 a0_2 : ByteArray) (A0_3 : Option Addr) (c0_3 : Nat) (l0_3 : List ByteArray) (a0_4 : Int) (r : List ByteArray) (w : World) (hr0_3 : Kd.C Kd.string w A0_3 l0_3.length l0_3) (hc0_3 : l0_3.length ≤ c0_3) (h : spec_l3Heads.f k a0_0 a0_1 a0_2 l0_3 a0_4 = some r) :
    Calls Try.prog 82 #[.agg #[.string a0_0, .string a0_1, .string a0_2, .slice A0_3 l0_3.length c0_3, .int .i64 a0_4]] w fun e w' => ∃ v0_ : Value, e = .returned (v0_) ∧ Kd.R Kd.string 9 w' w.heap.size (fun _ => True) v0_ r ∧ Below w.heap.size w w' := by
 have hu25 := Try.underlying25; have HR0_3 := z0 hr0_3; have HC0_3 := z0 hc0_3; clear hr0_3 hc0_3; have HB := z0 (Below.refl w.heap.size w); have H : ((spec_l1One.f k a0_2 1).bind fun t425 => ((spec_l3Add.f k a0_0 a0_1 a0_2 l0_3 a0_4 0 t425 (⟨#[]⟩ : ByteArray) (([] : List ByteArray))).bind fun t429 => (some t429))) = some r := h; clear h; replace H := zi H; obtain ⟨t425, A2, H⟩ := H; obtain ⟨y426, hy426⟩ : ∃ y_ : List ByteArray, y_ = (([] : List ByteArray)) := ⟨_, rfl⟩; replace H : ((spec_l3Add.f k a0_0 a0_1 a0_2 l0_3 a0_4 0 t425 (⟨#[]⟩ : ByteArray) y426).bind fun t429 => (some t429)) = some r := zH2 hy426 H; have Ny426 := z0 hy426; clear hy426; replace H := zi H; obtain ⟨t429, A3, H⟩ := H; obtain rfl := Option.some.inj H; go_enter Try.func82, Try.ntmps82
 try go_wp2_with (first | ((with_reducible refine gd 1 ?_); refine zbx 25 #[.string a0_0, .string a0_1, .string a0_2, .slice A0_3 l0_3.length c0_3, .int .i64 a0_4] ?_; intro gb424 hg w4 hbox hb; have BK424 := z0 (hbox); have GE424 := zG hg HB; replace HB := zH HB hb; clear hb hbox hg))
 replace BK424 := z0 (blk_drew BK424.out); replace HB := z0 (below_drew1 HB.out); refine start_ (n := 7) (S := fun w' => w'.cell? ⟨gb424, 0, none⟩ = some (.string a0_0) ∧ w'.cell? ⟨gb424, 1, none⟩ = some (.string a0_1) ∧ w'.cell? ⟨gb424, 2, none⟩ = some (.string a0_2) ∧ w'.cell? ⟨gb424, 3, none⟩ = some (.slice A0_3 l0_3.length c0_3) ∧ w'.cell? ⟨gb424, 4, none⟩ = some (.int .i64 a0_4)) (ds := []) (fb 7 0) (by kernel_rfl) rfl rfl (zb5 BK424.out) (fun hHeld => ?_); generalize w4.drew = w5 at BK424 HB hHeld ⊢; refine zu 1 2 ?_; refine zx 0 3 hHeld ?_; refine zx 2 7 hHeld ?_; refine join_ (σ := Value) 2 (fb 7 31) (fun s_ => [(6, .int .i64 t425), (7, s_)]) (fun s_ w' => (w'.cell? ⟨gb424, 0, none⟩ = some (.string a0_0) ∧ w'.cell? ⟨gb424, 1, none⟩ = some (.string a0_1) ∧ w'.cell? ⟨gb424, 2, none⟩ = some (.string a0_2) ∧ w'.cell? ⟨gb424, 3, none⟩ = some (.slice A0_3 l0_3.length c0_3) ∧ w'.cell? ⟨gb424, 4, none⟩ = some (.int .i64 a0_4)) ∧ (Kd.R Kd.string 9 w' w.heap.size (fun _ => True) s_ y426) ∧ (w'.heap[gb424]? = some (.cells #[.string a0_0, .string a0_1, .string a0_2, .slice A0_3 l0_3.length c0_3, .int .i64 a0_4] 25 (0, 0))) ∧ (Below w.heap.size w w')) ?_ ?_; rotate_left
 ·intro hCont; refine two_ (i := 3) (j := 4) (Ni := some 6) (Nj := some 7) (fb 7 15) (fb 7 23) rfl rfl rfl rfl (by kernel_rfl) (by decide) (by decide) (fun K hK => ?_) (fun K hK => ?_)
  ·skip
   refine zG2 Try.func85 #[.string a0_2, .int .i64 1] ?_
   with_reducible refine (spec_l1One.calls k a0_2 1 t425 _ A2.out).mono ?_
   rintro e w' ⟨rfl, ⟨nd, rfl⟩⟩; refine ⟨_, rfl, ?_⟩; refine hK.out _ _ (zb5 BK424.out) (fun hHeld => ?_); clear hK K; refine znm ?_; refine zone 4 31 (fun K hK => ?_); refine Kd.R_lit_step Kd.string _ 9 ?hg (N := 7) ?hd (xs := ([] : List ByteArray)) (inner := []) (ok := fun _ => True) (okp := fun _ => True) ?hr ?hp (fun _ hk => hk) trivial (Below.refl _ _) (Nat.le_refl _) (by simp) ?_; (case hd => rfl); (case hg => rfl); (case hr => first | (go_simp; done) | (go_simp; rfl)); (case hp => exact (Reps.none _ _)); intro v427 w6 ho7 hb hg_ hnew_; clear hg_ hnew_; (first | rw [← Ny426.out] at ho7 | (simp only [Int.reduceToNat] at ho7; rw [← Ny426.out] at ho7)); have HO428 := z0 (Kd.R_lower ho7 (below_size (zb HB.out))); replace BK424 := zK BK424 hb; replace HB := zH HB hb; clear hb ho7; refine hK.out _ _ (zb5 BK424.out) (fun hHeld => ?_); clear hK K; refine znm ?_; exact norm_ (by simp only [putAll, Act.put, List.setIfInBounds_toArray, List.set_cons_zero, List.set_cons_succ]) (hCont (v427) _ ⟨hHeld, (zr HO428.out), (zl BK424.out), (zb HB.out)⟩)
  ·skip
   refine Kd.R_lit_step Kd.string _ 9 ?hg (N := 7) ?hd (xs := ([] : List ByteArray)) (inner := []) (ok := fun _ => True) (okp := fun _ => True) ?hr ?hp (fun _ hk => hk) trivial (Below.refl _ _) (Nat.le_refl _) (by simp) ?_; (case hd => rfl); (case hg => rfl); (case hr => first | (go_simp; done) | (go_simp; rfl)); (case hp => exact (Reps.none _ _)); intro v427 w6 ho7 hb hg_ hnew_; clear hg_ hnew_; (first | rw [← Ny426.out] at ho7 | (simp only [Int.reduceToNat] at ho7; rw [← Ny426.out] at ho7)); have HO428 := z0 (Kd.R_lower ho7 (below_size (zb HB.out))); replace BK424 := zK BK424 hb; replace HB := zH HB hb; clear hb ho7; refine hK.out _ _ (zb5 BK424.out) (fun hHeld => ?_); clear hK K; refine znm ?_; refine zone 3 31 (fun K hK => ?_); refine zG2 Try.func85 #[.string a0_2, .int .i64 1] ?_
   with_reducible refine (spec_l1One.calls k a0_2 1 t425 _ A2.out).mono ?_
   rintro e w' ⟨rfl, ⟨nd, rfl⟩⟩; refine ⟨_, rfl, ?_⟩; refine hK.out _ _ (zb5 BK424.out) (fun hHeld => ?_); clear hK K; refine znm ?_; exact norm_ (by simp only [putAll, Act.put, List.setIfInBounds_toArray, List.set_cons_zero, List.set_cons_succ]) (hCont (v427) _ ⟨hHeld, (zr HO428.out), (zl BK424.out), (zb HB.out)⟩)
 rintro v427 w8 ⟨hS_, h0_, h1_, h2_⟩; have n0_ : Aside0 (Kd.R Kd.string 9 w8 w.heap.size (fun _ => True) v427 y426) := ⟨h0_⟩; have n1_ : Aside0 (w8.heap[gb424]? = some (.cells #[.string a0_0, .string a0_1, .string a0_2, .slice A0_3 l0_3.length c0_3, .int .i64 a0_4] 25 (0, 0))) := ⟨h1_⟩; have n2_ : Aside0 (Below w.heap.size w w8) := ⟨h2_⟩; clear BK424; clear HB; clear h0_ h1_ h2_; have HO428 := n0_; have BK424 := n1_; have HB := n2_; clear n0_ n1_ n2_; have hHeld : w8.cell? ⟨gb424, 0, none⟩ = some (.string a0_0) ∧ w8.cell? ⟨gb424, 1, none⟩ = some (.string a0_1) ∧ w8.cell? ⟨gb424, 2, none⟩ = some (.string a0_2) ∧ w8.cell? ⟨gb424, 3, none⟩ = some (.slice A0_3 l0_3.length c0_3) ∧ w8.cell? ⟨gb424, 4, none⟩ = some (.int .i64 a0_4) := hS_; obtain ⟨Ao9, co9, eo9⟩ := Kd.R_slice HO428.out; (first | subst eo9 | (injection eo9 with f1_ f2_ f3_; have f4_ := f1_.symm; have f5_ := f3_.symm; clear f1_ f2_ f3_; subst f4_; subst f5_)); refine norm_ (a' := ?_) ?_ ?_; rotate_left
 ·simp only [putAll, Act.put, List.setIfInBounds_toArray, List.set_cons_zero, List.set_cons_succ]
  rfl
 refine zone 5 63 (fun K hK => ?_); refine zG2 Try.func115 #[.agg #[.string a0_0, .string a0_1, .string a0_2, .slice A0_3 l0_3.length c0_3, .int .i64 a0_4], .int .i64 0, .int .i64 t425, .string ⟨#[]⟩, .slice Ao9 y426.length co9] ?_
 with_reducible refine (spec_l3Add.calls k a0_0 a0_1 a0_2 _ _ l0_3 a0_4 0 t425 (⟨#[]⟩ : ByteArray) (fun k_ => some k_ = (.slice Ao9 y426.length co9 : Value).ownBlock) (.slice Ao9 y426.length co9) y426 t429 w _ ?side1 ?side2 ?side3 ?side4 A3.out).mono ?_
 (case side1 => repeat (first | (with_reducible first | exact HB.out | apply below_alloc | apply pw_below_drewN | apply below_drew1 | refine below_set ?_ GE424.out) | exact HB.out)); (case side2 => exact Kd.C_kept_came Kd.heap_string HR0_3.out (zb HB.out) (fun k_ hs_ => (fun e_ => Kd.R_base HO428.out k_ e_.symm) hs_)); (case side3 => exact HC0_3.out); (case side4 => exact Kd.R_tight rfl HO428.out); rintro e w10 ⟨v430, rfl, ho0, hb, hkp⟩; refine ⟨_, rfl, ?_⟩; replace BK424 := z0 (blk_kept (zl BK424.out) hkp (fun hs_ => (fun e_ => (Kd.R_ne HO428.out BK424.out (by decide)) e_) hs_)); have HO431 := z0 (Kd.R_mono (ok' := fun k_ => True) ho0 (fun k_ hk_ => trivial)); replace HB := z0 (hb); clear HO428; (try clear hb); (try clear hkp); (try clear ho0); refine hK.out _ _ (zb5 BK424.out) (fun hHeld => ?_); clear hK K; refine znm ?_; refine zu 6 127 ?_; refine done_ (by kernel_rfl) ?_
 try go_wp2
 go_ret; exact ⟨_, ze, zr HO431.out, zb HB.out⟩
theorem spec_BitsOk.mono_l : ∀ k, (∀ y0 y1, LeO (spec_BitsOk.l0 k y0 y1) (spec_BitsOk.l0 (k + 1) y0 y1))
  | 0 => fun _ _ r h => by simp [spec_BitsOk.l0] at h
  | k + 1 => by
    have ih0 := spec_BitsOk.mono_l k
    · intro y0 y1
      unfold spec_BitsOk.l0
      repeat' first | (with_reducible first | apply ih0 | exact LeO.refl _ | exact LeO.none _ | refine LeO.ite ?_ ?_ | refine LeO.bind ?_ (fun _ => ?_)) | exact LeO.none _ | refine LeO.ite ?_ ?_ | refine LeO.bind ?_ (fun _ => ?_)
theorem spec_BitsOk.mono : ∀ a0 k, LeO (spec_BitsOk.f k a0) (spec_BitsOk.f (k + 1) a0) := by
  intro a0 k
  have ih0 := spec_BitsOk.mono_l k
  unfold spec_BitsOk.f
  repeat' first | (with_reducible first | apply ih0 | exact LeO.refl _ | exact LeO.none _ | refine LeO.ite ?_ ?_ | refine LeO.bind ?_ (fun _ => ?_)) | exact LeO.none _ | refine LeO.ite ?_ ?_ | refine LeO.bind ?_ (fun _ => ?_)
theorem spec_BitsOk.calls (k : Nat) (a0 : ByteArray) (r : Bool) (w : World) (h : spec_BitsOk.f k a0 = some r) :
    Calls Try.prog 121 #[.string a0] w fun e w' => e = .returned (.bool r) ∧ Drawn0 w w' := by
 have H : (spec_BitsOk.l0 k a0 0) = some r := h; clear h; have H' := z0 H; clear H; go_enter Try.func121, Try.ntmps121; go_wp2
 go_loopg [3] k (fun kq v3 w' => ∃ (x3_1 : Int), v3 = .int .i64 x3_1 ∧ Aside0 (spec_BitsOk.l0 kq a0 x3_1 = some r) ∧ Aside0 (kq ≤ k) ∧ Drawn0 w w')
 case atStart => exact ⟨(0), zf, H', ⟨Nat.le_refl _⟩, by repeat (first | exact Drawn0.refl _ | apply Drawn0.step)⟩
 case round =>
  clear H'
  try clear c1
  obtain ⟨x3_1, rfl, HA, HK1, ⟨m1, rfl⟩⟩ := hrel
  cases gk with
  | zero => exact absurd HA.out (by simp [spec_BitsOk.l0])
  | succ k1 =>
   have H := HA.out; clear HA; simp only [spec_BitsOk.l0] at H
   by_cases c2 : x3_1 < (a0.size : Int)
   ·rw [if_pos c2] at H; have c2b0 := decide_eq_true c2; clear c2; replace H := zn H; obtain ⟨c3, H⟩ := H; have c3b0 := decide_eq_true c3; clear c3
    by_cases c5 : (bt a0 x3_1) = 48
    ·rw [if_pos c5] at H; have c5b0 : ((bt a0 x3_1) == 48) = true := beq_iff_eq.mpr c5; have c5b1 : ((bt a0 x3_1) != 48) = false := bne_eq_false_iff_eq.mpr c5; clear c5; have H' := z0 H; clear H; have p4 : 0 ≤ (x3_1 : Int) := zd; have q4 : x3_1 < (a0.size : Int) := zd; have hx4 := bt_at a0 x3_1; replace p4 := eq_true p4; replace q4 := eq_true q4; go_wp2; go_roundg k1
     case measure => have := HK1.out; omega
     case rel => exact ⟨(wrap64 (x3_1 + 1)), zf, H', ⟨by have := HK1.out; omega⟩, by repeat (first | exact Drawn0.refl _ | apply Drawn0.step)⟩
    ·rw [if_neg c5] at H; have c5b0 : ((bt a0 x3_1) == 48) = false := beq_eq_false_iff_ne.mpr c5; have c5b1 : ((bt a0 x3_1) != 48) = true := bne_iff_ne.mpr c5
     by_cases c7 : (bt a0 x3_1) = 49
     ·rw [if_pos c7] at H; have c7b0 : ((bt a0 x3_1) == 49) = true := beq_iff_eq.mpr c7; have c7b1 : ((bt a0 x3_1) != 49) = false := bne_eq_false_iff_eq.mpr c7; clear c7; have H' := z0 H; clear H; have p4 : 0 ≤ (x3_1 : Int) := zd; have q4 : x3_1 < (a0.size : Int) := zd; have hx4 := bt_at a0 x3_1; replace p4 := eq_true p4; replace q4 := eq_true q4; have p6 : 0 ≤ (x3_1 : Int) := zd; have q6 : x3_1 < (a0.size : Int) := zd; have hx6 := bt_at a0 x3_1; replace p6 := eq_true p6; replace q6 := eq_true q6; go_wp2; go_roundg k1
      case measure => have := HK1.out; omega
      case rel => exact ⟨(wrap64 (x3_1 + 1)), zf, H', ⟨by have := HK1.out; omega⟩, by repeat (first | exact Drawn0.refl _ | apply Drawn0.step)⟩
     ·rw [if_neg c7] at H; have c7b0 : ((bt a0 x3_1) == 49) = false := beq_eq_false_iff_ne.mpr c7; have c7b1 : ((bt a0 x3_1) != 49) = true := bne_iff_ne.mpr c7; obtain rfl := Option.some.inj H; have p4 : 0 ≤ (x3_1 : Int) := zd; have q4 : x3_1 < (a0.size : Int) := zd; have hx4 := bt_at a0 x3_1; replace p4 := eq_true p4; replace q4 := eq_true q4; have p6 : 0 ≤ (x3_1 : Int) := zd; have q6 : x3_1 < (a0.size : Int) := zd; have hx6 := bt_at a0 x3_1; replace p6 := eq_true p6; replace q6 := eq_true q6; go_wp2; go_ret; exact ⟨zf, by repeat (first | exact Drawn0.refl _ | apply Drawn0.step)⟩
   ·rw [if_neg c2] at H; have c2b0 := decide_eq_false c2; clear c2; obtain rfl := Option.some.inj H; go_wp2; go_ret; exact ⟨zf, by repeat (first | exact Drawn0.refl _ | apply Drawn0.step)⟩
theorem spec_l3Form.mono : ∀ a0 a1 a2 a3 a4 k, LeO (spec_l3Form.f k a0 a1 a2 a3 a4) (spec_l3Form.f (k + 1) a0 a1 a2 a3 a4) := by
  intro a0 a1 a2 a3 a4 k
  unfold spec_l3Form.f
  repeat' first | (with_reducible first | apply spec_BitsOk.mono | apply spec_l1Ones.mono | exact LeO.refl _ | exact LeO.none _ | refine LeO.ite ?_ ?_ | refine LeO.bind ?_ (fun _ => ?_)) | exact LeO.none _ | refine LeO.ite ?_ ?_ | refine LeO.bind ?_ (fun _ => ?_)
theorem spec_l3Form.calls (k : Nat) (a0_0 a0_1 a0_2 : ByteArray) (A0_3 : Option Addr) (c0_3 : Nat) (l0_3 : List ByteArray) (a0_4 : Int) (r : Bool) (w : World) (hr0_3 : Kd.C Kd.string w A0_3 l0_3.length l0_3) (hc0_3 : l0_3.length ≤ c0_3) (h : spec_l3Form.f k a0_0 a0_1 a0_2 l0_3 a0_4 = some r) :
    Calls Try.prog 93 #[.agg #[.string a0_0, .string a0_1, .string a0_2, .slice A0_3 l0_3.length c0_3, .int .i64 a0_4]] w fun e w' => e = .returned (.bool r) ∧ Below w.heap.size w w' := by
 have hu25 := Try.underlying25; have HR0_3 := z0 hr0_3; have HC0_3 := z0 hc0_3; clear hr0_3 hc0_3; have HB := z0 (Below.refl w.heap.size w); have H : ((spec_BitsOk.f k a0_1).bind fun t433 => (if t433 = true then ((spec_BitsOk.f k a0_2).bind fun t434 => (if t434 = true then (if (a0_1.size : Int) = (a0_0.size : Int) then (if (a0_2.size : Int) = (a0_0.size : Int) then ((spec_l1Ones.f k a0_1 (a0_0.size : Int)).bind fun t435 => (if (l0_3.length : Int) = (wrap64 ((a0_0.size : Int) - t435)) then ((spec_l6In.f a0_4 0 5).bind fun t436 => (some t436)) else (some false))) else (some false)) else (some false)) else (some false))) else (some false))) = some r := h; clear h; replace H := zi H; obtain ⟨t433, A2, H⟩ := H
 by_cases c3 : t433 = true
 ·subst c3
  have H1 : ((spec_BitsOk.f k a0_2).bind fun t434 => (if t434 = true then (if (a0_1.size : Int) = (a0_0.size : Int) then (if (a0_2.size : Int) = (a0_0.size : Int) then ((spec_l1Ones.f k a0_1 (a0_0.size : Int)).bind fun t435 => (if (l0_3.length : Int) = (wrap64 ((a0_0.size : Int) - t435)) then ((spec_l6In.f a0_4 0 5).bind fun t436 => (some t436)) else (some false))) else (some false)) else (some false)) else (some false))) = some r := by rw [if_pos rfl] at H; exact H
  clear H; have H := H1; clear H1; replace H := zi H; obtain ⟨t434, A4, H⟩ := H
  by_cases c5 : t434 = true
  ·subst c5
   have H1 : (if (a0_1.size : Int) = (a0_0.size : Int) then (if (a0_2.size : Int) = (a0_0.size : Int) then ((spec_l1Ones.f k a0_1 (a0_0.size : Int)).bind fun t435 => (if (l0_3.length : Int) = (wrap64 ((a0_0.size : Int) - t435)) then ((spec_l6In.f a0_4 0 5).bind fun t436 => (some t436)) else (some false))) else (some false)) else (some false)) = some r := by rw [if_pos rfl] at H; exact H
   clear H; have H := H1; clear H1
   by_cases c6 : (a0_1.size : Int) = (a0_0.size : Int)
   ·rw [if_pos c6] at H; have c6b0 : ((a0_1.size : Int) == (a0_0.size : Int)) = true := beq_iff_eq.mpr c6; have c6b1 : ((a0_1.size : Int) != (a0_0.size : Int)) = false := bne_eq_false_iff_eq.mpr c6
    have c6b2 : (a0_1.size == a0_0.size) = true := by first | simpa using c6 | (simp at c6 ⊢; omega)
    clear c6
    by_cases c7 : (a0_2.size : Int) = (a0_0.size : Int)
    ·rw [if_pos c7] at H; have c7b0 : ((a0_2.size : Int) == (a0_0.size : Int)) = true := beq_iff_eq.mpr c7; have c7b1 : ((a0_2.size : Int) != (a0_0.size : Int)) = false := bne_eq_false_iff_eq.mpr c7
     have c7b2 : (a0_2.size == a0_0.size) = true := by first | simpa using c7 | (simp at c7 ⊢; omega)
     clear c7; replace H := zi H; obtain ⟨t435, A8, H⟩ := H
     by_cases c9 : (l0_3.length : Int) = (wrap64 ((a0_0.size : Int) - t435))
     ·rw [if_pos c9] at H; have c9b0 : ((l0_3.length : Int) == (wrap64 ((a0_0.size : Int) - t435))) = true := beq_iff_eq.mpr c9; have c9b1 : ((l0_3.length : Int) != (wrap64 ((a0_0.size : Int) - t435))) = false := bne_eq_false_iff_eq.mpr c9; clear c9; replace H := zi H; obtain ⟨t436, A10, H⟩ := H; obtain rfl := Option.some.inj H; go_enter Try.func93, Try.ntmps93
      go_wp2_with (first | ((with_reducible refine gd 1 ?_); (try (refine gate_guard (by rfl) ?_; dsimp only)); refine zbx 25 #[.string a0_0, .string a0_1, .string a0_2, .slice A0_3 l0_3.length c0_3, .int .i64 a0_4] ?_; intro gb432 hg w11 hbox hb; have BK432 := z0 (hbox); have GE432 := zG hg HB; replace HB := zH HB hb; clear hb hbox hg; have hcz12 := zc5 BK432.out) | (go_at_call 121; (with_reducible refine (spec_BitsOk.calls k a0_1 true _ A2.out).mono ?_); rintro e w' ⟨rfl, ⟨nd, rfl⟩⟩; (try exact zdd)) | (go_at_call 121; (with_reducible refine (spec_BitsOk.calls k a0_2 true _ A4.out).mono ?_); rintro e w' ⟨rfl, ⟨nd, rfl⟩⟩; (try exact zdd)) | (go_at_call 70; (with_reducible refine (spec_l1Ones.calls k a0_1 (a0_0.size : Int) t435 _ A8.out).mono ?_); rintro e w' ⟨rfl, ⟨nd, rfl⟩⟩; (try exact zdd)) | (go_at_call 76; (with_reducible refine (spec_l6In.calls a0_4 0 5 t436 _ A10.out).mono ?_); rintro e w' ⟨rfl, ⟨nd, rfl⟩⟩; (try exact zdd)))
      repeat (go_quiet (first | ((with_reducible refine gd 1 ?_); (try (refine gate_guard (by rfl) ?_; dsimp only)); refine zbx 25 #[.string a0_0, .string a0_1, .string a0_2, .slice A0_3 l0_3.length c0_3, .int .i64 a0_4] ?_; intro gb432 hg w11 hbox hb; have BK432 := z0 (hbox); have GE432 := zG hg HB; replace HB := zH HB hb; clear hb hbox hg; have hcz12 := zc5 BK432.out) | (go_at_call 121; (with_reducible refine (spec_BitsOk.calls k a0_1 true _ A2.out).mono ?_); rintro e w' ⟨rfl, ⟨nd, rfl⟩⟩; (try exact zdd)) | (go_at_call 121; (with_reducible refine (spec_BitsOk.calls k a0_2 true _ A4.out).mono ?_); rintro e w' ⟨rfl, ⟨nd, rfl⟩⟩; (try exact zdd)) | (go_at_call 70; (with_reducible refine (spec_l1Ones.calls k a0_1 (a0_0.size : Int) t435 _ A8.out).mono ?_); rintro e w' ⟨rfl, ⟨nd, rfl⟩⟩; (try exact zdd)) | (go_at_call 76; (with_reducible refine (spec_l6In.calls a0_4 0 5 t436 _ A10.out).mono ?_); rintro e w' ⟨rfl, ⟨nd, rfl⟩⟩; (try exact zdd))); try go_wp2_with (first | ((with_reducible refine gd 1 ?_); (try (refine gate_guard (by rfl) ?_; dsimp only)); refine zbx 25 #[.string a0_0, .string a0_1, .string a0_2, .slice A0_3 l0_3.length c0_3, .int .i64 a0_4] ?_; intro gb432 hg w11 hbox hb; have BK432 := z0 (hbox); have GE432 := zG hg HB; replace HB := zH HB hb; clear hb hbox hg; have hcz12 := zc5 BK432.out) | (go_at_call 121; (with_reducible refine (spec_BitsOk.calls k a0_1 true _ A2.out).mono ?_); rintro e w' ⟨rfl, ⟨nd, rfl⟩⟩; (try exact zdd)) | (go_at_call 121; (with_reducible refine (spec_BitsOk.calls k a0_2 true _ A4.out).mono ?_); rintro e w' ⟨rfl, ⟨nd, rfl⟩⟩; (try exact zdd)) | (go_at_call 70; (with_reducible refine (spec_l1Ones.calls k a0_1 (a0_0.size : Int) t435 _ A8.out).mono ?_); rintro e w' ⟨rfl, ⟨nd, rfl⟩⟩; (try exact zdd)) | (go_at_call 76; (with_reducible refine (spec_l6In.calls a0_4 0 5 t436 _ A10.out).mono ?_); rintro e w' ⟨rfl, ⟨nd, rfl⟩⟩; (try exact zdd))))
      go_ret; exact ⟨ze, zb HB.out⟩
     ·rw [if_neg c9] at H; have c9b0 : ((l0_3.length : Int) == (wrap64 ((a0_0.size : Int) - t435))) = false := beq_eq_false_iff_ne.mpr c9; have c9b1 : ((l0_3.length : Int) != (wrap64 ((a0_0.size : Int) - t435))) = true := bne_iff_ne.mpr c9; obtain rfl := Option.some.inj H; go_enter Try.func93, Try.ntmps93
      go_wp2_with (first | ((with_reducible refine gd 1 ?_); (try (refine gate_guard (by rfl) ?_; dsimp only)); refine zbx 25 #[.string a0_0, .string a0_1, .string a0_2, .slice A0_3 l0_3.length c0_3, .int .i64 a0_4] ?_; intro gb432 hg w13 hbox hb; have BK432 := z0 (hbox); have GE432 := zG hg HB; replace HB := zH HB hb; clear hb hbox hg; have hcz14 := zc5 BK432.out) | (go_at_call 121; (with_reducible refine (spec_BitsOk.calls k a0_1 true _ A2.out).mono ?_); rintro e w' ⟨rfl, ⟨nd, rfl⟩⟩; (try exact zdd)) | (go_at_call 121; (with_reducible refine (spec_BitsOk.calls k a0_2 true _ A4.out).mono ?_); rintro e w' ⟨rfl, ⟨nd, rfl⟩⟩; (try exact zdd)) | (go_at_call 70; (with_reducible refine (spec_l1Ones.calls k a0_1 (a0_0.size : Int) t435 _ A8.out).mono ?_); rintro e w' ⟨rfl, ⟨nd, rfl⟩⟩; (try exact zdd)))
      repeat (go_quiet (first | ((with_reducible refine gd 1 ?_); (try (refine gate_guard (by rfl) ?_; dsimp only)); refine zbx 25 #[.string a0_0, .string a0_1, .string a0_2, .slice A0_3 l0_3.length c0_3, .int .i64 a0_4] ?_; intro gb432 hg w13 hbox hb; have BK432 := z0 (hbox); have GE432 := zG hg HB; replace HB := zH HB hb; clear hb hbox hg; have hcz14 := zc5 BK432.out) | (go_at_call 121; (with_reducible refine (spec_BitsOk.calls k a0_1 true _ A2.out).mono ?_); rintro e w' ⟨rfl, ⟨nd, rfl⟩⟩; (try exact zdd)) | (go_at_call 121; (with_reducible refine (spec_BitsOk.calls k a0_2 true _ A4.out).mono ?_); rintro e w' ⟨rfl, ⟨nd, rfl⟩⟩; (try exact zdd)) | (go_at_call 70; (with_reducible refine (spec_l1Ones.calls k a0_1 (a0_0.size : Int) t435 _ A8.out).mono ?_); rintro e w' ⟨rfl, ⟨nd, rfl⟩⟩; (try exact zdd))); try go_wp2_with (first | ((with_reducible refine gd 1 ?_); (try (refine gate_guard (by rfl) ?_; dsimp only)); refine zbx 25 #[.string a0_0, .string a0_1, .string a0_2, .slice A0_3 l0_3.length c0_3, .int .i64 a0_4] ?_; intro gb432 hg w13 hbox hb; have BK432 := z0 (hbox); have GE432 := zG hg HB; replace HB := zH HB hb; clear hb hbox hg; have hcz14 := zc5 BK432.out) | (go_at_call 121; (with_reducible refine (spec_BitsOk.calls k a0_1 true _ A2.out).mono ?_); rintro e w' ⟨rfl, ⟨nd, rfl⟩⟩; (try exact zdd)) | (go_at_call 121; (with_reducible refine (spec_BitsOk.calls k a0_2 true _ A4.out).mono ?_); rintro e w' ⟨rfl, ⟨nd, rfl⟩⟩; (try exact zdd)) | (go_at_call 70; (with_reducible refine (spec_l1Ones.calls k a0_1 (a0_0.size : Int) t435 _ A8.out).mono ?_); rintro e w' ⟨rfl, ⟨nd, rfl⟩⟩; (try exact zdd))))
      go_ret; exact ⟨ze, zb HB.out⟩
    ·rw [if_neg c7] at H; have c7b0 : ((a0_2.size : Int) == (a0_0.size : Int)) = false := beq_eq_false_iff_ne.mpr c7; have c7b1 : ((a0_2.size : Int) != (a0_0.size : Int)) = true := bne_iff_ne.mpr c7
     have c7b2 : (a0_2.size == a0_0.size) = false := by first | simpa using c7 | (simp at c7 ⊢; omega)
     obtain rfl := Option.some.inj H; go_enter Try.func93, Try.ntmps93
     go_wp2_with (first | ((with_reducible refine gd 1 ?_); (try (refine gate_guard (by rfl) ?_; dsimp only)); refine zbx 25 #[.string a0_0, .string a0_1, .string a0_2, .slice A0_3 l0_3.length c0_3, .int .i64 a0_4] ?_; intro gb432 hg w15 hbox hb; have BK432 := z0 (hbox); have GE432 := zG hg HB; replace HB := zH HB hb; clear hb hbox hg; have hcz16 := zc5 BK432.out) | (go_at_call 121; (with_reducible refine (spec_BitsOk.calls k a0_1 true _ A2.out).mono ?_); rintro e w' ⟨rfl, ⟨nd, rfl⟩⟩; (try exact zdd)) | (go_at_call 121; (with_reducible refine (spec_BitsOk.calls k a0_2 true _ A4.out).mono ?_); rintro e w' ⟨rfl, ⟨nd, rfl⟩⟩; (try exact zdd)))
     repeat (go_quiet (first | ((with_reducible refine gd 1 ?_); (try (refine gate_guard (by rfl) ?_; dsimp only)); refine zbx 25 #[.string a0_0, .string a0_1, .string a0_2, .slice A0_3 l0_3.length c0_3, .int .i64 a0_4] ?_; intro gb432 hg w15 hbox hb; have BK432 := z0 (hbox); have GE432 := zG hg HB; replace HB := zH HB hb; clear hb hbox hg; have hcz16 := zc5 BK432.out) | (go_at_call 121; (with_reducible refine (spec_BitsOk.calls k a0_1 true _ A2.out).mono ?_); rintro e w' ⟨rfl, ⟨nd, rfl⟩⟩; (try exact zdd)) | (go_at_call 121; (with_reducible refine (spec_BitsOk.calls k a0_2 true _ A4.out).mono ?_); rintro e w' ⟨rfl, ⟨nd, rfl⟩⟩; (try exact zdd))); try go_wp2_with (first | ((with_reducible refine gd 1 ?_); (try (refine gate_guard (by rfl) ?_; dsimp only)); refine zbx 25 #[.string a0_0, .string a0_1, .string a0_2, .slice A0_3 l0_3.length c0_3, .int .i64 a0_4] ?_; intro gb432 hg w15 hbox hb; have BK432 := z0 (hbox); have GE432 := zG hg HB; replace HB := zH HB hb; clear hb hbox hg; have hcz16 := zc5 BK432.out) | (go_at_call 121; (with_reducible refine (spec_BitsOk.calls k a0_1 true _ A2.out).mono ?_); rintro e w' ⟨rfl, ⟨nd, rfl⟩⟩; (try exact zdd)) | (go_at_call 121; (with_reducible refine (spec_BitsOk.calls k a0_2 true _ A4.out).mono ?_); rintro e w' ⟨rfl, ⟨nd, rfl⟩⟩; (try exact zdd))))
     go_ret; exact ⟨ze, zb HB.out⟩
   ·rw [if_neg c6] at H; have c6b0 : ((a0_1.size : Int) == (a0_0.size : Int)) = false := beq_eq_false_iff_ne.mpr c6; have c6b1 : ((a0_1.size : Int) != (a0_0.size : Int)) = true := bne_iff_ne.mpr c6
    have c6b2 : (a0_1.size == a0_0.size) = false := by first | simpa using c6 | (simp at c6 ⊢; omega)
    obtain rfl := Option.some.inj H; go_enter Try.func93, Try.ntmps93
    go_wp2_with (first | ((with_reducible refine gd 1 ?_); (try (refine gate_guard (by rfl) ?_; dsimp only)); refine zbx 25 #[.string a0_0, .string a0_1, .string a0_2, .slice A0_3 l0_3.length c0_3, .int .i64 a0_4] ?_; intro gb432 hg w17 hbox hb; have BK432 := z0 (hbox); have GE432 := zG hg HB; replace HB := zH HB hb; clear hb hbox hg; have hcz18 := zc5 BK432.out) | (go_at_call 121; (with_reducible refine (spec_BitsOk.calls k a0_1 true _ A2.out).mono ?_); rintro e w' ⟨rfl, ⟨nd, rfl⟩⟩; (try exact zdd)) | (go_at_call 121; (with_reducible refine (spec_BitsOk.calls k a0_2 true _ A4.out).mono ?_); rintro e w' ⟨rfl, ⟨nd, rfl⟩⟩; (try exact zdd)))
    repeat (go_quiet (first | ((with_reducible refine gd 1 ?_); (try (refine gate_guard (by rfl) ?_; dsimp only)); refine zbx 25 #[.string a0_0, .string a0_1, .string a0_2, .slice A0_3 l0_3.length c0_3, .int .i64 a0_4] ?_; intro gb432 hg w17 hbox hb; have BK432 := z0 (hbox); have GE432 := zG hg HB; replace HB := zH HB hb; clear hb hbox hg; have hcz18 := zc5 BK432.out) | (go_at_call 121; (with_reducible refine (spec_BitsOk.calls k a0_1 true _ A2.out).mono ?_); rintro e w' ⟨rfl, ⟨nd, rfl⟩⟩; (try exact zdd)) | (go_at_call 121; (with_reducible refine (spec_BitsOk.calls k a0_2 true _ A4.out).mono ?_); rintro e w' ⟨rfl, ⟨nd, rfl⟩⟩; (try exact zdd))); try go_wp2_with (first | ((with_reducible refine gd 1 ?_); (try (refine gate_guard (by rfl) ?_; dsimp only)); refine zbx 25 #[.string a0_0, .string a0_1, .string a0_2, .slice A0_3 l0_3.length c0_3, .int .i64 a0_4] ?_; intro gb432 hg w17 hbox hb; have BK432 := z0 (hbox); have GE432 := zG hg HB; replace HB := zH HB hb; clear hb hbox hg; have hcz18 := zc5 BK432.out) | (go_at_call 121; (with_reducible refine (spec_BitsOk.calls k a0_1 true _ A2.out).mono ?_); rintro e w' ⟨rfl, ⟨nd, rfl⟩⟩; (try exact zdd)) | (go_at_call 121; (with_reducible refine (spec_BitsOk.calls k a0_2 true _ A4.out).mono ?_); rintro e w' ⟨rfl, ⟨nd, rfl⟩⟩; (try exact zdd))))
    go_ret; exact ⟨ze, zb HB.out⟩
  ·replace c5 := Bool.eq_false_iff.mpr c5; subst c5
   have H1 : (some false) = some r := by rw [if_neg (show ¬ (false = true) by decide)] at H; exact H
   clear H; have H := H1; clear H1; obtain rfl := Option.some.inj H; go_enter Try.func93, Try.ntmps93
   go_wp2_with (first | ((with_reducible refine gd 1 ?_); (try (refine gate_guard (by rfl) ?_; dsimp only)); refine zbx 25 #[.string a0_0, .string a0_1, .string a0_2, .slice A0_3 l0_3.length c0_3, .int .i64 a0_4] ?_; intro gb432 hg w19 hbox hb; have BK432 := z0 (hbox); have GE432 := zG hg HB; replace HB := zH HB hb; clear hb hbox hg; have hcz20 := zc5 BK432.out) | (go_at_call 121; (with_reducible refine (spec_BitsOk.calls k a0_1 true _ A2.out).mono ?_); rintro e w' ⟨rfl, ⟨nd, rfl⟩⟩; (try exact zdd)) | (go_at_call 121; (with_reducible refine (spec_BitsOk.calls k a0_2 false _ A4.out).mono ?_); rintro e w' ⟨rfl, ⟨nd, rfl⟩⟩; (try exact zdd)))
   repeat (go_quiet (first | ((with_reducible refine gd 1 ?_); (try (refine gate_guard (by rfl) ?_; dsimp only)); refine zbx 25 #[.string a0_0, .string a0_1, .string a0_2, .slice A0_3 l0_3.length c0_3, .int .i64 a0_4] ?_; intro gb432 hg w19 hbox hb; have BK432 := z0 (hbox); have GE432 := zG hg HB; replace HB := zH HB hb; clear hb hbox hg; have hcz20 := zc5 BK432.out) | (go_at_call 121; (with_reducible refine (spec_BitsOk.calls k a0_1 true _ A2.out).mono ?_); rintro e w' ⟨rfl, ⟨nd, rfl⟩⟩; (try exact zdd)) | (go_at_call 121; (with_reducible refine (spec_BitsOk.calls k a0_2 false _ A4.out).mono ?_); rintro e w' ⟨rfl, ⟨nd, rfl⟩⟩; (try exact zdd))); try go_wp2_with (first | ((with_reducible refine gd 1 ?_); (try (refine gate_guard (by rfl) ?_; dsimp only)); refine zbx 25 #[.string a0_0, .string a0_1, .string a0_2, .slice A0_3 l0_3.length c0_3, .int .i64 a0_4] ?_; intro gb432 hg w19 hbox hb; have BK432 := z0 (hbox); have GE432 := zG hg HB; replace HB := zH HB hb; clear hb hbox hg; have hcz20 := zc5 BK432.out) | (go_at_call 121; (with_reducible refine (spec_BitsOk.calls k a0_1 true _ A2.out).mono ?_); rintro e w' ⟨rfl, ⟨nd, rfl⟩⟩; (try exact zdd)) | (go_at_call 121; (with_reducible refine (spec_BitsOk.calls k a0_2 false _ A4.out).mono ?_); rintro e w' ⟨rfl, ⟨nd, rfl⟩⟩; (try exact zdd))))
   go_ret; exact ⟨ze, zb HB.out⟩
 ·replace c3 := Bool.eq_false_iff.mpr c3; subst c3
  have H1 : (some false) = some r := by rw [if_neg (show ¬ (false = true) by decide)] at H; exact H
  clear H; have H := H1; clear H1; obtain rfl := Option.some.inj H; go_enter Try.func93, Try.ntmps93
  go_wp2_with (first | ((with_reducible refine gd 1 ?_); (try (refine gate_guard (by rfl) ?_; dsimp only)); refine zbx 25 #[.string a0_0, .string a0_1, .string a0_2, .slice A0_3 l0_3.length c0_3, .int .i64 a0_4] ?_; intro gb432 hg w21 hbox hb; have BK432 := z0 (hbox); have GE432 := zG hg HB; replace HB := zH HB hb; clear hb hbox hg; have hcz22 := zc5 BK432.out) | (go_at_call 121; (with_reducible refine (spec_BitsOk.calls k a0_1 false _ A2.out).mono ?_); rintro e w' ⟨rfl, ⟨nd, rfl⟩⟩; (try exact zdd)))
  repeat (go_quiet (first | ((with_reducible refine gd 1 ?_); (try (refine gate_guard (by rfl) ?_; dsimp only)); refine zbx 25 #[.string a0_0, .string a0_1, .string a0_2, .slice A0_3 l0_3.length c0_3, .int .i64 a0_4] ?_; intro gb432 hg w21 hbox hb; have BK432 := z0 (hbox); have GE432 := zG hg HB; replace HB := zH HB hb; clear hb hbox hg; have hcz22 := zc5 BK432.out) | (go_at_call 121; (with_reducible refine (spec_BitsOk.calls k a0_1 false _ A2.out).mono ?_); rintro e w' ⟨rfl, ⟨nd, rfl⟩⟩; (try exact zdd))); try go_wp2_with (first | ((with_reducible refine gd 1 ?_); (try (refine gate_guard (by rfl) ?_; dsimp only)); refine zbx 25 #[.string a0_0, .string a0_1, .string a0_2, .slice A0_3 l0_3.length c0_3, .int .i64 a0_4] ?_; intro gb432 hg w21 hbox hb; have BK432 := z0 (hbox); have GE432 := zG hg HB; replace HB := zH HB hb; clear hb hbox hg; have hcz22 := zc5 BK432.out) | (go_at_call 121; (with_reducible refine (spec_BitsOk.calls k a0_1 false _ A2.out).mono ?_); rintro e w' ⟨rfl, ⟨nd, rfl⟩⟩; (try exact zdd))))
  go_ret; exact ⟨ze, zb HB.out⟩
theorem spec_l3Sames.mono_l : ∀ k, (∀ y0 y1 y2, LeO (spec_l3Sames.l0 k y0 y1 y2) (spec_l3Sames.l0 (k + 1) y0 y1 y2))
  | 0 => fun _ _ _ r h => by simp [spec_l3Sames.l0] at h
  | k + 1 => by
    have ih0 := spec_l3Sames.mono_l k
    · intro y0 y1 y2
      unfold spec_l3Sames.l0
      repeat' first | (with_reducible first | apply ih0 | exact LeO.refl _ | exact LeO.none _ | refine LeO.ite ?_ ?_ | refine LeO.bind ?_ (fun _ => ?_)) | exact LeO.none _ | refine LeO.ite ?_ ?_ | refine LeO.bind ?_ (fun _ => ?_)
theorem spec_l3Sames.mono : ∀ a0 a1 k, LeO (spec_l3Sames.f k a0 a1) (spec_l3Sames.f (k + 1) a0 a1) := by
  intro a0 a1 k
  have ih0 := spec_l3Sames.mono_l k
  unfold spec_l3Sames.f
  repeat' first | (with_reducible first | apply ih0 | exact LeO.refl _ | exact LeO.none _ | refine LeO.ite ?_ ?_ | refine LeO.bind ?_ (fun _ => ?_)) | exact LeO.none _ | refine LeO.ite ?_ ?_ | refine LeO.bind ?_ (fun _ => ?_)
theorem spec_l3Sames.calls (k : Nat) (A0 : Option Addr) (c0 : Nat) (l0 : List ByteArray) (A1 : Option Addr) (c1 : Nat) (l1 : List ByteArray) (r : Bool) (w : World) (hr0 : Kd.C Kd.string w A0 l0.length l0) (hc0 : l0.length ≤ c0) (hr1 : Kd.C Kd.string w A1 l1.length l1) (hc1 : l1.length ≤ c1) (h : spec_l3Sames.f k l0 l1 = some r) :
    Calls Try.prog 94 #[.slice A0 l0.length c0, .slice A1 l1.length c1] w fun e w' => e = .returned (.bool r) ∧ Drawn0 w w' := by
 have HR0 := z0 hr0; have HC0 := z0 hc0; clear hr0 hc0; have HR1 := z0 hr1; have HC1 := z0 hc1; clear hr1 hc1; have H : (if (l0.length : Int) = (l1.length : Int) then (spec_l3Sames.l0 k l0 l1 0) else (some false)) = some r := h; clear h
 by_cases c3 : (l0.length : Int) = (l1.length : Int)
 ·rw [if_pos c3] at H; have c3b0 : ((l0.length : Int) == (l1.length : Int)) = true := beq_iff_eq.mpr c3; have c3b1 : ((l0.length : Int) != (l1.length : Int)) = false := bne_eq_false_iff_eq.mpr c3
  have c3b2 : (l0.length == l1.length) = true := by first | simpa using c3 | (simp at c3 ⊢; omega)
  clear c3; have H' := z0 H; clear H; go_enter Try.func94, Try.ntmps94; go_wp2
  repeat (go_quiet (fail); try go_wp2)
  go_loopg [5] k (fun kq v5 w' => ∃ (x5_1 : Int), v5 = .int .i64 x5_1 ∧ Aside0 (spec_l3Sames.l0 kq l0 l1 x5_1 = some r) ∧ Aside0 (kq ≤ k) ∧ Drawn0 w w')
  case atStart => exact ⟨(0), zf, H', ⟨Nat.le_refl _⟩, by repeat (first | exact Drawn0.refl _ | apply Drawn0.step)⟩
  case round =>
   clear H'
   try clear c1
   try clear p2
   try clear c3
   try clear c3b0
   try clear c3b1
   try clear c3b2
   obtain ⟨x5_1, rfl, HA, HK1, ⟨m1, rfl⟩⟩ := hrel
   cases gk with
   | zero => exact absurd HA.out (by simp [spec_l3Sames.l0])
   | succ k1 =>
    have H := HA.out; clear HA; simp only [spec_l3Sames.l0] at H
    by_cases c4 : x5_1 < (l0.length : Int)
    ·rw [if_pos c4] at H; have c4b0 := decide_eq_true c4; clear c4; replace H := zn H; obtain ⟨c5, H⟩ := H; have c5b0 := decide_eq_true c5; clear c5; replace H := zn H; obtain ⟨c6, H⟩ := H; have c6b0 := decide_eq_true c6; clear c6
     by_cases c7 : (rdOf ByteArray.empty l0 x5_1).toList = (rdOf ByteArray.empty l1 x5_1).toList
     ·rw [if_pos c7] at H; have c7b0 : ((rdOf ByteArray.empty l0 x5_1).toList == (rdOf ByteArray.empty l1 x5_1).toList) = true := beq_iff_eq.mpr c7; have c7b1 : ((rdOf ByteArray.empty l0 x5_1).toList != (rdOf ByteArray.empty l1 x5_1).toList) = false := bne_eq_false_iff_eq.mpr c7; clear c7; have H' := z0 H; clear H; have p437 : 0 ≤ (x5_1 : Int) := zd; have q437 : x5_1 < (l0.length : Int) := zd; obtain ⟨ad437, e437, hx437_0⟩ := Kd.at_string HR0.out x5_1 p437 q437; cases e437; replace p437 := eq_true p437; replace q437 := eq_true q437; have p438 : 0 ≤ (x5_1 : Int) := zd; have q438 : x5_1 < (l1.length : Int) := zd; obtain ⟨ad438, e438, hx438_0⟩ := Kd.at_string HR1.out x5_1 p438 q438; cases e438; replace p438 := eq_true p438; replace q438 := eq_true q438; go_wp2
      repeat (go_quiet (fail); try go_wp2)
      go_roundg k1
      case measure => have := HK1.out; omega
      case rel => exact ⟨(wrap64 (x5_1 + 1)), zf, H', ⟨by have := HK1.out; omega⟩, by repeat (first | exact Drawn0.refl _ | apply Drawn0.step)⟩
     ·rw [if_neg c7] at H; have c7b0 : ((rdOf ByteArray.empty l0 x5_1).toList == (rdOf ByteArray.empty l1 x5_1).toList) = false := beq_eq_false_iff_ne.mpr c7; have c7b1 : ((rdOf ByteArray.empty l0 x5_1).toList != (rdOf ByteArray.empty l1 x5_1).toList) = true := bne_iff_ne.mpr c7; obtain rfl := Option.some.inj H; have p437 : 0 ≤ (x5_1 : Int) := zd; have q437 : x5_1 < (l0.length : Int) := zd; obtain ⟨ad437, e437, hx437_0⟩ := Kd.at_string HR0.out x5_1 p437 q437; cases e437; replace p437 := eq_true p437; replace q437 := eq_true q437; have p438 : 0 ≤ (x5_1 : Int) := zd; have q438 : x5_1 < (l1.length : Int) := zd; obtain ⟨ad438, e438, hx438_0⟩ := Kd.at_string HR1.out x5_1 p438 q438; cases e438; replace p438 := eq_true p438; replace q438 := eq_true q438; go_wp2
      repeat (go_quiet (fail); try go_wp2)
      go_ret; exact ⟨zf, by repeat (first | exact Drawn0.refl _ | apply Drawn0.step)⟩
    ·rw [if_neg c4] at H; have c4b0 := decide_eq_false c4; clear c4; obtain rfl := Option.some.inj H; go_wp2
     repeat (go_quiet (fail); try go_wp2)
     go_ret; exact ⟨zf, by repeat (first | exact Drawn0.refl _ | apply Drawn0.step)⟩
 ·rw [if_neg c3] at H; have c3b0 : ((l0.length : Int) == (l1.length : Int)) = false := beq_eq_false_iff_ne.mpr c3; have c3b1 : ((l0.length : Int) != (l1.length : Int)) = true := bne_iff_ne.mpr c3
  have c3b2 : (l0.length == l1.length) = false := by first | simpa using c3 | (simp at c3 ⊢; omega)
  obtain rfl := Option.some.inj H; go_enter Try.func94, Try.ntmps94; go_wp2
  repeat (go_quiet (fail); try go_wp2)
  go_ret; exact ⟨zf, by repeat (first | exact Drawn0.refl _ | apply Drawn0.step)⟩
theorem spec_SieveOk.mono : ∀ a0 a1 a2 a3 a4 k, LeO (spec_SieveOk.f k a0 a1 a2 a3 a4) (spec_SieveOk.f (k + 1) a0 a1 a2 a3 a4) := by
  intro a0 a1 a2 a3 a4 k
  unfold spec_SieveOk.f
  repeat' first | (with_reducible first | apply spec_SieveOf.mono | apply spec_l3Form.mono | apply spec_l3Heads.mono | apply spec_l3Sames.mono | exact LeO.refl _ | exact LeO.none _ | refine LeO.ite ?_ ?_ | refine LeO.bind ?_ (fun _ => ?_)) | exact LeO.none _ | refine LeO.ite ?_ ?_ | refine LeO.bind ?_ (fun _ => ?_)
theorem spec_SieveOk.calls (k : Nat) (a0_0 a0_1 a0_2 : ByteArray) (A0_3 : Option Addr) (c0_3 : Nat) (l0_3 : List ByteArray) (a0_4 : Int) (r : Bool) (w : World) (hr0_3 : Kd.C Kd.string w A0_3 l0_3.length l0_3) (hc0_3 : l0_3.length ≤ c0_3) (h : spec_SieveOk.f k a0_0 a0_1 a0_2 l0_3 a0_4 = some r) :
    Calls Try.prog 46 #[.agg #[.string a0_0, .string a0_1, .string a0_2, .slice A0_3 l0_3.length c0_3, .int .i64 a0_4]] w fun e w' => e = .returned (.bool r) ∧ Below w.heap.size w w' := by
 have hu25 := Try.underlying25; have HR0_3 := z0 hr0_3; have HC0_3 := z0 hc0_3; clear hr0_3 hc0_3; have HB := z0 (Below.refl w.heap.size w); have H : ((spec_l3Form.f k a0_0 a0_1 a0_2 l0_3 a0_4).bind fun t440 => (if t440 = true then ((spec_l3Heads.f k a0_0 a0_1 a0_2 l0_3 a0_4).bind fun t441 => ((spec_SieveOf.f k t441 a0_4).bind fun bt444 => (if bt444.2.2.2.2.2 = true then (if bt444.1.toList = a0_0.toList then (if bt444.2.1.toList = a0_1.toList then (if bt444.2.2.1.toList = a0_2.toList then ((spec_l3Sames.f k bt444.2.2.2.1 l0_3).bind fun t453 => (some t453)) else (some false)) else (some false)) else (some false)) else (some false)))) else (some false))) = some r := h; clear h; replace H := zi H; obtain ⟨t440, A2, H⟩ := H
 by_cases c3 : t440 = true
 ·subst c3
  have H1 : ((spec_l3Heads.f k a0_0 a0_1 a0_2 l0_3 a0_4).bind fun t441 => ((spec_SieveOf.f k t441 a0_4).bind fun bt444 => (if bt444.2.2.2.2.2 = true then (if bt444.1.toList = a0_0.toList then (if bt444.2.1.toList = a0_1.toList then (if bt444.2.2.1.toList = a0_2.toList then ((spec_l3Sames.f k bt444.2.2.2.1 l0_3).bind fun t453 => (some t453)) else (some false)) else (some false)) else (some false)) else (some false)))) = some r := by rw [if_pos rfl] at H; exact H
  clear H; have H := H1; clear H1; replace H := zi H; obtain ⟨t441, A4, H⟩ := H; replace H := zi H; obtain ⟨⟨t444, t445, t446, t447, t450, t451⟩, A5, H⟩ := H; (try dsimp only at H)
  by_cases c6 : t451 = true
  ·subst c6
   have H1 : (if t444.toList = a0_0.toList then (if t445.toList = a0_1.toList then (if t446.toList = a0_2.toList then ((spec_l3Sames.f k t447 l0_3).bind fun t453 => (some t453)) else (some false)) else (some false)) else (some false)) = some r := by rw [if_pos rfl] at H; exact H
   clear H; have H := H1; clear H1
   by_cases c7 : t444.toList = a0_0.toList
   ·rw [if_pos c7] at H; have c7b0 : (t444.toList == a0_0.toList) = true := beq_iff_eq.mpr c7; have c7b1 : (t444.toList != a0_0.toList) = false := bne_eq_false_iff_eq.mpr c7; clear c7
    by_cases c8 : t445.toList = a0_1.toList
    ·rw [if_pos c8] at H; have c8b0 : (t445.toList == a0_1.toList) = true := beq_iff_eq.mpr c8; have c8b1 : (t445.toList != a0_1.toList) = false := bne_eq_false_iff_eq.mpr c8; clear c8
     by_cases c9 : t446.toList = a0_2.toList
     ·rw [if_pos c9] at H; have c9b0 : (t446.toList == a0_2.toList) = true := beq_iff_eq.mpr c9; have c9b1 : (t446.toList != a0_2.toList) = false := bne_eq_false_iff_eq.mpr c9; clear c9; replace H := zi H; obtain ⟨t453, A10, H⟩ := H; obtain rfl := Option.some.inj H; go_enter Try.func46, Try.ntmps46
      go_wp2_with (first | ((with_reducible refine gd 1 ?_); refine zbx 25 #[.string a0_0, .string a0_1, .string a0_2, .slice A0_3 l0_3.length c0_3, .int .i64 a0_4] ?_; intro gb439 hg w11 hbox hb; have BK439 := z0 (hbox); have GE439 := zG hg HB; replace HB := zH HB hb; clear hb hbox hg; have hcz12 := zc5 BK439.out) | ((with_reducible refine gc 93 ?_); refine zL (some 7) Try.func93 #[.agg #[.string a0_0, .string a0_1, .string a0_2, .slice A0_3 l0_3.length c0_3, .int .i64 a0_4]] ?_; (with_reducible refine (spec_l3Form.calls k a0_0 a0_1 a0_2 _ _ l0_3 a0_4 true _ (zC (Kd.C_below HR0_3.out HB.out)) HC0_3.out A2.out).mono ?_); rintro e w13 ⟨rfl, hb⟩; refine zv ?_; replace BK439 := zK BK439 hb; replace HB := zH HB hb; (try clear hb); have hcz14 := zc5 BK439.out) | ((with_reducible refine gc 82 ?_); refine zL (some 10) Try.func82 #[.agg #[.string a0_0, .string a0_1, .string a0_2, .slice A0_3 l0_3.length c0_3, .int .i64 a0_4]] ?_; (with_reducible refine (spec_l3Heads.calls k a0_0 a0_1 a0_2 _ _ l0_3 a0_4 t441 _ (zC (Kd.C_below HR0_3.out HB.out)) HC0_3.out A4.out).mono ?_); rintro e w15 ⟨v442, rfl, ho0, hb⟩; refine zv ?_; have HO443 := z0 (Kd.R_lower ho0 (below_size (zb HB.out))); replace BK439 := zK BK439 hb; replace HB := zH HB hb; (try clear hb ho0); have hcz16 := zc5 BK439.out; obtain ⟨Ao17, co17, eo17⟩ := Kd.R_slice HO443.out; subst eo17) | ((with_reducible refine gc 36 ?_); refine zL (some 15) Try.func36 #[.slice Ao17 t441.length co17, .int .i64 a0_4] ?_; (with_reducible refine (spec_SieveOf.calls k (fun k_ => some k_ = (.slice Ao17 t441.length co17 : Value).ownBlock) _ _ t441 a0_4 t444 t445 t446 t447 t450 true _ (Kd.R_V (Kd.R_tight rfl (Kd.R_types (HO443.out) BK439.out (by decide)))) A5.out).mono ?_); rintro e w18 ⟨v448, rfl, ho0, hb⟩; refine zv ?_; have HO449 := z0 (Kd.R_lower (Kd.R_new' (Kd.R_mono (ok' := fun k_ => True) ho0 (fun _ hk_ => trivial)) (Kd.R_lt (zr HO443.out))) (below_size (zb HB.out))); replace HO443 := z0 (Kd.R_elder' (zr HO443.out) (Kd.R_base ho0) hb); replace BK439 := zK BK439 hb; replace HB := zH HB hb; (try clear hb ho0)) | ((with_reducible refine gd 4 ?_); refine zbx 25 #[.string ⟨#[]⟩, .string ⟨#[]⟩, .string ⟨#[]⟩, .slice none 0 0, .int .i64 0] ?_; intro gb452 hg w19 hbox hb; replace HO443 := zA HO443 hb; replace HO449 := zA HO449 hb; have BK452 := z0 (hbox); have GE452 := zG hg HB; replace HB := zH HB hb; have NB439_452 := zLt hg BK439; have NB452_439 := zGt hg BK439; replace BK439 := zK BK439 hb; clear hb hbox hg; have hnb20 := NB452_439.out; have hnc20 := NB439_452.out; have hcz21 := zc5 BK452.out; obtain ⟨Ao22, co22, eo22⟩ := Kd.R_slice HO449.out; subst eo22; have hcz23 := zc5 BK439.out) | (go_at_call 94; (with_reducible refine (spec_l3Sames.calls k _ _ t447 _ _ l0_3 t453 _ ?side1 ?side2 ?side3 ?side4 A10.out).mono ?_); (case side1 => refine (Kd.R_reads' (e := 9) (base := w.heap.size) (ok := fun k_ => (True ∧ some k_ ≠ (.slice Ao17 t441.length co17 : Value).ownBlock)) (n := t447.length) (c := co22) ?_).2.2; exact (zs HO449.out BK452.out)); (case side2 => exact (Kd.R_reads' HO449.out).2.1); (case side3 => exact Kd.C_below HR0_3.out (zb HB.out)); (case side4 => exact HC0_3.out); rintro e w' ⟨rfl, ⟨nd, rfl⟩⟩))
      go_ret; exact ⟨ze, zb HB.out⟩
     ·rw [if_neg c9] at H; have c9b0 : (t446.toList == a0_2.toList) = false := beq_eq_false_iff_ne.mpr c9; have c9b1 : (t446.toList != a0_2.toList) = true := bne_iff_ne.mpr c9; obtain rfl := Option.some.inj H; go_enter Try.func46, Try.ntmps46
      go_wp2_with (first | ((with_reducible refine gd 1 ?_); refine zbx 25 #[.string a0_0, .string a0_1, .string a0_2, .slice A0_3 l0_3.length c0_3, .int .i64 a0_4] ?_; intro gb439 hg w24 hbox hb; have BK439 := z0 (hbox); have GE439 := zG hg HB; replace HB := zH HB hb; clear hb hbox hg; have hcz25 := zc5 BK439.out) | ((with_reducible refine gc 93 ?_); refine zL (some 7) Try.func93 #[.agg #[.string a0_0, .string a0_1, .string a0_2, .slice A0_3 l0_3.length c0_3, .int .i64 a0_4]] ?_; (with_reducible refine (spec_l3Form.calls k a0_0 a0_1 a0_2 _ _ l0_3 a0_4 true _ (zC (Kd.C_below HR0_3.out HB.out)) HC0_3.out A2.out).mono ?_); rintro e w26 ⟨rfl, hb⟩; refine zv ?_; replace BK439 := zK BK439 hb; replace HB := zH HB hb; (try clear hb); have hcz27 := zc5 BK439.out) | ((with_reducible refine gc 82 ?_); refine zL (some 10) Try.func82 #[.agg #[.string a0_0, .string a0_1, .string a0_2, .slice A0_3 l0_3.length c0_3, .int .i64 a0_4]] ?_; (with_reducible refine (spec_l3Heads.calls k a0_0 a0_1 a0_2 _ _ l0_3 a0_4 t441 _ (zC (Kd.C_below HR0_3.out HB.out)) HC0_3.out A4.out).mono ?_); rintro e w28 ⟨v442, rfl, ho0, hb⟩; refine zv ?_; have HO443 := z0 (Kd.R_lower ho0 (below_size (zb HB.out))); replace BK439 := zK BK439 hb; replace HB := zH HB hb; (try clear hb ho0); have hcz29 := zc5 BK439.out; obtain ⟨Ao30, co30, eo30⟩ := Kd.R_slice HO443.out; subst eo30) | ((with_reducible refine gc 36 ?_); refine zL (some 15) Try.func36 #[.slice Ao30 t441.length co30, .int .i64 a0_4] ?_; (with_reducible refine (spec_SieveOf.calls k (fun k_ => some k_ = (.slice Ao30 t441.length co30 : Value).ownBlock) _ _ t441 a0_4 t444 t445 t446 t447 t450 true _ (Kd.R_V (Kd.R_tight rfl (Kd.R_types (HO443.out) BK439.out (by decide)))) A5.out).mono ?_); rintro e w31 ⟨v448, rfl, ho0, hb⟩; refine zv ?_; have HO449 := z0 (Kd.R_lower (Kd.R_new' (Kd.R_mono (ok' := fun k_ => True) ho0 (fun _ hk_ => trivial)) (Kd.R_lt (zr HO443.out))) (below_size (zb HB.out))); replace HO443 := z0 (Kd.R_elder' (zr HO443.out) (Kd.R_base ho0) hb); replace BK439 := zK BK439 hb; replace HB := zH HB hb; (try clear hb ho0)) | ((with_reducible refine gd 4 ?_); refine zbx 25 #[.string ⟨#[]⟩, .string ⟨#[]⟩, .string ⟨#[]⟩, .slice none 0 0, .int .i64 0] ?_; intro gb452 hg w32 hbox hb; replace HO443 := zA HO443 hb; replace HO449 := zA HO449 hb; have BK452 := z0 (hbox); have GE452 := zG hg HB; replace HB := zH HB hb; have NB439_452 := zLt hg BK439; have NB452_439 := zGt hg BK439; replace BK439 := zK BK439 hb; clear hb hbox hg; have hnb33 := NB452_439.out; have hnc33 := NB439_452.out; have hcz34 := zc5 BK452.out; obtain ⟨Ao35, co35, eo35⟩ := Kd.R_slice HO449.out; subst eo35; have hcz36 := zc5 BK439.out))
      go_ret; exact ⟨ze, zb HB.out⟩
    ·rw [if_neg c8] at H; have c8b0 : (t445.toList == a0_1.toList) = false := beq_eq_false_iff_ne.mpr c8; have c8b1 : (t445.toList != a0_1.toList) = true := bne_iff_ne.mpr c8; obtain rfl := Option.some.inj H; go_enter Try.func46, Try.ntmps46
     go_wp2_with (first | ((with_reducible refine gd 1 ?_); refine zbx 25 #[.string a0_0, .string a0_1, .string a0_2, .slice A0_3 l0_3.length c0_3, .int .i64 a0_4] ?_; intro gb439 hg w37 hbox hb; have BK439 := z0 (hbox); have GE439 := zG hg HB; replace HB := zH HB hb; clear hb hbox hg; have hcz38 := zc5 BK439.out) | ((with_reducible refine gc 93 ?_); refine zL (some 7) Try.func93 #[.agg #[.string a0_0, .string a0_1, .string a0_2, .slice A0_3 l0_3.length c0_3, .int .i64 a0_4]] ?_; (with_reducible refine (spec_l3Form.calls k a0_0 a0_1 a0_2 _ _ l0_3 a0_4 true _ (zC (Kd.C_below HR0_3.out HB.out)) HC0_3.out A2.out).mono ?_); rintro e w39 ⟨rfl, hb⟩; refine zv ?_; replace BK439 := zK BK439 hb; replace HB := zH HB hb; (try clear hb); have hcz40 := zc5 BK439.out) | ((with_reducible refine gc 82 ?_); refine zL (some 10) Try.func82 #[.agg #[.string a0_0, .string a0_1, .string a0_2, .slice A0_3 l0_3.length c0_3, .int .i64 a0_4]] ?_; (with_reducible refine (spec_l3Heads.calls k a0_0 a0_1 a0_2 _ _ l0_3 a0_4 t441 _ (zC (Kd.C_below HR0_3.out HB.out)) HC0_3.out A4.out).mono ?_); rintro e w41 ⟨v442, rfl, ho0, hb⟩; refine zv ?_; have HO443 := z0 (Kd.R_lower ho0 (below_size (zb HB.out))); replace BK439 := zK BK439 hb; replace HB := zH HB hb; (try clear hb ho0); have hcz42 := zc5 BK439.out; obtain ⟨Ao43, co43, eo43⟩ := Kd.R_slice HO443.out; subst eo43) | ((with_reducible refine gc 36 ?_); refine zL (some 15) Try.func36 #[.slice Ao43 t441.length co43, .int .i64 a0_4] ?_; (with_reducible refine (spec_SieveOf.calls k (fun k_ => some k_ = (.slice Ao43 t441.length co43 : Value).ownBlock) _ _ t441 a0_4 t444 t445 t446 t447 t450 true _ (Kd.R_V (Kd.R_tight rfl (Kd.R_types (HO443.out) BK439.out (by decide)))) A5.out).mono ?_); rintro e w44 ⟨v448, rfl, ho0, hb⟩; refine zv ?_; have HO449 := z0 (Kd.R_lower (Kd.R_new' (Kd.R_mono (ok' := fun k_ => True) ho0 (fun _ hk_ => trivial)) (Kd.R_lt (zr HO443.out))) (below_size (zb HB.out))); replace HO443 := z0 (Kd.R_elder' (zr HO443.out) (Kd.R_base ho0) hb); replace BK439 := zK BK439 hb; replace HB := zH HB hb; (try clear hb ho0)) | ((with_reducible refine gd 4 ?_); refine zbx 25 #[.string ⟨#[]⟩, .string ⟨#[]⟩, .string ⟨#[]⟩, .slice none 0 0, .int .i64 0] ?_; intro gb452 hg w45 hbox hb; replace HO443 := zA HO443 hb; replace HO449 := zA HO449 hb; have BK452 := z0 (hbox); have GE452 := zG hg HB; replace HB := zH HB hb; have NB439_452 := zLt hg BK439; have NB452_439 := zGt hg BK439; replace BK439 := zK BK439 hb; clear hb hbox hg; have hnb46 := NB452_439.out; have hnc46 := NB439_452.out; have hcz47 := zc5 BK452.out; obtain ⟨Ao48, co48, eo48⟩ := Kd.R_slice HO449.out; subst eo48; have hcz49 := zc5 BK439.out))
     go_ret; exact ⟨ze, zb HB.out⟩
   ·rw [if_neg c7] at H; have c7b0 : (t444.toList == a0_0.toList) = false := beq_eq_false_iff_ne.mpr c7; have c7b1 : (t444.toList != a0_0.toList) = true := bne_iff_ne.mpr c7; obtain rfl := Option.some.inj H; go_enter Try.func46, Try.ntmps46
    go_wp2_with (first | ((with_reducible refine gd 1 ?_); refine zbx 25 #[.string a0_0, .string a0_1, .string a0_2, .slice A0_3 l0_3.length c0_3, .int .i64 a0_4] ?_; intro gb439 hg w50 hbox hb; have BK439 := z0 (hbox); have GE439 := zG hg HB; replace HB := zH HB hb; clear hb hbox hg; have hcz51 := zc5 BK439.out) | ((with_reducible refine gc 93 ?_); refine zL (some 7) Try.func93 #[.agg #[.string a0_0, .string a0_1, .string a0_2, .slice A0_3 l0_3.length c0_3, .int .i64 a0_4]] ?_; (with_reducible refine (spec_l3Form.calls k a0_0 a0_1 a0_2 _ _ l0_3 a0_4 true _ (zC (Kd.C_below HR0_3.out HB.out)) HC0_3.out A2.out).mono ?_); rintro e w52 ⟨rfl, hb⟩; refine zv ?_; replace BK439 := zK BK439 hb; replace HB := zH HB hb; (try clear hb); have hcz53 := zc5 BK439.out) | ((with_reducible refine gc 82 ?_); refine zL (some 10) Try.func82 #[.agg #[.string a0_0, .string a0_1, .string a0_2, .slice A0_3 l0_3.length c0_3, .int .i64 a0_4]] ?_; (with_reducible refine (spec_l3Heads.calls k a0_0 a0_1 a0_2 _ _ l0_3 a0_4 t441 _ (zC (Kd.C_below HR0_3.out HB.out)) HC0_3.out A4.out).mono ?_); rintro e w54 ⟨v442, rfl, ho0, hb⟩; refine zv ?_; have HO443 := z0 (Kd.R_lower ho0 (below_size (zb HB.out))); replace BK439 := zK BK439 hb; replace HB := zH HB hb; (try clear hb ho0); have hcz55 := zc5 BK439.out; obtain ⟨Ao56, co56, eo56⟩ := Kd.R_slice HO443.out; subst eo56) | ((with_reducible refine gc 36 ?_); refine zL (some 15) Try.func36 #[.slice Ao56 t441.length co56, .int .i64 a0_4] ?_; (with_reducible refine (spec_SieveOf.calls k (fun k_ => some k_ = (.slice Ao56 t441.length co56 : Value).ownBlock) _ _ t441 a0_4 t444 t445 t446 t447 t450 true _ (Kd.R_V (Kd.R_tight rfl (Kd.R_types (HO443.out) BK439.out (by decide)))) A5.out).mono ?_); rintro e w57 ⟨v448, rfl, ho0, hb⟩; refine zv ?_; have HO449 := z0 (Kd.R_lower (Kd.R_new' (Kd.R_mono (ok' := fun k_ => True) ho0 (fun _ hk_ => trivial)) (Kd.R_lt (zr HO443.out))) (below_size (zb HB.out))); replace HO443 := z0 (Kd.R_elder' (zr HO443.out) (Kd.R_base ho0) hb); replace BK439 := zK BK439 hb; replace HB := zH HB hb; (try clear hb ho0)) | ((with_reducible refine gd 4 ?_); refine zbx 25 #[.string ⟨#[]⟩, .string ⟨#[]⟩, .string ⟨#[]⟩, .slice none 0 0, .int .i64 0] ?_; intro gb452 hg w58 hbox hb; replace HO443 := zA HO443 hb; replace HO449 := zA HO449 hb; have BK452 := z0 (hbox); have GE452 := zG hg HB; replace HB := zH HB hb; have NB439_452 := zLt hg BK439; have NB452_439 := zGt hg BK439; replace BK439 := zK BK439 hb; clear hb hbox hg; have hnb59 := NB452_439.out; have hnc59 := NB439_452.out; have hcz60 := zc5 BK452.out; obtain ⟨Ao61, co61, eo61⟩ := Kd.R_slice HO449.out; subst eo61; have hcz62 := zc5 BK439.out))
    go_ret; exact ⟨ze, zb HB.out⟩
  ·replace c6 := Bool.eq_false_iff.mpr c6; subst c6
   have H1 : (some false) = some r := by rw [if_neg (show ¬ (false = true) by decide)] at H; exact H
   clear H; have H := H1; clear H1; obtain rfl := Option.some.inj H; go_enter Try.func46, Try.ntmps46
   go_wp2_with (first | ((with_reducible refine gd 1 ?_); refine zbx 25 #[.string a0_0, .string a0_1, .string a0_2, .slice A0_3 l0_3.length c0_3, .int .i64 a0_4] ?_; intro gb439 hg w63 hbox hb; have BK439 := z0 (hbox); have GE439 := zG hg HB; replace HB := zH HB hb; clear hb hbox hg; have hcz64 := zc5 BK439.out) | ((with_reducible refine gc 93 ?_); refine zL (some 7) Try.func93 #[.agg #[.string a0_0, .string a0_1, .string a0_2, .slice A0_3 l0_3.length c0_3, .int .i64 a0_4]] ?_; (with_reducible refine (spec_l3Form.calls k a0_0 a0_1 a0_2 _ _ l0_3 a0_4 true _ (zC (Kd.C_below HR0_3.out HB.out)) HC0_3.out A2.out).mono ?_); rintro e w65 ⟨rfl, hb⟩; refine zv ?_; replace BK439 := zK BK439 hb; replace HB := zH HB hb; (try clear hb); have hcz66 := zc5 BK439.out) | ((with_reducible refine gc 82 ?_); refine zL (some 10) Try.func82 #[.agg #[.string a0_0, .string a0_1, .string a0_2, .slice A0_3 l0_3.length c0_3, .int .i64 a0_4]] ?_; (with_reducible refine (spec_l3Heads.calls k a0_0 a0_1 a0_2 _ _ l0_3 a0_4 t441 _ (zC (Kd.C_below HR0_3.out HB.out)) HC0_3.out A4.out).mono ?_); rintro e w67 ⟨v442, rfl, ho0, hb⟩; refine zv ?_; have HO443 := z0 (Kd.R_lower ho0 (below_size (zb HB.out))); replace BK439 := zK BK439 hb; replace HB := zH HB hb; (try clear hb ho0); have hcz68 := zc5 BK439.out; obtain ⟨Ao69, co69, eo69⟩ := Kd.R_slice HO443.out; subst eo69) | ((with_reducible refine gc 36 ?_); refine zL (some 15) Try.func36 #[.slice Ao69 t441.length co69, .int .i64 a0_4] ?_; (with_reducible refine (spec_SieveOf.calls k (fun k_ => some k_ = (.slice Ao69 t441.length co69 : Value).ownBlock) _ _ t441 a0_4 t444 t445 t446 t447 t450 false _ (Kd.R_V (Kd.R_tight rfl (Kd.R_types (HO443.out) BK439.out (by decide)))) A5.out).mono ?_); rintro e w70 ⟨v448, rfl, ho0, hb⟩; refine zv ?_; have HO449 := z0 (Kd.R_lower (Kd.R_new' (Kd.R_mono (ok' := fun k_ => True) ho0 (fun _ hk_ => trivial)) (Kd.R_lt (zr HO443.out))) (below_size (zb HB.out))); replace HO443 := z0 (Kd.R_elder' (zr HO443.out) (Kd.R_base ho0) hb); replace BK439 := zK BK439 hb; replace HB := zH HB hb; (try clear hb ho0)) | ((with_reducible refine gd 4 ?_); refine zbx 25 #[.string ⟨#[]⟩, .string ⟨#[]⟩, .string ⟨#[]⟩, .slice none 0 0, .int .i64 0] ?_; intro gb452 hg w71 hbox hb; replace HO443 := zA HO443 hb; replace HO449 := zA HO449 hb; have BK452 := z0 (hbox); have GE452 := zG hg HB; replace HB := zH HB hb; have NB439_452 := zLt hg BK439; have NB452_439 := zGt hg BK439; replace BK439 := zK BK439 hb; clear hb hbox hg; have hnb72 := NB452_439.out; have hnc72 := NB439_452.out; have hcz73 := zc5 BK452.out; obtain ⟨Ao74, co74, eo74⟩ := Kd.R_slice HO449.out; subst eo74))
   go_ret; exact ⟨ze, zb HB.out⟩
 ·replace c3 := Bool.eq_false_iff.mpr c3; subst c3
  have H1 : (some false) = some r := by rw [if_neg (show ¬ (false = true) by decide)] at H; exact H
  clear H; have H := H1; clear H1; obtain rfl := Option.some.inj H; go_enter Try.func46, Try.ntmps46
  go_wp2_with (first | ((with_reducible refine gd 1 ?_); refine zbx 25 #[.string a0_0, .string a0_1, .string a0_2, .slice A0_3 l0_3.length c0_3, .int .i64 a0_4] ?_; intro gb439 hg w75 hbox hb; have BK439 := z0 (hbox); have GE439 := zG hg HB; replace HB := zH HB hb; clear hb hbox hg; have hcz76 := zc5 BK439.out) | ((with_reducible refine gc 93 ?_); refine zL (some 7) Try.func93 #[.agg #[.string a0_0, .string a0_1, .string a0_2, .slice A0_3 l0_3.length c0_3, .int .i64 a0_4]] ?_; (with_reducible refine (spec_l3Form.calls k a0_0 a0_1 a0_2 _ _ l0_3 a0_4 false _ (zC (Kd.C_below HR0_3.out HB.out)) HC0_3.out A2.out).mono ?_); rintro e w77 ⟨rfl, hb⟩; refine zv ?_; replace BK439 := zK BK439 hb; replace HB := zH HB hb; (try clear hb)))
  go_ret; exact ⟨ze, zb HB.out⟩
theorem spec_SieveHeads.mono : ∀ a0 a1 a2 a3 a4 k, LeO (spec_SieveHeads.f k a0 a1 a2 a3 a4) (spec_SieveHeads.f (k + 1) a0 a1 a2 a3 a4) := by
  intro a0 a1 a2 a3 a4 k
  unfold spec_SieveHeads.f
  repeat' first | (with_reducible first | apply spec_SieveOk.mono | apply spec_l3Heads.mono | exact LeO.refl _ | exact LeO.none _ | refine LeO.ite ?_ ?_ | refine LeO.bind ?_ (fun _ => ?_)) | exact LeO.none _ | refine LeO.ite ?_ ?_ | refine LeO.bind ?_ (fun _ => ?_)
theorem spec_SieveHeads.calls (k : Nat) (a0_0 a0_1 a0_2 : ByteArray) (A0_3 : Option Addr) (c0_3 : Nat) (l0_3 : List ByteArray) (a0_4 : Int) (r : List ByteArray) (w : World) (hr0_3 : Kd.C Kd.string w A0_3 l0_3.length l0_3) (hc0_3 : l0_3.length ≤ c0_3) (h : spec_SieveHeads.f k a0_0 a0_1 a0_2 l0_3 a0_4 = some r) :
    Calls Try.prog 53 #[.agg #[.string a0_0, .string a0_1, .string a0_2, .slice A0_3 l0_3.length c0_3, .int .i64 a0_4]] w fun e w' => ∃ v0_ : Value, e = .returned (v0_) ∧ Kd.R Kd.string 9 w' w.heap.size (fun _ => True) v0_ r ∧ Below w.heap.size w w' := by
 have hu25 := Try.underlying25; have HR0_3 := z0 hr0_3; have HC0_3 := z0 hc0_3; clear hr0_3 hc0_3; have HB := z0 (Below.refl w.heap.size w); have H : ((spec_SieveOk.f k a0_0 a0_1 a0_2 l0_3 a0_4).bind fun t1196 => (if t1196 = true then ((spec_l3Heads.f k a0_0 a0_1 a0_2 l0_3 a0_4).bind fun t1197 => (some t1197)) else (some (([] : List ByteArray))))) = some r := h; clear h; replace H := zi H; obtain ⟨t1196, A2, H⟩ := H
 by_cases c3 : t1196 = true
 ·subst c3
  have H1 : ((spec_l3Heads.f k a0_0 a0_1 a0_2 l0_3 a0_4).bind fun t1197 => (some t1197)) = some r := by rw [if_pos rfl] at H; exact H
  clear H; have H := H1; clear H1; replace H := zi H; obtain ⟨t1197, A4, H⟩ := H; obtain rfl := Option.some.inj H; go_enter Try.func53, Try.ntmps53
  go_wp2_with (first | ((with_reducible refine gd 1 ?_); refine zbx 25 #[.string a0_0, .string a0_1, .string a0_2, .slice A0_3 l0_3.length c0_3, .int .i64 a0_4] ?_; intro gb1195 hg w5 hbox hb; have BK1195 := z0 (hbox); have GE1195 := zG hg HB; replace HB := zH HB hb; clear hb hbox hg; have hcz6 := zc5 BK1195.out) | ((with_reducible refine gc 46 ?_); refine zL (some 4) Try.func46 #[.agg #[.string a0_0, .string a0_1, .string a0_2, .slice A0_3 l0_3.length c0_3, .int .i64 a0_4]] ?_; (with_reducible refine (spec_SieveOk.calls k a0_0 a0_1 a0_2 _ _ l0_3 a0_4 true _ (zC (Kd.C_below HR0_3.out HB.out)) HC0_3.out A2.out).mono ?_); rintro e w7 ⟨rfl, hb⟩; refine zv ?_; replace BK1195 := zK BK1195 hb; replace HB := zH HB hb; (try clear hb); have hcz8 := zc5 BK1195.out) | ((with_reducible refine gc 82 ?_); refine zL (some 8) Try.func82 #[.agg #[.string a0_0, .string a0_1, .string a0_2, .slice A0_3 l0_3.length c0_3, .int .i64 a0_4]] ?_; (with_reducible refine (spec_l3Heads.calls k a0_0 a0_1 a0_2 _ _ l0_3 a0_4 t1197 _ (zC (Kd.C_below HR0_3.out HB.out)) HC0_3.out A4.out).mono ?_); rintro e w9 ⟨v1198, rfl, ho0, hb⟩; refine zv ?_; have HO1199 := z0 (Kd.R_lower ho0 (below_size (zb HB.out))); replace BK1195 := zK BK1195 hb; replace HB := zH HB hb; (try clear hb ho0)))
  go_ret; exact ⟨_, ze, zr HO1199.out, zb HB.out⟩
 ·replace c3 := Bool.eq_false_iff.mpr c3; subst c3
  have H1 : (some (([] : List ByteArray))) = some r := by rw [if_neg (show ¬ (false = true) by decide)] at H; exact H
  clear H; have H := H1; clear H1; obtain ⟨y1200, hy1200⟩ : ∃ y_ : List ByteArray, y_ = (([] : List ByteArray)) := ⟨_, rfl⟩; replace H : (some y1200) = some r := zH2 hy1200 H; have Ny1200 := z0 hy1200; clear hy1200; obtain rfl := Option.some.inj H; go_enter Try.func53, Try.ntmps53
  go_wp2_with (first | ((with_reducible refine gd 1 ?_); refine zbx 25 #[.string a0_0, .string a0_1, .string a0_2, .slice A0_3 l0_3.length c0_3, .int .i64 a0_4] ?_; intro gb1195 hg w10 hbox hb; have BK1195 := z0 (hbox); have GE1195 := zG hg HB; replace HB := zH HB hb; clear hb hbox hg; have hcz11 := zc5 BK1195.out) | ((with_reducible refine gc 46 ?_); refine zL (some 4) Try.func46 #[.agg #[.string a0_0, .string a0_1, .string a0_2, .slice A0_3 l0_3.length c0_3, .int .i64 a0_4]] ?_; (with_reducible refine (spec_SieveOk.calls k a0_0 a0_1 a0_2 _ _ l0_3 a0_4 false _ (zC (Kd.C_below HR0_3.out HB.out)) HC0_3.out A2.out).mono ?_); rintro e w12 ⟨rfl, hb⟩; refine zv ?_; replace BK1195 := zK BK1195 hb; replace HB := zH HB hb; (try clear hb)) | ((with_reducible refine gd 6 ?_); refine Kd.R_lit Kd.string _ 9 ?hg (N := 6) ?hd (xs := ([] : List ByteArray)) (inner := []) (ok := fun _ => True) (okp := fun _ => True) ?hr ?hp (fun _ hk => hk) trivial (Below.refl _ _) (Nat.le_refl _) (by simp) ?_; (case hd => rfl); (case hg => rfl); (case hr => first | (go_simp; done) | (go_simp; rfl)); (case hp => exact (Reps.none _ _)); intro v1201 w13 ho14 hb hg_ hnew_; clear hg_ hnew_; (first | rw [← Ny1200.out] at ho14 | (simp only [Int.reduceToNat] at ho14; rw [← Ny1200.out] at ho14)); have HO1202 := z0 (Kd.R_lower ho14 (below_size (zb HB.out))); replace BK1195 := zK BK1195 hb; replace HB := zH HB hb; clear hb ho14))
  go_ret; exact ⟨_, ze, zr HO1202.out, zb HB.out⟩
theorem laws_markText.mono_l : ∀ k, (∀ y0 y1, LeO (laws_markText.l0 k y0 y1) (laws_markText.l0 (k + 1) y0 y1))
  | 0 => fun _ _ r h => by simp [laws_markText.l0] at h
  | k + 1 => by
    have ih0 := laws_markText.mono_l k
    · intro y0 y1
      unfold laws_markText.l0
      repeat' first | (with_reducible first | apply ih0 | exact LeO.refl _ | exact LeO.none _ | refine LeO.ite ?_ ?_ | refine LeO.bind ?_ (fun _ => ?_)) | exact LeO.none _ | refine LeO.ite ?_ ?_ | refine LeO.bind ?_ (fun _ => ?_)
theorem laws_markText.mono : ∀ a0 k, LeO (laws_markText.f k a0) (laws_markText.f (k + 1) a0) := by
  intro a0 k
  have ih0 := laws_markText.mono_l k
  unfold laws_markText.f
  repeat' first | (with_reducible first | apply ih0 | exact LeO.refl _ | exact LeO.none _ | refine LeO.ite ?_ ?_ | refine LeO.bind ?_ (fun _ => ?_)) | exact LeO.none _ | refine LeO.ite ?_ ?_ | refine LeO.bind ?_ (fun _ => ?_)
theorem laws_markText.calls (k : Nat) (a0 : Int) (r : ByteArray) (w : World) (h : laws_markText.f k a0 = some r) :
    Calls Try.prog 96 #[.int .i64 a0] w fun e w' => e = .returned (.string r) ∧ Below w.heap.size w w' := by
 have HB := z0 (Below.refl w.heap.size w); have H : (if a0 ≤ 0 then (some (⟨#[109, 48]⟩ : ByteArray)) else (laws_markText.l0 k a0 (⟨#[]⟩ : ByteArray))) = some r := h; clear h
 by_cases c2 : a0 ≤ 0
 ·rw [if_pos c2] at H; have c2b0 := decide_eq_true c2; clear c2; obtain rfl := Option.some.inj H; go_enter Try.func96, Try.ntmps96; go_wp2; go_ret; exact ⟨ze, zb HB.out⟩
 ·rw [if_neg c2] at H; have c2b0 := decide_eq_false c2; clear c2; have H' := z0 H; clear H; go_enter Try.func96, Try.ntmps96; go_wp2
  go_loopg [0, 3] k (fun kq v0 v3 w' => ∃ (x0_1 : Int) (x3_1 : ByteArray), v0 = .int .i64 x0_1 ∧ v3 = .string x3_1 ∧ Aside0 (laws_markText.l0 kq x0_1 x3_1 = some r) ∧ Aside0 (kq ≤ k) ∧ Aside0 (Below w.heap.size w w'))
  case atStart => exact ⟨(a0), ((⟨#[]⟩ : ByteArray)), zf, zf, H', ⟨Nat.le_refl _⟩, ⟨zb HB.out⟩⟩
  case round =>
   clear H'
   try clear c2
   try clear c2b0
   try clear p2
   obtain ⟨x0_1, x3_1, rfl, rfl, HA, HK1, HB⟩ := hrel
   cases gk with
   | zero => exact absurd HA.out (by simp [laws_markText.l0])
   | succ k1 =>
    have H := HA.out; clear HA; simp only [laws_markText.l0] at H
    by_cases c3 : x0_1 > 0
    ·rw [if_pos c3] at H; have c3b0 : decide (0 < x0_1) = true := decide_eq_true c3; clear c3; obtain ⟨y1203, hy1203⟩ : ∃ y_ : List Int, y_ = (([(wrap64 (48 + (Int.tmod x0_1 10))) % 256] : List Int)) := ⟨_, rfl⟩; replace H : (if (strOfNums y1203).size + x3_1.size ≤ 9223372036854775807 then (laws_markText.l0 k1 (wrap64 (Int.tdiv x0_1 10)) ((strOfNums y1203) ++ x3_1)) else (none)) = some r := zH2 hy1203 H; have Ny1203 := z0 hy1203; clear hy1203; replace H := zn H; obtain ⟨c4, H⟩ := H; have c4b0 := eq_true c4; have c4b1 := decide_eq_true c4
     try have c4b2 : (9223372036854775807 < (strOfNums y1203).size + x3_1.size) = False := eq_false (Nat.not_lt.2 c4)
     have H' := z0 H; clear H
     go_wp2_with (first | ((with_reducible refine gd 12 ?_); refine Kd.R_lit (Kd.int .u8) _ 5 ?hg (N := 12) ?hd (xs := ([(wrap64 (48 + (Int.tmod x0_1 10))) % 256] : List Int)) (inner := [.int .u8 ((wrap64 (48 + (Int.tmod x0_1 10))) % 256)]) (ok := fun _ => True) (okp := fun _ => True) ?hr ?hp (fun _ hk => hk) trivial (Below.refl _ _) (Nat.le_refl _) (by simp) ?_; (case hd => rfl); (case hg => rfl); (case hr => first | (go_simp; done) | (go_simp; rfl)); (case hp => exact (Reps.one (show Kd.M (Kd.int .u8) _ _ _ ((wrap64 (48 + (Int.tmod x0_1 10))) % 256) [.int .u8 ((wrap64 (48 + (Int.tmod x0_1 10))) % 256)] from rfl) (Reps.none _ _))); intro v1204 w5 ho6 hb hg_ hnew_; clear hg_ hnew_; (first | rw [← Ny1203.out] at ho6 | (simp only [Int.reduceToNat] at ho6; rw [← Ny1203.out] at ho6)); have HO1205 := z0 (Kd.R_lower ho6 (below_size (zb HB.out))); replace HB := zH HB hb; clear hb ho6; have hcv7 := own_string (P := Try.prog) Try.underlying22 Try.underlying5 Try.underlying9 (Kd.own_of_R HO1205.out)))
     go_roundg k1
     case measure => have := HK1.out; omega
     case rel => exact ⟨(wrap64 (Int.tdiv x0_1 10)), ((strOfNums y1203) ++ x3_1), zf, zf, H', ⟨by have := HK1.out; omega⟩, ⟨zb HB.out⟩⟩
    ·rw [if_neg c3] at H; have c3b0 : decide (0 < x0_1) = false := decide_eq_false c3; clear c3; replace H := zn H; obtain ⟨c8, H⟩ := H; have c8b0 := eq_true c8; have c8b1 := decide_eq_true c8
     try have c8b2 : (9223372036854775807 < 1 + x3_1.size) = False := eq_false (Nat.not_lt.2 c8)
     obtain rfl := Option.some.inj H; go_wp2; go_ret; exact ⟨ze, zb HB.out⟩
theorem laws_markStringS.mono_l : ∀ k, (∀ y0 y1 y2, LeO (laws_markStringS.l0 k y0 y1 y2) (laws_markStringS.l0 (k + 1) y0 y1 y2))
  | 0 => fun _ _ _ r h => by simp [laws_markStringS.l0] at h
  | k + 1 => by
    have ih0 := laws_markStringS.mono_l k
    · intro y0 y1 y2
      unfold laws_markStringS.l0
      repeat' first | (with_reducible first | apply ih0 | apply laws_markText.mono | exact LeO.refl _ | exact LeO.none _ | refine LeO.ite ?_ ?_ | refine LeO.bind ?_ (fun _ => ?_)) | exact LeO.none _ | refine LeO.ite ?_ ?_ | refine LeO.bind ?_ (fun _ => ?_)
theorem laws_markStringS.mono : ∀ a0 a1 k, LeO (laws_markStringS.f k a0 a1) (laws_markStringS.f (k + 1) a0 a1) := by
  intro a0 a1 k
  have ih0 := laws_markStringS.mono_l k
  unfold laws_markStringS.f
  repeat' first | (with_reducible first | apply ih0 | apply laws_markText.mono | exact LeO.refl _ | exact LeO.none _ | refine LeO.ite ?_ ?_ | refine LeO.bind ?_ (fun _ => ?_)) | exact LeO.none _ | refine LeO.ite ?_ ?_ | refine LeO.bind ?_ (fun _ => ?_)
theorem laws_markStringS.calls (k : Nat) (P0_ : Nat → Prop) (u9000_ : Value) (l0 : List ByteArray) (a1 r1 : Int) (r2 : List ByteArray) (w0 w : World) (hB : Below w0.heap.size w0 w) (ho0 : Kd.R Kd.string 9 w w0.heap.size P0_ u9000_ l0) (h : laws_markStringS.f k l0 a1 = some (r1, r2)) :
    Calls Try.prog 56 #[u9000_, .int .i64 a1] w fun e w' => e = .returned (.int .i64 r1) ∧ Kd.R Kd.string 9 w' w0.heap.size (fun k_ => (P0_ k_ ∨ w.heap.size ≤ k_)) u9000_ r2 ∧ Below w0.heap.size w0 w' ∧ Kept w w' (fun k_ => P0_ k_) := by
 have HO0 := z0 (show Kd.R Kd.string 9 w w0.heap.size (fun k_ => (P0_ k_ ∨ w.heap.size ≤ k_)) u9000_ l0 from Kd.R_mono ho0 (fun k_ hk => (.inl hk))); have HK := z0 (Kept.refl w (fun k_ => P0_ k_)); have HW0 := z0 hB.size; have HB := z0 hB; clear hB; have H : (laws_markStringS.l0 k l0 a1 0) = some (r1, r2) := h; clear h; have H' := z0 H; clear H; go_enter Try.func56, Try.ntmps56; go_wp2
 go_loopg [1, 5] k (fun kq v1 v5 w' => ∃ (x0_1 : List ByteArray) (x1_1 : Int) (x5_1 : Int), v1 = .int .i64 x1_1 ∧ v5 = .int .i64 x5_1 ∧ Aside0 (laws_markStringS.l0 kq x0_1 x1_1 x5_1 = some (r1, r2)) ∧ Aside0 (kq ≤ k) ∧ Aside0 (Kd.R Kd.string 9 w' w0.heap.size (fun k_ => (P0_ k_ ∨ w.heap.size ≤ k_)) u9000_ x0_1) ∧ Aside0 (Kept w w' (fun k_ => P0_ k_)) ∧ Aside0 (Below w0.heap.size w0 w'))
 case atStart => exact ⟨(l0), (a1), (0), zf, zf, H', ⟨Nat.le_refl _⟩, ⟨zr HO0.out⟩, ⟨zk HK.out⟩, ⟨zb HB.out⟩⟩
 case round =>
  clear H'
  try clear p2
  obtain ⟨x0_1, x1_1, x5_1, rfl, rfl, HA, HK1, HO_0, HK, HB⟩ := hrel
  cases gk with
  | zero => exact absurd HA.out (by simp [laws_markStringS.l0])
  | succ k1 =>
   have H := HA.out; clear HA; simp only [laws_markStringS.l0] at H
   by_cases c3 : x5_1 < (x0_1.length : Int)
   ·rw [if_pos c3] at H; have c3b0 := decide_eq_true c3; clear c3; replace H := zi H; obtain ⟨t1206, A4, H⟩ := H; replace H := zn H; obtain ⟨c5, H⟩ := H; have c5b0 := decide_eq_true c5; clear c5; obtain ⟨y1207, hy1207⟩ : ∃ y_ : List ByteArray, y_ = (x0_1.set (x5_1 : Int).toNat t1206) := ⟨_, rfl⟩; replace H : (laws_markStringS.l0 k1 y1207 (wrap64 (x1_1 + 1)) (wrap64 (x5_1 + 1))) = some (r1, r2) := zH2 hy1207 H; have Ny1207 := z0 hy1207; clear hy1207; have H' := z0 H; clear H; obtain ⟨Ao7, co7, eo7⟩ := Kd.R_slice HO_0.out; subst eo7
    go_wp2_with (first | ((with_reducible refine gc 96 ?_); refine zL (some 15) Try.func96 #[.int .i64 x1_1] ?_; (with_reducible refine (laws_markText.calls k1 x1_1 t1206 _ A4.out).mono ?_); rintro e w8 ⟨rfl, hb⟩; refine zv ?_; replace HO_0 := zA HO_0 hb; replace HK := z0 (Kept.below (zk HK.out) hb); replace HB := zH HB hb; (try clear hb); have p6 : 0 ≤ (x5_1 : Int) := zd; have q6 : (x5_1 : Int) < ((x0_1.length : Int) : Int) := zd; obtain ⟨go6, co6, eo6, gb6, gl6, cl6, HG6⟩ := Kd.R_form HO_0.out (by omega); (first | cases eo6 | (injection eo6 with ea_ en_ ec_; (first | subst ea_ | (injection ea_ with ea_; subst ea_)); subst ec_; clear en_)); have GB6 := z0 gb6; have GG6 := z0 HG6; clear gb6 gl6 HG6; have HMgo6 := z0 (show (P0_ go6 ∨ w.heap.size ≤ go6) from (HO_0.out.1 _ rfl)); obtain ⟨hx6_0, hf6_0⟩ := Kd.R_celln (⟨#[]⟩ : ByteArray) HO_0.out (x5_1 : Int) p6 q6; replace p6 := eq_true p6; replace q6 := eq_true q6; obtain ⟨hy9_, hz9_⟩ := Kd.R_celln (⟨#[]⟩ : ByteArray) HO_0.out (x5_1 : Int) (zd) (zd); have HP9 := Kd.R_putg HO_0.out (x5_1 : Int) t1206) | ((with_reducible refine gs 9 16 ?_); refine store_event (t := 9) (p := 16) (v := ?vo_w10) (w1 := (w8.setCell ⟨go6, (x5_1 : Int).toNat, none⟩ (.string t1206))) ?hg ?ho ?hn ?hr ?_; (case ho => rfl); (case hg => rfl); (case hn => rfl); (case hr => first | (go_simp; done) | (go_simp; rfl)); intro w10 hw; have hg : w8.grownBy w10 (some go6) := (by rw [hw]; exact HP9.2); have hp_ : Kd.R Kd.string 9 w10 w0.heap.size (fun k_ => (P0_ k_ ∨ w.heap.size ≤ k_)) (.slice (some ⟨go6, 0, none⟩) x0_1.length co7) y1207 := (by rw [hw, Ny1207.out]; exact HP9.1); clear HP9; replace HB := z0 ((by rw [hw]; exact below_set (HB.out) GB6.out : Below w0.heap.size w0 w10)); replace HK := z0 (Kept.of_grown (S := (fun k_ => P0_ k_)) hg (zk HK.out) (fun k_ e_ => (HO_0.out.1 k_ e_))); replace HO_0 := z0 (hp_); clear hg hw hp_))
    go_roundg k1
    case measure => have := HK1.out; omega
    case rel => exact ⟨(y1207), (wrap64 (x1_1 + 1)), (wrap64 (x5_1 + 1)), zf, zf, H', ⟨by have := HK1.out; omega⟩, ⟨zr HO_0.out⟩, ⟨zk HK.out⟩, ⟨zb HB.out⟩⟩
   ·rw [if_neg c3] at H; have c3b0 := decide_eq_false c3; clear c3; simp only [Option.some.injEq, Prod.mk.injEq] at H; obtain ⟨rfl, rfl⟩ := H; obtain ⟨Ao11, co11, eo11⟩ := Kd.R_slice HO_0.out; subst eo11; go_wp2; go_ret; exact ⟨ze, zr HO_0.out, zb HB.out, zk HK.out⟩
theorem laws_markSieve.mono : ∀ a0 a1 a2 a3 a4 a5 k, LeO (laws_markSieve.f k a0 a1 a2 a3 a4 a5) (laws_markSieve.f (k + 1) a0 a1 a2 a3 a4 a5) := by
  intro a0 a1 a2 a3 a4 a5 k
  unfold laws_markSieve.f
  repeat' first | (with_reducible first | apply laws_markStringS.mono | exact LeO.refl _ | exact LeO.none _ | refine LeO.ite ?_ ?_ | refine LeO.bind ?_ (fun _ => ?_)) | exact LeO.none _ | refine LeO.ite ?_ ?_ | refine LeO.bind ?_ (fun _ => ?_)
theorem laws_markSieve.calls (k : Nat) (a0_0 a0_1 a0_2 : ByteArray) (P0_3_ : Nat → Prop) (u9000_ : Value) (l0_3 : List ByteArray) (a0_4 a1 r1 : Int) (r2 : List ByteArray) (w0 w : World) (hB : Below w0.heap.size w0 w) (ho0_3 : Kd.R Kd.string 9 w w0.heap.size P0_3_ u9000_ l0_3) (h : laws_markSieve.f k a0_0 a0_1 a0_2 l0_3 a0_4 a1 = some (r1, r2)) :
    Calls Try.prog 55 #[.agg #[.string a0_0, .string a0_1, .string a0_2, u9000_, .int .i64 a0_4], .int .i64 a1] w fun e w' => e = .returned (.int .i64 r1) ∧ Kd.R Kd.string 9 w' w0.heap.size (fun k_ => (P0_3_ k_ ∨ w.heap.size ≤ k_)) u9000_ r2 ∧ Below w0.heap.size w0 w' ∧ Kept w w' (fun k_ => P0_3_ k_) := by
 have hu25 := Try.underlying25; have HO0_3 := z0 (show Kd.R Kd.string 9 w w0.heap.size (fun k_ => (P0_3_ k_ ∨ w.heap.size ≤ k_)) u9000_ l0_3 from Kd.R_mono ho0_3 (fun k_ hk => (.inl hk))); have HK := z0 (Kept.refl w (fun k_ => P0_3_ k_)); have HW0 := z0 hB.size; have HB := z0 hB; clear hB; have H : ((laws_markStringS.f k l0_3 a1).bind fun bt1209 => (some (bt1209.1, bt1209.2))) = some (r1, r2) := h; clear h; replace H := zi H; obtain ⟨⟨t1209, t1210⟩, A3, H⟩ := H; (try dsimp only at H); simp only [Option.some.injEq, Prod.mk.injEq] at H; obtain ⟨rfl, rfl⟩ := H; obtain ⟨Ao4, co4, eo4⟩ := Kd.R_slice HO0_3.out; subst eo4; go_enter Try.func55, Try.ntmps55
 go_wp2_with (first | ((with_reducible refine gd 2 ?_); refine zbx 25 #[.string a0_0, .string a0_1, .string a0_2, .slice Ao4 l0_3.length co4, .int .i64 a0_4] ?_; intro gb1208 hg w5 hbox hb; replace HO0_3 := zA HO0_3 hb; have BK1208 := z0 (hbox); have GW1208 := z0 ((by rw [hg]; exact (by first | exact HK.out.1 | exact (show Kept w _ (fun k_ => P0_3_ k_) from zk HK.out).1) : w.heap.size ≤ gb1208)); replace HK := z0 (Kept.below (zk HK.out) hb); have GE1208 := zG hg HB; replace HB := zH HB hb; clear hb hbox hg; have hcz6 := zc5 BK1208.out) | ((with_reducible refine gc 56 ?_); refine zL (some 8) Try.func56 #[.slice Ao4 l0_3.length co4, .int .i64 a1] ?_; (with_reducible refine (laws_markStringS.calls k (fun k_ => some k_ = (.slice Ao4 l0_3.length co4 : Value).ownBlock) (.slice Ao4 l0_3.length co4) l0_3 a1 t1209 t1210 w0 _ (zb HB.out) (Kd.R_tight rfl HO0_3.out) A3.out).mono ?_); rintro e w7 ⟨rfl, hy0, hb, hkp⟩; refine zv ?_; replace BK1208 := z0 (blk_kept (zl BK1208.out) hkp (fun hs_ => (fun e_ => (Kd.R_ne HO0_3.out BK1208.out (by decide)) e_) hs_)); replace HK := z0 (Kept.then_ (S := (fun k_ => P0_3_ k_)) (zk HK.out) hkp (fun k_ hs_ => (fun e_ => (HO0_3.out.1 k_ e_.symm)) hs_)); replace HO0_3 := z0 (Kd.R_reok rfl hy0 (fun k_ e_ => HO0_3.out.1 k_ e_)); replace HB := z0 (hb); (try clear hb); (try clear hkp); (try clear hy0)))
 go_ret; exact ⟨ze, zr HO0_3.out, zb HB.out, zk HK.out⟩
theorem laws_heldStringS.mono_l : ∀ k, (∀ y0 y1 y2, LeO (laws_heldStringS.l0 k y0 y1 y2) (laws_heldStringS.l0 (k + 1) y0 y1 y2))
  | 0 => fun _ _ _ r h => by simp [laws_heldStringS.l0] at h
  | k + 1 => by
    have ih0 := laws_heldStringS.mono_l k
    · intro y0 y1 y2
      unfold laws_heldStringS.l0
      repeat' first | (with_reducible first | apply ih0 | apply laws_markText.mono | exact LeO.refl _ | exact LeO.none _ | refine LeO.ite ?_ ?_ | refine LeO.bind ?_ (fun _ => ?_)) | exact LeO.none _ | refine LeO.ite ?_ ?_ | refine LeO.bind ?_ (fun _ => ?_)
theorem laws_heldStringS.mono : ∀ a0 a1 k, LeO (laws_heldStringS.f k a0 a1) (laws_heldStringS.f (k + 1) a0 a1) := by
  intro a0 a1 k
  have ih0 := laws_heldStringS.mono_l k
  unfold laws_heldStringS.f
  repeat' first | (with_reducible first | apply ih0 | apply laws_markText.mono | exact LeO.refl _ | exact LeO.none _ | refine LeO.ite ?_ ?_ | refine LeO.bind ?_ (fun _ => ?_)) | exact LeO.none _ | refine LeO.ite ?_ ?_ | refine LeO.bind ?_ (fun _ => ?_)
theorem laws_heldStringS.calls (k : Nat) (A0 : Option Addr) (c0 : Nat) (l0 : List ByteArray) (a1 r : Int) (w : World) (hr0 : Kd.C Kd.string w A0 l0.length l0) (hc0 : l0.length ≤ c0) (h : laws_heldStringS.f k l0 a1 = some r) :
    Calls Try.prog 57 #[.slice A0 l0.length c0, .int .i64 a1] w fun e w' => e = .returned (.int .i64 r) ∧ Below w.heap.size w w' := by
 have HR0 := z0 hr0; have HC0 := z0 hc0; clear hr0 hc0; have HB := z0 (Below.refl w.heap.size w); have H : (laws_heldStringS.l0 k l0 a1 0) = some r := h; clear h; have H' := z0 H; clear H; go_enter Try.func57, Try.ntmps57; go_wp2
 go_loopg [1, 5] k (fun kq v1 v5 w' => ∃ (x1_1 : Int) (x5_1 : Int), v1 = .int .i64 x1_1 ∧ v5 = .int .i64 x5_1 ∧ Aside0 (laws_heldStringS.l0 kq l0 x1_1 x5_1 = some r) ∧ Aside0 (kq ≤ k) ∧ Aside0 (Below w.heap.size w w'))
 case atStart => exact ⟨(a1), (0), zf, zf, H', ⟨Nat.le_refl _⟩, ⟨zb HB.out⟩⟩
 case round =>
  clear H'
  try clear p2
  obtain ⟨x1_1, x5_1, rfl, rfl, HA, HK1, HB⟩ := hrel
  cases gk with
  | zero => exact absurd HA.out (by simp [laws_heldStringS.l0])
  | succ k1 =>
   have H := HA.out; clear HA; simp only [laws_heldStringS.l0] at H
   by_cases c3 : x5_1 < (l0.length : Int)
   ·rw [if_pos c3] at H; have c3b0 := decide_eq_true c3; clear c3; replace H := zn H; obtain ⟨c4, H⟩ := H; have c4b0 := decide_eq_true c4; clear c4; replace H := zi H; obtain ⟨t1212, A5, H⟩ := H
    try go_wp2
    replace HB := z0 (below_drew1 HB.out); have p1211 : 0 ≤ (x5_1 : Int) := zd; have q1211 : x5_1 < (l0.length : Int) := zd; obtain ⟨ad1211, e1211, hx1211_0⟩ := Kd.at_string HR0.out x5_1 p1211 q1211; have hw1211_0 := hx1211_0; cases e1211; replace hx1211_0 := (HB.out.cell (World.block_lt_of_cell? w _ hx1211_0)).trans hx1211_0; replace p1211 := eq_true p1211; replace q1211 := eq_true q1211; refine start_ (n := 7) (S := fun w' => w'.cell? (ad1211.add (x5_1).toNat) = some (.string (rdOf ByteArray.empty l0 x5_1))) (ds := []) (fb 7 0) (by kernel_rfl) rfl rfl (((HB.out.cell (World.block_lt_of_cell? w _ hw1211_0)).trans hw1211_0)) (fun hHeld => ?_); generalize wr.drew = w6 at HB hx1211_0 hHeld ⊢; refine zu 0 1 ?_; refine zu 1 3 ?_; refine zu 2 7 ?_; refine zu 4 23 ?_; refine take_ (i := 3) (N := some 15) (v := ?_) (a' := ?_) (fb 7 31) rfl rfl (by kernel_rfl) (fun _ _ _ h => h) (Or.inl ⟨by rfl, ?_⟩) hHeld ?_ ?_; rotate_left
    ·intro w' s0
     go_simp
     with_reducible rfl
    rotate_left
    ·simp only [Act.put, List.setIfInBounds_toArray, List.set_cons_zero, List.set_cons_succ, i64_w, i32_w]
     rfl
    refine zone 5 63 (fun K hK => ?_); refine zG2 Try.func96 #[.int .i64 x1_1] ?_
    with_reducible refine (laws_markText.calls k1 x1_1 t1212 _ A5.out).mono ?_
    rintro e w7 ⟨rfl, hb⟩; refine ⟨_, rfl, ?_⟩; replace HB := zH HB hb; (try clear hb); refine hK.out _ _ (((HB.out.cell (World.block_lt_of_cell? w _ hw1211_0)).trans hw1211_0)) (fun hHeld => ?_); clear hK K; refine znm ?_; refine zu 6 127 ?_; refine done_ (by kernel_rfl) ?_
    go_upto_if 18 with (fail)
    by_cases c8 : (rdOf ByteArray.empty l0 x5_1).toList = t1212.toList
    ·rw [if_pos c8] at H; have c8b0 : ((rdOf ByteArray.empty l0 x5_1).toList == t1212.toList) = true := beq_iff_eq.mpr c8; have c8b1 : ((rdOf ByteArray.empty l0 x5_1).toList != t1212.toList) = false := bne_eq_false_iff_eq.mpr c8; clear c8; (first | rw [c8b0] | (simp only [i64_w, i32_w]; rw [c8b0]) | simp only [*, Bool.not_true, Bool.not_false] | skip); have H' := z0 H; clear H; go_wp2; go_roundg k1
     case measure => have := HK1.out; omega
     case rel => exact ⟨(wrap64 (x1_1 + 1)), (wrap64 (x5_1 + 1)), zf, zf, H', ⟨by have := HK1.out; omega⟩, ⟨zb HB.out⟩⟩
    ·rw [if_neg c8] at H; have c8b0 : ((rdOf ByteArray.empty l0 x5_1).toList == t1212.toList) = false := beq_eq_false_iff_ne.mpr c8; have c8b1 : ((rdOf ByteArray.empty l0 x5_1).toList != t1212.toList) = true := bne_iff_ne.mpr c8; (first | rw [c8b0] | (simp only [i64_w, i32_w]; rw [c8b0]) | simp only [*, Bool.not_true, Bool.not_false] | skip); obtain rfl := Option.some.inj H; go_wp2; go_ret; exact ⟨ze, zb HB.out⟩
   ·rw [if_neg c3] at H; have c3b0 := decide_eq_false c3; clear c3; obtain rfl := Option.some.inj H; go_wp2; go_ret; exact ⟨ze, zb HB.out⟩
theorem laws_FnExactSieveHeads.mono_l : ∀ k, (∀ y0 y1 y2 y3 y4 y5 y6 y7, LeO (laws_FnExactSieveHeads.j0 k y0 y1 y2 y3 y4 y5 y6 y7) (laws_FnExactSieveHeads.j0 (k + 1) y0 y1 y2 y3 y4 y5 y6 y7))
  | 0 => fun _ _ _ _ _ _ _ _ r h => by simp [laws_FnExactSieveHeads.j0] at h
  | k + 1 => by
    have ih0 := laws_FnExactSieveHeads.mono_l k
    · intro y0 y1 y2 y3 y4 y5 y6 y7
      unfold laws_FnExactSieveHeads.j0
      repeat' first | (with_reducible first | apply ih0 | apply impl_SieveHeads.mono | apply laws_eqSieve.mono | apply laws_eqStringS.mono | apply laws_heldStringS.mono | apply laws_markSieve.mono | apply laws_markStringS.mono | apply laws_szSieve.mono | apply laws_toSieve.mono | apply spec_SieveHeads.mono | exact LeO.refl _ | exact LeO.none _ | refine LeO.ite ?_ ?_ | refine LeO.bind ?_ (fun _ => ?_)) | exact LeO.none _ | refine LeO.ite ?_ ?_ | refine LeO.bind ?_ (fun _ => ?_)
theorem laws_FnExactSieveHeads.mono : ∀ a0 a1 a2 a3 a4 k, LeO (laws_FnExactSieveHeads.f k a0 a1 a2 a3 a4) (laws_FnExactSieveHeads.f (k + 1) a0 a1 a2 a3 a4) := by
  intro a0 a1 a2 a3 a4 k
  have ih0 := laws_FnExactSieveHeads.mono_l k
  unfold laws_FnExactSieveHeads.f
  repeat' first | (with_reducible first | apply ih0 | apply impl_SieveHeads.mono | apply laws_eqSieve.mono | apply laws_eqStringS.mono | apply laws_heldStringS.mono | apply laws_markSieve.mono | apply laws_markStringS.mono | apply laws_szSieve.mono | apply laws_toSieve.mono | apply spec_SieveHeads.mono | exact LeO.refl _ | exact LeO.none _ | refine LeO.ite ?_ ?_ | refine LeO.bind ?_ (fun _ => ?_)) | exact LeO.none _ | refine LeO.ite ?_ ?_ | refine LeO.bind ?_ (fun _ => ?_)
theorem laws_FnExactSieveHeads.calls (k : Nat) (a0_0 a0_1 a0_2 : ByteArray) (A0_3 : Option Addr) (c0_3 : Nat) (l0_3 : List ByteArray) (a0_4 : Int) (r : Bool) (w : World) (hr0_3 : Kd.C Kd.string w A0_3 l0_3.length l0_3) (hc0_3 : l0_3.length ≤ c0_3) (h : laws_FnExactSieveHeads.f k a0_0 a0_1 a0_2 l0_3 a0_4 = some r) :
    Calls Try.prog 15 #[.agg #[.string a0_0, .string a0_1, .string a0_2, .slice A0_3 l0_3.length c0_3, .int .i64 a0_4]] w fun e w' => e = .returned (.bool r) ∧ Below w.heap.size w w' := by
 have hu49 := Try.underlying49; have hu25 := Try.underlying25; have HR0_3 := z0 hr0_3; have HC0_3 := z0 hc0_3; clear hr0_3 hc0_3; have HB := z0 (Below.refl w.heap.size w); have H : ((laws_szSieve.f k a0_0 a0_1 a0_2 l0_3 a0_4 1048576).bind fun t1214 => (if t1214 < 0 then (some true) else ((laws_toSieve.f k a0_0 a0_1 a0_2 l0_3 a0_4).bind fun bt1215 => ((spec_SieveHeads.f k bt1215.1 bt1215.2.1 bt1215.2.2.1 bt1215.2.2.2.1 bt1215.2.2.2.2).bind fun t1222 => ((laws_toSieve.f k a0_0 a0_1 a0_2 l0_3 a0_4).bind fun bt1225 => ((impl_SieveHeads.f k bt1225.1 bt1225.2.1 bt1225.2.2.1 bt1225.2.2.2.1 bt1225.2.2.2.2).bind fun t1233 => ((laws_eqStringS.f k t1233 t1222).bind fun t1236 => (if t1236 = true then ((laws_toSieve.f k a0_0 a0_1 a0_2 l0_3 a0_4).bind fun bt1237 => ((laws_eqSieve.f k bt1225.1 bt1225.2.1 bt1225.2.2.1 bt1225.2.2.2.1 bt1225.2.2.2.2 bt1237.1 bt1237.2.1 bt1237.2.2.1 bt1237.2.2.2.1 bt1237.2.2.2.2).bind fun t1244 => (if t1244 = true then ((laws_markSieve.f k bt1225.1 bt1225.2.1 bt1225.2.2.1 bt1225.2.2.2.1 bt1225.2.2.2.2 1).bind fun bt1245 => (if bt1245.1 < 0 then (laws_FnExactSieveHeads.j0 k t1222 t1233 true a0_0 a0_1 a0_2 l0_3 a0_4) else ((laws_eqStringS.f k t1233 t1222).bind fun t1247 => (laws_FnExactSieveHeads.j0 k t1222 t1233 (!t1247) a0_0 a0_1 a0_2 l0_3 a0_4)))) else (some false)))) else (some false))))))))) = some r := h; clear h; replace H := zi H; obtain ⟨t1214, A2, H⟩ := H; go_enter Try.func15, Try.ntmps15
 go_upto_if 15 with (first | ((with_reducible refine gd 1 ?_); refine zbx 49 #[.string a0_0, .string a0_1, .string a0_2, .slice A0_3 l0_3.length c0_3, .int .i64 a0_4] ?_; intro gb1213 hg w3 hbox hb; have BK1213 := z0 (hbox); have GE1213 := zG hg HB; replace HB := zH HB hb; clear hb hbox hg; have hcz4 := zc5 BK1213.out) | ((with_reducible refine gc 45 ?_); refine zL (some 13) Try.func45 #[.agg #[.string a0_0, .string a0_1, .string a0_2, .slice A0_3 l0_3.length c0_3, .int .i64 a0_4], .int .i64 1048576] ?_; (with_reducible refine (laws_szSieve.calls k a0_0 a0_1 a0_2 _ _ l0_3 a0_4 1048576 t1214 _ (zC (Kd.C_below HR0_3.out HB.out)) HC0_3.out A2.out).mono ?_); rintro e w5 ⟨rfl, hb⟩; refine zv ?_; replace BK1213 := zK BK1213 hb; replace HB := zH HB hb; (try clear hb)))
 by_cases c6 : t1214 < 0
 ·rw [if_pos c6] at H; have c6b0 := decide_eq_true c6; clear c6; (first | rw [c6b0] | (simp only [i64_w, i32_w]; rw [c6b0]) | simp only [*, Bool.not_true, Bool.not_false] | skip); obtain rfl := Option.some.inj H; go_wp2; go_ret; exact ⟨ze, zb HB.out⟩
 ·rw [if_neg c6] at H; have c6b0 := decide_eq_false c6; clear c6; (first | rw [c6b0] | (simp only [i64_w, i32_w]; rw [c6b0]) | simp only [*, Bool.not_true, Bool.not_false] | skip); replace H := zi H; obtain ⟨⟨t1215, t1216, t1217, t1218, t1221⟩, A7, H⟩ := H; (try dsimp only at H); replace H := zi H; obtain ⟨t1222, A8, H⟩ := H; replace H := zi H; obtain ⟨⟨t1225, t1226, t1227, t1228, t1231⟩, A9, H⟩ := H; (try dsimp only at H); replace H := zi H; obtain ⟨t1233, A10, H⟩ := H; replace H := zi H; obtain ⟨t1236, A11, H⟩ := H
  by_cases c12 : t1236 = true
  ·subst c12
   have H1 : ((laws_toSieve.f k a0_0 a0_1 a0_2 l0_3 a0_4).bind fun bt1237 => ((laws_eqSieve.f k t1225 t1226 t1227 t1228 t1231 bt1237.1 bt1237.2.1 bt1237.2.2.1 bt1237.2.2.2.1 bt1237.2.2.2.2).bind fun t1244 => (if t1244 = true then ((laws_markSieve.f k t1225 t1226 t1227 t1228 t1231 1).bind fun bt1245 => (if bt1245.1 < 0 then (laws_FnExactSieveHeads.j0 k t1222 t1233 true a0_0 a0_1 a0_2 l0_3 a0_4) else ((laws_eqStringS.f k t1233 t1222).bind fun t1247 => (laws_FnExactSieveHeads.j0 k t1222 t1233 (!t1247) a0_0 a0_1 a0_2 l0_3 a0_4)))) else (some false)))) = some r := by rw [if_pos rfl] at H; exact H
   clear H; have H := H1; clear H1; replace H := zi H; obtain ⟨⟨t1237, t1238, t1239, t1240, t1243⟩, A13, H⟩ := H; (try dsimp only at H); replace H := zi H; obtain ⟨t1244, A14, H⟩ := H
   by_cases c15 : t1244 = true
   ·subst c15
    have H1 : ((laws_markSieve.f k t1225 t1226 t1227 t1228 t1231 1).bind fun bt1245 => (if bt1245.1 < 0 then (laws_FnExactSieveHeads.j0 k t1222 t1233 true a0_0 a0_1 a0_2 l0_3 a0_4) else ((laws_eqStringS.f k t1233 t1222).bind fun t1247 => (laws_FnExactSieveHeads.j0 k t1222 t1233 (!t1247) a0_0 a0_1 a0_2 l0_3 a0_4)))) = some r := by rw [if_pos rfl] at H; exact H
    clear H; have H := H1; clear H1; replace H := zi H; obtain ⟨⟨t1245, t1246⟩, A16, H⟩ := H; (try dsimp only at H); have HC17 := z0 H; clear H; have hcz18 := zc5 BK1213.out
    try go_wp2_with (first | ((with_reducible refine gc 47 ?_); refine zL (some 17) Try.func47 #[.agg #[.string a0_0, .string a0_1, .string a0_2, .slice A0_3 l0_3.length c0_3, .int .i64 a0_4]] ?_; (with_reducible refine (laws_toSieve.calls k a0_0 a0_1 a0_2 _ _ l0_3 a0_4 t1215 t1216 t1217 t1218 t1221 _ (zC (Kd.C_below HR0_3.out HB.out)) HC0_3.out A7.out).mono ?_); rintro e w19 ⟨v1219, rfl, ho0, hb⟩; refine zv ?_; have HO1220 := z0 (Kd.R_lower ho0 (below_size (zb HB.out))); replace BK1213 := zK BK1213 hb; replace HB := zH HB hb; (try clear hb ho0); obtain ⟨Ao20, co20, eo20⟩ := Kd.R_slice HO1220.out; subst eo20) | ((with_reducible refine gc 53 ?_); refine zL (some 18) Try.func53 #[.agg #[.string t1215, .string t1216, .string t1217, .slice Ao20 t1218.length co20, .int .i64 t1221]] ?_; (with_reducible refine (spec_SieveHeads.calls k t1215 t1216 t1217 _ _ t1218 t1221 t1222 _ (zC ((Kd.R_reads' HO1220.out).2.2)) ((Kd.R_reads' HO1220.out).2.1) A8.out).mono ?_); rintro e w21 ⟨v1223, rfl, ho0, hb⟩; refine zv ?_; have HO1224 := z0 (Kd.R_lower (Kd.R_new' ho0 (Kd.R_lt (zr HO1220.out))) (below_size (zb HB.out))); replace HO1220 := z0 (Kd.R_elder' (zr HO1220.out) (Kd.R_base ho0) hb); replace BK1213 := zK BK1213 hb; replace HB := zH HB hb; (try clear hb ho0); have hcz22 := zc5 BK1213.out) | ((with_reducible refine gc 47 ?_); refine zL (some 20) Try.func47 #[.agg #[.string a0_0, .string a0_1, .string a0_2, .slice A0_3 l0_3.length c0_3, .int .i64 a0_4]] ?_; (with_reducible refine (laws_toSieve.calls k a0_0 a0_1 a0_2 _ _ l0_3 a0_4 t1225 t1226 t1227 t1228 t1231 _ (zC (Kd.C_below HR0_3.out HB.out)) HC0_3.out A9.out).mono ?_); rintro e w23 ⟨v1229, rfl, ho0, hb⟩; refine zv ?_; have HO1230 := z0 (Kd.R_lower (Kd.R_new' (Kd.R_new' ho0 (Kd.R_lt (zr HO1220.out))) (Kd.R_lt (zr HO1224.out))) (below_size (zb HB.out))); replace HO1220 := z0 (Kd.R_elder' (zr HO1220.out) (Kd.R_base ho0) hb); replace HO1224 := z0 (Kd.R_elder' (zr HO1224.out) (Kd.R_base ho0) hb); replace BK1213 := zK BK1213 hb; replace HB := zH HB hb; (try clear hb ho0)) | ((with_reducible refine gd 5 ?_); refine zbx 25 #[.string ⟨#[]⟩, .string ⟨#[]⟩, .string ⟨#[]⟩, .slice none 0 0, .int .i64 0] ?_; intro gb1232 hg w24 hbox hb; replace HO1220 := zA HO1220 hb; replace HO1224 := zA HO1224 hb; replace HO1230 := zA HO1230 hb; have BK1232 := z0 (hbox); have GE1232 := zG hg HB; replace HB := zH HB hb; have NB1213_1232 := zLt hg BK1213; have NB1232_1213 := zGt hg BK1213; replace BK1213 := zK BK1213 hb; clear hb hbox hg; have hnb25 := NB1232_1213.out; have hnc25 := NB1213_1232.out; have hcz26 := zc5 BK1232.out; obtain ⟨Ao27, co27, eo27⟩ := Kd.R_slice HO1230.out; subst eo27) | ((with_reducible refine gc 41 ?_); refine zL (some 22) Try.func41 #[.agg #[.string t1225, .string t1226, .string t1227, .slice Ao27 t1228.length co27, .int .i64 t1231]] ?_; (with_reducible refine (impl_SieveHeads.calls k t1225 t1226 t1227 _ _ t1228 t1231 t1233 _ ?side1 ((Kd.R_reads' HO1230.out).2.1) A10.out).mono ?_); (case side1 => refine (Kd.R_reads' (e := 9) (base := w.heap.size) (ok := fun k_ => ((True ∧ some k_ ≠ (.slice Ao20 t1218.length co20 : Value).ownBlock) ∧ some k_ ≠ (v1223 : Value).ownBlock)) (n := t1228.length) (c := co27) ?_).2.2; exact (zs HO1230.out BK1232.out)); rintro e w28 ⟨v1234, rfl, ho0, hb⟩; refine zv ?_; have HO1235 := z0 (Kd.R_lower (Kd.R_new' (Kd.R_new' (Kd.R_new' ho0 (Kd.R_lt (zs HO1220.out BK1232.out))) (Kd.R_lt (zs HO1224.out BK1232.out))) (Kd.R_lt (zs HO1230.out BK1232.out))) (below_size (zb HB.out))); replace HO1220 := z0 (Kd.R_elder' (zs HO1220.out BK1232.out) (Kd.R_base ho0) hb); replace HO1224 := z0 (Kd.R_elder' (zs HO1224.out BK1232.out) (Kd.R_base ho0) hb); replace HO1230 := z0 (Kd.R_elder' (zs HO1230.out BK1232.out) (Kd.R_base ho0) hb); replace BK1213 := zKy BK1213 hb; replace BK1232 := z0 (blk_below (zpc BK1232.out #[.string t1225, .string t1226, .string t1227, .slice Ao27 t1228.length co27, .int .i64 t1231]) hb); replace HB := zH HB hb; (try clear hb ho0); obtain ⟨Ao29, co29, eo29⟩ := Kd.R_slice HO1235.out; subst eo29; obtain ⟨Ao30, co30, eo30⟩ := Kd.R_slice HO1224.out; subst eo30) | ((with_reducible refine gc 54 ?_); refine zL (some 25) Try.func54 #[.slice Ao29 t1233.length co29, .slice Ao30 t1222.length co30] ?_; (with_reducible refine (laws_eqStringS.calls k _ _ t1233 _ _ t1222 true _ ?side1 ?side2 ?side3 ?side4 A11.out).mono ?_); (case side1 => repeat (first | exact (Kd.R_reads' HO1235.out).2.2 | (with_reducible refine Kd.C_alloc ?_ _) | (with_reducible refine Kd.C_drewN ?_ _) | (with_reducible refine Kd.C_drew ?_))); (case side2 => exact (Kd.R_reads' HO1235.out).2.1); (case side3 => repeat (first | exact (Kd.R_reads' HO1224.out).2.2 | (with_reducible refine Kd.C_alloc ?_ _) | (with_reducible refine Kd.C_drewN ?_ _) | (with_reducible refine Kd.C_drew ?_))); (case side4 => exact (Kd.R_reads' HO1224.out).2.1); rintro e w' ⟨rfl, ⟨nd, rfl⟩⟩; refine ⟨_, rfl, ?_⟩))
    (try (rw [drewN_self w28]; generalize hq_ : World.drewN w28 _ = w28; have n0_ : Aside0 (Kd.R Kd.string 9 w28 w.heap.size (fun k_ => ((True ∧ some k_ ≠ (.slice Ao30 t1222.length co30 : Value).ownBlock) ∧ some k_ ≠ (.slice Ao27 t1228.length co27 : Value).ownBlock) ∧ some k_ ≠ (.slice Ao29 t1233.length co29 : Value).ownBlock) (.slice Ao20 t1218.length co20) t1218) := ⟨by rw [← hq_]; exact (zr HO1220.out)⟩; have n1_ : Aside0 (Kd.R Kd.string 9 w28 w.heap.size (fun k_ => ((True ∧ some k_ ≠ (.slice Ao20 t1218.length co20 : Value).ownBlock) ∧ some k_ ≠ (.slice Ao27 t1228.length co27 : Value).ownBlock) ∧ some k_ ≠ (.slice Ao29 t1233.length co29 : Value).ownBlock) (.slice Ao30 t1222.length co30) t1222) := ⟨by rw [← hq_]; exact (zr HO1224.out)⟩; have n2_ : Aside0 (Kd.R Kd.string 9 w28 w.heap.size (fun k_ => ((True ∧ some k_ ≠ (.slice Ao20 t1218.length co20 : Value).ownBlock) ∧ some k_ ≠ (.slice Ao30 t1222.length co30 : Value).ownBlock) ∧ some k_ ≠ (.slice Ao29 t1233.length co29 : Value).ownBlock) (.slice Ao27 t1228.length co27) t1228) := ⟨by rw [← hq_]; exact (zr HO1230.out)⟩; have n3_ : Aside0 (Kd.R Kd.string 9 w28 w.heap.size (fun k_ => ((True ∧ some k_ ≠ (.slice Ao20 t1218.length co20 : Value).ownBlock) ∧ some k_ ≠ (.slice Ao30 t1222.length co30 : Value).ownBlock) ∧ some k_ ≠ (.slice Ao27 t1228.length co27 : Value).ownBlock) (.slice Ao29 t1233.length co29) t1233) := ⟨by rw [← hq_]; exact (zr HO1235.out)⟩; have n4_ : Aside0 (w28.heap[gb1213]? = some (.cells #[.string a0_0, .string a0_1, .string a0_2, .slice A0_3 l0_3.length c0_3, .int .i64 a0_4] 49 (0, 0))) := ⟨by rw [← hq_]; exact (zl BK1213.out)⟩; have n5_ : Aside0 (w28.heap[gb1232]? = some (.cells #[.string t1225, .string t1226, .string t1227, .slice Ao27 t1228.length co27, .int .i64 t1231] 25 (0, 0))) := ⟨by rw [← hq_]; exact (zl BK1232.out)⟩; have n6_ : Aside0 (Below w.heap.size w w28) := ⟨by rw [← hq_]; exact (zb HB.out)⟩; clear HO1220 HO1224 HO1230 HO1235 BK1213 BK1232 HB hq_; have HO1220 := n0_; have HO1224 := n1_; have HO1230 := n2_; have HO1235 := n3_; have BK1213 := n4_; have BK1232 := n5_; have HB := n6_; clear n0_ n1_ n2_ n3_ n4_ n5_ n6_)); replace HO1220 := z0 (Kd.R_drew HO1220.out); replace HO1224 := z0 (Kd.R_drew HO1224.out); replace HO1230 := z0 (Kd.R_drew HO1230.out); replace HO1235 := z0 (Kd.R_drew HO1235.out); replace BK1213 := z0 (blk_drew BK1213.out); replace BK1232 := z0 (blk_drew BK1232.out); replace HB := z0 (below_drew1 HB.out); refine start_ (n := 5) (S := fun w' => w'.cell? ⟨gb1232, 0, none⟩ = some (.string t1225) ∧ w'.cell? ⟨gb1232, 1, none⟩ = some (.string t1226) ∧ w'.cell? ⟨gb1232, 2, none⟩ = some (.string t1227) ∧ w'.cell? ⟨gb1232, 3, none⟩ = some (.slice Ao27 t1228.length co27) ∧ w'.cell? ⟨gb1232, 4, none⟩ = some (.int .i64 t1231) ∧ w'.cell? ⟨gb1213, 0, none⟩ = some (.string a0_0) ∧ w'.cell? ⟨gb1213, 1, none⟩ = some (.string a0_1) ∧ w'.cell? ⟨gb1213, 2, none⟩ = some (.string a0_2) ∧ w'.cell? ⟨gb1213, 3, none⟩ = some (.slice A0_3 l0_3.length c0_3) ∧ w'.cell? ⟨gb1213, 4, none⟩ = some (.int .i64 a0_4)) (ds := []) (fb 5 0) (by kernel_rfl) rfl rfl (zd5 BK1232.out ⟨(blk_cell BK1213.out 0).trans rfl, (blk_cell BK1213.out 1).trans rfl, (blk_cell BK1213.out 2).trans rfl, (blk_cell BK1213.out 3).trans rfl, (blk_cell BK1213.out 4).trans rfl⟩) (fun hHeld => ?_); generalize w28.drew = w31 at HO1220 HO1224 HO1230 HO1235 BK1213 BK1232 HB hHeld ⊢; refine zx 0 1 hHeld ?_; refine zx 1 3 hHeld ?_; refine zone 2 7 (fun K hK => ?_); refine zG2 Try.func47 #[.agg #[.string a0_0, .string a0_1, .string a0_2, .slice A0_3 l0_3.length c0_3, .int .i64 a0_4]] ?_
    with_reducible refine (laws_toSieve.calls k a0_0 a0_1 a0_2 _ _ l0_3 a0_4 t1237 t1238 t1239 t1240 t1243 _ ?side1 ?side2 A13.out).mono ?_
    (case side1 => repeat (first | exact (Kd.C_below HR0_3.out HB.out) | (with_reducible refine Kd.C_alloc ?_ _) | (with_reducible refine Kd.C_drewN ?_ _) | (with_reducible refine Kd.C_drew ?_))); (case side2 => exact HC0_3.out); rintro e w32 ⟨v1241, rfl, ho0, hb⟩; refine ⟨_, rfl, ?_⟩; have HO1242 := z0 (Kd.R_lower (Kd.R_new' (Kd.R_new' (Kd.R_new' (Kd.R_new' ho0 (Kd.R_lt (zr HO1220.out))) (Kd.R_lt (zr HO1224.out))) (Kd.R_lt (zr HO1230.out))) (Kd.R_lt (zr HO1235.out))) (below_size (zb HB.out))); replace HO1220 := z0 (Kd.R_elder' (zr HO1220.out) (Kd.R_base ho0) hb); replace HO1224 := z0 (Kd.R_elder' (zr HO1224.out) (Kd.R_base ho0) hb); replace HO1230 := z0 (Kd.R_elder' (zr HO1230.out) (Kd.R_base ho0) hb); replace HO1235 := z0 (Kd.R_elder' (zr HO1235.out) (Kd.R_base ho0) hb); replace BK1213 := zK BK1213 hb; replace BK1232 := zK BK1232 hb; replace HB := zH HB hb; (try clear hb ho0); obtain ⟨Ao33, co33, eo33⟩ := Kd.R_slice HO1242.out; (first | subst eo33 | (injection eo33 with f1_ f2_ f3_; have f4_ := f1_.symm; have f5_ := f3_.symm; clear f1_ f2_ f3_; subst f4_; subst f5_)); refine hK.out _ _ (zd5 BK1232.out ⟨(blk_cell BK1213.out 0).trans rfl, (blk_cell BK1213.out 1).trans rfl, (blk_cell BK1213.out 2).trans rfl, (blk_cell BK1213.out 3).trans rfl, (blk_cell BK1213.out 4).trans rfl⟩) (fun hHeld => ?_); clear hK K; refine znm ?_; refine zone 3 15 (fun K hK => ?_); refine zG2 Try.func49 #[.agg #[.string t1225, .string t1226, .string t1227, .slice Ao27 t1228.length co27, .int .i64 t1231], .agg #[.string t1237, .string t1238, .string t1239, .slice Ao33 t1240.length co33, .int .i64 t1243]] ?_
    with_reducible refine (laws_eqSieve.calls k t1225 t1226 t1227 _ _ t1228 t1231 t1237 t1238 t1239 _ _ t1240 t1243 true _ ?side1 ?side2 ?side3 ?side4 A14.out).mono ?_
    (case side1 => repeat (first | exact (Kd.R_reads' HO1230.out).2.2 | (with_reducible refine Kd.C_alloc ?_ _) | (with_reducible refine Kd.C_drewN ?_ _) | (with_reducible refine Kd.C_drew ?_))); (case side2 => exact (Kd.R_reads' HO1230.out).2.1); (case side3 => repeat (first | exact (Kd.R_reads' HO1242.out).2.2 | (with_reducible refine Kd.C_alloc ?_ _) | (with_reducible refine Kd.C_drewN ?_ _) | (with_reducible refine Kd.C_drew ?_))); (case side4 => exact (Kd.R_reads' HO1242.out).2.1); rintro e w34 ⟨rfl, hb⟩; refine ⟨_, rfl, ?_⟩; replace HO1220 := zA HO1220 hb; replace HO1224 := zA HO1224 hb; replace HO1230 := zA HO1230 hb; replace HO1235 := zA HO1235 hb; replace HO1242 := zA HO1242 hb; replace BK1213 := zK BK1213 hb; replace BK1232 := zK BK1232 hb; replace HB := zH HB hb; (try clear hb); refine hK.out _ _ (zd5 BK1232.out ⟨(blk_cell BK1213.out 0).trans rfl, (blk_cell BK1213.out 1).trans rfl, (blk_cell BK1213.out 2).trans rfl, (blk_cell BK1213.out 3).trans rfl, (blk_cell BK1213.out 4).trans rfl⟩) (fun hHeld => ?_); clear hK K; refine znm ?_; refine zu 4 31 ?_; refine done_ (by kernel_rfl) ?_; have hcz35 := zc5 BK1232.out
    go_upto_region 14 with (first | ((with_reducible refine gc 55 ?_); refine zL (some 34) Try.func55 #[.agg #[.string t1225, .string t1226, .string t1227, .slice Ao27 t1228.length co27, .int .i64 t1231], .int .i64 1] ?_; (with_reducible refine (laws_markSieve.calls k t1225 t1226 t1227 (fun k_ => some k_ = (.slice Ao27 t1228.length co27 : Value).ownBlock) (.slice Ao27 t1228.length co27) t1228 t1231 1 t1245 t1246 w _ (zb HB.out) (Kd.R_tight rfl HO1230.out) A16.out).mono ?_); rintro e w36 ⟨rfl, hy0, hb, hkp⟩; refine zv ?_; replace BK1213 := z0 (blk_kept (zl BK1213.out) hkp (fun hs_ => (fun e_ => (Kd.R_ne HO1230.out BK1213.out (by decide)) e_) hs_)); replace HO1220 := z0 (Kd.R_mono (ok' := fun k_ => some k_ ≠ (.slice Ao30 t1222.length co30 : Value).ownBlock ∧ some k_ ≠ (.slice Ao27 t1228.length co27 : Value).ownBlock ∧ some k_ ≠ (.slice Ao29 t1233.length co29 : Value).ownBlock ∧ some k_ ≠ (.slice Ao33 t1240.length co33 : Value).ownBlock) (Kd.R_keptB (HO1220.out) hkp (fun k_ hk_ hs_ => (hk_.1.1.2) hs_)) (fun k_ hk_ => ⟨hk_.1.1.1.1.2, hk_.1.1.1.2, hk_.1.1.2, hk_.1.2⟩)); replace HO1224 := z0 (Kd.R_mono (ok' := fun k_ => some k_ ≠ (.slice Ao20 t1218.length co20 : Value).ownBlock ∧ some k_ ≠ (.slice Ao27 t1228.length co27 : Value).ownBlock ∧ some k_ ≠ (.slice Ao29 t1233.length co29 : Value).ownBlock ∧ some k_ ≠ (.slice Ao33 t1240.length co33 : Value).ownBlock) (Kd.R_keptB (HO1224.out) hkp (fun k_ hk_ hs_ => (hk_.1.1.2) hs_)) (fun k_ hk_ => ⟨hk_.1.1.1.1.2, hk_.1.1.1.2, hk_.1.1.2, hk_.1.2⟩)); replace BK1232 := z0 (blk_kept (zl BK1232.out) hkp (fun hs_ => (fun e_ => (Kd.R_ne HO1230.out BK1232.out (by decide)) e_) hs_)); replace HO1230 := z0 (Kd.R_reok rfl hy0 (fun k_ e_ => HO1230.out.1 k_ e_)); replace HO1235 := z0 (Kd.R_mono (ok' := fun k_ => some k_ ≠ (.slice Ao20 t1218.length co20 : Value).ownBlock ∧ some k_ ≠ (.slice Ao30 t1222.length co30 : Value).ownBlock ∧ some k_ ≠ (.slice Ao27 t1228.length co27 : Value).ownBlock ∧ some k_ ≠ (.slice Ao33 t1240.length co33 : Value).ownBlock) (Kd.R_keptB (HO1235.out) hkp (fun k_ hk_ hs_ => (hk_.1.2) hs_)) (fun k_ hk_ => ⟨hk_.1.1.1.1.2, hk_.1.1.1.2, hk_.1.1.2, hk_.1.2⟩)); replace HO1242 := z0 (Kd.R_mono (ok' := fun k_ => some k_ ≠ (.slice Ao20 t1218.length co20 : Value).ownBlock ∧ some k_ ≠ (.slice Ao30 t1222.length co30 : Value).ownBlock ∧ some k_ ≠ (.slice Ao27 t1228.length co27 : Value).ownBlock ∧ some k_ ≠ (.slice Ao29 t1233.length co29 : Value).ownBlock) (Kd.R_keptB (HO1242.out) hkp (fun k_ hk_ hs_ => (hk_.1.2) hs_)) (fun k_ hk_ => ⟨hk_.1.1.1.1.2, hk_.1.1.1.2, hk_.1.1.2, hk_.1.2⟩)); replace HB := z0 (hb); (try clear hb); (try clear hkp); (try clear hy0)))
    (try simp only [Act.put, List.setIfInBounds_toArray, List.set_cons_zero, List.set_cons_succ])
    go_cut [42] (fun v42 wc => ∃ (kq : Nat) (x42_16 : Bool), v42 = .bool x42_16 ∧ Aside0 (laws_FnExactSieveHeads.j0 kq t1222 t1233 x42_16 a0_0 a0_1 a0_2 l0_3 a0_4 = some r) ∧ Aside0 (kq ≤ k) ∧ Aside0 (Kd.R Kd.string 9 wc w.heap.size (fun k_ => some k_ ≠ ((.slice Ao29 t1233.length co29) : Value).ownBlock ∧ some k_ ≠ ((.slice Ao27 t1228.length co27) : Value).ownBlock) (.slice Ao30 t1222.length co30) t1222) ∧ Aside0 (Kd.R Kd.string 9 wc w.heap.size (fun k_ => some k_ ≠ ((.slice Ao30 t1222.length co30) : Value).ownBlock ∧ some k_ ≠ ((.slice Ao27 t1228.length co27) : Value).ownBlock) (.slice Ao29 t1233.length co29) t1233) ∧ Aside0 (Kd.R Kd.string 9 wc w.heap.size (fun k_ => some k_ ≠ ((.slice Ao30 t1222.length co30) : Value).ownBlock ∧ some k_ ≠ ((.slice Ao29 t1233.length co29) : Value).ownBlock) (.slice Ao27 t1228.length co27) t1246) ∧ Aside0 (wc.heap[gb1213]? = some (.cells #[.string a0_0, .string a0_1, .string a0_2, (.slice A0_3 l0_3.length c0_3), .int .i64 a0_4] 49 (0, 0))) ∧ Aside0 (wc.heap[gb1232]? = some (.cells #[.string t1225, .string t1226, .string t1227, (.slice Ao27 t1228.length co27), .int .i64 t1231] 25 (0, 0))) ∧ Aside0 (Below w.heap.size w wc))
    case first =>
     have H := HC17.out; clear HC17
     by_cases c37 : t1245 < 0
     ·rw [if_pos c37] at H; have c37b0 := decide_eq_true c37; clear c37; (first | rw [c37b0] | (simp only [i64_w, i32_w]; rw [c37b0]) | simp only [*, Bool.not_true, Bool.not_false] | skip); have H' := z0 H; clear H; go_wp2; go_meet
      case rel => exact ⟨_, (true), zf, H', ⟨by first | omega | exact Nat.le_refl _⟩, ⟨Kd.R_mono (zr HO1224.out) (fun _ hk => ⟨hk.2.2.1, hk.2.1⟩)⟩, ⟨Kd.R_mono (zr HO1235.out) (fun _ hk => ⟨hk.2.1, hk.2.2.1⟩)⟩, ⟨Kd.R_mono (zr HO1230.out) (fun _ hk => ⟨hk.1.1.2, hk.1.2⟩)⟩, ⟨zl BK1213.out⟩, ⟨zl BK1232.out⟩, ⟨zb HB.out⟩⟩
     ·rw [if_neg c37] at H; have c37b0 := decide_eq_false c37; clear c37; (first | rw [c37b0] | (simp only [i64_w, i32_w]; rw [c37b0]) | simp only [*, Bool.not_true, Bool.not_false] | skip); replace H := zi H; obtain ⟨t1247, A38, H⟩ := H; have H' := z0 H; clear H
      go_wp2_with (first | (go_at_call 54; (with_reducible refine (laws_eqStringS.calls k _ _ t1233 _ _ t1222 t1247 _ ?side1 ?side2 ?side3 ?side4 A38.out).mono ?_); (case side1 => repeat (first | exact (Kd.R_reads' HO1235.out).2.2 | (with_reducible refine Kd.C_alloc ?_ _) | (with_reducible refine Kd.C_drewN ?_ _) | (with_reducible refine Kd.C_drew ?_))); (case side2 => exact (Kd.R_reads' HO1235.out).2.1); (case side3 => repeat (first | exact (Kd.R_reads' HO1224.out).2.2 | (with_reducible refine Kd.C_alloc ?_ _) | (with_reducible refine Kd.C_drewN ?_ _) | (with_reducible refine Kd.C_drew ?_))); (case side4 => exact (Kd.R_reads' HO1224.out).2.1); rintro e w' ⟨rfl, ⟨nd, rfl⟩⟩))
      go_meet
      case rel => exact ⟨_, (!t1247), zf, H', ⟨by first | omega | exact Nat.le_refl _⟩, ⟨Kd.R_mono (zr HO1224.out) (fun _ hk => ⟨hk.2.2.1, hk.2.1⟩)⟩, ⟨Kd.R_mono (zr HO1235.out) (fun _ hk => ⟨hk.2.1, hk.2.2.1⟩)⟩, ⟨Kd.R_mono (zr HO1230.out) (fun _ hk => ⟨hk.1.1.2, hk.1.2⟩)⟩, ⟨zl BK1213.out⟩, ⟨zl BK1232.out⟩, ⟨zb HB.out⟩⟩
    case rest =>
     clear HC17
     try clear c1
     try clear c2
     try clear p2
     try clear c3
     try clear c4
     try clear c5
     try clear c6
     try clear c6b0
     try clear c12
     try clear c15
     try clear c25
     try clear c37
     try clear c37b0
     try clear hcz18
     try clear hcz22
     try clear hcz26
     try clear hcz35
     try clear hcz4
     obtain ⟨kq, x42_16, rfl, HA, HJ16, HO_4, HO_6, HO_1233003, BK1213, BK1232, HB⟩ := hcut; have hl1233003_16 := (Kd.R_reads' HO_1233003.out).1; rw [hl1233003_16] at HO_1233003; (try simp only [hl1233003_16]); (try simp only [hl1233003_16] at BK1213); (try simp only [hl1233003_16] at BK1232); (try simp only [hl1233003_16] at HO_4); (try simp only [hl1233003_16] at HO_6)
     cases kq with
     | zero => exact absurd HA.out (by simp [laws_FnExactSieveHeads.j0])
     | succ kj16 =>
      have H := HA.out; clear HA; simp only [laws_FnExactSieveHeads.j0] at H
      by_cases c39 : x42_16 = true
      ·subst c39
       have H1 : (some false) = some r := by rw [if_pos rfl] at H; exact H
       clear H; have H := H1; clear H1; obtain rfl := Option.some.inj H; go_wp2; go_ret; exact ⟨ze, zb HB.out⟩
      ·replace c39 := Bool.eq_false_iff.mpr c39; subst c39
       have H1 : ((laws_markStringS.f kj16 t1233 1).bind fun bt1248 => ((laws_heldStringS.f kj16 bt1248.2 1).bind fun t1250 => (if t1250 < 0 then (some false) else (if t1250 = bt1248.1 then ((laws_toSieve.f kj16 a0_0 a0_1 a0_2 l0_3 a0_4).bind fun bt1251 => ((impl_SieveHeads.f kj16 bt1251.1 bt1251.2.1 bt1251.2.2.1 bt1251.2.2.2.1 bt1251.2.2.2.2).bind fun t1258 => ((laws_eqStringS.f kj16 t1258 t1222).bind fun t1261 => (if t1261 = true then ((laws_heldStringS.f kj16 bt1248.2 1).bind fun t1262 => (if t1262 < 0 then (some false) else (if t1262 = bt1248.1 then (some true) else (some false)))) else (some false))))) else (some false))))) = some r := by rw [if_neg (show ¬ (false = true) by decide)] at H; exact H
       clear H; have H := H1; clear H1; replace H := zi H; obtain ⟨⟨t1248, t1249⟩, A40, H⟩ := H; (try dsimp only at H); replace H := zi H; obtain ⟨t1250, A41, H⟩ := H
       go_upto_if 50 with (first | ((with_reducible refine gc 56 ?_); refine zL (some 45) Try.func56 #[.slice Ao29 t1233.length co29, .int .i64 1] ?_; (with_reducible refine (laws_markStringS.calls kj16 (fun k_ => some k_ = (.slice Ao29 t1233.length co29 : Value).ownBlock) (.slice Ao29 t1233.length co29) t1233 1 t1248 t1249 w _ (zb HB.out) (Kd.R_tight rfl HO_6.out) A40.out).mono ?_); rintro e w42 ⟨rfl, hy0, hb, hkp⟩; refine zv ?_; replace HO_4 := z0 (Kd.R_mono (ok' := fun k_ => some k_ ≠ (.slice Ao29 t1233.length co29 : Value).ownBlock ∧ some k_ ≠ (.slice Ao27 t1246.length co27 : Value).ownBlock) (Kd.R_keptB (HO_4.out) hkp (fun k_ hk_ hs_ => (hk_.1) hs_)) (fun k_ hk_ => ⟨hk_.1.1, hk_.1.2⟩)); replace HO_1233003 := z0 (Kd.R_mono (ok' := fun k_ => some k_ ≠ (.slice Ao30 t1222.length co30 : Value).ownBlock ∧ some k_ ≠ (.slice Ao29 t1233.length co29 : Value).ownBlock) (Kd.R_keptB (HO_1233003.out) hkp (fun k_ hk_ hs_ => (hk_.2) hs_)) (fun k_ hk_ => ⟨hk_.1.1, hk_.1.2⟩)); replace BK1213 := z0 (blk_kept (zl BK1213.out) hkp (fun hs_ => (fun e_ => (Kd.R_ne HO_6.out BK1213.out (by decide)) e_) hs_)); replace BK1232 := z0 (blk_kept (zl BK1232.out) hkp (fun hs_ => (fun e_ => (Kd.R_ne HO_6.out BK1232.out (by decide)) e_) hs_)); replace HO_6 := z0 (Kd.R_reok rfl hy0 (fun k_ e_ => HO_6.out.1 k_ e_)); replace HB := z0 (hb); (try clear hb); (try clear hkp); (try clear hy0)) | ((with_reducible refine gc 57 ?_); refine goesL_ (some 48) rfl rfl Try.func57 (by kernel_rfl) rfl #[.slice Ao29 t1249.length co29, .int .i64 1] rfl (by (try simp only [List.map_toArray, List.map_cons, List.map_nil]); first | done | (rw [show t1249.length = t1233.length from (Kd.R_reads' HO_6.out).1.symm] <;> rfl) | rfl | (simp only [List.length_drop, List.length_take]; rfl)) ?_; (with_reducible refine (laws_heldStringS.calls kj16 _ _ t1249 1 t1250 _ ?side1 ?side2 A41.out).mono ?_); (case side1 => repeat (first | exact (Kd.R_reads' HO_6.out).2.2 | (with_reducible refine Kd.C_alloc ?_ _) | (with_reducible refine Kd.C_drewN ?_ _) | (with_reducible refine Kd.C_drew ?_))); (case side2 => rw [show t1249.length = t1233.length from (Kd.R_reads' HO_6.out).1.symm]; exact (Kd.R_reads' HO_6.out).2.1); rintro e w43 ⟨rfl, hb⟩; refine ⟨_, rfl, ?_⟩; replace HO_4 := zA HO_4 hb; replace HO_6 := zA HO_6 hb; replace HO_1233003 := zA HO_1233003 hb; replace BK1213 := zK BK1213 hb; replace BK1232 := zK BK1232 hb; replace HB := zH HB hb; (try clear hb)))
       by_cases c44 : t1250 < 0
       ·rw [if_pos c44] at H; have c44b0 := decide_eq_true c44; clear c44; (first | rw [c44b0] | (simp only [i64_w, i32_w]; rw [c44b0]) | simp only [*, Bool.not_true, Bool.not_false] | skip); obtain rfl := Option.some.inj H; go_wp2; go_ret; exact ⟨ze, zb HB.out⟩
       ·rw [if_neg c44] at H; have c44b0 := decide_eq_false c44; clear c44; (first | rw [c44b0] | (simp only [i64_w, i32_w]; rw [c44b0]) | simp only [*, Bool.not_true, Bool.not_false] | skip)
        by_cases c45 : t1250 = t1248
        ·rw [if_pos c45] at H; have c45b0 : (t1250 == t1248) = true := beq_iff_eq.mpr c45; have c45b1 : (t1250 != t1248) = false := bne_eq_false_iff_eq.mpr c45; clear c45; replace H := zi H; obtain ⟨⟨t1251, t1252, t1253, t1254, t1257⟩, A46, H⟩ := H; (try dsimp only at H); replace H := zi H; obtain ⟨t1258, A47, H⟩ := H; replace H := zi H; obtain ⟨t1261, A48, H⟩ := H
         by_cases c49 : t1261 = true
         ·subst c49
          have H1 : ((laws_heldStringS.f kj16 t1249 1).bind fun t1262 => (if t1262 < 0 then (some false) else (if t1262 = t1248 then (some true) else (some false)))) = some r := by rw [if_pos rfl] at H; exact H
          clear H; have H := H1; clear H1; replace H := zi H; obtain ⟨t1262, A50, H⟩ := H; have hnb51 := NB1213_1232.out; have hnc51 := NB1232_1213.out; have hcz52 := zc5 BK1213.out
          go_upto_if 65 with (first | ((with_reducible refine gc 47 ?_); refine zL (some 55) Try.func47 #[.agg #[.string a0_0, .string a0_1, .string a0_2, .slice A0_3 l0_3.length c0_3, .int .i64 a0_4]] ?_; (with_reducible refine (laws_toSieve.calls kj16 a0_0 a0_1 a0_2 _ _ l0_3 a0_4 t1251 t1252 t1253 t1254 t1257 _ (zC (Kd.C_below HR0_3.out HB.out)) HC0_3.out A46.out).mono ?_); rintro e w53 ⟨v1255, rfl, ho0, hb⟩; refine zv ?_; have HO1256 := z0 (Kd.R_lower (Kd.R_new' (Kd.R_new' (Kd.R_new' ho0 (Kd.R_lt (zr HO_4.out))) (Kd.R_lt (zr HO_6.out))) (Kd.R_lt (zr HO_1233003.out))) (below_size (zb HB.out))); replace HO_4 := z0 (Kd.R_elder' (zr HO_4.out) (Kd.R_base ho0) hb); replace HO_6 := z0 (Kd.R_elder' (zr HO_6.out) (Kd.R_base ho0) hb); replace HO_1233003 := z0 (Kd.R_elder' (zr HO_1233003.out) (Kd.R_base ho0) hb); replace BK1213 := zK BK1213 hb; replace BK1232 := zK BK1232 hb; replace HB := zH HB hb; (try clear hb ho0); obtain ⟨Ao54, co54, eo54⟩ := Kd.R_slice HO1256.out; subst eo54) | ((with_reducible refine gc 41 ?_); refine zL (some 56) Try.func41 #[.agg #[.string t1251, .string t1252, .string t1253, .slice Ao54 t1254.length co54, .int .i64 t1257]] ?_; (with_reducible refine (impl_SieveHeads.calls kj16 t1251 t1252 t1253 _ _ t1254 t1257 t1258 _ (zC ((Kd.R_reads' HO1256.out).2.2)) ((Kd.R_reads' HO1256.out).2.1) A47.out).mono ?_); rintro e w55 ⟨v1259, rfl, ho0, hb⟩; refine zv ?_; have HO1260 := z0 (Kd.R_lower (Kd.R_new' (Kd.R_new' (Kd.R_new' (Kd.R_new' ho0 (Kd.R_lt (zr HO_4.out))) (Kd.R_lt (zr HO_6.out))) (Kd.R_lt (zr HO_1233003.out))) (Kd.R_lt (zr HO1256.out))) (below_size (zb HB.out))); replace HO_4 := z0 (Kd.R_elder' (zr HO_4.out) (Kd.R_base ho0) hb); replace HO_6 := z0 (Kd.R_elder' (zr HO_6.out) (Kd.R_base ho0) hb); replace HO_1233003 := z0 (Kd.R_elder' (zr HO_1233003.out) (Kd.R_base ho0) hb); replace HO1256 := z0 (Kd.R_elder' (zr HO1256.out) (Kd.R_base ho0) hb); replace BK1213 := zK BK1213 hb; replace BK1232 := zK BK1232 hb; replace HB := zH HB hb; (try clear hb ho0); obtain ⟨Ao56, co56, eo56⟩ := Kd.R_slice HO1260.out; subst eo56) | ((with_reducible refine gc 54 ?_); refine zL (some 59) Try.func54 #[.slice Ao56 t1258.length co56, .slice Ao30 t1222.length co30] ?_; (with_reducible refine (laws_eqStringS.calls kj16 _ _ t1258 _ _ t1222 true _ ?side1 ?side2 ?side3 ?side4 A48.out).mono ?_); (case side1 => repeat (first | exact (Kd.R_reads' HO1260.out).2.2 | (with_reducible refine Kd.C_alloc ?_ _) | (with_reducible refine Kd.C_drewN ?_ _) | (with_reducible refine Kd.C_drew ?_))); (case side2 => exact (Kd.R_reads' HO1260.out).2.1); (case side3 => repeat (first | exact (Kd.R_reads' HO_4.out).2.2 | (with_reducible refine Kd.C_alloc ?_ _) | (with_reducible refine Kd.C_drewN ?_ _) | (with_reducible refine Kd.C_drew ?_))); (case side4 => exact (Kd.R_reads' HO_4.out).2.1); rintro e w' ⟨rfl, ⟨nd, rfl⟩⟩; refine ⟨_, rfl, ?_⟩) | ((with_reducible refine gc 57 ?_); refine goesL_ (some 63) rfl rfl Try.func57 (by kernel_rfl) rfl #[.slice Ao29 t1249.length co29, .int .i64 1] rfl (by (try simp only [List.map_toArray, List.map_cons, List.map_nil]); first | done | (rw [show t1249.length = t1233.length from (Kd.R_reads' HO_6.out).1.symm] <;> rfl) | rfl | (simp only [List.length_drop, List.length_take]; rfl)) ?_; (with_reducible refine (laws_heldStringS.calls kj16 _ _ t1249 1 t1262 _ ?side1 ?side2 A50.out).mono ?_); (case side1 => repeat (first | exact (Kd.R_reads' HO_6.out).2.2 | (with_reducible refine Kd.C_alloc ?_ _) | (with_reducible refine Kd.C_drewN ?_ _) | (with_reducible refine Kd.C_drew ?_))); (case side2 => rw [show t1249.length = t1233.length from (Kd.R_reads' HO_6.out).1.symm]; exact (Kd.R_reads' HO_6.out).2.1); rintro e w57 ⟨rfl, hb⟩; refine ⟨_, rfl, ?_⟩; replace HO_4 := zA HO_4 hb; replace HO_6 := zA HO_6 hb; replace HO_1233003 := zA HO_1233003 hb; replace HO1256 := zA HO1256 hb; replace HO1260 := zA HO1260 hb; replace BK1213 := zK BK1213 hb; replace BK1232 := zK BK1232 hb; replace HB := zH HB hb; (try clear hb)))
          by_cases c58 : t1262 < 0
          ·rw [if_pos c58] at H; have c58b0 := decide_eq_true c58; clear c58; (first | rw [c58b0] | (simp only [i64_w, i32_w]; rw [c58b0]) | simp only [*, Bool.not_true, Bool.not_false] | skip); obtain rfl := Option.some.inj H; go_wp2; go_ret; exact ⟨ze, zb HB.out⟩
          ·rw [if_neg c58] at H; have c58b0 := decide_eq_false c58; clear c58; (first | rw [c58b0] | (simp only [i64_w, i32_w]; rw [c58b0]) | simp only [*, Bool.not_true, Bool.not_false] | skip)
           by_cases c59 : t1262 = t1248
           ·rw [if_pos c59] at H; have c59b0 : (t1262 == t1248) = true := beq_iff_eq.mpr c59; have c59b1 : (t1262 != t1248) = false := bne_eq_false_iff_eq.mpr c59; clear c59; obtain rfl := Option.some.inj H; go_wp2; go_ret; exact ⟨ze, zb HB.out⟩
           ·rw [if_neg c59] at H; have c59b0 : (t1262 == t1248) = false := beq_eq_false_iff_ne.mpr c59; have c59b1 : (t1262 != t1248) = true := bne_iff_ne.mpr c59; obtain rfl := Option.some.inj H; go_wp2; go_ret; exact ⟨ze, zb HB.out⟩
         ·replace c49 := Bool.eq_false_iff.mpr c49; subst c49
          have H1 : (some false) = some r := by rw [if_neg (show ¬ (false = true) by decide)] at H; exact H
          clear H; have H := H1; clear H1; obtain rfl := Option.some.inj H; have hnb60 := NB1213_1232.out; have hnc60 := NB1232_1213.out; have hcz61 := zc5 BK1213.out
          go_wp2_with (first | ((with_reducible refine gc 47 ?_); refine zL (some 55) Try.func47 #[.agg #[.string a0_0, .string a0_1, .string a0_2, .slice A0_3 l0_3.length c0_3, .int .i64 a0_4]] ?_; (with_reducible refine (laws_toSieve.calls kj16 a0_0 a0_1 a0_2 _ _ l0_3 a0_4 t1251 t1252 t1253 t1254 t1257 _ (zC (Kd.C_below HR0_3.out HB.out)) HC0_3.out A46.out).mono ?_); rintro e w62 ⟨v1255, rfl, ho0, hb⟩; refine zv ?_; have HO1256 := z0 (Kd.R_lower (Kd.R_new' (Kd.R_new' (Kd.R_new' ho0 (Kd.R_lt (zr HO_4.out))) (Kd.R_lt (zr HO_6.out))) (Kd.R_lt (zr HO_1233003.out))) (below_size (zb HB.out))); replace HO_4 := z0 (Kd.R_elder' (zr HO_4.out) (Kd.R_base ho0) hb); replace HO_6 := z0 (Kd.R_elder' (zr HO_6.out) (Kd.R_base ho0) hb); replace HO_1233003 := z0 (Kd.R_elder' (zr HO_1233003.out) (Kd.R_base ho0) hb); replace BK1213 := zK BK1213 hb; replace BK1232 := zK BK1232 hb; replace HB := zH HB hb; (try clear hb ho0); obtain ⟨Ao63, co63, eo63⟩ := Kd.R_slice HO1256.out; subst eo63) | ((with_reducible refine gc 41 ?_); refine zL (some 56) Try.func41 #[.agg #[.string t1251, .string t1252, .string t1253, .slice Ao63 t1254.length co63, .int .i64 t1257]] ?_; (with_reducible refine (impl_SieveHeads.calls kj16 t1251 t1252 t1253 _ _ t1254 t1257 t1258 _ (zC ((Kd.R_reads' HO1256.out).2.2)) ((Kd.R_reads' HO1256.out).2.1) A47.out).mono ?_); rintro e w64 ⟨v1259, rfl, ho0, hb⟩; refine zv ?_; have HO1260 := z0 (Kd.R_lower (Kd.R_new' (Kd.R_new' (Kd.R_new' (Kd.R_new' ho0 (Kd.R_lt (zr HO_4.out))) (Kd.R_lt (zr HO_6.out))) (Kd.R_lt (zr HO_1233003.out))) (Kd.R_lt (zr HO1256.out))) (below_size (zb HB.out))); replace HO_4 := z0 (Kd.R_elder' (zr HO_4.out) (Kd.R_base ho0) hb); replace HO_6 := z0 (Kd.R_elder' (zr HO_6.out) (Kd.R_base ho0) hb); replace HO_1233003 := z0 (Kd.R_elder' (zr HO_1233003.out) (Kd.R_base ho0) hb); replace HO1256 := z0 (Kd.R_elder' (zr HO1256.out) (Kd.R_base ho0) hb); replace BK1213 := zK BK1213 hb; replace BK1232 := zK BK1232 hb; replace HB := zH HB hb; (try clear hb ho0); obtain ⟨Ao65, co65, eo65⟩ := Kd.R_slice HO1260.out; subst eo65) | ((with_reducible refine gc 54 ?_); refine zL (some 59) Try.func54 #[.slice Ao65 t1258.length co65, .slice Ao30 t1222.length co30] ?_; (with_reducible refine (laws_eqStringS.calls kj16 _ _ t1258 _ _ t1222 false _ ?side1 ?side2 ?side3 ?side4 A48.out).mono ?_); (case side1 => repeat (first | exact (Kd.R_reads' HO1260.out).2.2 | (with_reducible refine Kd.C_alloc ?_ _) | (with_reducible refine Kd.C_drewN ?_ _) | (with_reducible refine Kd.C_drew ?_))); (case side2 => exact (Kd.R_reads' HO1260.out).2.1); (case side3 => repeat (first | exact (Kd.R_reads' HO_4.out).2.2 | (with_reducible refine Kd.C_alloc ?_ _) | (with_reducible refine Kd.C_drewN ?_ _) | (with_reducible refine Kd.C_drew ?_))); (case side4 => exact (Kd.R_reads' HO_4.out).2.1); rintro e w' ⟨rfl, ⟨nd, rfl⟩⟩; refine ⟨_, rfl, ?_⟩))
          go_ret; exact ⟨ze, zb HB.out⟩
        ·rw [if_neg c45] at H; have c45b0 : (t1250 == t1248) = false := beq_eq_false_iff_ne.mpr c45; have c45b1 : (t1250 != t1248) = true := bne_iff_ne.mpr c45; obtain rfl := Option.some.inj H; go_wp2; go_ret; exact ⟨ze, zb HB.out⟩
   ·replace c15 := Bool.eq_false_iff.mpr c15; subst c15
    have H1 : (some false) = some r := by rw [if_neg (show ¬ (false = true) by decide)] at H; exact H
    clear H; have H := H1; clear H1; obtain rfl := Option.some.inj H; have hcz66 := zc5 BK1213.out
    try go_wp2_with (first | ((with_reducible refine gc 47 ?_); refine zL (some 17) Try.func47 #[.agg #[.string a0_0, .string a0_1, .string a0_2, .slice A0_3 l0_3.length c0_3, .int .i64 a0_4]] ?_; (with_reducible refine (laws_toSieve.calls k a0_0 a0_1 a0_2 _ _ l0_3 a0_4 t1215 t1216 t1217 t1218 t1221 _ (zC (Kd.C_below HR0_3.out HB.out)) HC0_3.out A7.out).mono ?_); rintro e w67 ⟨v1219, rfl, ho0, hb⟩; refine zv ?_; have HO1220 := z0 (Kd.R_lower ho0 (below_size (zb HB.out))); replace BK1213 := zK BK1213 hb; replace HB := zH HB hb; (try clear hb ho0); obtain ⟨Ao68, co68, eo68⟩ := Kd.R_slice HO1220.out; subst eo68) | ((with_reducible refine gc 53 ?_); refine zL (some 18) Try.func53 #[.agg #[.string t1215, .string t1216, .string t1217, .slice Ao68 t1218.length co68, .int .i64 t1221]] ?_; (with_reducible refine (spec_SieveHeads.calls k t1215 t1216 t1217 _ _ t1218 t1221 t1222 _ (zC ((Kd.R_reads' HO1220.out).2.2)) ((Kd.R_reads' HO1220.out).2.1) A8.out).mono ?_); rintro e w69 ⟨v1223, rfl, ho0, hb⟩; refine zv ?_; have HO1224 := z0 (Kd.R_lower (Kd.R_new' ho0 (Kd.R_lt (zr HO1220.out))) (below_size (zb HB.out))); replace HO1220 := z0 (Kd.R_elder' (zr HO1220.out) (Kd.R_base ho0) hb); replace BK1213 := zK BK1213 hb; replace HB := zH HB hb; (try clear hb ho0); have hcz70 := zc5 BK1213.out) | ((with_reducible refine gc 47 ?_); refine zL (some 20) Try.func47 #[.agg #[.string a0_0, .string a0_1, .string a0_2, .slice A0_3 l0_3.length c0_3, .int .i64 a0_4]] ?_; (with_reducible refine (laws_toSieve.calls k a0_0 a0_1 a0_2 _ _ l0_3 a0_4 t1225 t1226 t1227 t1228 t1231 _ (zC (Kd.C_below HR0_3.out HB.out)) HC0_3.out A9.out).mono ?_); rintro e w71 ⟨v1229, rfl, ho0, hb⟩; refine zv ?_; have HO1230 := z0 (Kd.R_lower (Kd.R_new' (Kd.R_new' ho0 (Kd.R_lt (zr HO1220.out))) (Kd.R_lt (zr HO1224.out))) (below_size (zb HB.out))); replace HO1220 := z0 (Kd.R_elder' (zr HO1220.out) (Kd.R_base ho0) hb); replace HO1224 := z0 (Kd.R_elder' (zr HO1224.out) (Kd.R_base ho0) hb); replace BK1213 := zK BK1213 hb; replace HB := zH HB hb; (try clear hb ho0)) | ((with_reducible refine gd 5 ?_); refine zbx 25 #[.string ⟨#[]⟩, .string ⟨#[]⟩, .string ⟨#[]⟩, .slice none 0 0, .int .i64 0] ?_; intro gb1232 hg w72 hbox hb; replace HO1220 := zA HO1220 hb; replace HO1224 := zA HO1224 hb; replace HO1230 := zA HO1230 hb; have BK1232 := z0 (hbox); have GE1232 := zG hg HB; replace HB := zH HB hb; have NB1213_1232 := zLt hg BK1213; have NB1232_1213 := zGt hg BK1213; replace BK1213 := zK BK1213 hb; clear hb hbox hg; have hnb73 := NB1232_1213.out; have hnc73 := NB1213_1232.out; have hcz74 := zc5 BK1232.out; obtain ⟨Ao75, co75, eo75⟩ := Kd.R_slice HO1230.out; subst eo75) | ((with_reducible refine gc 41 ?_); refine zL (some 22) Try.func41 #[.agg #[.string t1225, .string t1226, .string t1227, .slice Ao75 t1228.length co75, .int .i64 t1231]] ?_; (with_reducible refine (impl_SieveHeads.calls k t1225 t1226 t1227 _ _ t1228 t1231 t1233 _ ?side1 ((Kd.R_reads' HO1230.out).2.1) A10.out).mono ?_); (case side1 => refine (Kd.R_reads' (e := 9) (base := w.heap.size) (ok := fun k_ => ((True ∧ some k_ ≠ (.slice Ao68 t1218.length co68 : Value).ownBlock) ∧ some k_ ≠ (v1223 : Value).ownBlock)) (n := t1228.length) (c := co75) ?_).2.2; exact (zs HO1230.out BK1232.out)); rintro e w76 ⟨v1234, rfl, ho0, hb⟩; refine zv ?_; have HO1235 := z0 (Kd.R_lower (Kd.R_new' (Kd.R_new' (Kd.R_new' ho0 (Kd.R_lt (zs HO1220.out BK1232.out))) (Kd.R_lt (zs HO1224.out BK1232.out))) (Kd.R_lt (zs HO1230.out BK1232.out))) (below_size (zb HB.out))); replace HO1220 := z0 (Kd.R_elder' (zs HO1220.out BK1232.out) (Kd.R_base ho0) hb); replace HO1224 := z0 (Kd.R_elder' (zs HO1224.out BK1232.out) (Kd.R_base ho0) hb); replace HO1230 := z0 (Kd.R_elder' (zs HO1230.out BK1232.out) (Kd.R_base ho0) hb); replace BK1213 := zKy BK1213 hb; replace BK1232 := z0 (blk_below (zpc BK1232.out #[.string t1225, .string t1226, .string t1227, .slice Ao75 t1228.length co75, .int .i64 t1231]) hb); replace HB := zH HB hb; (try clear hb ho0); obtain ⟨Ao77, co77, eo77⟩ := Kd.R_slice HO1235.out; subst eo77; obtain ⟨Ao78, co78, eo78⟩ := Kd.R_slice HO1224.out; subst eo78) | ((with_reducible refine gc 54 ?_); refine zL (some 25) Try.func54 #[.slice Ao77 t1233.length co77, .slice Ao78 t1222.length co78] ?_; (with_reducible refine (laws_eqStringS.calls k _ _ t1233 _ _ t1222 true _ ?side1 ?side2 ?side3 ?side4 A11.out).mono ?_); (case side1 => repeat (first | exact (Kd.R_reads' HO1235.out).2.2 | (with_reducible refine Kd.C_alloc ?_ _) | (with_reducible refine Kd.C_drewN ?_ _) | (with_reducible refine Kd.C_drew ?_))); (case side2 => exact (Kd.R_reads' HO1235.out).2.1); (case side3 => repeat (first | exact (Kd.R_reads' HO1224.out).2.2 | (with_reducible refine Kd.C_alloc ?_ _) | (with_reducible refine Kd.C_drewN ?_ _) | (with_reducible refine Kd.C_drew ?_))); (case side4 => exact (Kd.R_reads' HO1224.out).2.1); rintro e w' ⟨rfl, ⟨nd, rfl⟩⟩; refine ⟨_, rfl, ?_⟩))
    (try (rw [drewN_self w76]; generalize hq_ : World.drewN w76 _ = w76; have n0_ : Aside0 (Kd.R Kd.string 9 w76 w.heap.size (fun k_ => ((True ∧ some k_ ≠ (.slice Ao78 t1222.length co78 : Value).ownBlock) ∧ some k_ ≠ (.slice Ao75 t1228.length co75 : Value).ownBlock) ∧ some k_ ≠ (.slice Ao77 t1233.length co77 : Value).ownBlock) (.slice Ao68 t1218.length co68) t1218) := ⟨by rw [← hq_]; exact (zr HO1220.out)⟩; have n1_ : Aside0 (Kd.R Kd.string 9 w76 w.heap.size (fun k_ => ((True ∧ some k_ ≠ (.slice Ao68 t1218.length co68 : Value).ownBlock) ∧ some k_ ≠ (.slice Ao75 t1228.length co75 : Value).ownBlock) ∧ some k_ ≠ (.slice Ao77 t1233.length co77 : Value).ownBlock) (.slice Ao78 t1222.length co78) t1222) := ⟨by rw [← hq_]; exact (zr HO1224.out)⟩; have n2_ : Aside0 (Kd.R Kd.string 9 w76 w.heap.size (fun k_ => ((True ∧ some k_ ≠ (.slice Ao68 t1218.length co68 : Value).ownBlock) ∧ some k_ ≠ (.slice Ao78 t1222.length co78 : Value).ownBlock) ∧ some k_ ≠ (.slice Ao77 t1233.length co77 : Value).ownBlock) (.slice Ao75 t1228.length co75) t1228) := ⟨by rw [← hq_]; exact (zr HO1230.out)⟩; have n3_ : Aside0 (Kd.R Kd.string 9 w76 w.heap.size (fun k_ => ((True ∧ some k_ ≠ (.slice Ao68 t1218.length co68 : Value).ownBlock) ∧ some k_ ≠ (.slice Ao78 t1222.length co78 : Value).ownBlock) ∧ some k_ ≠ (.slice Ao75 t1228.length co75 : Value).ownBlock) (.slice Ao77 t1233.length co77) t1233) := ⟨by rw [← hq_]; exact (zr HO1235.out)⟩; have n4_ : Aside0 (w76.heap[gb1213]? = some (.cells #[.string a0_0, .string a0_1, .string a0_2, .slice A0_3 l0_3.length c0_3, .int .i64 a0_4] 49 (0, 0))) := ⟨by rw [← hq_]; exact (zl BK1213.out)⟩; have n5_ : Aside0 (w76.heap[gb1232]? = some (.cells #[.string t1225, .string t1226, .string t1227, .slice Ao75 t1228.length co75, .int .i64 t1231] 25 (0, 0))) := ⟨by rw [← hq_]; exact (zl BK1232.out)⟩; have n6_ : Aside0 (Below w.heap.size w w76) := ⟨by rw [← hq_]; exact (zb HB.out)⟩; clear HO1220 HO1224 HO1230 HO1235 BK1213 BK1232 HB hq_; have HO1220 := n0_; have HO1224 := n1_; have HO1230 := n2_; have HO1235 := n3_; have BK1213 := n4_; have BK1232 := n5_; have HB := n6_; clear n0_ n1_ n2_ n3_ n4_ n5_ n6_)); replace HO1220 := z0 (Kd.R_drew HO1220.out); replace HO1224 := z0 (Kd.R_drew HO1224.out); replace HO1230 := z0 (Kd.R_drew HO1230.out); replace HO1235 := z0 (Kd.R_drew HO1235.out); replace BK1213 := z0 (blk_drew BK1213.out); replace BK1232 := z0 (blk_drew BK1232.out); replace HB := z0 (below_drew1 HB.out); refine start_ (n := 5) (S := fun w' => w'.cell? ⟨gb1232, 0, none⟩ = some (.string t1225) ∧ w'.cell? ⟨gb1232, 1, none⟩ = some (.string t1226) ∧ w'.cell? ⟨gb1232, 2, none⟩ = some (.string t1227) ∧ w'.cell? ⟨gb1232, 3, none⟩ = some (.slice Ao75 t1228.length co75) ∧ w'.cell? ⟨gb1232, 4, none⟩ = some (.int .i64 t1231) ∧ w'.cell? ⟨gb1213, 0, none⟩ = some (.string a0_0) ∧ w'.cell? ⟨gb1213, 1, none⟩ = some (.string a0_1) ∧ w'.cell? ⟨gb1213, 2, none⟩ = some (.string a0_2) ∧ w'.cell? ⟨gb1213, 3, none⟩ = some (.slice A0_3 l0_3.length c0_3) ∧ w'.cell? ⟨gb1213, 4, none⟩ = some (.int .i64 a0_4)) (ds := []) (fb 5 0) (by kernel_rfl) rfl rfl (zd5 BK1232.out ⟨(blk_cell BK1213.out 0).trans rfl, (blk_cell BK1213.out 1).trans rfl, (blk_cell BK1213.out 2).trans rfl, (blk_cell BK1213.out 3).trans rfl, (blk_cell BK1213.out 4).trans rfl⟩) (fun hHeld => ?_); generalize w76.drew = w79 at HO1220 HO1224 HO1230 HO1235 BK1213 BK1232 HB hHeld ⊢; refine zx 0 1 hHeld ?_; refine zx 1 3 hHeld ?_; refine zone 2 7 (fun K hK => ?_); refine zG2 Try.func47 #[.agg #[.string a0_0, .string a0_1, .string a0_2, .slice A0_3 l0_3.length c0_3, .int .i64 a0_4]] ?_
    with_reducible refine (laws_toSieve.calls k a0_0 a0_1 a0_2 _ _ l0_3 a0_4 t1237 t1238 t1239 t1240 t1243 _ ?side1 ?side2 A13.out).mono ?_
    (case side1 => repeat (first | exact (Kd.C_below HR0_3.out HB.out) | (with_reducible refine Kd.C_alloc ?_ _) | (with_reducible refine Kd.C_drewN ?_ _) | (with_reducible refine Kd.C_drew ?_))); (case side2 => exact HC0_3.out); rintro e w80 ⟨v1241, rfl, ho0, hb⟩; refine ⟨_, rfl, ?_⟩; have HO1242 := z0 (Kd.R_lower (Kd.R_new' (Kd.R_new' (Kd.R_new' (Kd.R_new' ho0 (Kd.R_lt (zr HO1220.out))) (Kd.R_lt (zr HO1224.out))) (Kd.R_lt (zr HO1230.out))) (Kd.R_lt (zr HO1235.out))) (below_size (zb HB.out))); replace HO1220 := z0 (Kd.R_elder' (zr HO1220.out) (Kd.R_base ho0) hb); replace HO1224 := z0 (Kd.R_elder' (zr HO1224.out) (Kd.R_base ho0) hb); replace HO1230 := z0 (Kd.R_elder' (zr HO1230.out) (Kd.R_base ho0) hb); replace HO1235 := z0 (Kd.R_elder' (zr HO1235.out) (Kd.R_base ho0) hb); replace BK1213 := zK BK1213 hb; replace BK1232 := zK BK1232 hb; replace HB := zH HB hb; (try clear hb ho0); obtain ⟨Ao81, co81, eo81⟩ := Kd.R_slice HO1242.out; (first | subst eo81 | (injection eo81 with f1_ f2_ f3_; have f4_ := f1_.symm; have f5_ := f3_.symm; clear f1_ f2_ f3_; subst f4_; subst f5_)); refine hK.out _ _ (zd5 BK1232.out ⟨(blk_cell BK1213.out 0).trans rfl, (blk_cell BK1213.out 1).trans rfl, (blk_cell BK1213.out 2).trans rfl, (blk_cell BK1213.out 3).trans rfl, (blk_cell BK1213.out 4).trans rfl⟩) (fun hHeld => ?_); clear hK K; refine znm ?_; refine zone 3 15 (fun K hK => ?_); refine zG2 Try.func49 #[.agg #[.string t1225, .string t1226, .string t1227, .slice Ao75 t1228.length co75, .int .i64 t1231], .agg #[.string t1237, .string t1238, .string t1239, .slice Ao81 t1240.length co81, .int .i64 t1243]] ?_
    with_reducible refine (laws_eqSieve.calls k t1225 t1226 t1227 _ _ t1228 t1231 t1237 t1238 t1239 _ _ t1240 t1243 false _ ?side1 ?side2 ?side3 ?side4 A14.out).mono ?_
    (case side1 => repeat (first | exact (Kd.R_reads' HO1230.out).2.2 | (with_reducible refine Kd.C_alloc ?_ _) | (with_reducible refine Kd.C_drewN ?_ _) | (with_reducible refine Kd.C_drew ?_))); (case side2 => exact (Kd.R_reads' HO1230.out).2.1); (case side3 => repeat (first | exact (Kd.R_reads' HO1242.out).2.2 | (with_reducible refine Kd.C_alloc ?_ _) | (with_reducible refine Kd.C_drewN ?_ _) | (with_reducible refine Kd.C_drew ?_))); (case side4 => exact (Kd.R_reads' HO1242.out).2.1); rintro e w82 ⟨rfl, hb⟩; refine ⟨_, rfl, ?_⟩; replace HO1220 := zA HO1220 hb; replace HO1224 := zA HO1224 hb; replace HO1230 := zA HO1230 hb; replace HO1235 := zA HO1235 hb; replace HO1242 := zA HO1242 hb; replace BK1213 := zK BK1213 hb; replace BK1232 := zK BK1232 hb; replace HB := zH HB hb; (try clear hb); refine hK.out _ _ (zd5 BK1232.out ⟨(blk_cell BK1213.out 0).trans rfl, (blk_cell BK1213.out 1).trans rfl, (blk_cell BK1213.out 2).trans rfl, (blk_cell BK1213.out 3).trans rfl, (blk_cell BK1213.out 4).trans rfl⟩) (fun hHeld => ?_); clear hK K; refine znm ?_; refine zu 4 31 ?_; refine done_ (by kernel_rfl) ?_
    try go_wp2
    go_ret; exact ⟨ze, zb HB.out⟩
  ·replace c12 := Bool.eq_false_iff.mpr c12; subst c12
   have H1 : (some false) = some r := by rw [if_neg (show ¬ (false = true) by decide)] at H; exact H
   clear H; have H := H1; clear H1; obtain rfl := Option.some.inj H; have hcz83 := zc5 BK1213.out
   go_wp2_with (first | ((with_reducible refine gc 47 ?_); refine zL (some 17) Try.func47 #[.agg #[.string a0_0, .string a0_1, .string a0_2, .slice A0_3 l0_3.length c0_3, .int .i64 a0_4]] ?_; (with_reducible refine (laws_toSieve.calls k a0_0 a0_1 a0_2 _ _ l0_3 a0_4 t1215 t1216 t1217 t1218 t1221 _ (zC (Kd.C_below HR0_3.out HB.out)) HC0_3.out A7.out).mono ?_); rintro e w84 ⟨v1219, rfl, ho0, hb⟩; refine zv ?_; have HO1220 := z0 (Kd.R_lower ho0 (below_size (zb HB.out))); replace BK1213 := zK BK1213 hb; replace HB := zH HB hb; (try clear hb ho0); obtain ⟨Ao85, co85, eo85⟩ := Kd.R_slice HO1220.out; subst eo85) | ((with_reducible refine gc 53 ?_); refine zL (some 18) Try.func53 #[.agg #[.string t1215, .string t1216, .string t1217, .slice Ao85 t1218.length co85, .int .i64 t1221]] ?_; (with_reducible refine (spec_SieveHeads.calls k t1215 t1216 t1217 _ _ t1218 t1221 t1222 _ (zC ((Kd.R_reads' HO1220.out).2.2)) ((Kd.R_reads' HO1220.out).2.1) A8.out).mono ?_); rintro e w86 ⟨v1223, rfl, ho0, hb⟩; refine zv ?_; have HO1224 := z0 (Kd.R_lower (Kd.R_new' ho0 (Kd.R_lt (zr HO1220.out))) (below_size (zb HB.out))); replace HO1220 := z0 (Kd.R_elder' (zr HO1220.out) (Kd.R_base ho0) hb); replace BK1213 := zK BK1213 hb; replace HB := zH HB hb; (try clear hb ho0); have hcz87 := zc5 BK1213.out) | ((with_reducible refine gc 47 ?_); refine zL (some 20) Try.func47 #[.agg #[.string a0_0, .string a0_1, .string a0_2, .slice A0_3 l0_3.length c0_3, .int .i64 a0_4]] ?_; (with_reducible refine (laws_toSieve.calls k a0_0 a0_1 a0_2 _ _ l0_3 a0_4 t1225 t1226 t1227 t1228 t1231 _ (zC (Kd.C_below HR0_3.out HB.out)) HC0_3.out A9.out).mono ?_); rintro e w88 ⟨v1229, rfl, ho0, hb⟩; refine zv ?_; have HO1230 := z0 (Kd.R_lower (Kd.R_new' (Kd.R_new' ho0 (Kd.R_lt (zr HO1220.out))) (Kd.R_lt (zr HO1224.out))) (below_size (zb HB.out))); replace HO1220 := z0 (Kd.R_elder' (zr HO1220.out) (Kd.R_base ho0) hb); replace HO1224 := z0 (Kd.R_elder' (zr HO1224.out) (Kd.R_base ho0) hb); replace BK1213 := zK BK1213 hb; replace HB := zH HB hb; (try clear hb ho0)) | ((with_reducible refine gd 5 ?_); refine zbx 25 #[.string ⟨#[]⟩, .string ⟨#[]⟩, .string ⟨#[]⟩, .slice none 0 0, .int .i64 0] ?_; intro gb1232 hg w89 hbox hb; replace HO1220 := zA HO1220 hb; replace HO1224 := zA HO1224 hb; replace HO1230 := zA HO1230 hb; have BK1232 := z0 (hbox); have GE1232 := zG hg HB; replace HB := zH HB hb; have NB1213_1232 := zLt hg BK1213; have NB1232_1213 := zGt hg BK1213; replace BK1213 := zK BK1213 hb; clear hb hbox hg; have hnb90 := NB1232_1213.out; have hnc90 := NB1213_1232.out; have hcz91 := zc5 BK1232.out; obtain ⟨Ao92, co92, eo92⟩ := Kd.R_slice HO1230.out; subst eo92) | ((with_reducible refine gc 41 ?_); refine zL (some 22) Try.func41 #[.agg #[.string t1225, .string t1226, .string t1227, .slice Ao92 t1228.length co92, .int .i64 t1231]] ?_; (with_reducible refine (impl_SieveHeads.calls k t1225 t1226 t1227 _ _ t1228 t1231 t1233 _ ?side1 ((Kd.R_reads' HO1230.out).2.1) A10.out).mono ?_); (case side1 => refine (Kd.R_reads' (e := 9) (base := w.heap.size) (ok := fun k_ => ((True ∧ some k_ ≠ (.slice Ao85 t1218.length co85 : Value).ownBlock) ∧ some k_ ≠ (v1223 : Value).ownBlock)) (n := t1228.length) (c := co92) ?_).2.2; exact (zs HO1230.out BK1232.out)); rintro e w93 ⟨v1234, rfl, ho0, hb⟩; refine zv ?_; have HO1235 := z0 (Kd.R_lower (Kd.R_new' (Kd.R_new' (Kd.R_new' ho0 (Kd.R_lt (zs HO1220.out BK1232.out))) (Kd.R_lt (zs HO1224.out BK1232.out))) (Kd.R_lt (zs HO1230.out BK1232.out))) (below_size (zb HB.out))); replace HO1220 := z0 (Kd.R_elder' (zs HO1220.out BK1232.out) (Kd.R_base ho0) hb); replace HO1224 := z0 (Kd.R_elder' (zs HO1224.out BK1232.out) (Kd.R_base ho0) hb); replace HO1230 := z0 (Kd.R_elder' (zs HO1230.out BK1232.out) (Kd.R_base ho0) hb); replace BK1213 := zKy BK1213 hb; replace BK1232 := z0 (blk_below (zpc BK1232.out #[.string t1225, .string t1226, .string t1227, .slice Ao92 t1228.length co92, .int .i64 t1231]) hb); replace HB := zH HB hb; (try clear hb ho0); obtain ⟨Ao94, co94, eo94⟩ := Kd.R_slice HO1235.out; subst eo94; obtain ⟨Ao95, co95, eo95⟩ := Kd.R_slice HO1224.out; subst eo95) | ((with_reducible refine gc 54 ?_); refine zL (some 25) Try.func54 #[.slice Ao94 t1233.length co94, .slice Ao95 t1222.length co95] ?_; (with_reducible refine (laws_eqStringS.calls k _ _ t1233 _ _ t1222 false _ ?side1 ?side2 ?side3 ?side4 A11.out).mono ?_); (case side1 => repeat (first | exact (Kd.R_reads' HO1235.out).2.2 | (with_reducible refine Kd.C_alloc ?_ _) | (with_reducible refine Kd.C_drewN ?_ _) | (with_reducible refine Kd.C_drew ?_))); (case side2 => exact (Kd.R_reads' HO1235.out).2.1); (case side3 => repeat (first | exact (Kd.R_reads' HO1224.out).2.2 | (with_reducible refine Kd.C_alloc ?_ _) | (with_reducible refine Kd.C_drewN ?_ _) | (with_reducible refine Kd.C_drew ?_))); (case side4 => exact (Kd.R_reads' HO1224.out).2.1); rintro e w' ⟨rfl, ⟨nd, rfl⟩⟩; refine ⟨_, rfl, ?_⟩))
   go_ret; exact ⟨ze, zb HB.out⟩
end Go.Proofs.Ytifgcajpkgamgaa.Q
end
section
set_option linter.unusedVariables false
set_option linter.unusedSimpArgs false
namespace Go.Proofs.Ytifgcajpkgamgaa.Pb
open Go Go.RowKit Go.Proofs.YtifgcajpkgamgaaW.PrintWords Go.Proofs.YtifgcajpkgamgaaW.PrintLast Go.Proofs.YtifgcajpkgamgaaW.PrintMore Go.Proofs.Ytifgcajpkgamgaa.Trie Go.Proofs.Ytifgcajpkgamgaa.Q
theorem szA_ev (l : List ByteArray) (hn : l.length ≤ 9223372036854775807) (hs : ∀ s ∈ l, s.size ≤ 9223372036854775807) (a : Int) (h0 : 0 ≤ a) (h1 : a ≤ 1048576) :
  ∃ r, Ev (fun k => laws_szStringS.f k l a) r ∧ (0 ≤ r → l.length ≤ 1048576 ∧ ∀ s ∈ l, s.size ≤ 1048576) := by
 unfold laws_szStringS.f
 rw [w64 (i := a - (l.length : Int)) (by omega) (by omega)]
 by_cases c : a - (l.length : Int) < 0
 ·exact ⟨-1, ev_pos c (ev_some rfl), fun h => by omega⟩
 ·obtain ⟨r, hr, g⟩ := sz_l0 l hn hs l.length 0 (a - (l.length : Int)) (by omega) (by omega) (by omega) (by omega)
  exact ⟨r, ev_neg c hr, fun h => ⟨by omega, by simpa using g h⟩⟩
section
variable {Lt Mo Fi : ByteArray} {Rs : List ByteArray} {a : Int}
theorem szSieve_ev (h0 : Lt.size ≤ 9223372036854775807) (h1 : Mo.size ≤ 9223372036854775807) (h2 : Fi.size ≤ 9223372036854775807) (hn : Rs.length ≤ 9223372036854775807) (hs : ∀ s ∈ Rs, s.size ≤ 9223372036854775807) :
  ∃ r, Ev (fun k => laws_szSieve.f k Lt Mo Fi Rs a 1048576) r ∧ (0 ≤ r → SvSz Lt Mo Fi Rs) := by
 unfold laws_szSieve.f
 have e0 : ∀ _ : Unit, wrap64 (1048576 - (Lt.size : Int)) = 1048576 - (Lt.size : Int) := fun _ => w64 (by omega) (by omega)
 rw [e0 ()]
 by_cases c0 : 1048576 - (Lt.size : Int) < 0
 ·exact ⟨-1, ev_pos c0 (ev_some rfl), fun h => by omega⟩
 ·have e1 : ∀ _ : Unit, wrap64 (1048576 - (Lt.size : Int) - (Mo.size : Int)) = 1048576 - (Lt.size : Int) - (Mo.size : Int) := fun _ => w64 (by omega) (by omega)
  rw [e1 ()]
  by_cases c1 : 1048576 - (Lt.size : Int) - (Mo.size : Int) < 0
  ·exact ⟨-1, ev_neg c0 (ev_pos c1 (ev_some rfl)), fun h => by omega⟩
  ·have e2 : ∀ _ : Unit, wrap64 (1048576 - (Lt.size : Int) - (Mo.size : Int) - (Fi.size : Int)) = 1048576 - (Lt.size : Int) - (Mo.size : Int) - (Fi.size : Int) := fun _ => w64 (by omega) (by omega)
   rw [e2 ()]
   by_cases c2 : 1048576 - (Lt.size : Int) - (Mo.size : Int) - (Fi.size : Int) < 0
   ·exact ⟨-1, ev_neg c0 (ev_neg c1 (ev_pos c2 (ev_some rfl))), fun h => by omega⟩
   ·obtain ⟨r, hr, g⟩ := szA_ev Rs hn hs (1048576 - (Lt.size : Int) - (Mo.size : Int) - (Fi.size : Int)) (by omega) (by omega)
    by_cases c3 : r < 0
    ·exact ⟨-1, ev_neg c0 (ev_neg c1 (ev_neg c2 (Ev.bind hr (ev_pos c3 (ev_some rfl))))), fun h => by omega⟩
    ·have g := g (by omega)
     exact ⟨r, ev_neg c0 (ev_neg c1 (ev_neg c2 (Ev.bind hr (ev_neg c3 (ev_some rfl))))), fun _ => ⟨by omega, by omega, by omega, g.1, g.2⟩⟩
theorem toSieve_ev (h : SvSz Lt Mo Fi Rs) : Ev (fun k => laws_toSieve.f k Lt Mo Fi Rs a) (Lt, Mo, Fi, Rs, a) := by
 unfold laws_toSieve.f
 exact Ev.bind (to_ev Rs h.d) (ev_some rfl)
theorem eqSieve_self (h : SvSz Lt Mo Fi Rs) : Ev (fun k => laws_eqSieve.f k Lt Mo Fi Rs a Lt Mo Fi Rs a) true :=
 eqSieve_ev (Lt, Mo, Fi, Rs, a, true) (by have := h.d; show Rs.length ≤ 2000000; omega)
end
theorem strOfNums_one (x : Int) : (strOfNums [x]).size = 1 := by rfl
theorem markText_l0 : ∀ (n : Nat) (x3 : ByteArray), x3.size + n ≤ 1000000000 → ∃ r, Ev (fun k => laws_markText.l0 k (n : Int) x3) r := by
 intro n
 induction n using Nat.strongRecOn with
 | _ n ih =>
  intro x3 h
  by_cases c : (n : Int) > 0
  ·have hd : wrap64 (Int.tdiv (n : Int) 10) = ((n / 10 : Nat) : Int) := by
    rw [Int.tdiv_eq_ediv_of_nonneg (by omega), w64 (by omega) (by omega)]; omega
   have hs := strOfNums_one ((wrap64 (48 + (Int.tmod (n : Int) 10))) % 256)
   obtain ⟨r, hr⟩ := ih (n / 10) (by omega) ((strOfNums [(wrap64 (48 + (Int.tmod (n : Int) 10))) % 256]) ++ x3) (by rw [ByteArray.size_append, hs]; omega)
   refine ⟨r, ev_succ ?_⟩
   simp only [laws_markText.l0]
   refine ev_pos c (ev_bindc rfl (ev_pos (by rw [hs]; omega) ?_))
   rw [hd]; exact hr
  ·refine ⟨(⟨#[109]⟩ : ByteArray) ++ x3, ev_succ ?_⟩
   simp only [laws_markText.l0]
   exact ev_neg c (ev_pos (by omega) (ev_some rfl))
theorem markText_ev : ∃ t : Nat → ByteArray, ∀ n : Nat, n ≤ 100000000 → Ev (fun k => laws_markText.f k (n : Int)) (t n) := by
 have h : ∀ n : Nat, ∃ r, n ≤ 100000000 → Ev (fun k => laws_markText.f k (n : Int)) r := by
  intro n
  by_cases q : n ≤ 100000000
  ·unfold laws_markText.f
   by_cases c : (n : Int) ≤ 0
   ·exact ⟨_, fun _ => ev_pos c (ev_some rfl)⟩
   ·obtain ⟨r, hr⟩ := markText_l0 n (⟨#[]⟩ : ByteArray) (by show 0 + n ≤ 1000000000; omega)
    exact ⟨r, fun _ => ev_neg c hr⟩
  ·exact ⟨⟨#[]⟩, fun z => absurd z q⟩
 exact ⟨fun n => Classical.choose (h n), fun n hn => Classical.choose_spec (h n) hn⟩
theorem mark_l0 (t : Nat → ByteArray) (ht : ∀ n : Nat, n ≤ 100000000 → Ev (fun k => laws_markText.f k (n : Int)) (t n)) (N : Nat) (hN : N ≤ 2000000) (d : Nat) : ∀ (i : Nat) (x0 : List ByteArray), x0.length = N → i ≤ N → N - i = d → (∀ j, j < i → x0.getD j ByteArray.empty = t (j + 1)) →
  ∃ m, Ev (fun k => laws_markStringS.l0 k x0 ((i + 1 : Nat) : Int) (i : Int)) (((N + 1 : Nat) : Int), m) ∧ m.length = N ∧ ∀ j, j < N → m.getD j ByteArray.empty = t (j + 1) := by
 induction d with
 | zero =>
  intro i x0 h0 h1 h2 h3
  obtain rfl : i = N := by omega
  refine ⟨x0, ev_succ ?_, h0, h3⟩
  simp only [laws_markStringS.l0]
  exact ev_neg (by omega) (ev_some rfl)
 | succ d ih =>
  intro i x0 h0 h1 h2 h3
  obtain ⟨m, hm, g⟩ := ih (i + 1) (x0.set i (t (i + 1))) (by simp [h0]) (by omega) (by omega) (by
   intro j hj
   rw [List.getD_eq_getElem?_getD, List.getElem?_set]
   by_cases e : i = j
   ·subst e
    rw [if_pos rfl, if_pos (by omega)]; rfl
   ·rw [if_neg e, ← List.getD_eq_getElem?_getD]
    exact h3 j (by omega))
  refine ⟨m, ev_succ ?_, g⟩
  simp only [laws_markStringS.l0]
  refine ev_pos (by omega) (Ev.bind (ht (i + 1) (by omega)) (ev_pos (by omega) ?_))
  rw [w64 (by omega) (by omega), w64 (by omega) (by omega), Int.toNat_natCast]
  exact hm
theorem held_l0 (t : Nat → ByteArray) (ht : ∀ n : Nat, n ≤ 100000000 → Ev (fun k => laws_markText.f k (n : Int)) (t n)) (m : List ByteArray) (hN : m.length ≤ 2000000) (hm : ∀ j, j < m.length → m.getD j ByteArray.empty = t (j + 1)) (d : Nat) : ∀ i : Nat, i ≤ m.length → m.length - i = d →
  Ev (fun k => laws_heldStringS.l0 k m ((i + 1 : Nat) : Int) (i : Int)) ((m.length + 1 : Nat) : Int) := by
 induction d with
 | zero =>
  intro i h1 h2
  obtain rfl : i = m.length := by omega
  refine ev_succ ?_
  simp only [laws_heldStringS.l0]
  exact ev_neg (by omega) (ev_some rfl)
 | succ d ih =>
  intro i h1 h2
  refine ev_succ ?_
  simp only [laws_heldStringS.l0]
  have hg : rdOf ByteArray.empty m (i : Int) = m.getD i ByteArray.empty := rfl
  refine ev_pos (by omega) (ev_pos (by omega) (Ev.bind (ht (i + 1) (by omega)) ?_))
  rw [hg, hm i (by omega), w64 (by omega) (by omega), w64 (by omega) (by omega)]
  exact ev_pos rfl (ih (i + 1) (by omega) (by omega))
theorem mark_ev (l : List ByteArray) (hn : l.length ≤ 2000000) : ∃ m, Ev (fun k => laws_markStringS.f k l 1) (((l.length + 1 : Nat) : Int), m) ∧ Ev (fun k => laws_heldStringS.f k m 1) ((l.length + 1 : Nat) : Int) := by
 obtain ⟨t, ht⟩ := markText_ev
 obtain ⟨m, hm, hl, g⟩ := mark_l0 t ht l.length hn l.length 0 l rfl (by omega) (by omega) (by omega)
 refine ⟨m, hm, ?_⟩
 have := held_l0 t ht m (by omega) (by rw [hl]; exact g) m.length 0 (by omega) (by omega)
 rw [hl] at this
 exact this
end Go.Proofs.Ytifgcajpkgamgaa.Pb
end
section
set_option linter.unusedVariables false
set_option linter.unusedSimpArgs false
namespace Go.Proofs.Ytifgcajpkgamgaa.Pure
open Go Go.RowKit Go.Proofs.YtifgcajpkgamgaaW.PrintWords Go.Proofs.YtifgcajpkgamgaaW.PrintLast Go.Proofs.YtifgcajpkgamgaaW.PrintMore Go.Proofs.Ytifgcajpkgamgaa.Trie Go.Proofs.Ytifgcajpkgamgaa.Q Go.Proofs.Ytifgcajpkgamgaa.Pb
theorem FnExactSieveHeads (Lt Mo Fi : ByteArray) (Rs : List ByteArray) (a : Int) (h0 : Lt.size ≤ 9223372036854775807) (h1 : Mo.size ≤ 9223372036854775807) (h2 : Fi.size ≤ 9223372036854775807) (hn : Rs.length ≤ 9223372036854775807) (hs : ∀ s ∈ Rs, s.size ≤ 9223372036854775807) : ∃ k, laws_FnExactSieveHeads.f k Lt Mo Fi Rs a = some true := by
 refine Ev.rounds ?_
 unfold laws_FnExactSieveHeads.f
 obtain ⟨z, hr, g⟩ := szSieve_ev (a := a) h0 h1 h2 hn hs
 by_cases c : z < 0
 ·exact Ev.bind hr (ev_pos c (ev_some rfl))
 ·have hz := g (by omega)
  have tv := toSieve_ev (a := a) hz
  have eq := eqSieve_self (a := a) hz
  have hd := hz.d
  obtain ⟨v, m1, m2, hv⟩ : ∃ v, Ev (fun k => spec_SieveHeads.f k Lt Mo Fi Rs a) v ∧ Ev (fun k => impl_SieveHeads.f k Lt Mo Fi Rs a) v ∧ v.length ≤ 2000000 := by
   rcases both hz a with ⟨K, keep, rfl, hI, hh, hok, h3⟩ | ⟨_, hh, hok⟩
   ·have hfew := hI.ok.few
    have hsh := impl_SieveHeads_of (by rw [List.length_map]; omega) hh
    rw [pt_text] at hsh
    exact ⟨_, spec_SieveHeads_yes hok h3, hsh, by rw [List.length_map]; omega⟩
   ·exact ⟨_, spec_SieveHeads_no hok, impl_SieveHeads_of (by simp) hh, by simp⟩
  have eqv := eq_ev2 v hv
  obtain ⟨ms, hms, _⟩ := mark_ev Rs (by omega)
  obtain ⟨mv, hmv, hhv⟩ := mark_ev v hv
  have hmS : Ev (fun k => laws_markSieve.f k Lt Mo Fi Rs a 1) (((Rs.length + 1 : Nat) : Int), ms) := by
   unfold laws_markSieve.f
   exact Ev.bind hms (ev_some rfl)
  refine Ev.bind hr (ev_neg c (Ev.bind tv (Ev.bind m1 (Ev.bind tv (Ev.bind m2 (Ev.bind eqv (ev_pos rfl (Ev.bind tv (Ev.bind eq (ev_pos rfl (Ev.bind hmS (ev_neg (by simp only []; omega) (Ev.bind eqv (ev_succ ?_))))))))))))))
  simp only [laws_FnExactSieveHeads.j0]
  exact ev_neg (by simp) (Ev.bind hmv (Ev.bind hhv (ev_neg (by omega) (ev_pos rfl (Ev.bind tv (Ev.bind m2 (Ev.bind eqv (ev_pos rfl (Ev.bind hhv (ev_neg (by omega) (ev_pos rfl (ev_some rfl))))))))))))
end Go.Proofs.Ytifgcajpkgamgaa.Pure
end
