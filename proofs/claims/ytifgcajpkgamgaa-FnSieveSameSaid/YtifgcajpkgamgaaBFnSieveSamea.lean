/- What the law FnSieveSame needs: the kit's printed words, the printed functions with their proofs, and plain facts on them. -/
import Derived.Test.YtifgcajpkgamgaaBSDb
section
namespace Go.Proofs.Ytifgcajpkgamgaa.Q
open Go.RowKit Go.Proofs.YtifgcajpkgamgaaW.PrintWords Go.Proofs.YtifgcajpkgamgaaW.PrintLast Go.Proofs.YtifgcajpkgamgaaW.PrintMore
attribute [local go_sem] max2_int min2_int max_two min_two max_three min_three max_four min_four   
set_option linter.unusedVariables false
set_option linter.unusedSimpArgs false
set_option maxHeartbeats 8000000
set_option maxRecDepth 100000
theorem laws_ltSames.mono_l : ∀ k, (∀ y0 y1 y2, LeO (laws_ltSames.l0 k y0 y1 y2) (laws_ltSames.l0 (k + 1) y0 y1 y2))
  | 0 => fun _ _ _ r h => by simp [laws_ltSames.l0] at h
  | k + 1 => by
    have ih0 := laws_ltSames.mono_l k
    · intro y0 y1 y2
      unfold laws_ltSames.l0
      repeat' first | (with_reducible first | apply ih0 | exact LeO.refl _ | exact LeO.none _ | refine LeO.ite ?_ ?_ | refine LeO.bind ?_ (fun _ => ?_)) | exact LeO.none _ | refine LeO.ite ?_ ?_ | refine LeO.bind ?_ (fun _ => ?_)
theorem laws_ltSames.mono : ∀ a0 a1 k, LeO (laws_ltSames.f k a0 a1) (laws_ltSames.f (k + 1) a0 a1) := by
  intro a0 a1 k
  have ih0 := laws_ltSames.mono_l k
  unfold laws_ltSames.f
  repeat' first | (with_reducible first | apply ih0 | exact LeO.refl _ | exact LeO.none _ | refine LeO.ite ?_ ?_ | refine LeO.bind ?_ (fun _ => ?_)) | exact LeO.none _ | refine LeO.ite ?_ ?_ | refine LeO.bind ?_ (fun _ => ?_)
theorem laws_ltSames.calls (k : Nat) (A0 : Option Addr) (c0 : Nat) (l0 : List ByteArray) (A1 : Option Addr) (c1 : Nat) (l1 : List ByteArray) (r : Bool) (w : World) (hr0 : Kd.C Kd.string w A0 l0.length l0) (hc0 : l0.length ≤ c0) (hr1 : Kd.C Kd.string w A1 l1.length l1) (hc1 : l1.length ≤ c1) (h : laws_ltSames.f k l0 l1 = some r) :
    Calls Try.prog 51 #[.slice A0 l0.length c0, .slice A1 l1.length c1] w fun e w' => e = .returned (.bool r) ∧ Drawn0 w w' := by
 have HR0 := z0 hr0; have HC0 := z0 hc0; clear hr0 hc0; have HR1 := z0 hr1; have HC1 := z0 hc1; clear hr1 hc1; have H : (if (l0.length : Int) = (l1.length : Int) then (laws_ltSames.l0 k l0 l1 0) else (some false)) = some r := h; clear h
 by_cases c3 : (l0.length : Int) = (l1.length : Int)
 ·rw [if_pos c3] at H; have c3b0 : ((l0.length : Int) == (l1.length : Int)) = true := beq_iff_eq.mpr c3; have c3b1 : ((l0.length : Int) != (l1.length : Int)) = false := bne_eq_false_iff_eq.mpr c3
  have c3b2 : (l0.length == l1.length) = true := by first | simpa using c3 | (simp at c3 ⊢; omega)
  clear c3; have H' := z0 H; clear H; go_enter Try.func51, Try.ntmps51; go_wp2
  repeat (go_quiet (fail); try go_wp2)
  go_loopg [5] k (fun kq v5 w' => ∃ (x5_1 : Int), v5 = .int .i64 x5_1 ∧ Aside0 (laws_ltSames.l0 kq l0 l1 x5_1 = some r) ∧ Aside0 (kq ≤ k) ∧ Drawn0 w w')
  case atStart => exact ⟨(0), zf, H', ⟨Nat.le_refl _⟩, by repeat (first | exact Drawn0.refl _ | apply Drawn0.step)⟩
  case round =>
   clear H'
   try clear c1
   try clear p2
   try clear c3
   try clear c3b0
   try clear c3b1
   try clear c3b2
   obtain ⟨x5_1, rfl, HA, HK1, ⟨m1, rfl⟩⟩ := hrel
   cases gk with
   | zero => exact absurd HA.out (by simp [laws_ltSames.l0])
   | succ k1 =>
    have H := HA.out; clear HA; simp only [laws_ltSames.l0] at H
    by_cases c4 : x5_1 < (l0.length : Int)
    ·rw [if_pos c4] at H; have c4b0 := decide_eq_true c4; clear c4; replace H := zn H; obtain ⟨c5, H⟩ := H; have c5b0 := decide_eq_true c5; clear c5; replace H := zn H; obtain ⟨c6, H⟩ := H; have c6b0 := decide_eq_true c6; clear c6
     by_cases c7 : (rdOf ByteArray.empty l0 x5_1).toList = (rdOf ByteArray.empty l1 x5_1).toList
     ·rw [if_pos c7] at H; have c7b0 : ((rdOf ByteArray.empty l0 x5_1).toList == (rdOf ByteArray.empty l1 x5_1).toList) = true := beq_iff_eq.mpr c7; have c7b1 : ((rdOf ByteArray.empty l0 x5_1).toList != (rdOf ByteArray.empty l1 x5_1).toList) = false := bne_eq_false_iff_eq.mpr c7; clear c7; have H' := z0 H; clear H; have p605 : 0 ≤ (x5_1 : Int) := zd; have q605 : x5_1 < (l0.length : Int) := zd; obtain ⟨ad605, e605, hx605_0⟩ := Kd.at_string HR0.out x5_1 p605 q605; cases e605; replace p605 := eq_true p605; replace q605 := eq_true q605; have p606 : 0 ≤ (x5_1 : Int) := zd; have q606 : x5_1 < (l1.length : Int) := zd; obtain ⟨ad606, e606, hx606_0⟩ := Kd.at_string HR1.out x5_1 p606 q606; cases e606; replace p606 := eq_true p606; replace q606 := eq_true q606; go_wp2
      repeat (go_quiet (fail); try go_wp2)
      go_roundg k1
      case measure => have := HK1.out; omega
      case rel => exact ⟨(wrap64 (x5_1 + 1)), zf, H', ⟨by have := HK1.out; omega⟩, by repeat (first | exact Drawn0.refl _ | apply Drawn0.step)⟩
     ·rw [if_neg c7] at H; have c7b0 : ((rdOf ByteArray.empty l0 x5_1).toList == (rdOf ByteArray.empty l1 x5_1).toList) = false := beq_eq_false_iff_ne.mpr c7; have c7b1 : ((rdOf ByteArray.empty l0 x5_1).toList != (rdOf ByteArray.empty l1 x5_1).toList) = true := bne_iff_ne.mpr c7; obtain rfl := Option.some.inj H; have p605 : 0 ≤ (x5_1 : Int) := zd; have q605 : x5_1 < (l0.length : Int) := zd; obtain ⟨ad605, e605, hx605_0⟩ := Kd.at_string HR0.out x5_1 p605 q605; cases e605; replace p605 := eq_true p605; replace q605 := eq_true q605; have p606 : 0 ≤ (x5_1 : Int) := zd; have q606 : x5_1 < (l1.length : Int) := zd; obtain ⟨ad606, e606, hx606_0⟩ := Kd.at_string HR1.out x5_1 p606 q606; cases e606; replace p606 := eq_true p606; replace q606 := eq_true q606; go_wp2
      repeat (go_quiet (fail); try go_wp2)
      go_ret; exact ⟨zf, by repeat (first | exact Drawn0.refl _ | apply Drawn0.step)⟩
    ·rw [if_neg c4] at H; have c4b0 := decide_eq_false c4; clear c4; obtain rfl := Option.some.inj H; go_wp2
     repeat (go_quiet (fail); try go_wp2)
     go_ret; exact ⟨zf, by repeat (first | exact Drawn0.refl _ | apply Drawn0.step)⟩
 ·rw [if_neg c3] at H; have c3b0 : ((l0.length : Int) == (l1.length : Int)) = false := beq_eq_false_iff_ne.mpr c3; have c3b1 : ((l0.length : Int) != (l1.length : Int)) = true := bne_iff_ne.mpr c3
  have c3b2 : (l0.length == l1.length) = false := by first | simpa using c3 | (simp at c3 ⊢; omega)
  obtain rfl := Option.some.inj H; go_enter Try.func51, Try.ntmps51; go_wp2
  repeat (go_quiet (fail); try go_wp2)
  go_ret; exact ⟨zf, by repeat (first | exact Drawn0.refl _ | apply Drawn0.step)⟩
theorem laws_ltSieve.mono : ∀ a0 a1 a2 a3 a4 a5 a6 a7 a8 a9 k, LeO (laws_ltSieve.f k a0 a1 a2 a3 a4 a5 a6 a7 a8 a9) (laws_ltSieve.f (k + 1) a0 a1 a2 a3 a4 a5 a6 a7 a8 a9) := by
  intro a0 a1 a2 a3 a4 a5 a6 a7 a8 a9 k
  unfold laws_ltSieve.f
  repeat' first | (with_reducible first | apply laws_ltSames.mono | exact LeO.refl _ | exact LeO.none _ | refine LeO.ite ?_ ?_ | refine LeO.bind ?_ (fun _ => ?_)) | exact LeO.none _ | refine LeO.ite ?_ ?_ | refine LeO.bind ?_ (fun _ => ?_)
theorem laws_ltSieve.calls (k : Nat) (a0_0 a0_1 a0_2 : ByteArray) (A0_3 : Option Addr) (c0_3 : Nat) (l0_3 : List ByteArray) (a0_4 : Int) (a1_0 a1_1 a1_2 : ByteArray) (A1_3 : Option Addr) (c1_3 : Nat) (l1_3 : List ByteArray) (a1_4 : Int) (r : Bool) (w : World) (hr0_3 : Kd.C Kd.string w A0_3 l0_3.length l0_3) (hc0_3 : l0_3.length ≤ c0_3) (hr1_3 : Kd.C Kd.string w A1_3 l1_3.length l1_3) (hc1_3 : l1_3.length ≤ c1_3) (h : laws_ltSieve.f k a0_0 a0_1 a0_2 l0_3 a0_4 a1_0 a1_1 a1_2 l1_3 a1_4 = some r) :
    Calls Try.prog 37 #[.agg #[.string a0_0, .string a0_1, .string a0_2, .slice A0_3 l0_3.length c0_3, .int .i64 a0_4], .agg #[.string a1_0, .string a1_1, .string a1_2, .slice A1_3 l1_3.length c1_3, .int .i64 a1_4]] w fun e w' => e = .returned (.bool r) ∧ Below w.heap.size w w' := by
 have hu25 := Try.underlying25; have HR0_3 := z0 hr0_3; have HC0_3 := z0 hc0_3; clear hr0_3 hc0_3; have HR1_3 := z0 hr1_3; have HC1_3 := z0 hc1_3; clear hr1_3 hc1_3; have HB := z0 (Below.refl w.heap.size w); have H : (if a0_0.toList = a1_0.toList then (if a0_1.toList = a1_1.toList then (if a0_2.toList = a1_2.toList then (if a0_4 = a1_4 then ((laws_ltSames.f k l0_3 l1_3).bind fun t609 => (some t609)) else (some false)) else (some false)) else (some false)) else (some false)) = some r := h; clear h
 by_cases c3 : a0_0.toList = a1_0.toList
 ·rw [if_pos c3] at H; have c3b0 : (a0_0.toList == a1_0.toList) = true := beq_iff_eq.mpr c3; have c3b1 : (a0_0.toList != a1_0.toList) = false := bne_eq_false_iff_eq.mpr c3; clear c3
  by_cases c4 : a0_1.toList = a1_1.toList
  ·rw [if_pos c4] at H; have c4b0 : (a0_1.toList == a1_1.toList) = true := beq_iff_eq.mpr c4; have c4b1 : (a0_1.toList != a1_1.toList) = false := bne_eq_false_iff_eq.mpr c4; clear c4
   by_cases c5 : a0_2.toList = a1_2.toList
   ·rw [if_pos c5] at H; have c5b0 : (a0_2.toList == a1_2.toList) = true := beq_iff_eq.mpr c5; have c5b1 : (a0_2.toList != a1_2.toList) = false := bne_eq_false_iff_eq.mpr c5; clear c5
    by_cases c6 : a0_4 = a1_4
    ·rw [if_pos c6] at H; have c6b0 : (a0_4 == a1_4) = true := beq_iff_eq.mpr c6; have c6b1 : (a0_4 != a1_4) = false := bne_eq_false_iff_eq.mpr c6; clear c6; replace H := zi H; obtain ⟨t609, A7, H⟩ := H; obtain rfl := Option.some.inj H; go_enter Try.func37, Try.ntmps37
     go_wp2_with (first | ((with_reducible refine gd 2 ?_); refine zbx 25 #[.string a0_0, .string a0_1, .string a0_2, .slice A0_3 l0_3.length c0_3, .int .i64 a0_4] ?_; intro gb607 hg w8 hbox hb; have BK607 := z0 (hbox); have GE607 := zG hg HB; replace HB := zH HB hb; clear hb hbox hg) | ((with_reducible refine gd 3 ?_); refine zbx 25 #[.string a1_0, .string a1_1, .string a1_2, .slice A1_3 l1_3.length c1_3, .int .i64 a1_4] ?_; intro gb608 hg w9 hbox hb; have BK608 := z0 (hbox); have GE608 := zG hg HB; replace HB := zH HB hb; have NB607_608 := zLt hg BK607; have NB608_607 := zGt hg BK607; replace BK607 := zK BK607 hb; clear hb hbox hg; have hnb10 := NB607_608.out; have hnc10 := NB608_607.out; have hcz11 := zc5 BK607.out; have hcz12 := zc5 BK608.out) | (go_at_call 51; (with_reducible refine (laws_ltSames.calls k _ _ l0_3 _ _ l1_3 t609 _ ?side1 ?side2 ?side3 ?side4 A7.out).mono ?_); (case side1 => repeat (first | exact (Kd.C_below HR0_3.out HB.out) | (with_reducible refine Kd.C_alloc ?_ _) | (with_reducible refine Kd.C_drewN ?_ _) | (with_reducible refine Kd.C_drew ?_))); (case side2 => exact HC0_3.out); (case side3 => repeat (first | exact (Kd.C_below HR1_3.out HB.out) | (with_reducible refine Kd.C_alloc ?_ _) | (with_reducible refine Kd.C_drewN ?_ _) | (with_reducible refine Kd.C_drew ?_))); (case side4 => exact HC1_3.out); rintro e w' ⟨rfl, ⟨nd, rfl⟩⟩))
     go_ret; exact ⟨ze, zb HB.out⟩
    ·rw [if_neg c6] at H; have c6b0 : (a0_4 == a1_4) = false := beq_eq_false_iff_ne.mpr c6; have c6b1 : (a0_4 != a1_4) = true := bne_iff_ne.mpr c6; obtain rfl := Option.some.inj H; go_enter Try.func37, Try.ntmps37
     go_wp2_with (first | ((with_reducible refine gd 2 ?_); refine zbx 25 #[.string a0_0, .string a0_1, .string a0_2, .slice A0_3 l0_3.length c0_3, .int .i64 a0_4] ?_; intro gb607 hg w13 hbox hb; have BK607 := z0 (hbox); have GE607 := zG hg HB; replace HB := zH HB hb; clear hb hbox hg) | ((with_reducible refine gd 3 ?_); refine zbx 25 #[.string a1_0, .string a1_1, .string a1_2, .slice A1_3 l1_3.length c1_3, .int .i64 a1_4] ?_; intro gb608 hg w14 hbox hb; have BK608 := z0 (hbox); have GE608 := zG hg HB; replace HB := zH HB hb; have NB607_608 := zLt hg BK607; have NB608_607 := zGt hg BK607; replace BK607 := zK BK607 hb; clear hb hbox hg; have hnb15 := NB607_608.out; have hnc15 := NB608_607.out; have hcz16 := zc5 BK607.out; have hcz17 := zc5 BK608.out))
     go_ret; exact ⟨ze, zb HB.out⟩
   ·rw [if_neg c5] at H; have c5b0 : (a0_2.toList == a1_2.toList) = false := beq_eq_false_iff_ne.mpr c5; have c5b1 : (a0_2.toList != a1_2.toList) = true := bne_iff_ne.mpr c5; obtain rfl := Option.some.inj H; go_enter Try.func37, Try.ntmps37
    go_wp2_with (first | ((with_reducible refine gd 2 ?_); refine zbx 25 #[.string a0_0, .string a0_1, .string a0_2, .slice A0_3 l0_3.length c0_3, .int .i64 a0_4] ?_; intro gb607 hg w18 hbox hb; have BK607 := z0 (hbox); have GE607 := zG hg HB; replace HB := zH HB hb; clear hb hbox hg) | ((with_reducible refine gd 3 ?_); refine zbx 25 #[.string a1_0, .string a1_1, .string a1_2, .slice A1_3 l1_3.length c1_3, .int .i64 a1_4] ?_; intro gb608 hg w19 hbox hb; have BK608 := z0 (hbox); have GE608 := zG hg HB; replace HB := zH HB hb; have NB607_608 := zLt hg BK607; have NB608_607 := zGt hg BK607; replace BK607 := zK BK607 hb; clear hb hbox hg; have hnb20 := NB607_608.out; have hnc20 := NB608_607.out; have hcz21 := zc5 BK607.out; have hcz22 := zc5 BK608.out))
    go_ret; exact ⟨ze, zb HB.out⟩
  ·rw [if_neg c4] at H; have c4b0 : (a0_1.toList == a1_1.toList) = false := beq_eq_false_iff_ne.mpr c4; have c4b1 : (a0_1.toList != a1_1.toList) = true := bne_iff_ne.mpr c4; obtain rfl := Option.some.inj H; go_enter Try.func37, Try.ntmps37
   go_wp2_with (first | ((with_reducible refine gd 2 ?_); refine zbx 25 #[.string a0_0, .string a0_1, .string a0_2, .slice A0_3 l0_3.length c0_3, .int .i64 a0_4] ?_; intro gb607 hg w23 hbox hb; have BK607 := z0 (hbox); have GE607 := zG hg HB; replace HB := zH HB hb; clear hb hbox hg) | ((with_reducible refine gd 3 ?_); refine zbx 25 #[.string a1_0, .string a1_1, .string a1_2, .slice A1_3 l1_3.length c1_3, .int .i64 a1_4] ?_; intro gb608 hg w24 hbox hb; have BK608 := z0 (hbox); have GE608 := zG hg HB; replace HB := zH HB hb; have NB607_608 := zLt hg BK607; have NB608_607 := zGt hg BK607; replace BK607 := zK BK607 hb; clear hb hbox hg; have hnb25 := NB607_608.out; have hnc25 := NB608_607.out; have hcz26 := zc5 BK607.out; have hcz27 := zc5 BK608.out))
   go_ret; exact ⟨ze, zb HB.out⟩
 ·rw [if_neg c3] at H; have c3b0 : (a0_0.toList == a1_0.toList) = false := beq_eq_false_iff_ne.mpr c3; have c3b1 : (a0_0.toList != a1_0.toList) = true := bne_iff_ne.mpr c3; obtain rfl := Option.some.inj H; go_enter Try.func37, Try.ntmps37
  go_wp2_with (first | ((with_reducible refine gd 2 ?_); refine zbx 25 #[.string a0_0, .string a0_1, .string a0_2, .slice A0_3 l0_3.length c0_3, .int .i64 a0_4] ?_; intro gb607 hg w28 hbox hb; have BK607 := z0 (hbox); have GE607 := zG hg HB; replace HB := zH HB hb; clear hb hbox hg) | ((with_reducible refine gd 3 ?_); refine zbx 25 #[.string a1_0, .string a1_1, .string a1_2, .slice A1_3 l1_3.length c1_3, .int .i64 a1_4] ?_; intro gb608 hg w29 hbox hb; have BK608 := z0 (hbox); have GE608 := zG hg HB; replace HB := zH HB hb; have NB607_608 := zLt hg BK607; have NB608_607 := zGt hg BK607; replace BK607 := zK BK607 hb; clear hb hbox hg; have hnb30 := NB607_608.out; have hnc30 := NB608_607.out; have hcz31 := zc5 BK607.out; have hcz32 := zc5 BK608.out))
  go_ret; exact ⟨ze, zb HB.out⟩
theorem impl_SieveHeads.mono : ∀ a0 a1 a2 a3 a4 k, LeO (impl_SieveHeads.f k a0 a1 a2 a3 a4) (impl_SieveHeads.f (k + 1) a0 a1 a2 a3 a4) := by
  intro a0 a1 a2 a3 a4 k
  unfold impl_SieveHeads.f
  repeat' first | (with_reducible first | apply impl_Sieve_heads.mono | apply impl_texts.mono | exact LeO.refl _ | exact LeO.none _ | refine LeO.ite ?_ ?_ | refine LeO.bind ?_ (fun _ => ?_)) | exact LeO.none _ | refine LeO.ite ?_ ?_ | refine LeO.bind ?_ (fun _ => ?_)
theorem impl_SieveHeads.calls (k : Nat) (a0_0 a0_1 a0_2 : ByteArray) (A0_3 : Option Addr) (c0_3 : Nat) (l0_3 : List ByteArray) (a0_4 : Int) (r : List ByteArray) (w : World) (hr0_3 : Kd.C Kd.string w A0_3 l0_3.length l0_3) (hc0_3 : l0_3.length ≤ c0_3) (h : impl_SieveHeads.f k a0_0 a0_1 a0_2 l0_3 a0_4 = some r) :
    Calls Try.prog 41 #[.agg #[.string a0_0, .string a0_1, .string a0_2, .slice A0_3 l0_3.length c0_3, .int .i64 a0_4]] w fun e w' => ∃ v0_ : Value, e = .returned (v0_) ∧ Kd.R Kd.string 9 w' w.heap.size (fun _ => True) v0_ r ∧ Below w.heap.size w w' := by
 have hu25 := Try.underlying25; have HR0_3 := z0 hr0_3; have HC0_3 := z0 hc0_3; clear hr0_3 hc0_3; have HB := z0 (Below.refl w.heap.size w); have H : ((impl_Sieve_heads.f k a0_0 a0_1 a0_2 l0_3 a0_4).bind fun bt870 => ((impl_texts.f k bt870.1).bind fun t874 => (some t874))) = some r := h; clear h; replace H := zi H; obtain ⟨⟨t870, t873⟩, A2, H⟩ := H; (try dsimp only at H); replace H := zi H; obtain ⟨t874, A3, H⟩ := H; obtain rfl := Option.some.inj H; go_enter Try.func41, Try.ntmps41
 go_wp2_with (first | ((with_reducible refine gd 1 ?_); refine zbx 25 #[.string a0_0, .string a0_1, .string a0_2, .slice A0_3 l0_3.length c0_3, .int .i64 a0_4] ?_; intro gb869 hg w4 hbox hb; have BK869 := z0 (hbox); have GE869 := zG hg HB; replace HB := zH HB hb; clear hb hbox hg; have hcz5 := zc5 BK869.out) | ((with_reducible refine gc 89 ?_); refine zL (some 7) Try.func89 #[.agg #[.string a0_0, .string a0_1, .string a0_2, .slice A0_3 l0_3.length c0_3, .int .i64 a0_4]] ?_; (with_reducible refine (impl_Sieve_heads.calls k a0_0 a0_1 a0_2 _ _ l0_3 a0_4 t870 t873 _ (zC (Kd.C_below HR0_3.out HB.out)) HC0_3.out A2.out).mono ?_); rintro e w6 ⟨v871, rfl, ho0, hb⟩; refine zv ?_; have HO872 := z0 (Kd.R_lower ho0 (below_size (zb HB.out))); replace BK869 := zK BK869 hb; replace HB := zH HB hb; (try clear hb ho0); obtain ⟨Ao7, co7, eo7⟩ := Kd.R_slice HO872.out; subst eo7) | ((with_reducible refine gc 90 ?_); refine zL (some 11) Try.func90 #[.slice Ao7 t870.length co7] ?_; (with_reducible refine (impl_texts.calls k _ _ t870 t874 _ (zC ((Kd.R_reads' HO872.out).2.2)) ((Kd.R_reads' HO872.out).2.1) A3.out).mono ?_); rintro e w8 ⟨v875, rfl, ho0, hb⟩; refine zv ?_; replace HO872 := zA HO872 hb; have HO876 := z0 (Kd.R_lower ho0 (below_size (zb HB.out))); replace BK869 := zK BK869 hb; replace HB := zH HB hb; (try clear hb ho0)))
 go_ret; exact ⟨_, ze, zr HO876.out, zb HB.out⟩
theorem spec_SieveHeads.mono : ∀ a0 a1 a2 a3 a4 k, LeO (spec_SieveHeads.f k a0 a1 a2 a3 a4) (spec_SieveHeads.f (k + 1) a0 a1 a2 a3 a4) := by
  intro a0 a1 a2 a3 a4 k
  unfold spec_SieveHeads.f
  repeat' first | (with_reducible first | apply spec_SieveOk.mono | apply spec_l3Heads.mono | exact LeO.refl _ | exact LeO.none _ | refine LeO.ite ?_ ?_ | refine LeO.bind ?_ (fun _ => ?_)) | exact LeO.none _ | refine LeO.ite ?_ ?_ | refine LeO.bind ?_ (fun _ => ?_)
theorem spec_SieveHeads.calls (k : Nat) (a0_0 a0_1 a0_2 : ByteArray) (A0_3 : Option Addr) (c0_3 : Nat) (l0_3 : List ByteArray) (a0_4 : Int) (r : List ByteArray) (w : World) (hr0_3 : Kd.C Kd.string w A0_3 l0_3.length l0_3) (hc0_3 : l0_3.length ≤ c0_3) (h : spec_SieveHeads.f k a0_0 a0_1 a0_2 l0_3 a0_4 = some r) :
    Calls Try.prog 53 #[.agg #[.string a0_0, .string a0_1, .string a0_2, .slice A0_3 l0_3.length c0_3, .int .i64 a0_4]] w fun e w' => ∃ v0_ : Value, e = .returned (v0_) ∧ Kd.R Kd.string 9 w' w.heap.size (fun _ => True) v0_ r ∧ Below w.heap.size w w' := by
 have hu25 := Try.underlying25; have HR0_3 := z0 hr0_3; have HC0_3 := z0 hc0_3; clear hr0_3 hc0_3; have HB := z0 (Below.refl w.heap.size w); have H : ((spec_SieveOk.f k a0_0 a0_1 a0_2 l0_3 a0_4).bind fun t1196 => (if t1196 = true then ((spec_l3Heads.f k a0_0 a0_1 a0_2 l0_3 a0_4).bind fun t1197 => (some t1197)) else (some (([] : List ByteArray))))) = some r := h; clear h; replace H := zi H; obtain ⟨t1196, A2, H⟩ := H
 by_cases c3 : t1196 = true
 ·subst c3
  have H1 : ((spec_l3Heads.f k a0_0 a0_1 a0_2 l0_3 a0_4).bind fun t1197 => (some t1197)) = some r := by rw [if_pos rfl] at H; exact H
  clear H; have H := H1; clear H1; replace H := zi H; obtain ⟨t1197, A4, H⟩ := H; obtain rfl := Option.some.inj H; go_enter Try.func53, Try.ntmps53
  go_wp2_with (first | ((with_reducible refine gd 1 ?_); refine zbx 25 #[.string a0_0, .string a0_1, .string a0_2, .slice A0_3 l0_3.length c0_3, .int .i64 a0_4] ?_; intro gb1195 hg w5 hbox hb; have BK1195 := z0 (hbox); have GE1195 := zG hg HB; replace HB := zH HB hb; clear hb hbox hg; have hcz6 := zc5 BK1195.out) | ((with_reducible refine gc 46 ?_); refine zL (some 4) Try.func46 #[.agg #[.string a0_0, .string a0_1, .string a0_2, .slice A0_3 l0_3.length c0_3, .int .i64 a0_4]] ?_; (with_reducible refine (spec_SieveOk.calls k a0_0 a0_1 a0_2 _ _ l0_3 a0_4 true _ (zC (Kd.C_below HR0_3.out HB.out)) HC0_3.out A2.out).mono ?_); rintro e w7 ⟨rfl, hb⟩; refine zv ?_; replace BK1195 := zK BK1195 hb; replace HB := zH HB hb; (try clear hb); have hcz8 := zc5 BK1195.out) | ((with_reducible refine gc 82 ?_); refine zL (some 8) Try.func82 #[.agg #[.string a0_0, .string a0_1, .string a0_2, .slice A0_3 l0_3.length c0_3, .int .i64 a0_4]] ?_; (with_reducible refine (spec_l3Heads.calls k a0_0 a0_1 a0_2 _ _ l0_3 a0_4 t1197 _ (zC (Kd.C_below HR0_3.out HB.out)) HC0_3.out A4.out).mono ?_); rintro e w9 ⟨v1198, rfl, ho0, hb⟩; refine zv ?_; have HO1199 := z0 (Kd.R_lower ho0 (below_size (zb HB.out))); replace BK1195 := zK BK1195 hb; replace HB := zH HB hb; (try clear hb ho0)))
  go_ret; exact ⟨_, ze, zr HO1199.out, zb HB.out⟩
 ·replace c3 := Bool.eq_false_iff.mpr c3; subst c3
  have H1 : (some (([] : List ByteArray))) = some r := by rw [if_neg (show ¬ (false = true) by decide)] at H; exact H
  clear H; have H := H1; clear H1; obtain ⟨y1200, hy1200⟩ : ∃ y_ : List ByteArray, y_ = (([] : List ByteArray)) := ⟨_, rfl⟩; replace H : (some y1200) = some r := zH2 hy1200 H; have Ny1200 := z0 hy1200; clear hy1200; obtain rfl := Option.some.inj H; go_enter Try.func53, Try.ntmps53
  go_wp2_with (first | ((with_reducible refine gd 1 ?_); refine zbx 25 #[.string a0_0, .string a0_1, .string a0_2, .slice A0_3 l0_3.length c0_3, .int .i64 a0_4] ?_; intro gb1195 hg w10 hbox hb; have BK1195 := z0 (hbox); have GE1195 := zG hg HB; replace HB := zH HB hb; clear hb hbox hg; have hcz11 := zc5 BK1195.out) | ((with_reducible refine gc 46 ?_); refine zL (some 4) Try.func46 #[.agg #[.string a0_0, .string a0_1, .string a0_2, .slice A0_3 l0_3.length c0_3, .int .i64 a0_4]] ?_; (with_reducible refine (spec_SieveOk.calls k a0_0 a0_1 a0_2 _ _ l0_3 a0_4 false _ (zC (Kd.C_below HR0_3.out HB.out)) HC0_3.out A2.out).mono ?_); rintro e w12 ⟨rfl, hb⟩; refine zv ?_; replace BK1195 := zK BK1195 hb; replace HB := zH HB hb; (try clear hb)) | ((with_reducible refine gd 6 ?_); refine Kd.R_lit Kd.string _ 9 ?hg (N := 6) ?hd (xs := ([] : List ByteArray)) (inner := []) (ok := fun _ => True) (okp := fun _ => True) ?hr ?hp (fun _ hk => hk) trivial (Below.refl _ _) (Nat.le_refl _) (by simp) ?_; (case hd => rfl); (case hg => rfl); (case hr => first | (go_simp; done) | (go_simp; rfl)); (case hp => exact (Reps.none _ _)); intro v1201 w13 ho14 hb hg_ hnew_; clear hg_ hnew_; (first | rw [← Ny1200.out] at ho14 | (simp only [Int.reduceToNat] at ho14; rw [← Ny1200.out] at ho14)); have HO1202 := z0 (Kd.R_lower ho14 (below_size (zb HB.out))); replace BK1195 := zK BK1195 hb; replace HB := zH HB hb; clear hb ho14))
  go_ret; exact ⟨_, ze, zr HO1202.out, zb HB.out⟩
theorem spec_DrawSieveHeads.mono : ∀ a0 k, LeO (spec_DrawSieveHeads.f k a0) (spec_DrawSieveHeads.f (k + 1) a0) := by
  intro a0 k
  unfold spec_DrawSieveHeads.f
  repeat' first | (with_reducible first | apply spec_l71Bent.mono | exact LeO.refl _ | exact LeO.none _ | refine LeO.ite ?_ ?_ | refine LeO.bind ?_ (fun _ => ?_)) | exact LeO.none _ | refine LeO.ite ?_ ?_ | refine LeO.bind ?_ (fun _ => ?_)
theorem spec_DrawSieveHeads.calls (k : Nat) (A0 : Option Addr) (c0 : Nat) (l0 : List Int) (r1 r2 r3 : ByteArray) (r4 : List ByteArray) (r5 : Int) (w : World) (hr0 : Kd.C (Kd.int .u8) w A0 l0.length l0) (hc0 : l0.length ≤ c0) (h : spec_DrawSieveHeads.f k l0 = some (r1, r2, r3, r4, r5)) :
    Calls Try.prog 61 #[.slice A0 l0.length c0] w fun e w' => ∃ v3_ : Value, e = .returned (.agg #[.string r1, .string r2, .string r3, v3_, .int .i64 r5]) ∧ Kd.R Kd.string 9 w' w.heap.size (fun _ => True) v3_ r4 ∧ Below w.heap.size w w' := by
 have hu25 := Try.underlying25; have HR0 := z0 hr0; have HC0 := z0 hc0; clear hr0 hc0; have HB := z0 (Below.refl w.heap.size w); have H : ((spec_l6Open.f l0).bind fun bt1337 => ((spec_l71Bent.f k bt1337.1 bt1337.2).bind fun bt1340 => (some (bt1340.1, bt1340.2.1, bt1340.2.2.1, bt1340.2.2.2.1, bt1340.2.2.2.2.1)))) = some (r1, r2, r3, r4, r5) := h; clear h; replace H := zi H; obtain ⟨⟨t1337, t1338⟩, A2, H⟩ := H; (try dsimp only at H); replace H := zi H; obtain ⟨⟨t1340, t1341, t1342, t1343, t1346, t1347, t1350⟩, A3, H⟩ := H; (try dsimp only at H); simp only [Option.some.injEq, Prod.mk.injEq] at H; obtain ⟨rfl, rfl, rfl, rfl, rfl⟩ := H; go_enter Try.func61, Try.ntmps61
 go_wp2_with (first | ((with_reducible refine gd 2 ?_); refine zbx 25 #[.string ⟨#[]⟩, .string ⟨#[]⟩, .string ⟨#[]⟩, .slice none 0 0, .int .i64 0] ?_; intro gb1336 hg w4 hbox hb; have BK1336 := z0 (hbox); have GE1336 := zG hg HB; replace HB := zH HB hb; clear hb hbox hg) | ((with_reducible refine gc 64 ?_); refine zL (some 7) Try.func64 #[.slice A0 l0.length c0] ?_; (with_reducible refine (spec_l6Open.calls _ _ l0 t1337 t1338 w _ (zb HB.out) HR0.out HC0.out A2.out).mono ?_); rintro e w5 ⟨g1339, rfl, hi, hb, hb2⟩; refine zv ?_; replace HB := z0 (hb); have HI1339 := z0 (hi); have NB1339_1336 := z0 (IsS98.ne_blk hi (blk_below (zl BK1336.out) hb2) (by decide)); have NB1336_1339 := z0 (Ne.symm (IsS98.ne_blk hi (blk_below (zl BK1336.out) hb2) (by decide))); replace BK1336 := zK BK1336 hb2; (try clear hb hb2 hi)) | ((with_reducible refine gc 65 ?_); refine zL (some 8) Try.func65 #[.pointer (some ⟨g1339, 0, none⟩)] ?_; (with_reducible refine (spec_l71Bent.calls k g1339 t1337 t1338 t1340 t1341 t1342 t1343 t1346 t1347 t1350 w _ (HI1339.out.zI) (HI1339.out.zb HB.out) A3.out).mono ?_); rintro e w6 ⟨v1344, v1348, rfl, ho0, ho1, hi, hb, hk⟩; refine zv ?_; replace BK1336 := z0 (KeepBut.blk hk (g' := gb1336) (o := .cells #[.string ⟨#[]⟩, .string ⟨#[]⟩, .string ⟨#[]⟩, .slice none 0 0, .int .i64 0] 25 (0, 0)) (zl BK1336.out) NB1336_1339.out (by simp)); have HO1345 := z0 (Kd.R_lower ho0 (below_size (HI1339.out.zb HB.out))); have HO1349 := z0 (Kd.R_lower ho1 (below_size (HI1339.out.zb HB.out))); replace HB := z0 (hb); replace HI1339 := z0 (hi); (try clear hb hk hi ho0 ho1)) | ((with_reducible refine gd 3 ?_); refine zbx 25 #[.string ⟨#[]⟩, .string ⟨#[]⟩, .string ⟨#[]⟩, .slice none 0 0, .int .i64 0] ?_; intro gb1351 hg w7 hbox hb; replace HO1345 := zA HO1345 hb; replace HO1349 := zA HO1349 hb; have BK1351 := z0 (hbox); have GW1351 := z0 ((by rw [hg]; exact (below_size (HI1339.out.zb HB.out)) : w.heap.size ≤ gb1351)); have GE1351 := z0 ((by rw [hg]; exact (below_size (HI1339.out.zb HB.out)) : w.heap.size ≤ gb1351)); replace HB := z0 (below_step (HI1339.out.zb HB.out) hb); have NB1336_1351 := zLt hg BK1336; have NB1351_1336 := zGt hg BK1336; replace BK1336 := zK BK1336 hb; have NB1339_1351 := z0 ((by rw [hg]; exact Nat.ne_of_lt (IsS98.lt (show IsS98 w _ g1339 t1337 t1350 from HI1339.out.zI)) : g1339 ≠ gb1351)); have NB1351_1339 := z0 ((by rw [hg]; exact Nat.ne_of_gt (IsS98.lt (show IsS98 w _ g1339 t1337 t1350 from HI1339.out.zI)) : gb1351 ≠ g1339)); replace HI1339 := z0 (IsS98.below (HI1339.out.zI) hb); clear hb hbox hg; have hnb8 := NB1351_1336.out; have hnc8 := NB1336_1351.out; have hnb9 := NB1351_1339.out; have hnc9 := NB1339_1351.out; have hcz10 := zc5 BK1351.out; obtain ⟨Ao11, co11, eo11⟩ := Kd.R_slice HO1345.out; subst eo11; have hnb12 := NB1336_1339.out; have hnc12 := NB1339_1336.out; have hcz13 := zc5 BK1336.out))
 refine bodyPost_ret (results_cell_row rfl _ _ gb1336 25 #[.string t1340, .string t1341, .string t1342, .slice Ao11 t1343.length co11, .int .i64 t1346] (0, 0) _ rfl (zp BK1336.out) Try.underlying25 rfl (by kernel_rfl)) rfl ?_; exact ⟨_, ze, Kd.R_mono (ztt HO1345.out BK1351.out BK1336.out) (fun _ hk => trivial), HI1339.out.zb HB.out⟩
theorem laws_FnSieveSame.mono_l : ∀ k, (∀ y0 y1 y2 y3 y4 y5 y6, LeO (laws_FnSieveSame.j0 k y0 y1 y2 y3 y4 y5 y6) (laws_FnSieveSame.j0 (k + 1) y0 y1 y2 y3 y4 y5 y6))
  | 0 => fun _ _ _ _ _ _ _ r h => by simp [laws_FnSieveSame.j0] at h
  | k + 1 => by
    have ih0 := laws_FnSieveSame.mono_l k
    · intro y0 y1 y2 y3 y4 y5 y6
      unfold laws_FnSieveSame.j0
      repeat' first | (with_reducible first | apply ih0 | apply impl_SieveHeads.mono | apply impl_SieveOf.mono | apply laws_ltSames.mono | apply laws_ltSieve.mono | apply spec_DrawSieveHeads.mono | apply spec_SieveHeads.mono | apply spec_SieveOk.mono | exact LeO.refl _ | exact LeO.none _ | refine LeO.ite ?_ ?_ | refine LeO.bind ?_ (fun _ => ?_)) | exact LeO.none _ | refine LeO.ite ?_ ?_ | refine LeO.bind ?_ (fun _ => ?_)
theorem laws_FnSieveSame.mono : ∀ a0 k, LeO (laws_FnSieveSame.f k a0) (laws_FnSieveSame.f (k + 1) a0) := by
  intro a0 k
  have ih0 := laws_FnSieveSame.mono_l k
  unfold laws_FnSieveSame.f
  repeat' first | (with_reducible first | apply ih0 | apply impl_SieveHeads.mono | apply impl_SieveOf.mono | apply laws_ltSames.mono | apply laws_ltSieve.mono | apply spec_DrawSieveHeads.mono | apply spec_SieveHeads.mono | apply spec_SieveOk.mono | exact LeO.refl _ | exact LeO.none _ | refine LeO.ite ?_ ?_ | refine LeO.bind ?_ (fun _ => ?_)) | exact LeO.none _ | refine LeO.ite ?_ ?_ | refine LeO.bind ?_ (fun _ => ?_)
theorem laws_FnSieveSame.calls (k : Nat) (A0 : Option Addr) (c0 : Nat) (l0 : List Int) (r : Bool) (w : World) (hr0 : Kd.C (Kd.int .u8) w A0 l0.length l0) (hc0 : l0.length ≤ c0) (h : laws_FnSieveSame.f k l0 = some r) :
    Calls Try.prog 18 #[.slice A0 l0.length c0] w fun e w' => e = .returned (.bool r) ∧ Below w.heap.size w w' := by
 have hu25 := Try.underlying25; have HR0 := z0 hr0; have HC0 := z0 hc0; clear hr0 hc0; have HB := z0 (Below.refl w.heap.size w); have H : (if (l0.length : Int) > 1048576 then (some true) else ((spec_DrawSieveHeads.f k l0).bind fun bt1352 => ((impl_SieveHeads.f k bt1352.1 bt1352.2.1 bt1352.2.2.1 bt1352.2.2.2.1 bt1352.2.2.2.2).bind fun t1360 => ((spec_SieveHeads.f k bt1352.1 bt1352.2.1 bt1352.2.2.1 bt1352.2.2.2.1 bt1352.2.2.2.2).bind fun t1363 => ((laws_ltSames.f k t1360 t1363).bind fun t1366 => (if t1366 = true then ((spec_SieveOk.f k bt1352.1 bt1352.2.1 bt1352.2.2.1 bt1352.2.2.2.1 bt1352.2.2.2.2).bind fun t1367 => (laws_FnSieveSame.j0 k t1360 (!t1367) bt1352.1 bt1352.2.1 bt1352.2.2.1 bt1352.2.2.2.1 bt1352.2.2.2.2)) else (laws_FnSieveSame.j0 k t1360 true bt1352.1 bt1352.2.1 bt1352.2.2.1 bt1352.2.2.2.1 bt1352.2.2.2.2))))))) = some r := h; clear h
 by_cases c2 : (l0.length : Int) > 1048576
 ·rw [if_pos c2] at H; have c2b0 : decide (1048576 < (l0.length : Int)) = true := decide_eq_true c2; have c2b1 : decide (1048576 < l0.length) = true := decide_eq_true (by omega); clear c2; obtain rfl := Option.some.inj H; go_enter Try.func18, Try.ntmps18; go_wp2; go_ret; exact ⟨ze, zb HB.out⟩
 ·rw [if_neg c2] at H; have c2b0 : decide (1048576 < (l0.length : Int)) = false := decide_eq_false c2; have c2b1 : decide (1048576 < l0.length) = false := decide_eq_false (by omega); clear c2; replace H := zi H; obtain ⟨⟨t1352, t1353, t1354, t1355, t1358⟩, A3, H⟩ := H; (try dsimp only at H); replace H := zi H; obtain ⟨t1360, A4, H⟩ := H; have HC5 := z0 H; clear H; go_enter Try.func18, Try.ntmps18
  go_upto_region 5 with (first | ((with_reducible refine gc 61 ?_); refine zL (some 11) Try.func61 #[.slice A0 l0.length c0] ?_; (with_reducible refine (spec_DrawSieveHeads.calls k _ _ l0 t1352 t1353 t1354 t1355 t1358 _ (zC HR0.out) HC0.out A3.out).mono ?_); rintro e w6 ⟨v1356, rfl, ho0, hb⟩; refine zv ?_; have HO1357 := z0 (Kd.R_lower ho0 (below_size (zb HB.out))); replace HB := zH HB hb; (try clear hb ho0)) | ((with_reducible refine gd 3 ?_); refine zbx 25 #[.string ⟨#[]⟩, .string ⟨#[]⟩, .string ⟨#[]⟩, .slice none 0 0, .int .i64 0] ?_; intro gb1359 hg w7 hbox hb; replace HO1357 := zA HO1357 hb; have BK1359 := z0 (hbox); have GE1359 := zG hg HB; replace HB := zH HB hb; clear hb hbox hg; have hcz8 := zc5 BK1359.out; obtain ⟨Ao9, co9, eo9⟩ := Kd.R_slice HO1357.out; subst eo9) | ((with_reducible refine gc 41 ?_); refine zL (some 13) Try.func41 #[.agg #[.string t1352, .string t1353, .string t1354, .slice Ao9 t1355.length co9, .int .i64 t1358]] ?_; (with_reducible refine (impl_SieveHeads.calls k t1352 t1353 t1354 _ _ t1355 t1358 t1360 _ ?side1 ((Kd.R_reads' HO1357.out).2.1) A4.out).mono ?_); (case side1 => refine (Kd.R_reads' (e := 9) (base := w.heap.size) (ok := fun k_ => True) (n := t1355.length) (c := co9) ?_).2.2; exact (zs HO1357.out BK1359.out)); rintro e w10 ⟨v1361, rfl, ho0, hb⟩; refine zv ?_; have HO1362 := z0 (Kd.R_lower (Kd.R_new' ho0 (Kd.R_lt (zs HO1357.out BK1359.out))) (below_size (zb HB.out))); replace HO1357 := z0 (Kd.R_elder' (zs HO1357.out BK1359.out) (Kd.R_base ho0) hb); replace BK1359 := z0 (blk_below (zpc BK1359.out #[.string t1352, .string t1353, .string t1354, .slice Ao9 t1355.length co9, .int .i64 t1358]) hb); replace HB := zH HB hb; (try clear hb ho0)))
  (try simp only [Act.put, List.setIfInBounds_toArray, List.set_cons_zero, List.set_cons_succ])
  go_cut [23] (fun v23 wc => ∃ (kq : Nat) (x23_4 : Bool), v23 = .bool x23_4 ∧ Aside0 (laws_FnSieveSame.j0 kq t1360 x23_4 t1352 t1353 t1354 t1355 t1358 = some r) ∧ Aside0 (kq ≤ k) ∧ Aside0 (Kd.R Kd.string 9 wc w.heap.size (fun k_ => some k_ ≠ ((.slice Ao9 t1355.length co9) : Value).ownBlock) v1361 t1360) ∧ Aside0 (Kd.R Kd.string 9 wc w.heap.size (fun k_ => some k_ ≠ (v1361 : Value).ownBlock) (.slice Ao9 t1355.length co9) t1355) ∧ Aside0 (wc.heap[gb1359]? = some (.cells #[.string t1352, .string t1353, .string t1354, (.slice Ao9 t1355.length co9), .int .i64 t1358] 25 (0, 0))) ∧ Aside0 (Below w.heap.size w wc))
  case first =>
   have H := HC5.out; clear HC5; replace H := zi H; obtain ⟨t1363, A11, H⟩ := H; replace H := zi H; obtain ⟨t1366, A12, H⟩ := H
   by_cases c13 : t1366 = true
   ·subst c13
    have H1 : ((spec_SieveOk.f k t1352 t1353 t1354 t1355 t1358).bind fun t1367 => (laws_FnSieveSame.j0 k t1360 (!t1367) t1352 t1353 t1354 t1355 t1358)) = some r := by rw [if_pos rfl] at H; exact H
    clear H; have H := H1; clear H1; replace H := zi H; obtain ⟨t1367, A14, H⟩ := H; have H' := z0 H; clear H; have hcz15 := zc5 BK1359.out
    go_wp2_with (first | ((with_reducible refine gc 53 ?_); refine zL (some 16) Try.func53 #[.agg #[.string t1352, .string t1353, .string t1354, .slice Ao9 t1355.length co9, .int .i64 t1358]] ?_; (with_reducible refine (spec_SieveHeads.calls k t1352 t1353 t1354 _ _ t1355 t1358 t1363 _ (zC ((Kd.R_reads' HO1357.out).2.2)) ((Kd.R_reads' HO1357.out).2.1) A11.out).mono ?_); rintro e w16 ⟨v1364, rfl, ho0, hb⟩; refine zv ?_; have HO1365 := z0 (Kd.R_lower (Kd.R_new' (Kd.R_new' ho0 (Kd.R_lt (zr HO1357.out))) (Kd.R_lt (zr HO1362.out))) (below_size (zb HB.out))); replace HO1357 := z0 (Kd.R_elder' (zr HO1357.out) (Kd.R_base ho0) hb); replace HO1362 := z0 (Kd.R_elder' (zr HO1362.out) (Kd.R_base ho0) hb); replace BK1359 := zK BK1359 hb; replace HB := zH HB hb; (try clear hb ho0); obtain ⟨Ao17, co17, eo17⟩ := Kd.R_slice HO1362.out; subst eo17; obtain ⟨Ao18, co18, eo18⟩ := Kd.R_slice HO1365.out; subst eo18) | ((with_reducible refine gc 51 ?_); refine zL (some 17) Try.func51 #[.slice Ao17 t1360.length co17, .slice Ao18 t1363.length co18] ?_; (with_reducible refine (laws_ltSames.calls k _ _ t1360 _ _ t1363 true _ ?side1 ?side2 ?side3 ?side4 A12.out).mono ?_); (case side1 => repeat (first | exact (Kd.R_reads' HO1362.out).2.2 | (with_reducible refine Kd.C_alloc ?_ _) | (with_reducible refine Kd.C_drewN ?_ _) | (with_reducible refine Kd.C_drew ?_))); (case side2 => exact (Kd.R_reads' HO1362.out).2.1); (case side3 => repeat (first | exact (Kd.R_reads' HO1365.out).2.2 | (with_reducible refine Kd.C_alloc ?_ _) | (with_reducible refine Kd.C_drewN ?_ _) | (with_reducible refine Kd.C_drew ?_))); (case side4 => exact (Kd.R_reads' HO1365.out).2.1); rintro e w' ⟨rfl, ⟨nd, rfl⟩⟩; refine ⟨_, rfl, ?_⟩; have hcz19 := zc5 BK1359.out) | (go_at_call 46; (with_reducible refine (spec_SieveOk.calls k t1352 t1353 t1354 _ _ t1355 t1358 t1367 _ ?side1 ?side2 A14.out).mono ?_); (case side1 => repeat (first | exact (Kd.R_reads' HO1357.out).2.2 | (with_reducible refine Kd.C_alloc ?_ _) | (with_reducible refine Kd.C_drewN ?_ _) | (with_reducible refine Kd.C_drew ?_))); (case side2 => exact (Kd.R_reads' HO1357.out).2.1); rintro e w20 ⟨rfl, hb⟩; replace HO1357 := zA HO1357 hb; replace HO1362 := zA HO1362 hb; replace HO1365 := zA HO1365 hb; replace BK1359 := zK BK1359 hb; replace HB := zH HB hb; (try clear hb)))
    go_meet
    case rel => exact ⟨_, (!t1367), zf, H', ⟨by first | omega | exact Nat.le_refl _⟩, ⟨Kd.R_mono (zr HO1362.out) (fun _ hk => hk.1.2)⟩, ⟨Kd.R_mono (zr HO1357.out) (fun _ hk => hk.1.2)⟩, ⟨zl BK1359.out⟩, ⟨zb HB.out⟩⟩
   ·replace c13 := Bool.eq_false_iff.mpr c13; subst c13
    have H1 : (laws_FnSieveSame.j0 k t1360 true t1352 t1353 t1354 t1355 t1358) = some r := by rw [if_neg (show ¬ (false = true) by decide)] at H; exact H
    clear H; have H := H1; clear H1; have H' := z0 H; clear H; have hcz21 := zc5 BK1359.out
    go_wp2_with (first | ((with_reducible refine gc 53 ?_); refine zL (some 16) Try.func53 #[.agg #[.string t1352, .string t1353, .string t1354, .slice Ao9 t1355.length co9, .int .i64 t1358]] ?_; (with_reducible refine (spec_SieveHeads.calls k t1352 t1353 t1354 _ _ t1355 t1358 t1363 _ (zC ((Kd.R_reads' HO1357.out).2.2)) ((Kd.R_reads' HO1357.out).2.1) A11.out).mono ?_); rintro e w22 ⟨v1364, rfl, ho0, hb⟩; refine zv ?_; have HO1365 := z0 (Kd.R_lower (Kd.R_new' (Kd.R_new' ho0 (Kd.R_lt (zr HO1357.out))) (Kd.R_lt (zr HO1362.out))) (below_size (zb HB.out))); replace HO1357 := z0 (Kd.R_elder' (zr HO1357.out) (Kd.R_base ho0) hb); replace HO1362 := z0 (Kd.R_elder' (zr HO1362.out) (Kd.R_base ho0) hb); replace BK1359 := zK BK1359 hb; replace HB := zH HB hb; (try clear hb ho0); obtain ⟨Ao23, co23, eo23⟩ := Kd.R_slice HO1362.out; subst eo23; obtain ⟨Ao24, co24, eo24⟩ := Kd.R_slice HO1365.out; subst eo24) | ((with_reducible refine gc 51 ?_); refine zL (some 17) Try.func51 #[.slice Ao23 t1360.length co23, .slice Ao24 t1363.length co24] ?_; (with_reducible refine (laws_ltSames.calls k _ _ t1360 _ _ t1363 false _ ?side1 ?side2 ?side3 ?side4 A12.out).mono ?_); (case side1 => repeat (first | exact (Kd.R_reads' HO1362.out).2.2 | (with_reducible refine Kd.C_alloc ?_ _) | (with_reducible refine Kd.C_drewN ?_ _) | (with_reducible refine Kd.C_drew ?_))); (case side2 => exact (Kd.R_reads' HO1362.out).2.1); (case side3 => repeat (first | exact (Kd.R_reads' HO1365.out).2.2 | (with_reducible refine Kd.C_alloc ?_ _) | (with_reducible refine Kd.C_drewN ?_ _) | (with_reducible refine Kd.C_drew ?_))); (case side4 => exact (Kd.R_reads' HO1365.out).2.1); rintro e w' ⟨rfl, ⟨nd, rfl⟩⟩; refine ⟨_, rfl, ?_⟩))
    go_meet
    case rel => exact ⟨_, (true), zf, H', ⟨by first | omega | exact Nat.le_refl _⟩, ⟨Kd.R_mono (zr HO1362.out) (fun _ hk => hk.1.2)⟩, ⟨Kd.R_mono (zr HO1357.out) (fun _ hk => hk.1.2)⟩, ⟨zl BK1359.out⟩, ⟨zb HB.out⟩⟩
  case rest =>
   clear HC5
   try clear c1
   try clear c2
   try clear c2b0
   try clear c2b1
   try clear p2
   try clear c4
   try clear c5
   try clear c6
   try clear c13
   try clear c18
   try clear hcz15
   try clear hcz19
   try clear hcz21
   try clear hcz8
   obtain ⟨kq, x23_4, rfl, HA, HJ4, HO_4, HO_1360003, BK1359, HB⟩ := hcut
   cases kq with
   | zero => exact absurd HA.out (by simp [laws_FnSieveSame.j0])
   | succ kj4 =>
    have H := HA.out; clear HA; simp only [laws_FnSieveSame.j0] at H
    by_cases c25 : x23_4 = true
    ·subst c25
     have H1 : ((spec_SieveHeads.f kj4 t1352 t1353 t1354 t1355 t1358).bind fun t1368 => ((laws_ltSames.f kj4 t1360 t1368).bind fun t1371 => (some t1371))) = some r := by rw [if_pos rfl] at H; exact H
     clear H; have H := H1; clear H1; replace H := zi H; obtain ⟨t1368, A26, H⟩ := H; replace H := zi H; obtain ⟨t1371, A27, H⟩ := H; obtain rfl := Option.some.inj H; have hcz28 := zc5 BK1359.out
     go_wp2_with (first | ((with_reducible refine gc 53 ?_); refine zL (some 26) Try.func53 #[.agg #[.string t1352, .string t1353, .string t1354, .slice Ao9 t1355.length co9, .int .i64 t1358]] ?_; (with_reducible refine (spec_SieveHeads.calls kj4 t1352 t1353 t1354 _ _ t1355 t1358 t1368 _ (zC ((Kd.R_reads' HO_1360003.out).2.2)) ((Kd.R_reads' HO_1360003.out).2.1) A26.out).mono ?_); rintro e w29 ⟨v1369, rfl, ho0, hb⟩; refine zv ?_; have HO1370 := z0 (Kd.R_lower (Kd.R_new' (Kd.R_new' ho0 (Kd.R_lt (zr HO_4.out))) (Kd.R_lt (zr HO_1360003.out))) (below_size (zb HB.out))); replace HO_4 := z0 (Kd.R_elder' (zr HO_4.out) (Kd.R_base ho0) hb); replace HO_1360003 := z0 (Kd.R_elder' (zr HO_1360003.out) (Kd.R_base ho0) hb); replace BK1359 := zK BK1359 hb; replace HB := zH HB hb; (try clear hb ho0); obtain ⟨Ao30, co30, eo30⟩ := Kd.R_slice HO_4.out; subst eo30; obtain ⟨Ao31, co31, eo31⟩ := Kd.R_slice HO1370.out; subst eo31) | ((with_reducible refine gc 51 ?_); refine zL (some 27) Try.func51 #[.slice Ao30 t1360.length co30, .slice Ao31 t1368.length co31] ?_; (with_reducible refine (laws_ltSames.calls kj4 _ _ t1360 _ _ t1368 t1371 _ ?side1 ?side2 ?side3 ?side4 A27.out).mono ?_); (case side1 => repeat (first | exact (Kd.R_reads' HO_4.out).2.2 | (with_reducible refine Kd.C_alloc ?_ _) | (with_reducible refine Kd.C_drewN ?_ _) | (with_reducible refine Kd.C_drew ?_))); (case side2 => exact (Kd.R_reads' HO_4.out).2.1); (case side3 => repeat (first | exact (Kd.R_reads' HO1370.out).2.2 | (with_reducible refine Kd.C_alloc ?_ _) | (with_reducible refine Kd.C_drewN ?_ _) | (with_reducible refine Kd.C_drew ?_))); (case side4 => exact (Kd.R_reads' HO1370.out).2.1); rintro e w' ⟨rfl, ⟨nd, rfl⟩⟩; refine ⟨_, rfl, ?_⟩))
     go_ret; exact ⟨ze, zb HB.out⟩
    ·replace c25 := Bool.eq_false_iff.mpr c25; subst c25
     have H1 : ((impl_SieveOf.f kj4 t1360 t1358).bind fun bt1372 => (if bt1372.2.2.2.2.2 = true then ((laws_ltSieve.f kj4 bt1372.1 bt1372.2.1 bt1372.2.2.1 bt1372.2.2.2.1 bt1372.2.2.2.2.1 t1352 t1353 t1354 t1355 t1358).bind fun t1381 => (some t1381)) else (some false))) = some r := by rw [if_neg (show ¬ (false = true) by decide)] at H; exact H
     clear H; have H := H1; clear H1; replace H := zi H; obtain ⟨⟨t1372, t1373, t1374, t1375, t1378, t1379⟩, A32, H⟩ := H; (try dsimp only at H)
     by_cases c33 : t1379 = true
     ·subst c33
      have H1 : ((laws_ltSieve.f kj4 t1372 t1373 t1374 t1375 t1378 t1352 t1353 t1354 t1355 t1358).bind fun t1381 => (some t1381)) = some r := by rw [if_pos rfl] at H; exact H
      clear H; have H := H1; clear H1; replace H := zi H; obtain ⟨t1381, A34, H⟩ := H; obtain rfl := Option.some.inj H; have hcz35 := zc5 BK1359.out; obtain ⟨Ao36, co36, eo36⟩ := Kd.R_slice HO_4.out; subst eo36
      go_wp2_with (first | ((with_reducible refine gc 30 ?_); refine zL (some 32) Try.func30 #[.slice Ao36 t1360.length co36, .int .i64 t1358] ?_; (with_reducible refine (impl_SieveOf.calls kj4 _ _ t1360 t1358 t1372 t1373 t1374 t1375 t1378 true _ (zC ((Kd.R_reads' HO_4.out).2.2)) ((Kd.R_reads' HO_4.out).2.1) A32.out).mono ?_); rintro e w37 ⟨v1376, rfl, ho0, hb⟩; refine zv ?_; have HO1377 := z0 (Kd.R_lower (Kd.R_new' (Kd.R_new' ho0 (Kd.R_lt (zr HO_4.out))) (Kd.R_lt (zr HO_1360003.out))) (below_size (zb HB.out))); replace HO_4 := z0 (Kd.R_elder' (zr HO_4.out) (Kd.R_base ho0) hb); replace HO_1360003 := z0 (Kd.R_elder' (zr HO_1360003.out) (Kd.R_base ho0) hb); replace BK1359 := zK BK1359 hb; replace HB := zH HB hb; (try clear hb ho0)) | ((with_reducible refine gd 5 ?_); refine zbx 25 #[.string ⟨#[]⟩, .string ⟨#[]⟩, .string ⟨#[]⟩, .slice none 0 0, .int .i64 0] ?_; intro gb1380 hg w38 hbox hb; replace HO_4 := zA HO_4 hb; replace HO_1360003 := zA HO_1360003 hb; replace HO1377 := zA HO1377 hb; have BK1380 := z0 (hbox); have GE1380 := zG hg HB; replace HB := zH HB hb; have NB1359_1380 := zLt hg BK1359; have NB1380_1359 := zGt hg BK1359; replace BK1359 := zK BK1359 hb; clear hb hbox hg; have hnb39 := NB1380_1359.out; have hnc39 := NB1359_1380.out; have hcz40 := zc5 BK1380.out; obtain ⟨Ao41, co41, eo41⟩ := Kd.R_slice HO1377.out; subst eo41; have hcz42 := zc5 BK1359.out) | (go_at_call 37; (with_reducible refine (laws_ltSieve.calls kj4 t1372 t1373 t1374 _ _ t1375 t1378 t1352 t1353 t1354 _ _ t1355 t1358 t1381 _ ?side1 ?side2 ?side3 ?side4 A34.out).mono ?_); (case side1 => refine (Kd.R_reads' (e := 9) (base := w.heap.size) (ok := fun k_ => ((True ∧ some k_ ≠ (.slice Ao36 t1360.length co36 : Value).ownBlock) ∧ some k_ ≠ (.slice Ao9 t1355.length co9 : Value).ownBlock)) (n := t1375.length) (c := co41) ?_).2.2; exact (zs HO1377.out BK1380.out)); (case side2 => exact (Kd.R_reads' HO1377.out).2.1); (case side3 => refine (Kd.R_reads' (e := 9) (base := w.heap.size) (ok := fun k_ => (some k_ ≠ (.slice Ao36 t1360.length co36 : Value).ownBlock ∧ some k_ ≠ (.slice Ao41 t1375.length co41 : Value).ownBlock)) (n := t1355.length) (c := co9) ?_).2.2; exact (zs HO_1360003.out BK1380.out)); (case side4 => exact (Kd.R_reads' HO_1360003.out).2.1); rintro e w43 ⟨rfl, hb⟩; replace HO_4 := zAs HO_4 BK1380 hb; replace HO_1360003 := zAs HO_1360003 BK1380 hb; replace HO1377 := zAs HO1377 BK1380 hb; replace BK1359 := zKy BK1359 hb; replace BK1380 := z0 (blk_below (zpc BK1380.out #[.string t1372, .string t1373, .string t1374, .slice Ao41 t1375.length co41, .int .i64 t1378]) hb); replace HB := zH HB hb; (try clear hb)))
      go_ret; exact ⟨ze, zb HB.out⟩
     ·replace c33 := Bool.eq_false_iff.mpr c33; subst c33
      have H1 : (some false) = some r := by rw [if_neg (show ¬ (false = true) by decide)] at H; exact H
      clear H; have H := H1; clear H1; obtain rfl := Option.some.inj H; have hcz44 := zc5 BK1359.out; obtain ⟨Ao45, co45, eo45⟩ := Kd.R_slice HO_4.out; subst eo45
      go_wp2_with (first | ((with_reducible refine gc 30 ?_); refine zL (some 32) Try.func30 #[.slice Ao45 t1360.length co45, .int .i64 t1358] ?_; (with_reducible refine (impl_SieveOf.calls kj4 _ _ t1360 t1358 t1372 t1373 t1374 t1375 t1378 false _ (zC ((Kd.R_reads' HO_4.out).2.2)) ((Kd.R_reads' HO_4.out).2.1) A32.out).mono ?_); rintro e w46 ⟨v1376, rfl, ho0, hb⟩; refine zv ?_; have HO1377 := z0 (Kd.R_lower (Kd.R_new' (Kd.R_new' ho0 (Kd.R_lt (zr HO_4.out))) (Kd.R_lt (zr HO_1360003.out))) (below_size (zb HB.out))); replace HO_4 := z0 (Kd.R_elder' (zr HO_4.out) (Kd.R_base ho0) hb); replace HO_1360003 := z0 (Kd.R_elder' (zr HO_1360003.out) (Kd.R_base ho0) hb); replace BK1359 := zK BK1359 hb; replace HB := zH HB hb; (try clear hb ho0)) | ((with_reducible refine gd 5 ?_); refine zbx 25 #[.string ⟨#[]⟩, .string ⟨#[]⟩, .string ⟨#[]⟩, .slice none 0 0, .int .i64 0] ?_; intro gb1380 hg w47 hbox hb; replace HO_4 := zA HO_4 hb; replace HO_1360003 := zA HO_1360003 hb; replace HO1377 := zA HO1377 hb; have BK1380 := z0 (hbox); have GE1380 := zG hg HB; replace HB := zH HB hb; have NB1359_1380 := zLt hg BK1359; have NB1380_1359 := zGt hg BK1359; replace BK1359 := zK BK1359 hb; clear hb hbox hg; have hnb48 := NB1380_1359.out; have hnc48 := NB1359_1380.out; have hcz49 := zc5 BK1380.out; obtain ⟨Ao50, co50, eo50⟩ := Kd.R_slice HO1377.out; subst eo50))
      go_ret; exact ⟨ze, zb HB.out⟩
theorem laws_FnSieveSame.walk (P : laws_FnSieveSame.Pure) (a0 : Option Addr) (len0 cap0 : Nat) (z0 : List Int) (w : World) (w0 : (a0 = none ∧ len0 = 0 ∧ cap0 = 0 ∧ z0 = []) ∨ ∃ x, a0 = some x ∧ len0 ≤ cap0 ∧ cap0 ≤ maxLen ∧ z0.length = cap0 ∧ (∀ i, i < z0.length → w.cell? (x.add i) = some (.int .u8 (z0.getD i 0))) ∧ ∀ n ∈ z0, (Lit.int .u8 n).wf = true) (y0 : len0 * 1 ≤ 140737488351232) :
    Calls Try.prog 18 #[.slice a0 len0 cap0] w fun e w' => e = .returned (.bool true) ∧ Below w.heap.size w w' := by
  obtain ⟨l0, rfl, hr0, hm0, hw0, hc0⟩ := ReadsInt.ofRowC w0
  obtain ⟨k, h⟩ := P l0 hm0 y0 hw0
  refine (laws_FnSieveSame.calls k _ _ l0 true w (Kd.C_of_reads (d := (0 : Int)) (h1 := fun _ => rfl) hr0) hc0 h).mono ?_
  rintro e w' ⟨rfl, hd⟩
  exact ⟨rfl, hd⟩
end Go.Proofs.Ytifgcajpkgamgaa.Q
end
section
set_option linter.unusedVariables false
set_option linter.unusedSimpArgs false
namespace Go.Proofs.Ytifgcajpkgamgaa.Pure
open Go Go.RowKit Go.Proofs.YtifgcajpkgamgaaW.PrintWords Go.Proofs.YtifgcajpkgamgaaW.PrintLast Go.Proofs.YtifgcajpkgamgaaW.PrintMore Go.Proofs.Ytifgcajpkgamgaa.Trie Go.Proofs.Ytifgcajpkgamgaa.Q Go.Proofs.Ytifgcajpkgamgaa.Pb
theorem FnSieveSame : laws_FnSieveSame.Pure := by
 intro l0 hl _ hw
 refine Ev.rounds ?_
 unfold laws_FnSieveSame.f
 by_cases c : (l0.length : Int) > 1048576
 ·exact ev_pos c (ev_some rfl)
 ·obtain ⟨Lt, Mo, Fi, Rs, a, hd, hz⟩ := DrawSieveHeads_ev l0 hl hw
  rcases both hz.sz a with ⟨K, keep, rfl, hI, hh, hok, h3⟩ | ⟨_, hh, hok⟩
  ·have hfew := hI.ok.few
   have hsh := impl_SieveHeads_of (by rw [List.length_map]; omega) hh
   rw [pt_text] at hsh
   have hs2 := spec_SieveHeads_yes hok h3
   have hsame := same_ev (K.map (ht K keep)) (by rw [List.length_map]; omega)
   have so := impl_SieveOf_ev (K.map (ht K keep)) (szl_heads hI.ok) (keep : Int)
   rw [LL_ht, hI.heads] at so
   have lt := ltSieve_ev (sieveV (K.map (Trie.hd K keep)) (keep : Int)) (sieveV_few _ _)
   rw [hI.heads] at lt
   refine ev_neg c (Ev.bind hd (Ev.bind hsh (Ev.bind hs2 (Ev.bind hsame (ev_pos rfl (Ev.bind hok (ev_succ ?_)))))))
   simp only [laws_FnSieveSame.j0, Bool.not_true]
   exact ev_neg (by simp) (Ev.bind so (ev_pos rfl (Ev.bind lt (ev_some rfl))))
  ·have hsh := impl_SieveHeads_of (by simp) hh
   have hs2 := spec_SieveHeads_no hok
   have hsame := same_ev [] (by simp)
   refine ev_neg c (Ev.bind hd (Ev.bind hsh (Ev.bind hs2 (Ev.bind hsame (ev_pos rfl (Ev.bind hok (ev_succ ?_)))))))
   simp only [laws_FnSieveSame.j0]
   exact ev_pos (by simp) (Ev.bind hs2 (Ev.bind hsame (ev_some rfl)))
end Go.Proofs.Ytifgcajpkgamgaa.Pure
end
