/- What the laws of the set SC need: the kit's printed words, the printed functions with their proofs, and plain facts on them. -/
import Derived.Test.YtifgcajpkgamgaaBS0e
section
namespace Go.Proofs.Ytifgcajpkgamgaa.Q
open Go.RowKit Go.Proofs.YtifgcajpkgamgaaW.PrintWords Go.Proofs.YtifgcajpkgamgaaW.PrintLast Go.Proofs.YtifgcajpkgamgaaW.PrintMore
attribute [local go_sem] max2_int min2_int max_two min_two max_three min_three max_four min_four   
set_option linter.unusedVariables false
set_option linter.unusedSimpArgs false
set_option maxHeartbeats 8000000
set_option maxRecDepth 100000
theorem laws_szStringS.mono_l : ∀ k, (∀ y0 y1 y2, LeO (laws_szStringS.l0 k y0 y1 y2) (laws_szStringS.l0 (k + 1) y0 y1 y2))
  | 0 => fun _ _ _ r h => by simp [laws_szStringS.l0] at h
  | k + 1 => by
    have ih0 := laws_szStringS.mono_l k
    · intro y0 y1 y2
      unfold laws_szStringS.l0
      repeat' first | (with_reducible first | apply ih0 | exact LeO.refl _ | exact LeO.none _ | refine LeO.ite ?_ ?_ | refine LeO.bind ?_ (fun _ => ?_)) | exact LeO.none _ | refine LeO.ite ?_ ?_ | refine LeO.bind ?_ (fun _ => ?_)
theorem laws_szStringS.mono : ∀ a0 a1 k, LeO (laws_szStringS.f k a0 a1) (laws_szStringS.f (k + 1) a0 a1) := by
  intro a0 a1 k
  have ih0 := laws_szStringS.mono_l k
  unfold laws_szStringS.f
  repeat' first | (with_reducible first | apply ih0 | exact LeO.refl _ | exact LeO.none _ | refine LeO.ite ?_ ?_ | refine LeO.bind ?_ (fun _ => ?_)) | exact LeO.none _ | refine LeO.ite ?_ ?_ | refine LeO.bind ?_ (fun _ => ?_)
theorem laws_szStringS.calls (k : Nat) (A0 : Option Addr) (c0 : Nat) (l0 : List ByteArray) (a1 r : Int) (w : World) (hr0 : Kd.C Kd.string w A0 l0.length l0) (hc0 : l0.length ≤ c0) (h : laws_szStringS.f k l0 a1 = some r) :
    Calls Try.prog 92 #[.slice A0 l0.length c0, .int .i64 a1] w fun e w' => e = .returned (.int .i64 r) ∧ Drawn0 w w' := by
 have HR0 := z0 hr0; have HC0 := z0 hc0; clear hr0 hc0; have H : (if (wrap64 (a1 - (l0.length : Int))) < 0 then (some (-1)) else (laws_szStringS.l0 k l0 (wrap64 (a1 - (l0.length : Int))) 0)) = some r := h; clear h
 by_cases c3 : (wrap64 (a1 - (l0.length : Int))) < 0
 ·rw [if_pos c3] at H; have c3b0 := decide_eq_true c3; clear c3; obtain rfl := Option.some.inj H; go_enter Try.func92, Try.ntmps92; go_wp2; go_ret; exact ⟨zf, by repeat (first | exact Drawn0.refl _ | apply Drawn0.step)⟩
 ·rw [if_neg c3] at H; have c3b0 := decide_eq_false c3; clear c3; have H' := z0 H; clear H; go_enter Try.func92, Try.ntmps92; go_wp2
  go_loopg [1, 5] k (fun kq v1 v5 w' => ∃ (x1_1 : Int) (x5_1 : Int), v1 = .int .i64 x1_1 ∧ v5 = .int .i64 x5_1 ∧ Aside0 (laws_szStringS.l0 kq l0 x1_1 x5_1 = some r) ∧ Aside0 (kq ≤ k) ∧ Drawn0 w w')
  case atStart => exact ⟨(wrap64 (a1 - (l0.length : Int))), (0), zf, zf, H', ⟨Nat.le_refl _⟩, by repeat (first | exact Drawn0.refl _ | apply Drawn0.step)⟩
  case round =>
   clear H'
   try clear p2
   try clear c3
   try clear c3b0
   obtain ⟨x1_1, x5_1, rfl, rfl, HA, HK1, ⟨m1, rfl⟩⟩ := hrel
   cases gk with
   | zero => exact absurd HA.out (by simp [laws_szStringS.l0])
   | succ k1 =>
    have H := HA.out; clear HA; simp only [laws_szStringS.l0] at H
    by_cases c4 : x5_1 < (l0.length : Int)
    ·rw [if_pos c4] at H; have c4b0 := decide_eq_true c4; clear c4; replace H := zn H; obtain ⟨c5, H⟩ := H; have c5b0 := decide_eq_true c5; clear c5
     by_cases c6 : (wrap64 (x1_1 - ((rdOf ByteArray.empty l0 x5_1).size : Int))) < 0
     ·rw [if_pos c6] at H; have c6b0 := decide_eq_true c6; clear c6; obtain rfl := Option.some.inj H; have p1010 : 0 ≤ (x5_1 : Int) := zd; have q1010 : x5_1 < (l0.length : Int) := zd; obtain ⟨ad1010, e1010, hx1010_0⟩ := Kd.at_string HR0.out x5_1 p1010 q1010; cases e1010; replace p1010 := eq_true p1010; replace q1010 := eq_true q1010; go_wp2; go_ret; exact ⟨zf, by repeat (first | exact Drawn0.refl _ | apply Drawn0.step)⟩
     ·rw [if_neg c6] at H; have c6b0 := decide_eq_false c6; clear c6; have H' := z0 H; clear H; have p1010 : 0 ≤ (x5_1 : Int) := zd; have q1010 : x5_1 < (l0.length : Int) := zd; obtain ⟨ad1010, e1010, hx1010_0⟩ := Kd.at_string HR0.out x5_1 p1010 q1010; cases e1010; replace p1010 := eq_true p1010; replace q1010 := eq_true q1010; go_wp2; go_roundg k1
      case measure => have := HK1.out; omega
      case rel => exact ⟨(wrap64 (x1_1 - ((rdOf ByteArray.empty l0 x5_1).size : Int))), (wrap64 (x5_1 + 1)), zf, zf, H', ⟨by have := HK1.out; omega⟩, by repeat (first | exact Drawn0.refl _ | apply Drawn0.step)⟩
    ·rw [if_neg c4] at H; have c4b0 := decide_eq_false c4; clear c4; obtain rfl := Option.some.inj H; go_wp2; go_ret; exact ⟨zf, by repeat (first | exact Drawn0.refl _ | apply Drawn0.step)⟩
theorem laws_szSieve.mono : ∀ a0 a1 a2 a3 a4 a5 k, LeO (laws_szSieve.f k a0 a1 a2 a3 a4 a5) (laws_szSieve.f (k + 1) a0 a1 a2 a3 a4 a5) := by
  intro a0 a1 a2 a3 a4 a5 k
  unfold laws_szSieve.f
  repeat' first | (with_reducible first | apply laws_szStringS.mono | exact LeO.refl _ | exact LeO.none _ | refine LeO.ite ?_ ?_ | refine LeO.bind ?_ (fun _ => ?_)) | exact LeO.none _ | refine LeO.ite ?_ ?_ | refine LeO.bind ?_ (fun _ => ?_)
theorem laws_szSieve.calls (k : Nat) (a0_0 a0_1 a0_2 : ByteArray) (A0_3 : Option Addr) (c0_3 : Nat) (l0_3 : List ByteArray) (a0_4 a1 r : Int) (w : World) (hr0_3 : Kd.C Kd.string w A0_3 l0_3.length l0_3) (hc0_3 : l0_3.length ≤ c0_3) (h : laws_szSieve.f k a0_0 a0_1 a0_2 l0_3 a0_4 a1 = some r) :
    Calls Try.prog 45 #[.agg #[.string a0_0, .string a0_1, .string a0_2, .slice A0_3 l0_3.length c0_3, .int .i64 a0_4], .int .i64 a1] w fun e w' => e = .returned (.int .i64 r) ∧ Below w.heap.size w w' := by
 have hu49 := Try.underlying49; have HR0_3 := z0 hr0_3; have HC0_3 := z0 hc0_3; clear hr0_3 hc0_3; have HB := z0 (Below.refl w.heap.size w); have H : (if (wrap64 (a1 - (a0_0.size : Int))) < 0 then (some (-1)) else (if (wrap64 ((wrap64 (a1 - (a0_0.size : Int))) - (a0_1.size : Int))) < 0 then (some (-1)) else (if (wrap64 ((wrap64 ((wrap64 (a1 - (a0_0.size : Int))) - (a0_1.size : Int))) - (a0_2.size : Int))) < 0 then (some (-1)) else ((laws_szStringS.f k l0_3 (wrap64 ((wrap64 ((wrap64 (a1 - (a0_0.size : Int))) - (a0_1.size : Int))) - (a0_2.size : Int)))).bind fun t1012 => (if t1012 < 0 then (some (-1)) else (some t1012)))))) = some r := h; clear h
 by_cases c3 : (wrap64 (a1 - (a0_0.size : Int))) < 0
 ·rw [if_pos c3] at H; have c3b0 := decide_eq_true c3; clear c3; obtain rfl := Option.some.inj H; go_enter Try.func45, Try.ntmps45
  go_wp2_with (first | ((with_reducible refine gd 2 ?_); refine zbx 49 #[.string a0_0, .string a0_1, .string a0_2, .slice A0_3 l0_3.length c0_3, .int .i64 a0_4] ?_; intro gb1011 hg w4 hbox hb; have BK1011 := z0 (hbox); have GE1011 := zG hg HB; replace HB := zH HB hb; clear hb hbox hg; have hcz5 := zc5 BK1011.out))
  go_ret; exact ⟨ze, zb HB.out⟩
 ·rw [if_neg c3] at H; have c3b0 := decide_eq_false c3; clear c3
  by_cases c6 : (wrap64 ((wrap64 (a1 - (a0_0.size : Int))) - (a0_1.size : Int))) < 0
  ·rw [if_pos c6] at H; have c6b0 := decide_eq_true c6; clear c6; obtain rfl := Option.some.inj H; go_enter Try.func45, Try.ntmps45
   go_wp2_with (first | ((with_reducible refine gd 2 ?_); refine zbx 49 #[.string a0_0, .string a0_1, .string a0_2, .slice A0_3 l0_3.length c0_3, .int .i64 a0_4] ?_; intro gb1011 hg w7 hbox hb; have BK1011 := z0 (hbox); have GE1011 := zG hg HB; replace HB := zH HB hb; clear hb hbox hg; have hcz8 := zc5 BK1011.out))
   go_ret; exact ⟨ze, zb HB.out⟩
  ·rw [if_neg c6] at H; have c6b0 := decide_eq_false c6; clear c6
   by_cases c9 : (wrap64 ((wrap64 ((wrap64 (a1 - (a0_0.size : Int))) - (a0_1.size : Int))) - (a0_2.size : Int))) < 0
   ·rw [if_pos c9] at H; have c9b0 := decide_eq_true c9; clear c9; obtain rfl := Option.some.inj H; go_enter Try.func45, Try.ntmps45
    go_wp2_with (first | ((with_reducible refine gd 2 ?_); refine zbx 49 #[.string a0_0, .string a0_1, .string a0_2, .slice A0_3 l0_3.length c0_3, .int .i64 a0_4] ?_; intro gb1011 hg w10 hbox hb; have BK1011 := z0 (hbox); have GE1011 := zG hg HB; replace HB := zH HB hb; clear hb hbox hg; have hcz11 := zc5 BK1011.out))
    go_ret; exact ⟨ze, zb HB.out⟩
   ·rw [if_neg c9] at H; have c9b0 := decide_eq_false c9; clear c9; replace H := zi H; obtain ⟨t1012, A12, H⟩ := H; go_enter Try.func45, Try.ntmps45
    go_upto_if 31 with (first | ((with_reducible refine gd 2 ?_); refine zbx 49 #[.string a0_0, .string a0_1, .string a0_2, .slice A0_3 l0_3.length c0_3, .int .i64 a0_4] ?_; intro gb1011 hg w13 hbox hb; have BK1011 := z0 (hbox); have GE1011 := zG hg HB; replace HB := zH HB hb; clear hb hbox hg; have hcz14 := zc5 BK1011.out) | ((with_reducible refine gc 92 ?_); refine zL (some 29) Try.func92 #[.slice A0_3 l0_3.length c0_3, .int .i64 (wrap64 ((wrap64 ((wrap64 (a1 - (a0_0.size : Int))) - (a0_1.size : Int))) - (a0_2.size : Int)))] ?_; (with_reducible refine (laws_szStringS.calls k _ _ l0_3 (wrap64 ((wrap64 ((wrap64 (a1 - (a0_0.size : Int))) - (a0_1.size : Int))) - (a0_2.size : Int))) t1012 _ ?side1 ?side2 A12.out).mono ?_); (case side1 => repeat (first | exact (Kd.C_below HR0_3.out HB.out) | (with_reducible refine Kd.C_alloc ?_ _) | (with_reducible refine Kd.C_drewN ?_ _) | (with_reducible refine Kd.C_drew ?_))); (case side2 => exact HC0_3.out); rintro e w' ⟨rfl, ⟨nd, rfl⟩⟩; refine ⟨_, rfl, ?_⟩))
    by_cases c15 : t1012 < 0
    ·rw [if_pos c15] at H; have c15b0 := decide_eq_true c15; clear c15; (first | rw [c15b0] | (simp only [i64_w, i32_w]; rw [c15b0]) | simp only [*, Bool.not_true, Bool.not_false] | skip); obtain rfl := Option.some.inj H; go_wp2; go_ret; exact ⟨ze, zb HB.out⟩
    ·rw [if_neg c15] at H; have c15b0 := decide_eq_false c15; clear c15; (first | rw [c15b0] | (simp only [i64_w, i32_w]; rw [c15b0]) | simp only [*, Bool.not_true, Bool.not_false] | skip); obtain rfl := Option.some.inj H; go_wp2; go_ret; exact ⟨ze, zb HB.out⟩
theorem laws_toStringS.mono_l : ∀ k, (∀ y0 y1 y2, LeO (laws_toStringS.l0 k y0 y1 y2) (laws_toStringS.l0 (k + 1) y0 y1 y2))
  | 0 => fun _ _ _ r h => by simp [laws_toStringS.l0] at h
  | k + 1 => by
    have ih0 := laws_toStringS.mono_l k
    · intro y0 y1 y2
      unfold laws_toStringS.l0
      repeat' first | (with_reducible first | apply ih0 | exact LeO.refl _ | exact LeO.none _ | refine LeO.ite ?_ ?_ | refine LeO.bind ?_ (fun _ => ?_)) | exact LeO.none _ | refine LeO.ite ?_ ?_ | refine LeO.bind ?_ (fun _ => ?_)
theorem laws_toStringS.mono : ∀ a0 k, LeO (laws_toStringS.f k a0) (laws_toStringS.f (k + 1) a0) := by
  intro a0 k
  have ih0 := laws_toStringS.mono_l k
  unfold laws_toStringS.f
  repeat' first | (with_reducible first | apply ih0 | exact LeO.refl _ | exact LeO.none _ | refine LeO.ite ?_ ?_ | refine LeO.bind ?_ (fun _ => ?_)) | exact LeO.none _ | refine LeO.ite ?_ ?_ | refine LeO.bind ?_ (fun _ => ?_)
theorem laws_toStringS.calls (k : Nat) (A0 : Option Addr) (c0 : Nat) (l0 r : List ByteArray) (w : World) (hr0 : Kd.C Kd.string w A0 l0.length l0) (hc0 : l0.length ≤ c0) (h : laws_toStringS.f k l0 = some r) :
    Calls Try.prog 95 #[.slice A0 l0.length c0] w fun e w' => ∃ v0_ : Value, e = .returned (v0_) ∧ Kd.R Kd.string 9 w' w.heap.size (fun _ => True) v0_ r ∧ Below w.heap.size w w' := by
 have HR0 := z0 hr0; have HC0 := z0 hc0; clear hr0 hc0; have HB := z0 (Below.refl w.heap.size w); have H : (if 0 ≤ (l0.length : Int) then (if ((l0.length : Int) : Int).toNat ≤ 17592186044416 then (laws_toStringS.l0 k l0 (List.replicate ((l0.length : Int) : Int).toNat (⟨#[]⟩ : ByteArray)) 0) else (none)) else (none)) = some r := h; clear h; replace H := zn H; obtain ⟨c2, H⟩ := H; have c2b0 := eq_true c2; have c2b1 := decide_eq_true c2; clear c2; replace H := zn H; obtain ⟨c3, H⟩ := H; have c3b0 := eq_true c3; have c3b1 := decide_eq_true c3; clear c3; obtain ⟨y1013, hy1013⟩ : ∃ y_ : List ByteArray, y_ = (List.replicate ((l0.length : Int) : Int).toNat (⟨#[]⟩ : ByteArray)) := ⟨_, rfl⟩; replace H : (laws_toStringS.l0 k l0 y1013 0) = some r := zH2 hy1013 H; have Ny1013 := z0 hy1013; clear hy1013; have H' := z0 H; clear H; go_enter Try.func95, Try.ntmps95
 go_wp2_with (first | ((with_reducible refine gd 7 ?_); refine Kd.R_make Kd.string _ 9 rfl (N := 7) rfl 23 _ _ rfl (l0.length : Int) rfl rfl Try.underlying23 (.string ⟨#[]⟩) 16 info9 rfl (by decide) (by omega) (⟨#[]⟩ : ByteArray) (ok := fun _ => True) (okp := fun _ => True) rfl (fun _ hk => hk) trivial (zd) (Nat.le_trans (Nat.mul_le_mul_right _ (zd : (l0.length : Int).toNat ≤ 17592186044416)) (by omega)) (Below.refl _ _) (Nat.le_refl _) ?_; intro v1014 w4 ho5 hb hg_ hnew_; clear hg_ hnew_; (first | rw [← Ny1013.out] at ho5 | (simp only [Int.reduceToNat] at ho5; rw [← Ny1013.out] at ho5)); have HO1015 := z0 (Kd.R_lower ho5 (below_size (zb HB.out))); replace HB := zH HB hb; clear hb ho5))
 go_loopg [4] k (fun kq v4 w' => ∃ (x3_1 : List ByteArray) (x4_1 : Int), v4 = .int .i64 x4_1 ∧ Aside0 (laws_toStringS.l0 kq l0 x3_1 x4_1 = some r) ∧ Aside0 (kq ≤ k) ∧ Aside0 (Kd.R Kd.string 9 w' w.heap.size (fun _ => True) v1014 x3_1) ∧ Aside0 (Below w.heap.size w w'))
 case atStart => exact ⟨(y1013), (0), zf, H', ⟨Nat.le_refl _⟩, ⟨zr HO1015.out⟩, ⟨zb HB.out⟩⟩
 case round =>
  clear H'
  try clear c2
  try clear c2b0
  try clear c2b1
  try clear p2
  try clear c3
  try clear c3b0
  try clear c3b1
  obtain ⟨x3_1, x4_1, rfl, HA, HK1, HO_3, HB⟩ := hrel
  cases gk with
  | zero => exact absurd HA.out (by simp [laws_toStringS.l0])
  | succ k1 =>
   have H := HA.out; clear HA; simp only [laws_toStringS.l0] at H
   by_cases c6 : x4_1 < (l0.length : Int)
   ·rw [if_pos c6] at H; have c6b0 := decide_eq_true c6; clear c6; replace H := zn H; obtain ⟨c7, H⟩ := H; have c7b0 := decide_eq_true c7; clear c7; replace H := zn H; obtain ⟨c8, H⟩ := H; have c8b0 := decide_eq_true c8; clear c8; obtain ⟨y1017, hy1017⟩ : ∃ y_ : List ByteArray, y_ = (x3_1.set (x4_1 : Int).toNat (rdOf ByteArray.empty l0 x4_1)) := ⟨_, rfl⟩; replace H : (laws_toStringS.l0 k1 l0 y1017 (wrap64 (x4_1 + 1))) = some r := zH2 hy1017 H; have Ny1017 := z0 hy1017; clear hy1017; have H' := z0 H; clear H; have p1016 : 0 ≤ (x4_1 : Int) := zd; have q1016 : x4_1 < (l0.length : Int) := zd; obtain ⟨ad1016, e1016, hx1016_0⟩ := Kd.at_string HR0.out x4_1 p1016 q1016; cases e1016; replace hx1016_0 := (HB.out.cell (World.block_lt_of_cell? w _ hx1016_0)).trans hx1016_0; replace p1016 := eq_true p1016; replace q1016 := eq_true q1016; have p9 : 0 ≤ (x4_1 : Int) := zd; have q9 : (x4_1 : Int) < ((x3_1.length : Int) : Int) := zd; obtain ⟨go9, co9, eo9, gb9, gl9, cl9, HG9⟩ := Kd.R_form HO_3.out (by omega); (first | cases eo9 | (injection eo9 with ea_ en_ ec_; (first | subst ea_ | (injection ea_ with ea_; subst ea_)); subst ec_; clear en_)); have GB9 := z0 gb9; have GG9 := z0 HG9; clear gb9 gl9 HG9; obtain ⟨hx9_0, hf9_0⟩ := Kd.R_celln (⟨#[]⟩ : ByteArray) HO_3.out (x4_1 : Int) p9 q9; replace p9 := eq_true p9; replace q9 := eq_true q9; have HP10 := Kd.R_putg HO_3.out (x4_1 : Int) (rdOf ByteArray.empty l0 x4_1)
    go_wp2_with (first | ((with_reducible refine gs 9 20 ?_); refine store_event (t := 9) (p := 20) (v := ?vo_w11) (w1 := (wr.setCell ⟨go9, (x4_1 : Int).toNat, none⟩ (.string (rdOf ByteArray.empty l0 x4_1)))) ?hg ?ho ?hn ?hr ?_; (case ho => rfl); (case hg => rfl); (case hn => rfl); (case hr => first | (go_simp; done) | (go_simp; rfl)); intro w11 hw; have hg : wr.grownBy w11 (some go9) := (by rw [hw]; exact HP10.2); have hp_ : Kd.R Kd.string 9 w11 w.heap.size (fun _ => True) (.slice (some ⟨go9, 0, none⟩) x3_1.length co9) y1017 := (by rw [hw, Ny1017.out]; exact HP10.1); clear HP10; replace HO_3 := z0 (hp_); replace HB := z0 ((by rw [hw]; exact below_set (HB.out) GB9.out : Below w.heap.size w w11)); clear hg hw hp_))
    go_roundg k1
    case measure => have := HK1.out; omega
    case rel => exact ⟨(y1017), (wrap64 (x4_1 + 1)), zf, H', ⟨by have := HK1.out; omega⟩, ⟨zr HO_3.out⟩, ⟨zb HB.out⟩⟩
   ·rw [if_neg c6] at H; have c6b0 := decide_eq_false c6; clear c6; obtain rfl := Option.some.inj H; go_wp2; go_ret; exact ⟨_, ze, zr HO_3.out, zb HB.out⟩
theorem laws_toSieve.mono : ∀ a0 a1 a2 a3 a4 k, LeO (laws_toSieve.f k a0 a1 a2 a3 a4) (laws_toSieve.f (k + 1) a0 a1 a2 a3 a4) := by
  intro a0 a1 a2 a3 a4 k
  unfold laws_toSieve.f
  repeat' first | (with_reducible first | apply laws_toStringS.mono | exact LeO.refl _ | exact LeO.none _ | refine LeO.ite ?_ ?_ | refine LeO.bind ?_ (fun _ => ?_)) | exact LeO.none _ | refine LeO.ite ?_ ?_ | refine LeO.bind ?_ (fun _ => ?_)
theorem laws_toSieve.calls (k : Nat) (a0_0 a0_1 a0_2 : ByteArray) (A0_3 : Option Addr) (c0_3 : Nat) (l0_3 : List ByteArray) (a0_4 : Int) (r1 r2 r3 : ByteArray) (r4 : List ByteArray) (r5 : Int) (w : World) (hr0_3 : Kd.C Kd.string w A0_3 l0_3.length l0_3) (hc0_3 : l0_3.length ≤ c0_3) (h : laws_toSieve.f k a0_0 a0_1 a0_2 l0_3 a0_4 = some (r1, r2, r3, r4, r5)) :
    Calls Try.prog 47 #[.agg #[.string a0_0, .string a0_1, .string a0_2, .slice A0_3 l0_3.length c0_3, .int .i64 a0_4]] w fun e w' => ∃ v3_ : Value, e = .returned (.agg #[.string r1, .string r2, .string r3, v3_, .int .i64 r5]) ∧ Kd.R Kd.string 9 w' w.heap.size (fun _ => True) v3_ r4 ∧ Below w.heap.size w w' := by
 have hu49 := Try.underlying49; have hu25 := Try.underlying25; have HR0_3 := z0 hr0_3; have HC0_3 := z0 hc0_3; clear hr0_3 hc0_3; have HB := z0 (Below.refl w.heap.size w); have H : ((laws_toStringS.f k l0_3).bind fun t1021 => (some (a0_0, a0_1, a0_2, t1021, a0_4))) = some (r1, r2, r3, r4, r5) := h; clear h; replace H := zi H; obtain ⟨t1021, A2, H⟩ := H; simp only [Option.some.injEq, Prod.mk.injEq] at H; obtain ⟨rfl, rfl, rfl, rfl, rfl⟩ := H; go_enter Try.func47, Try.ntmps47
 go_wp2_with (first | ((with_reducible refine gd 1 ?_); refine zbx 49 #[.string a0_0, .string a0_1, .string a0_2, .slice A0_3 l0_3.length c0_3, .int .i64 a0_4] ?_; intro gb1018 hg w3 hbox hb; have BK1018 := z0 (hbox); have GE1018 := zG hg HB; replace HB := zH HB hb; clear hb hbox hg) | ((with_reducible refine gd 2 ?_); refine zbx 25 #[.string ⟨#[]⟩, .string ⟨#[]⟩, .string ⟨#[]⟩, .slice none 0 0, .int .i64 0] ?_; intro gb1019 hg w4 hbox hb; have BK1019 := z0 (hbox); have GE1019 := zG hg HB; replace HB := zH HB hb; have NB1018_1019 := zLt hg BK1018; have NB1019_1018 := zGt hg BK1018; replace BK1018 := zK BK1018 hb; clear hb hbox hg) | ((with_reducible refine gd 3 ?_); refine zbx 25 #[.string ⟨#[]⟩, .string ⟨#[]⟩, .string ⟨#[]⟩, .slice none 0 0, .int .i64 0] ?_; intro gb1020 hg w5 hbox hb; have BK1020 := z0 (hbox); have GE1020 := zG hg HB; replace HB := zH HB hb; have NB1018_1020 := zLt hg BK1018; have NB1020_1018 := zGt hg BK1018; replace BK1018 := zK BK1018 hb; have NB1019_1020 := zLt hg BK1019; have NB1020_1019 := zGt hg BK1019; replace BK1019 := zK BK1019 hb; clear hb hbox hg; have hnb6 := NB1018_1019.out; have hnc6 := NB1019_1018.out; have hnb7 := NB1018_1020.out; have hnc7 := NB1020_1018.out; have hcz8 := zc5 BK1018.out; have hnb9 := NB1020_1019.out; have hnc9 := NB1019_1020.out; have hcz10 := zc5 BK1020.out) | ((with_reducible refine gc 95 ?_); refine zL (some 15) Try.func95 #[.slice A0_3 l0_3.length c0_3] ?_; (with_reducible refine (laws_toStringS.calls k _ _ l0_3 t1021 _ (Kd.C_below HR0_3.out (zb HB.out)) HC0_3.out A2.out).mono ?_); rintro e w11 ⟨v1022, rfl, ho0, hb⟩; refine zv ?_; have HO1023 := z0 (Kd.R_lower ho0 (below_size (zb HB.out))); replace BK1018 := zKy BK1018 hb; replace BK1019 := zKy BK1019 hb; replace BK1020 := z0 (blk_below (zpc BK1020.out #[.string a0_0, .string a0_1, .string a0_2, .slice none 0 0, .int .i64 0]) hb); replace HB := zH HB hb; (try clear hb ho0); obtain ⟨Ao12, co12, eo12⟩ := Kd.R_slice HO1023.out; subst eo12; have hcz13 := zc5 BK1020.out; have hcz14 := zc5 BK1018.out; have hcz15 := zc5 BK1019.out))
 refine bodyPost_ret (results_cell_row rfl _ _ gb1019 25 #[.string a0_0, .string a0_1, .string a0_2, .slice Ao12 t1021.length co12, .int .i64 a0_4] (0, 0) _ rfl (zp BK1019.out) Try.underlying25 rfl (by kernel_rfl)) rfl ?_; exact ⟨_, ze, Kd.R_mono (ztt HO1023.out BK1020.out BK1019.out) (fun _ hk => trivial), zb HB.out⟩
theorem laws_eqStringS.mono_l : ∀ k, (∀ y0 y1 y2, LeO (laws_eqStringS.l0 k y0 y1 y2) (laws_eqStringS.l0 (k + 1) y0 y1 y2))
  | 0 => fun _ _ _ r h => by simp [laws_eqStringS.l0] at h
  | k + 1 => by
    have ih0 := laws_eqStringS.mono_l k
    · intro y0 y1 y2
      unfold laws_eqStringS.l0
      repeat' first | (with_reducible first | apply ih0 | exact LeO.refl _ | exact LeO.none _ | refine LeO.ite ?_ ?_ | refine LeO.bind ?_ (fun _ => ?_)) | exact LeO.none _ | refine LeO.ite ?_ ?_ | refine LeO.bind ?_ (fun _ => ?_)
theorem laws_eqStringS.mono : ∀ a0 a1 k, LeO (laws_eqStringS.f k a0 a1) (laws_eqStringS.f (k + 1) a0 a1) := by
  intro a0 a1 k
  have ih0 := laws_eqStringS.mono_l k
  unfold laws_eqStringS.f
  repeat' first | (with_reducible first | apply ih0 | exact LeO.refl _ | exact LeO.none _ | refine LeO.ite ?_ ?_ | refine LeO.bind ?_ (fun _ => ?_)) | exact LeO.none _ | refine LeO.ite ?_ ?_ | refine LeO.bind ?_ (fun _ => ?_)
theorem laws_eqStringS.calls (k : Nat) (A0 : Option Addr) (c0 : Nat) (l0 : List ByteArray) (A1 : Option Addr) (c1 : Nat) (l1 : List ByteArray) (r : Bool) (w : World) (hr0 : Kd.C Kd.string w A0 l0.length l0) (hc0 : l0.length ≤ c0) (hr1 : Kd.C Kd.string w A1 l1.length l1) (hc1 : l1.length ≤ c1) (h : laws_eqStringS.f k l0 l1 = some r) :
    Calls Try.prog 54 #[.slice A0 l0.length c0, .slice A1 l1.length c1] w fun e w' => e = .returned (.bool r) ∧ Drawn0 w w' := by
 have HR0 := z0 hr0; have HC0 := z0 hc0; clear hr0 hc0; have HR1 := z0 hr1; have HC1 := z0 hc1; clear hr1 hc1; have H : (if (l0.length : Int) = (l1.length : Int) then (laws_eqStringS.l0 k l0 l1 0) else (some false)) = some r := h; clear h
 by_cases c3 : (l0.length : Int) = (l1.length : Int)
 ·rw [if_pos c3] at H; have c3b0 : ((l0.length : Int) == (l1.length : Int)) = true := beq_iff_eq.mpr c3; have c3b1 : ((l0.length : Int) != (l1.length : Int)) = false := bne_eq_false_iff_eq.mpr c3
  have c3b2 : (l0.length == l1.length) = true := by first | simpa using c3 | (simp at c3 ⊢; omega)
  clear c3; have H' := z0 H; clear H; go_enter Try.func54, Try.ntmps54; go_wp2
  repeat (go_quiet (fail); try go_wp2)
  go_loopg [5] k (fun kq v5 w' => ∃ (x5_1 : Int), v5 = .int .i64 x5_1 ∧ Aside0 (laws_eqStringS.l0 kq l0 l1 x5_1 = some r) ∧ Aside0 (kq ≤ k) ∧ Drawn0 w w')
  case atStart => exact ⟨(0), zf, H', ⟨Nat.le_refl _⟩, by repeat (first | exact Drawn0.refl _ | apply Drawn0.step)⟩
  case round =>
   clear H'
   try clear c1
   try clear p2
   try clear c3
   try clear c3b0
   try clear c3b1
   try clear c3b2
   obtain ⟨x5_1, rfl, HA, HK1, ⟨m1, rfl⟩⟩ := hrel
   cases gk with
   | zero => exact absurd HA.out (by simp [laws_eqStringS.l0])
   | succ k1 =>
    have H := HA.out; clear HA; simp only [laws_eqStringS.l0] at H
    by_cases c4 : x5_1 < (l0.length : Int)
    ·rw [if_pos c4] at H; have c4b0 := decide_eq_true c4; clear c4; replace H := zn H; obtain ⟨c5, H⟩ := H; have c5b0 := decide_eq_true c5; clear c5; replace H := zn H; obtain ⟨c6, H⟩ := H; have c6b0 := decide_eq_true c6; clear c6
     by_cases c7 : (rdOf ByteArray.empty l0 x5_1).toList = (rdOf ByteArray.empty l1 x5_1).toList
     ·rw [if_pos c7] at H; have c7b0 : ((rdOf ByteArray.empty l0 x5_1).toList == (rdOf ByteArray.empty l1 x5_1).toList) = true := beq_iff_eq.mpr c7; have c7b1 : ((rdOf ByteArray.empty l0 x5_1).toList != (rdOf ByteArray.empty l1 x5_1).toList) = false := bne_eq_false_iff_eq.mpr c7; clear c7; have H' := z0 H; clear H; have p1024 : 0 ≤ (x5_1 : Int) := zd; have q1024 : x5_1 < (l0.length : Int) := zd; obtain ⟨ad1024, e1024, hx1024_0⟩ := Kd.at_string HR0.out x5_1 p1024 q1024; cases e1024; replace p1024 := eq_true p1024; replace q1024 := eq_true q1024; have p1025 : 0 ≤ (x5_1 : Int) := zd; have q1025 : x5_1 < (l1.length : Int) := zd; obtain ⟨ad1025, e1025, hx1025_0⟩ := Kd.at_string HR1.out x5_1 p1025 q1025; cases e1025; replace p1025 := eq_true p1025; replace q1025 := eq_true q1025; go_wp2
      repeat (go_quiet (fail); try go_wp2)
      go_roundg k1
      case measure => have := HK1.out; omega
      case rel => exact ⟨(wrap64 (x5_1 + 1)), zf, H', ⟨by have := HK1.out; omega⟩, by repeat (first | exact Drawn0.refl _ | apply Drawn0.step)⟩
     ·rw [if_neg c7] at H; have c7b0 : ((rdOf ByteArray.empty l0 x5_1).toList == (rdOf ByteArray.empty l1 x5_1).toList) = false := beq_eq_false_iff_ne.mpr c7; have c7b1 : ((rdOf ByteArray.empty l0 x5_1).toList != (rdOf ByteArray.empty l1 x5_1).toList) = true := bne_iff_ne.mpr c7; obtain rfl := Option.some.inj H; have p1024 : 0 ≤ (x5_1 : Int) := zd; have q1024 : x5_1 < (l0.length : Int) := zd; obtain ⟨ad1024, e1024, hx1024_0⟩ := Kd.at_string HR0.out x5_1 p1024 q1024; cases e1024; replace p1024 := eq_true p1024; replace q1024 := eq_true q1024; have p1025 : 0 ≤ (x5_1 : Int) := zd; have q1025 : x5_1 < (l1.length : Int) := zd; obtain ⟨ad1025, e1025, hx1025_0⟩ := Kd.at_string HR1.out x5_1 p1025 q1025; cases e1025; replace p1025 := eq_true p1025; replace q1025 := eq_true q1025; go_wp2
      repeat (go_quiet (fail); try go_wp2)
      go_ret; exact ⟨zf, by repeat (first | exact Drawn0.refl _ | apply Drawn0.step)⟩
    ·rw [if_neg c4] at H; have c4b0 := decide_eq_false c4; clear c4; obtain rfl := Option.some.inj H; go_wp2
     repeat (go_quiet (fail); try go_wp2)
     go_ret; exact ⟨zf, by repeat (first | exact Drawn0.refl _ | apply Drawn0.step)⟩
 ·rw [if_neg c3] at H; have c3b0 : ((l0.length : Int) == (l1.length : Int)) = false := beq_eq_false_iff_ne.mpr c3; have c3b1 : ((l0.length : Int) != (l1.length : Int)) = true := bne_iff_ne.mpr c3
  have c3b2 : (l0.length == l1.length) = false := by first | simpa using c3 | (simp at c3 ⊢; omega)
  obtain rfl := Option.some.inj H; go_enter Try.func54, Try.ntmps54; go_wp2
  repeat (go_quiet (fail); try go_wp2)
  go_ret; exact ⟨zf, by repeat (first | exact Drawn0.refl _ | apply Drawn0.step)⟩
theorem laws_eqSieve.mono : ∀ a0 a1 a2 a3 a4 a5 a6 a7 a8 a9 k, LeO (laws_eqSieve.f k a0 a1 a2 a3 a4 a5 a6 a7 a8 a9) (laws_eqSieve.f (k + 1) a0 a1 a2 a3 a4 a5 a6 a7 a8 a9) := by
  intro a0 a1 a2 a3 a4 a5 a6 a7 a8 a9 k
  unfold laws_eqSieve.f
  repeat' first | (with_reducible first | apply laws_eqStringS.mono | exact LeO.refl _ | exact LeO.none _ | refine LeO.ite ?_ ?_ | refine LeO.bind ?_ (fun _ => ?_)) | exact LeO.none _ | refine LeO.ite ?_ ?_ | refine LeO.bind ?_ (fun _ => ?_)
theorem laws_eqSieve.calls (k : Nat) (a0_0 a0_1 a0_2 : ByteArray) (A0_3 : Option Addr) (c0_3 : Nat) (l0_3 : List ByteArray) (a0_4 : Int) (a1_0 a1_1 a1_2 : ByteArray) (A1_3 : Option Addr) (c1_3 : Nat) (l1_3 : List ByteArray) (a1_4 : Int) (r : Bool) (w : World) (hr0_3 : Kd.C Kd.string w A0_3 l0_3.length l0_3) (hc0_3 : l0_3.length ≤ c0_3) (hr1_3 : Kd.C Kd.string w A1_3 l1_3.length l1_3) (hc1_3 : l1_3.length ≤ c1_3) (h : laws_eqSieve.f k a0_0 a0_1 a0_2 l0_3 a0_4 a1_0 a1_1 a1_2 l1_3 a1_4 = some r) :
    Calls Try.prog 49 #[.agg #[.string a0_0, .string a0_1, .string a0_2, .slice A0_3 l0_3.length c0_3, .int .i64 a0_4], .agg #[.string a1_0, .string a1_1, .string a1_2, .slice A1_3 l1_3.length c1_3, .int .i64 a1_4]] w fun e w' => e = .returned (.bool r) ∧ Below w.heap.size w w' := by
 have hu25 := Try.underlying25; have HR0_3 := z0 hr0_3; have HC0_3 := z0 hc0_3; clear hr0_3 hc0_3; have HR1_3 := z0 hr1_3; have HC1_3 := z0 hc1_3; clear hr1_3 hc1_3; have HB := z0 (Below.refl w.heap.size w); have H : (if a0_0.toList = a1_0.toList then (if a0_1.toList = a1_1.toList then (if a0_2.toList = a1_2.toList then ((laws_eqStringS.f k l0_3 l1_3).bind fun t1028 => (if t1028 = true then (if a0_4 = a1_4 then (some true) else (some false)) else (some false))) else (some false)) else (some false)) else (some false)) = some r := h; clear h
 by_cases c3 : a0_0.toList = a1_0.toList
 ·rw [if_pos c3] at H; have c3b0 : (a0_0.toList == a1_0.toList) = true := beq_iff_eq.mpr c3; have c3b1 : (a0_0.toList != a1_0.toList) = false := bne_eq_false_iff_eq.mpr c3; clear c3
  by_cases c4 : a0_1.toList = a1_1.toList
  ·rw [if_pos c4] at H; have c4b0 : (a0_1.toList == a1_1.toList) = true := beq_iff_eq.mpr c4; have c4b1 : (a0_1.toList != a1_1.toList) = false := bne_eq_false_iff_eq.mpr c4; clear c4
   by_cases c5 : a0_2.toList = a1_2.toList
   ·rw [if_pos c5] at H; have c5b0 : (a0_2.toList == a1_2.toList) = true := beq_iff_eq.mpr c5; have c5b1 : (a0_2.toList != a1_2.toList) = false := bne_eq_false_iff_eq.mpr c5; clear c5; replace H := zi H; obtain ⟨t1028, A6, H⟩ := H
    by_cases c7 : t1028 = true
    ·subst c7
     have H1 : (if a0_4 = a1_4 then (some true) else (some false)) = some r := by rw [if_pos rfl] at H; exact H
     clear H; have H := H1; clear H1; go_enter Try.func49, Try.ntmps49
     go_upto_if 30 with (first | ((with_reducible refine gd 2 ?_); refine zbx 25 #[.string a0_0, .string a0_1, .string a0_2, .slice A0_3 l0_3.length c0_3, .int .i64 a0_4] ?_; intro gb1026 hg w8 hbox hb; have BK1026 := z0 (hbox); have GE1026 := zG hg HB; replace HB := zH HB hb; clear hb hbox hg) | ((with_reducible refine gd 3 ?_); refine zbx 25 #[.string a1_0, .string a1_1, .string a1_2, .slice A1_3 l1_3.length c1_3, .int .i64 a1_4] ?_; intro gb1027 hg w9 hbox hb; have BK1027 := z0 (hbox); have GE1027 := zG hg HB; replace HB := zH HB hb; have NB1026_1027 := zLt hg BK1026; have NB1027_1026 := zGt hg BK1026; replace BK1026 := zK BK1026 hb; clear hb hbox hg; have hnb10 := NB1026_1027.out; have hnc10 := NB1027_1026.out; have hcz11 := zc5 BK1026.out; have hcz12 := zc5 BK1027.out) | ((with_reducible refine gc 54 ?_); refine zL (some 24) Try.func54 #[.slice A0_3 l0_3.length c0_3, .slice A1_3 l1_3.length c1_3] ?_; (with_reducible refine (laws_eqStringS.calls k _ _ l0_3 _ _ l1_3 true _ ?side1 ?side2 ?side3 ?side4 A6.out).mono ?_); (case side1 => repeat (first | exact (Kd.C_below HR0_3.out HB.out) | (with_reducible refine Kd.C_alloc ?_ _) | (with_reducible refine Kd.C_drewN ?_ _) | (with_reducible refine Kd.C_drew ?_))); (case side2 => exact HC0_3.out); (case side3 => repeat (first | exact (Kd.C_below HR1_3.out HB.out) | (with_reducible refine Kd.C_alloc ?_ _) | (with_reducible refine Kd.C_drewN ?_ _) | (with_reducible refine Kd.C_drew ?_))); (case side4 => exact HC1_3.out); rintro e w' ⟨rfl, ⟨nd, rfl⟩⟩; refine ⟨_, rfl, ?_⟩))
     by_cases c13 : a0_4 = a1_4
     ·rw [if_pos c13] at H; have c13b0 : (a0_4 == a1_4) = true := beq_iff_eq.mpr c13; have c13b1 : (a0_4 != a1_4) = false := bne_eq_false_iff_eq.mpr c13; clear c13; (first | rw [c13b0] | (simp only [i64_w, i32_w]; rw [c13b0]) | simp only [*, Bool.not_true, Bool.not_false] | skip); obtain rfl := Option.some.inj H; go_wp2; go_ret; exact ⟨ze, zb HB.out⟩
     ·rw [if_neg c13] at H; have c13b0 : (a0_4 == a1_4) = false := beq_eq_false_iff_ne.mpr c13; have c13b1 : (a0_4 != a1_4) = true := bne_iff_ne.mpr c13; (first | rw [c13b0] | (simp only [i64_w, i32_w]; rw [c13b0]) | simp only [*, Bool.not_true, Bool.not_false] | skip); obtain rfl := Option.some.inj H; go_wp2; go_ret; exact ⟨ze, zb HB.out⟩
    ·replace c7 := Bool.eq_false_iff.mpr c7; subst c7
     have H1 : (some false) = some r := by rw [if_neg (show ¬ (false = true) by decide)] at H; exact H
     clear H; have H := H1; clear H1; obtain rfl := Option.some.inj H; go_enter Try.func49, Try.ntmps49
     go_wp2_with (first | ((with_reducible refine gd 2 ?_); refine zbx 25 #[.string a0_0, .string a0_1, .string a0_2, .slice A0_3 l0_3.length c0_3, .int .i64 a0_4] ?_; intro gb1026 hg w14 hbox hb; have BK1026 := z0 (hbox); have GE1026 := zG hg HB; replace HB := zH HB hb; clear hb hbox hg) | ((with_reducible refine gd 3 ?_); refine zbx 25 #[.string a1_0, .string a1_1, .string a1_2, .slice A1_3 l1_3.length c1_3, .int .i64 a1_4] ?_; intro gb1027 hg w15 hbox hb; have BK1027 := z0 (hbox); have GE1027 := zG hg HB; replace HB := zH HB hb; have NB1026_1027 := zLt hg BK1026; have NB1027_1026 := zGt hg BK1026; replace BK1026 := zK BK1026 hb; clear hb hbox hg; have hnb16 := NB1026_1027.out; have hnc16 := NB1027_1026.out; have hcz17 := zc5 BK1026.out; have hcz18 := zc5 BK1027.out) | ((with_reducible refine gc 54 ?_); refine zL (some 24) Try.func54 #[.slice A0_3 l0_3.length c0_3, .slice A1_3 l1_3.length c1_3] ?_; (with_reducible refine (laws_eqStringS.calls k _ _ l0_3 _ _ l1_3 false _ ?side1 ?side2 ?side3 ?side4 A6.out).mono ?_); (case side1 => repeat (first | exact (Kd.C_below HR0_3.out HB.out) | (with_reducible refine Kd.C_alloc ?_ _) | (with_reducible refine Kd.C_drewN ?_ _) | (with_reducible refine Kd.C_drew ?_))); (case side2 => exact HC0_3.out); (case side3 => repeat (first | exact (Kd.C_below HR1_3.out HB.out) | (with_reducible refine Kd.C_alloc ?_ _) | (with_reducible refine Kd.C_drewN ?_ _) | (with_reducible refine Kd.C_drew ?_))); (case side4 => exact HC1_3.out); rintro e w' ⟨rfl, ⟨nd, rfl⟩⟩; refine ⟨_, rfl, ?_⟩))
     go_ret; exact ⟨ze, zb HB.out⟩
   ·rw [if_neg c5] at H; have c5b0 : (a0_2.toList == a1_2.toList) = false := beq_eq_false_iff_ne.mpr c5; have c5b1 : (a0_2.toList != a1_2.toList) = true := bne_iff_ne.mpr c5; obtain rfl := Option.some.inj H; go_enter Try.func49, Try.ntmps49
    go_wp2_with (first | ((with_reducible refine gd 2 ?_); refine zbx 25 #[.string a0_0, .string a0_1, .string a0_2, .slice A0_3 l0_3.length c0_3, .int .i64 a0_4] ?_; intro gb1026 hg w19 hbox hb; have BK1026 := z0 (hbox); have GE1026 := zG hg HB; replace HB := zH HB hb; clear hb hbox hg) | ((with_reducible refine gd 3 ?_); refine zbx 25 #[.string a1_0, .string a1_1, .string a1_2, .slice A1_3 l1_3.length c1_3, .int .i64 a1_4] ?_; intro gb1027 hg w20 hbox hb; have BK1027 := z0 (hbox); have GE1027 := zG hg HB; replace HB := zH HB hb; have NB1026_1027 := zLt hg BK1026; have NB1027_1026 := zGt hg BK1026; replace BK1026 := zK BK1026 hb; clear hb hbox hg; have hnb21 := NB1026_1027.out; have hnc21 := NB1027_1026.out; have hcz22 := zc5 BK1026.out; have hcz23 := zc5 BK1027.out))
    go_ret; exact ⟨ze, zb HB.out⟩
  ·rw [if_neg c4] at H; have c4b0 : (a0_1.toList == a1_1.toList) = false := beq_eq_false_iff_ne.mpr c4; have c4b1 : (a0_1.toList != a1_1.toList) = true := bne_iff_ne.mpr c4; obtain rfl := Option.some.inj H; go_enter Try.func49, Try.ntmps49
   go_wp2_with (first | ((with_reducible refine gd 2 ?_); refine zbx 25 #[.string a0_0, .string a0_1, .string a0_2, .slice A0_3 l0_3.length c0_3, .int .i64 a0_4] ?_; intro gb1026 hg w24 hbox hb; have BK1026 := z0 (hbox); have GE1026 := zG hg HB; replace HB := zH HB hb; clear hb hbox hg) | ((with_reducible refine gd 3 ?_); refine zbx 25 #[.string a1_0, .string a1_1, .string a1_2, .slice A1_3 l1_3.length c1_3, .int .i64 a1_4] ?_; intro gb1027 hg w25 hbox hb; have BK1027 := z0 (hbox); have GE1027 := zG hg HB; replace HB := zH HB hb; have NB1026_1027 := zLt hg BK1026; have NB1027_1026 := zGt hg BK1026; replace BK1026 := zK BK1026 hb; clear hb hbox hg; have hnb26 := NB1026_1027.out; have hnc26 := NB1027_1026.out; have hcz27 := zc5 BK1026.out; have hcz28 := zc5 BK1027.out))
   go_ret; exact ⟨ze, zb HB.out⟩
 ·rw [if_neg c3] at H; have c3b0 : (a0_0.toList == a1_0.toList) = false := beq_eq_false_iff_ne.mpr c3; have c3b1 : (a0_0.toList != a1_0.toList) = true := bne_iff_ne.mpr c3; obtain rfl := Option.some.inj H; go_enter Try.func49, Try.ntmps49
  go_wp2_with (first | ((with_reducible refine gd 2 ?_); refine zbx 25 #[.string a0_0, .string a0_1, .string a0_2, .slice A0_3 l0_3.length c0_3, .int .i64 a0_4] ?_; intro gb1026 hg w29 hbox hb; have BK1026 := z0 (hbox); have GE1026 := zG hg HB; replace HB := zH HB hb; clear hb hbox hg) | ((with_reducible refine gd 3 ?_); refine zbx 25 #[.string a1_0, .string a1_1, .string a1_2, .slice A1_3 l1_3.length c1_3, .int .i64 a1_4] ?_; intro gb1027 hg w30 hbox hb; have BK1027 := z0 (hbox); have GE1027 := zG hg HB; replace HB := zH HB hb; have NB1026_1027 := zLt hg BK1026; have NB1027_1026 := zGt hg BK1026; replace BK1026 := zK BK1026 hb; clear hb hbox hg; have hnb31 := NB1026_1027.out; have hnc31 := NB1027_1026.out; have hcz32 := zc5 BK1026.out; have hcz33 := zc5 BK1027.out))
  go_ret; exact ⟨ze, zb HB.out⟩
end Go.Proofs.Ytifgcajpkgamgaa.Q
end
section
set_option linter.unusedVariables false
set_option linter.unusedSimpArgs false
namespace Go.Proofs.Ytifgcajpkgamgaa.Pb
open Go Go.RowKit Go.Proofs.YtifgcajpkgamgaaW.PrintWords Go.Proofs.YtifgcajpkgamgaaW.PrintLast Go.Proofs.YtifgcajpkgamgaaW.PrintMore Go.Proofs.Ytifgcajpkgamgaa.Trie Go.Proofs.Ytifgcajpkgamgaa.Q
theorem szA_ev (l : List ByteArray) (hn : l.length ≤ 9223372036854775807) (hs : ∀ s ∈ l, s.size ≤ 9223372036854775807) (a : Int) (h0 : 0 ≤ a) (h1 : a ≤ 1048576) :
  ∃ r, Ev (fun k => laws_szStringS.f k l a) r ∧ (0 ≤ r → l.length ≤ 1048576 ∧ ∀ s ∈ l, s.size ≤ 1048576) := by
 unfold laws_szStringS.f
 rw [w64 (i := a - (l.length : Int)) (by omega) (by omega)]
 by_cases c : a - (l.length : Int) < 0
 ·exact ⟨-1, ev_pos c (ev_some rfl), fun h => by omega⟩
 ·obtain ⟨r, hr, g⟩ := sz_l0 l hn hs l.length 0 (a - (l.length : Int)) (by omega) (by omega) (by omega) (by omega)
  exact ⟨r, ev_neg c hr, fun h => ⟨by omega, by simpa using g h⟩⟩
section
variable {Lt Mo Fi : ByteArray} {Rs : List ByteArray} {a : Int}
theorem szSieve_ev (h0 : Lt.size ≤ 9223372036854775807) (h1 : Mo.size ≤ 9223372036854775807) (h2 : Fi.size ≤ 9223372036854775807) (hn : Rs.length ≤ 9223372036854775807) (hs : ∀ s ∈ Rs, s.size ≤ 9223372036854775807) :
  ∃ r, Ev (fun k => laws_szSieve.f k Lt Mo Fi Rs a 1048576) r ∧ (0 ≤ r → SvSz Lt Mo Fi Rs) := by
 unfold laws_szSieve.f
 have e0 : ∀ _ : Unit, wrap64 (1048576 - (Lt.size : Int)) = 1048576 - (Lt.size : Int) := fun _ => w64 (by omega) (by omega)
 rw [e0 ()]
 by_cases c0 : 1048576 - (Lt.size : Int) < 0
 ·exact ⟨-1, ev_pos c0 (ev_some rfl), fun h => by omega⟩
 ·have e1 : ∀ _ : Unit, wrap64 (1048576 - (Lt.size : Int) - (Mo.size : Int)) = 1048576 - (Lt.size : Int) - (Mo.size : Int) := fun _ => w64 (by omega) (by omega)
  rw [e1 ()]
  by_cases c1 : 1048576 - (Lt.size : Int) - (Mo.size : Int) < 0
  ·exact ⟨-1, ev_neg c0 (ev_pos c1 (ev_some rfl)), fun h => by omega⟩
  ·have e2 : ∀ _ : Unit, wrap64 (1048576 - (Lt.size : Int) - (Mo.size : Int) - (Fi.size : Int)) = 1048576 - (Lt.size : Int) - (Mo.size : Int) - (Fi.size : Int) := fun _ => w64 (by omega) (by omega)
   rw [e2 ()]
   by_cases c2 : 1048576 - (Lt.size : Int) - (Mo.size : Int) - (Fi.size : Int) < 0
   ·exact ⟨-1, ev_neg c0 (ev_neg c1 (ev_pos c2 (ev_some rfl))), fun h => by omega⟩
   ·obtain ⟨r, hr, g⟩ := szA_ev Rs hn hs (1048576 - (Lt.size : Int) - (Mo.size : Int) - (Fi.size : Int)) (by omega) (by omega)
    by_cases c3 : r < 0
    ·exact ⟨-1, ev_neg c0 (ev_neg c1 (ev_neg c2 (Ev.bind hr (ev_pos c3 (ev_some rfl))))), fun h => by omega⟩
    ·have g := g (by omega)
     exact ⟨r, ev_neg c0 (ev_neg c1 (ev_neg c2 (Ev.bind hr (ev_neg c3 (ev_some rfl))))), fun _ => ⟨by omega, by omega, by omega, g.1, g.2⟩⟩
theorem toSieve_ev (h : SvSz Lt Mo Fi Rs) : Ev (fun k => laws_toSieve.f k Lt Mo Fi Rs a) (Lt, Mo, Fi, Rs, a) := by
 unfold laws_toSieve.f
 exact Ev.bind (to_ev Rs h.d) (ev_some rfl)
theorem eqSieve_self (h : SvSz Lt Mo Fi Rs) : Ev (fun k => laws_eqSieve.f k Lt Mo Fi Rs a Lt Mo Fi Rs a) true :=
 eqSieve_ev (Lt, Mo, Fi, Rs, a, true) (by have := h.d; show Rs.length ≤ 2000000; omega)
end
end Go.Proofs.Ytifgcajpkgamgaa.Pb
end
