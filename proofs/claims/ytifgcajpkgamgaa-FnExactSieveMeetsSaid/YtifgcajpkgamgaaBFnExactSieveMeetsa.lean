/- What the law FnExactSieveMeets needs: the kit's printed words, the printed functions with their proofs, and plain facts on them. -/
import Derived.Test.YtifgcajpkgamgaaBSCa
section
namespace Go.Proofs.Ytifgcajpkgamgaa.Q
open Go.RowKit Go.Proofs.YtifgcajpkgamgaaW.PrintWords Go.Proofs.YtifgcajpkgamgaaW.PrintLast Go.Proofs.YtifgcajpkgamgaaW.PrintMore
attribute [local go_sem] max2_int min2_int max_two min_two max_three min_three max_four min_four   
set_option linter.unusedVariables false
set_option linter.unusedSimpArgs false
set_option maxHeartbeats 8000000
set_option maxRecDepth 100000
theorem stringslite_HasPrefix.calls (a0 a1 : ByteArray) (r : Bool) (w : World) (h : stringslite_HasPrefix.f a0 a1 = some r) :
    Calls Try.prog 120 #[.string a0, .string a1] w fun e w' => e = .returned (.bool r) ∧ Drawn0 w w' := by
 have H : (if (a0.size : Int) ≥ (a1.size : Int) then (if 0 ≤ (a1.size : Int) then (if (a1.size : Int) ≤ (a0.size : Int) then (some ((a0.extract 0 ((a1.size : Int) : Int).toNat).toList == a1.toList)) else (none)) else (none)) else (some false)) = some r := h; clear h
 by_cases c3 : (a0.size : Int) ≥ (a1.size : Int)
 ·rw [if_pos c3] at H; have c3b0 : decide ((a1.size : Int) ≤ (a0.size : Int)) = true := decide_eq_true c3; have c3b1 : decide (a1.size ≤ a0.size) = true := decide_eq_true (Int.ofNat_le.mp c3); clear c3; replace H := zn H; obtain ⟨c4, H⟩ := H; have c4b0 := eq_true c4; have c4b1 := decide_eq_true c4; clear c4; replace H := zn H; obtain ⟨c5, H⟩ := H; have c5b0 := eq_true c5; have c5b1 := decide_eq_true c5; clear c5; obtain rfl := Option.some.inj H; go_enter Try.func120, Try.ntmps120; go_wp2; go_ret; exact ⟨zf, by repeat (first | exact Drawn0.refl _ | apply Drawn0.step)⟩
 ·rw [if_neg c3] at H; have c3b0 : decide ((a1.size : Int) ≤ (a0.size : Int)) = false := decide_eq_false c3; have c3b1 : decide (a1.size ≤ a0.size) = false := decide_eq_false (fun h => c3 (Int.ofNat_le.mpr h)); clear c3; obtain rfl := Option.some.inj H; go_enter Try.func120, Try.ntmps120; go_wp2; go_ret; exact ⟨zf, by repeat (first | exact Drawn0.refl _ | apply Drawn0.step)⟩
theorem strings_HasPrefix.calls (a0 a1 : ByteArray) (r : Bool) (w : World) (h : strings_HasPrefix.f a0 a1 = some r) :
    Calls Try.prog 91 #[.string a0, .string a1] w fun e w' => e = .returned (.bool r) ∧ Drawn0 w w' := by
 have H : ((stringslite_HasPrefix.f a0 a1).bind fun t394 => (some t394)) = some r := h; clear h; replace H := zi H; obtain ⟨t394, A3, H⟩ := H; obtain rfl := Option.some.inj H; go_enter Try.func91, Try.ntmps91
 go_wp2_with (first | ((with_reducible refine gc 120 ?_); refine zL (some 7) Try.func120 #[.string a0, .string a1] ?_; (with_reducible refine (stringslite_HasPrefix.calls a0 a1 t394 _ A3.out).mono ?_); rintro e w' ⟨rfl, ⟨nd, rfl⟩⟩; refine ⟨_, rfl, ?_⟩))
 go_ret; exact ⟨zf, by repeat (first | exact Drawn0.refl _ | apply Drawn0.step)⟩
theorem impl_KeyBegins.calls (a0 a1 : ByteArray) (r : Bool) (w : World) (h : impl_KeyBegins.f a0 a1 = some r) :
    Calls Try.prog 42 #[.string a0, .string a1] w fun e w' => e = .returned (.bool r) ∧ Drawn0 w w' := by
 have H : ((strings_HasPrefix.f a0 a1).bind fun t395 => (some t395)) = some r := h; clear h; replace H := zi H; obtain ⟨t395, A3, H⟩ := H; obtain rfl := Option.some.inj H; go_enter Try.func42, Try.ntmps42
 go_wp2_with (first | ((with_reducible refine gc 91 ?_); refine zL (some 7) Try.func91 #[.string a0, .string a1] ?_; (with_reducible refine (strings_HasPrefix.calls a0 a1 t395 _ A3.out).mono ?_); rintro e w' ⟨rfl, ⟨nd, rfl⟩⟩; refine ⟨_, rfl, ?_⟩))
 go_ret; exact ⟨zf, by repeat (first | exact Drawn0.refl _ | apply Drawn0.step)⟩
theorem impl_SieveSeek.mono_l : ∀ k, (∀ y0 y1 y2, LeO (impl_SieveSeek.j0 k y0 y1 y2) (impl_SieveSeek.j0 (k + 1) y0 y1 y2)) ∧ (∀ y0 y1 y2 y3, LeO (impl_SieveSeek.l0 k y0 y1 y2 y3) (impl_SieveSeek.l0 (k + 1) y0 y1 y2 y3))
  | 0 => ⟨fun _ _ _ r h => by simp [impl_SieveSeek.j0] at h, fun _ _ _ _ r h => by simp [impl_SieveSeek.l0] at h⟩
  | k + 1 => by
    obtain ⟨ih0, ih1⟩ := impl_SieveSeek.mono_l k
    refine ⟨?_, ?_⟩
    · intro y0 y1 y2
      unfold impl_SieveSeek.j0
      repeat' first | (with_reducible first | apply ih0 | apply ih1 | apply impl_KeyOk.mono | apply impl_Sieve_heads.mono | exact LeO.refl _ | exact LeO.none _ | refine LeO.ite ?_ ?_ | refine LeO.bind ?_ (fun _ => ?_)) | exact LeO.none _ | refine LeO.ite ?_ ?_ | refine LeO.bind ?_ (fun _ => ?_)
    · intro y0 y1 y2 y3
      unfold impl_SieveSeek.l0
      repeat' first | (with_reducible first | apply ih0 | apply ih1 | apply impl_KeyOk.mono | apply impl_Sieve_heads.mono | exact LeO.refl _ | exact LeO.none _ | refine LeO.ite ?_ ?_ | refine LeO.bind ?_ (fun _ => ?_)) | exact LeO.none _ | refine LeO.ite ?_ ?_ | refine LeO.bind ?_ (fun _ => ?_)
theorem impl_SieveSeek.mono : ∀ a0 a1 a2 a3 a4 a5 k, LeO (impl_SieveSeek.f k a0 a1 a2 a3 a4 a5) (impl_SieveSeek.f (k + 1) a0 a1 a2 a3 a4 a5) := by
  intro a0 a1 a2 a3 a4 a5 k
  obtain ⟨ih0, ih1⟩ := impl_SieveSeek.mono_l k
  unfold impl_SieveSeek.f
  repeat' first | (with_reducible first | apply ih0 | apply ih1 | apply impl_KeyOk.mono | apply impl_Sieve_heads.mono | exact LeO.refl _ | exact LeO.none _ | refine LeO.ite ?_ ?_ | refine LeO.bind ?_ (fun _ => ?_)) | exact LeO.none _ | refine LeO.ite ?_ ?_ | refine LeO.bind ?_ (fun _ => ?_)
theorem impl_SieveSeek.calls (k : Nat) (a0_0 a0_1 a0_2 : ByteArray) (A0_3 : Option Addr) (c0_3 : Nat) (l0_3 : List ByteArray) (a0_4 : Int) (a1 r1 : ByteArray) (r2 : Bool) (w : World) (hr0_3 : Kd.C Kd.string w A0_3 l0_3.length l0_3) (hc0_3 : l0_3.length ≤ c0_3) (h : impl_SieveSeek.f k a0_0 a0_1 a0_2 l0_3 a0_4 a1 = some (r1, r2)) :
    Calls Try.prog 44 #[.agg #[.string a0_0, .string a0_1, .string a0_2, .slice A0_3 l0_3.length c0_3, .int .i64 a0_4], .string a1] w fun e w' => e = .returned (.tuple #[.string r1, .bool r2]) ∧ Below w.heap.size w w' := by
 have hu25 := Try.underlying25; have hu93 := Try.underlying93; have HR0_3 := z0 hr0_3; have HC0_3 := z0 hc0_3; clear hr0_3 hc0_3; have HB := z0 (Below.refl w.heap.size w); have H : ((impl_Sieve_heads.f k a0_0 a0_1 a0_2 l0_3 a0_4).bind fun bt473 => (if bt473.2 = true then ((impl_KeyOk.f k a1).bind fun t477 => (impl_SieveSeek.j0 k a1 bt473.1 (!t477))) else (impl_SieveSeek.j0 k a1 bt473.1 true))) = some (r1, r2) := h; clear h; replace H := zi H; obtain ⟨⟨t473, t476⟩, A3, H⟩ := H; (try dsimp only at H); have HC4 := z0 H; clear H; go_enter Try.func44, Try.ntmps44
 go_upto_region 2 with (first | ((with_reducible refine gd 2 ?_); refine zbx 25 #[.string a0_0, .string a0_1, .string a0_2, .slice A0_3 l0_3.length c0_3, .int .i64 a0_4] ?_; intro gb472 hg w5 hbox hb; have BK472 := z0 (hbox); have GE472 := zG hg HB; replace HB := zH HB hb; clear hb hbox hg; have hcz6 := zc5 BK472.out) | ((with_reducible refine gc 89 ?_); refine zL (some 12) Try.func89 #[.agg #[.string a0_0, .string a0_1, .string a0_2, .slice A0_3 l0_3.length c0_3, .int .i64 a0_4]] ?_; (with_reducible refine (impl_Sieve_heads.calls k a0_0 a0_1 a0_2 _ _ l0_3 a0_4 t473 t476 _ (zC (Kd.C_below HR0_3.out HB.out)) HC0_3.out A3.out).mono ?_); rintro e w7 ⟨v474, rfl, ho0, hb⟩; refine zv ?_; have HO475 := z0 (Kd.R_lower ho0 (below_size (zb HB.out))); replace BK472 := zK BK472 hb; replace HB := zH HB hb; (try clear hb ho0)))
 (try simp only [Act.put, List.setIfInBounds_toArray, List.set_cons_zero, List.set_cons_succ])
 go_cut [21] (fun v21 wc => ∃ (kq : Nat) (x21_3 : Bool), v21 = .bool x21_3 ∧ Aside0 (impl_SieveSeek.j0 kq a1 t473 x21_3 = some (r1, r2)) ∧ Aside0 (kq ≤ k) ∧ Aside0 (Kd.R k93 93 wc w.heap.size (fun _ => True) v474 t473) ∧ Aside0 (wc.heap[gb472]? = some (.cells #[.string a0_0, .string a0_1, .string a0_2, (.slice A0_3 l0_3.length c0_3), .int .i64 a0_4] 25 (0, 0))) ∧ Aside0 (Below w.heap.size w wc))
 case first =>
  have H := HC4.out; clear HC4
  by_cases c8 : t476 = true
  ·subst c8
   have H1 : ((impl_KeyOk.f k a1).bind fun t477 => (impl_SieveSeek.j0 k a1 t473 (!t477))) = some (r1, r2) := by rw [if_pos rfl] at H; exact H
   clear H; have H := H1; clear H1; replace H := zi H; obtain ⟨t477, A9, H⟩ := H; have H' := z0 H; clear H
   go_wp2_with (first | (go_at_call 67; (with_reducible refine (impl_KeyOk.calls k a1 t477 _ A9.out).mono ?_); rintro e w' ⟨rfl, ⟨nd, rfl⟩⟩))
   go_meet
   case rel => exact ⟨_, (!t477), zf, H', ⟨by first | omega | exact Nat.le_refl _⟩, ⟨zr HO475.out⟩, ⟨zl BK472.out⟩, ⟨zb HB.out⟩⟩
  ·replace c8 := Bool.eq_false_iff.mpr c8; subst c8
   have H1 : (impl_SieveSeek.j0 k a1 t473 true) = some (r1, r2) := by rw [if_neg (show ¬ (false = true) by decide)] at H; exact H
   clear H; have H := H1; clear H1; have H' := z0 H; clear H; go_wp2; go_meet
   case rel => exact ⟨_, (true), zf, H', ⟨by first | omega | exact Nat.le_refl _⟩, ⟨zr HO475.out⟩, ⟨zl BK472.out⟩, ⟨zb HB.out⟩⟩
 case rest =>
  clear HC4
  try clear p2
  try clear c4
  try clear c8
  try clear hcz6
  obtain ⟨kq, x21_3, rfl, HA, HJ3, HO_6, BK472, HB⟩ := hcut
  cases kq with
  | zero => exact absurd HA.out (by simp [impl_SieveSeek.j0])
  | succ kj3 =>
   have H := HA.out; clear HA; simp only [impl_SieveSeek.j0] at H
   by_cases c10 : x21_3 = true
   ·subst c10
    have H1 : (some ((⟨#[]⟩ : ByteArray), false)) = some (r1, r2) := by rw [if_pos rfl] at H; exact H
    clear H; have H := H1; clear H1; simp only [Option.some.injEq, Prod.mk.injEq] at H; obtain ⟨rfl, rfl⟩ := H; go_wp2
    go_ret2
    exact ⟨ze, zb HB.out⟩
   ·replace c10 := Bool.eq_false_iff.mpr c10; subst c10
    have H1 : (impl_SieveSeek.l0 kj3 a1 t473 (t473.length : Int) 0) = some (r1, r2) := by rw [if_neg (show ¬ (false = true) by decide)] at H; exact H
    clear H; have H := H1; clear H1; have H' := z0 H; clear H; obtain ⟨Ao11, co11, eo11⟩ := Kd.R_slice HO_6.out; subst eo11; go_wp2
    go_loopg [24] kj3 (fun kq v24 w' => ∃ (x24_2 : Int), v24 = .int .i64 x24_2 ∧ Aside0 (impl_SieveSeek.l0 kq a1 t473 (t473.length : Int) x24_2 = some (r1, r2)) ∧ Aside0 (kq ≤ kj3) ∧ Aside0 (Kd.R k93 93 w' w.heap.size (fun _ => True) (.slice Ao11 t473.length co11) t473) ∧ Aside0 (w'.heap[gb472]? = some (.cells #[.string a0_0, .string a0_1, .string a0_2, (.slice A0_3 l0_3.length c0_3), .int .i64 a0_4] 25 (0, 0))) ∧ Aside0 (Below w.heap.size w w'))
    case atStart => exact ⟨(0), zf, H', ⟨Nat.le_refl _⟩, ⟨zr HO_6.out⟩, ⟨zl BK472.out⟩, ⟨zb HB.out⟩⟩
    case round =>
     clear H'
     try clear c1
     try clear p2
     try clear c4
     try clear c8
     try clear c10
     try clear hcz6
     try clear p2
     obtain ⟨x24_2, rfl, HA, HK2, HO_22, BK472, HB⟩ := hrel
     cases gk with
     | zero => exact absurd HA.out (by simp [impl_SieveSeek.l0])
     | succ k2 =>
      have H := HA.out; clear HA; simp only [impl_SieveSeek.l0] at H
      by_cases c12 : x24_2 < (t473.length : Int)
      ·rw [if_pos c12] at H; have c12b0 := decide_eq_true c12; clear c12; replace H := zn H; obtain ⟨c13, H⟩ := H; have c13b0 := decide_eq_true c13; clear c13; replace H := zn H; obtain ⟨c14, H⟩ := H; have c14b0 := decide_eq_true c14; clear c14
       by_cases c15 : ((Op.bytesLess (((rd_T93 t473 x24_2).f0).toList) a1.toList) = true)
       ·rw [if_pos c15] at H; have c15b0 : (Op.bytesLess (((rd_T93 t473 x24_2).f0).toList) a1.toList) = true := c15; clear c15; obtain ⟨bq16, hbq16⟩ : ∃ b_ : Bool, b_ = ((rd_T93 t473 x24_2).f1) := ⟨_, rfl⟩
        replace H : (if (bq16 = true) then (impl_SieveSeek.l0 k2 a1 t473 (t473.length : Int) (wrap64 (x24_2 + 1))) else ((impl_KeyBegins.f a1 ((rd_T93 t473 x24_2).f0)).bind fun t480 => (if t480 = true then (some ((rd_T93 t473 x24_2).f0, true)) else (impl_SieveSeek.l0 k2 a1 t473 (t473.length : Int) (wrap64 (x24_2 + 1)))))) = some (r1, r2) := by rw [← hbq16] at H; exact H
        have Nbq16 := z0 hbq16; clear hbq16
        by_cases c17 : (bq16 = true)
        ·subst c17
         have H1 : (impl_SieveSeek.l0 k2 a1 t473 (t473.length : Int) (wrap64 (x24_2 + 1))) = some (r1, r2) := by rw [if_pos rfl] at H; exact H
         clear H; have H := H1; clear H1; have H' := z0 H; clear H; have p478 : 0 ≤ (x24_2 : Int) := zd; have q478 : x24_2 < (t473.length : Int) := zd; obtain ⟨ad478, e478, hx478_0, hx478_1⟩ := at_T93 (Kd.R_reads' HO_22.out).2.2 x24_2 p478 q478; (try rw [← Nbq16.out] at hx478_1); cases e478; replace p478 := eq_true p478; replace q478 := eq_true q478
         go_wp2_with (first | ((with_reducible refine gd 9 ?_); refine zbx 93 #[.string ⟨#[]⟩, .bool false] ?_; intro gb479 hg w18 hbox hb; replace HO_22 := z0 (Kd.R_below (Kd.R_elderB (zr HO_22.out) gb479 (Nat.le_of_eq hg.symm)) hb); have BK479 := z0 (hbox); have GE479 := zG hg HB; replace HB := zH HB hb; have NB472_479 := zLt hg BK472; have NB479_472 := zGt hg BK472; replace BK472 := zK BK472 hb; clear hb hbox hg; have hnb19 := NB479_472.out; have hnc19 := NB472_479.out; have hcz20 := zc2 BK479.out))
         go_roundg k2
         case measure => have := HJ3.out; have := HK2.out; omega
         case rel => exact ⟨(wrap64 (x24_2 + 1)), zf, H', ⟨by have := HJ3.out; have := HK2.out; omega⟩, ⟨Kd.R_mono (zr (Kd.R_far (p := ⟨gb479, 1, none⟩) (Kd.R_far (p := ⟨gb479, 0, none⟩) (Kd.R_mono HO_22.out (fun k_ hk => (⟨hk, hk.2⟩ : _ ∧ k_ ≠ gb479))) (fun _ hk => hk.2) (.string ((rd_T93 t473 x24_2).f0))) (fun _ hk => hk.2) (.bool true))) (fun _ hk => trivial)⟩, ⟨zy BK472.out⟩, ⟨zb HB.out⟩⟩
        ·replace c17 := Bool.eq_false_iff.mpr c17; subst c17
         have H1 : ((impl_KeyBegins.f a1 ((rd_T93 t473 x24_2).f0)).bind fun t480 => (if t480 = true then (some ((rd_T93 t473 x24_2).f0, true)) else (impl_SieveSeek.l0 k2 a1 t473 (t473.length : Int) (wrap64 (x24_2 + 1))))) = some (r1, r2) := by rw [if_neg (show ¬ (false = true) by decide)] at H; exact H
         clear H; have H := H1; clear H1; replace H := zi H; obtain ⟨t480, A21, H⟩ := H
         by_cases c22 : t480 = true
         ·subst c22
          have H1 : (some ((rd_T93 t473 x24_2).f0, true)) = some (r1, r2) := by rw [if_pos rfl] at H; exact H
          clear H; have H := H1; clear H1; simp only [Option.some.injEq, Prod.mk.injEq] at H; obtain ⟨rfl, rfl⟩ := H; have p478 : 0 ≤ (x24_2 : Int) := zd; have q478 : x24_2 < (t473.length : Int) := zd; obtain ⟨ad478, e478, hx478_0, hx478_1⟩ := at_T93 (Kd.R_reads' HO_22.out).2.2 x24_2 p478 q478; (try rw [← Nbq16.out] at hx478_1); cases e478; replace p478 := eq_true p478; replace q478 := eq_true q478
          go_wp2_with (first | ((with_reducible refine gd 9 ?_); refine zbx 93 #[.string ⟨#[]⟩, .bool false] ?_; intro gb479 hg w23 hbox hb; replace HO_22 := z0 (Kd.R_below (Kd.R_elderB (zr HO_22.out) gb479 (Nat.le_of_eq hg.symm)) hb); have BK479 := z0 (hbox); have GE479 := zG hg HB; replace HB := zH HB hb; have NB472_479 := zLt hg BK472; have NB479_472 := zGt hg BK472; replace BK472 := zK BK472 hb; clear hb hbox hg; have hnb24 := NB479_472.out; have hnc24 := NB472_479.out; have hcz25 := zc2 BK479.out) | (go_at_call 42; (with_reducible refine (impl_KeyBegins.calls a1 ((rd_T93 t473 x24_2).f0) true _ A21.out).mono ?_); rintro e w' ⟨rfl, ⟨nd, rfl⟩⟩))
          go_ret2
          exact ⟨ze, zb HB.out⟩
         ·replace c22 := Bool.eq_false_iff.mpr c22; subst c22
          have H1 : (impl_SieveSeek.l0 k2 a1 t473 (t473.length : Int) (wrap64 (x24_2 + 1))) = some (r1, r2) := by rw [if_neg (show ¬ (false = true) by decide)] at H; exact H
          clear H; have H := H1; clear H1; have H' := z0 H; clear H; have p478 : 0 ≤ (x24_2 : Int) := zd; have q478 : x24_2 < (t473.length : Int) := zd; obtain ⟨ad478, e478, hx478_0, hx478_1⟩ := at_T93 (Kd.R_reads' HO_22.out).2.2 x24_2 p478 q478; (try rw [← Nbq16.out] at hx478_1); cases e478; replace p478 := eq_true p478; replace q478 := eq_true q478
          go_wp2_with (first | ((with_reducible refine gd 9 ?_); refine zbx 93 #[.string ⟨#[]⟩, .bool false] ?_; intro gb479 hg w26 hbox hb; replace HO_22 := z0 (Kd.R_below (Kd.R_elderB (zr HO_22.out) gb479 (Nat.le_of_eq hg.symm)) hb); have BK479 := z0 (hbox); have GE479 := zG hg HB; replace HB := zH HB hb; have NB472_479 := zLt hg BK472; have NB479_472 := zGt hg BK472; replace BK472 := zK BK472 hb; clear hb hbox hg; have hnb27 := NB479_472.out; have hnc27 := NB472_479.out; have hcz28 := zc2 BK479.out) | (go_at_call 42; (with_reducible refine (impl_KeyBegins.calls a1 ((rd_T93 t473 x24_2).f0) false _ A21.out).mono ?_); rintro e w' ⟨rfl, ⟨nd, rfl⟩⟩))
          go_roundg k2
          case measure => have := HJ3.out; have := HK2.out; omega
          case rel => exact ⟨(wrap64 (x24_2 + 1)), zf, H', ⟨by have := HJ3.out; have := HK2.out; omega⟩, ⟨Kd.R_mono (zr (Kd.R_far (p := ⟨gb479, 1, none⟩) (Kd.R_far (p := ⟨gb479, 0, none⟩) (Kd.R_mono HO_22.out (fun k_ hk => (⟨hk, hk.2⟩ : _ ∧ k_ ≠ gb479))) (fun _ hk => hk.2) (.string ((rd_T93 t473 x24_2).f0))) (fun _ hk => hk.2) (.bool false))) (fun _ hk => trivial)⟩, ⟨zy BK472.out⟩, ⟨zb HB.out⟩⟩
       ·rw [if_neg c15] at H
        have c15b0 : (Op.bytesLess (((rd_T93 t473 x24_2).f0).toList) a1.toList) = false := by simpa using c15
        clear c15; simp only [Option.some.injEq, Prod.mk.injEq] at H; obtain ⟨rfl, rfl⟩ := H; have p478 : 0 ≤ (x24_2 : Int) := zd; have q478 : x24_2 < (t473.length : Int) := zd; obtain ⟨ad478, e478, hx478_0, hx478_1⟩ := at_T93 (Kd.R_reads' HO_22.out).2.2 x24_2 p478 q478; cases e478; replace p478 := eq_true p478; replace q478 := eq_true q478
        go_wp2_with (first | ((with_reducible refine gd 9 ?_); refine zbx 93 #[.string ⟨#[]⟩, .bool false] ?_; intro gb479 hg w29 hbox hb; replace HO_22 := z0 (Kd.R_below (Kd.R_elderB (zr HO_22.out) gb479 (Nat.le_of_eq hg.symm)) hb); have BK479 := z0 (hbox); have GE479 := zG hg HB; replace HB := zH HB hb; have NB472_479 := zLt hg BK472; have NB479_472 := zGt hg BK472; replace BK472 := zK BK472 hb; clear hb hbox hg; have hnb30 := NB479_472.out; have hnc30 := NB472_479.out; have hcz31 := zc2 BK479.out))
        go_ret2
        exact ⟨ze, zb HB.out⟩
      ·rw [if_neg c12] at H; have c12b0 := decide_eq_false c12; clear c12; simp only [Option.some.injEq, Prod.mk.injEq] at H; obtain ⟨rfl, rfl⟩ := H; go_wp2
       go_ret2
       exact ⟨ze, zb HB.out⟩
theorem impl_SieveMeets.mono : ∀ a0 a1 a2 a3 a4 a5 a6 k, LeO (impl_SieveMeets.f k a0 a1 a2 a3 a4 a5 a6) (impl_SieveMeets.f (k + 1) a0 a1 a2 a3 a4 a5 a6) := by
  intro a0 a1 a2 a3 a4 a5 a6 k
  unfold impl_SieveMeets.f
  repeat' first | (with_reducible first | apply impl_KeyOk.mono | apply impl_SieveSeek.mono | exact LeO.refl _ | exact LeO.none _ | refine LeO.ite ?_ ?_ | refine LeO.bind ?_ (fun _ => ?_)) | exact LeO.none _ | refine LeO.ite ?_ ?_ | refine LeO.bind ?_ (fun _ => ?_)
theorem impl_SieveMeets.calls (k : Nat) (a0_0 a0_1 a0_2 : ByteArray) (A0_3 : Option Addr) (c0_3 : Nat) (l0_3 : List ByteArray) (a0_4 : Int) (a1 a2 : ByteArray) (r : Bool) (w : World) (hr0_3 : Kd.C Kd.string w A0_3 l0_3.length l0_3) (hc0_3 : l0_3.length ≤ c0_3) (h : impl_SieveMeets.f k a0_0 a0_1 a0_2 l0_3 a0_4 a1 a2 = some r) :
    Calls Try.prog 32 #[.agg #[.string a0_0, .string a0_1, .string a0_2, .slice A0_3 l0_3.length c0_3, .int .i64 a0_4], .string a1, .string a2] w fun e w' => e = .returned (.bool r) ∧ Below w.heap.size w w' := by
 have hu25 := Try.underlying25; have HR0_3 := z0 hr0_3; have HC0_3 := z0 hc0_3; clear hr0_3 hc0_3; have HB := z0 (Below.refl w.heap.size w); have H : ((impl_KeyOk.f k a1).bind fun t482 => (if t482 = true then ((impl_KeyOk.f k a2).bind fun t483 => (if t483 = true then (if (Op.bytesLess a2.toList a1.toList) = true then (some false) else ((impl_SieveSeek.f k a0_0 a0_1 a0_2 l0_3 a0_4 a1).bind fun bt484 => (if bt484.2 = true then (some (!(Op.bytesLess a2.toList bt484.1.toList))) else (some false)))) else (some false))) else (some false))) = some r := h; clear h; replace H := zi H; obtain ⟨t482, A4, H⟩ := H
 by_cases c5 : t482 = true
 ·subst c5
  have H1 : ((impl_KeyOk.f k a2).bind fun t483 => (if t483 = true then (if (Op.bytesLess a2.toList a1.toList) = true then (some false) else ((impl_SieveSeek.f k a0_0 a0_1 a0_2 l0_3 a0_4 a1).bind fun bt484 => (if bt484.2 = true then (some (!(Op.bytesLess a2.toList bt484.1.toList))) else (some false)))) else (some false))) = some r := by rw [if_pos rfl] at H; exact H
  clear H; have H := H1; clear H1; replace H := zi H; obtain ⟨t483, A6, H⟩ := H
  by_cases c7 : t483 = true
  ·subst c7
   have H1 : (if (Op.bytesLess a2.toList a1.toList) = true then (some false) else ((impl_SieveSeek.f k a0_0 a0_1 a0_2 l0_3 a0_4 a1).bind fun bt484 => (if bt484.2 = true then (some (!(Op.bytesLess a2.toList bt484.1.toList))) else (some false)))) = some r := by rw [if_pos rfl] at H; exact H
   clear H; have H := H1; clear H1; go_enter Try.func32, Try.ntmps32
   go_upto_if 21 with (first | ((with_reducible refine gd 3 ?_); refine zbx 25 #[.string a0_0, .string a0_1, .string a0_2, .slice A0_3 l0_3.length c0_3, .int .i64 a0_4] ?_; intro gb481 hg w8 hbox hb; have BK481 := z0 (hbox); have GE481 := zG hg HB; replace HB := zH HB hb; clear hb hbox hg) | ((with_reducible refine gc 67 ?_); refine zL (some 10) Try.func67 #[.string a1] ?_; (with_reducible refine (impl_KeyOk.calls k a1 true _ A4.out).mono ?_); rintro e w' ⟨rfl, ⟨nd, rfl⟩⟩; refine ⟨_, rfl, ?_⟩) | (go_at_call 67; (with_reducible refine (impl_KeyOk.calls k a2 true _ A6.out).mono ?_); rintro e w' ⟨rfl, ⟨nd, rfl⟩⟩))
   by_cases c9 : (Op.bytesLess a2.toList a1.toList) = true
   ·rw [if_pos c9] at H; have c9b0 : (Op.bytesLess a2.toList a1.toList) = true := c9; clear c9; (first | rw [c9b0] | (simp only [i64_w, i32_w]; rw [c9b0]) | simp only [*, Bool.not_true, Bool.not_false] | skip); obtain rfl := Option.some.inj H; go_wp2; go_ret; exact ⟨ze, zb HB.out⟩
   ·rw [if_neg c9] at H
    have c9b0 : (Op.bytesLess a2.toList a1.toList) = false := by simpa using c9
    clear c9; (first | rw [c9b0] | (simp only [i64_w, i32_w]; rw [c9b0]) | simp only [*, Bool.not_true, Bool.not_false] | skip); replace H := zi H; obtain ⟨⟨t484, t485⟩, A10, H⟩ := H; (try dsimp only at H)
    by_cases c11 : t485 = true
    ·subst c11
     have H1 : (some (!(Op.bytesLess a2.toList t484.toList))) = some r := by rw [if_pos rfl] at H; exact H
     clear H; have H := H1; clear H1; obtain rfl := Option.some.inj H; have hcz12 := zc5 BK481.out
     go_wp2_with (first | ((with_reducible refine gc 44 ?_); refine zL (some 25) Try.func44 #[.agg #[.string a0_0, .string a0_1, .string a0_2, .slice A0_3 l0_3.length c0_3, .int .i64 a0_4], .string a1] ?_; (with_reducible refine (impl_SieveSeek.calls k a0_0 a0_1 a0_2 _ _ l0_3 a0_4 a1 t484 true _ (zC (Kd.C_below HR0_3.out HB.out)) HC0_3.out A10.out).mono ?_); rintro e w13 ⟨rfl, hb⟩; refine zv ?_; replace BK481 := zK BK481 hb; replace HB := zH HB hb; (try clear hb)))
     go_ret; exact ⟨ze, zb HB.out⟩
    ·replace c11 := Bool.eq_false_iff.mpr c11; subst c11
     have H1 : (some false) = some r := by rw [if_neg (show ¬ (false = true) by decide)] at H; exact H
     clear H; have H := H1; clear H1; obtain rfl := Option.some.inj H; have hcz14 := zc5 BK481.out
     go_wp2_with (first | ((with_reducible refine gc 44 ?_); refine zL (some 25) Try.func44 #[.agg #[.string a0_0, .string a0_1, .string a0_2, .slice A0_3 l0_3.length c0_3, .int .i64 a0_4], .string a1] ?_; (with_reducible refine (impl_SieveSeek.calls k a0_0 a0_1 a0_2 _ _ l0_3 a0_4 a1 t484 false _ (zC (Kd.C_below HR0_3.out HB.out)) HC0_3.out A10.out).mono ?_); rintro e w15 ⟨rfl, hb⟩; refine zv ?_; replace BK481 := zK BK481 hb; replace HB := zH HB hb; (try clear hb)))
     go_ret; exact ⟨ze, zb HB.out⟩
  ·replace c7 := Bool.eq_false_iff.mpr c7; subst c7
   have H1 : (some false) = some r := by rw [if_neg (show ¬ (false = true) by decide)] at H; exact H
   clear H; have H := H1; clear H1; obtain rfl := Option.some.inj H; go_enter Try.func32, Try.ntmps32
   go_wp2_with (first | ((with_reducible refine gd 3 ?_); refine zbx 25 #[.string a0_0, .string a0_1, .string a0_2, .slice A0_3 l0_3.length c0_3, .int .i64 a0_4] ?_; intro gb481 hg w16 hbox hb; have BK481 := z0 (hbox); have GE481 := zG hg HB; replace HB := zH HB hb; clear hb hbox hg) | ((with_reducible refine gc 67 ?_); refine zL (some 10) Try.func67 #[.string a1] ?_; (with_reducible refine (impl_KeyOk.calls k a1 true _ A4.out).mono ?_); rintro e w' ⟨rfl, ⟨nd, rfl⟩⟩; refine ⟨_, rfl, ?_⟩) | (go_at_call 67; (with_reducible refine (impl_KeyOk.calls k a2 false _ A6.out).mono ?_); rintro e w' ⟨rfl, ⟨nd, rfl⟩⟩))
   go_ret; exact ⟨ze, zb HB.out⟩
 ·replace c5 := Bool.eq_false_iff.mpr c5; subst c5
  have H1 : (some false) = some r := by rw [if_neg (show ¬ (false = true) by decide)] at H; exact H
  clear H; have H := H1; clear H1; obtain rfl := Option.some.inj H; go_enter Try.func32, Try.ntmps32
  go_wp2_with (first | ((with_reducible refine gd 3 ?_); refine zbx 25 #[.string a0_0, .string a0_1, .string a0_2, .slice A0_3 l0_3.length c0_3, .int .i64 a0_4] ?_; intro gb481 hg w17 hbox hb; have BK481 := z0 (hbox); have GE481 := zG hg HB; replace HB := zH HB hb; clear hb hbox hg) | ((with_reducible refine gc 67 ?_); refine zL (some 10) Try.func67 #[.string a1] ?_; (with_reducible refine (impl_KeyOk.calls k a1 false _ A4.out).mono ?_); rintro e w' ⟨rfl, ⟨nd, rfl⟩⟩; refine ⟨_, rfl, ?_⟩))
  go_ret; exact ⟨ze, zb HB.out⟩
theorem spec_KeyBegins.calls (a0 a1 : ByteArray) (r : Bool) (w : World) (h : spec_KeyBegins.f a0 a1 = some r) :
    Calls Try.prog 72 #[.string a0, .string a1] w fun e w' => e = .returned (.bool r) ∧ Drawn0 w w' := by
 have H : (if (a1.size : Int) ≤ (a0.size : Int) then (if 0 ≤ (a1.size : Int) then (some ((a0.extract 0 ((a1.size : Int) : Int).toNat).toList == a1.toList)) else (none)) else (some false)) = some r := h; clear h
 by_cases c3 : (a1.size : Int) ≤ (a0.size : Int)
 ·rw [if_pos c3] at H; have c3b0 := decide_eq_true c3; have c3b1 : decide (a1.size ≤ a0.size) = true := decide_eq_true (Int.ofNat_le.mp c3); clear c3; replace H := zn H; obtain ⟨c4, H⟩ := H; have c4b0 := eq_true c4; have c4b1 := decide_eq_true c4; clear c4; have c5b0 := eq_true (zd : (a1.size : Int) ≤ (a0.size : Int)); obtain rfl := Option.some.inj H; go_enter Try.func72, Try.ntmps72; go_wp2; go_ret; exact ⟨zf, by repeat (first | exact Drawn0.refl _ | apply Drawn0.step)⟩
 ·rw [if_neg c3] at H; have c3b0 := decide_eq_false c3; have c3b1 : decide (a1.size ≤ a0.size) = false := decide_eq_false (fun h => c3 (Int.ofNat_le.mpr h)); clear c3; obtain rfl := Option.some.inj H; go_enter Try.func72, Try.ntmps72; go_wp2; go_ret; exact ⟨zf, by repeat (first | exact Drawn0.refl _ | apply Drawn0.step)⟩
theorem spec_l3Behind.mono_l : ∀ k, (∀ y0 y1 y2 y3, LeO (spec_l3Behind.l0 k y0 y1 y2 y3) (spec_l3Behind.l0 (k + 1) y0 y1 y2 y3))
  | 0 => fun _ _ _ _ r h => by simp [spec_l3Behind.l0] at h
  | k + 1 => by
    have ih0 := spec_l3Behind.mono_l k
    · intro y0 y1 y2 y3
      unfold spec_l3Behind.l0
      repeat' first | (with_reducible first | apply ih0 | exact LeO.refl _ | exact LeO.none _ | refine LeO.ite ?_ ?_ | refine LeO.bind ?_ (fun _ => ?_)) | exact LeO.none _ | refine LeO.ite ?_ ?_ | refine LeO.bind ?_ (fun _ => ?_)
theorem spec_l3Behind.mono : ∀ a0 a1 a2 k, LeO (spec_l3Behind.f k a0 a1 a2) (spec_l3Behind.f (k + 1) a0 a1 a2) := by
  intro a0 a1 a2 k
  have ih0 := spec_l3Behind.mono_l k
  unfold spec_l3Behind.f
  repeat' first | (with_reducible first | apply ih0 | exact LeO.refl _ | exact LeO.none _ | refine LeO.ite ?_ ?_ | refine LeO.bind ?_ (fun _ => ?_)) | exact LeO.none _ | refine LeO.ite ?_ ?_ | refine LeO.bind ?_ (fun _ => ?_)
theorem spec_l3Behind.calls (k : Nat) (A0 : Option Addr) (c0 : Nat) (l0 : List ByteArray) (A1 : Option Addr) (c1 : Nat) (l1 : List Bool) (a2 : ByteArray) (r : Int) (w : World) (hr0 : Kd.C Kd.string w A0 l0.length l0) (hc0 : l0.length ≤ c0) (hr1 : Kd.C Kd.bool w A1 l1.length l1) (hc1 : l1.length ≤ c1) (h : spec_l3Behind.f k l0 l1 a2 = some r) :
    Calls Try.prog 83 #[.slice A0 l0.length c0, .slice A1 l1.length c1, .string a2] w fun e w' => e = .returned (.int .i64 r) ∧ Drawn0 w w' := by
 have HR0 := z0 hr0; have HC0 := z0 hc0; clear hr0 hc0; have HR1 := z0 hr1; have HC1 := z0 hc1; clear hr1 hc1; have H : (spec_l3Behind.l0 k l0 l1 a2 0) = some r := h; clear h; have H' := z0 H; clear H; go_enter Try.func83, Try.ntmps83; go_wp2
 go_loopg [7] k (fun kq v7 w' => ∃ (x7_1 : Int), v7 = .int .i64 x7_1 ∧ Aside0 (spec_l3Behind.l0 kq l0 l1 a2 x7_1 = some r) ∧ Aside0 (kq ≤ k) ∧ Drawn0 w w')
 case atStart => exact ⟨(0), zf, H', ⟨Nat.le_refl _⟩, by repeat (first | exact Drawn0.refl _ | apply Drawn0.step)⟩
 case round =>
  clear H'
  try clear c1
  try clear p2
  obtain ⟨x7_1, rfl, HA, HK1, ⟨m1, rfl⟩⟩ := hrel
  cases gk with
  | zero => exact absurd HA.out (by simp [spec_l3Behind.l0])
  | succ k1 =>
   have H := HA.out; clear HA; simp only [spec_l3Behind.l0] at H
   by_cases c4 : x7_1 < (l0.length : Int)
   ·rw [if_pos c4] at H; have c4b0 := decide_eq_true c4; clear c4; replace H := zn H; obtain ⟨c5, H⟩ := H; have c5b0 := decide_eq_true c5; clear c5
    by_cases c6 : ((Op.bytesLess ((rdOf ByteArray.empty l0 x7_1).toList) a2.toList) = true)
    ·rw [if_pos c6] at H; have c6b0 : (Op.bytesLess ((rdOf ByteArray.empty l0 x7_1).toList) a2.toList) = true := c6; clear c6; replace H := zn H; obtain ⟨c7, H⟩ := H; have c7b0 := decide_eq_true c7; clear c7; obtain ⟨bq8, hbq8⟩ : ∃ b_ : Bool, b_ = (rdOf false l1 x7_1) := ⟨_, rfl⟩
     replace H : (if bq8 = true then (spec_l3Behind.l0 k1 l0 l1 a2 (wrap64 (x7_1 + 1))) else ((spec_KeyBegins.f a2 (rdOf ByteArray.empty l0 x7_1)).bind fun t613 => (if t613 = true then (some x7_1) else (spec_l3Behind.l0 k1 l0 l1 a2 (wrap64 (x7_1 + 1)))))) = some r := by rw [← hbq8] at H; exact H
     have Nbq8 := z0 hbq8; clear hbq8
     by_cases c9 : bq8 = true
     ·subst c9
      have H1 : (spec_l3Behind.l0 k1 l0 l1 a2 (wrap64 (x7_1 + 1))) = some r := by rw [if_pos rfl] at H; exact H
      clear H; have H := H1; clear H1; have H' := z0 H; clear H; have p610 : 0 ≤ (x7_1 : Int) := zd; have q610 : x7_1 < (l0.length : Int) := zd; obtain ⟨ad610, e610, hx610_0⟩ := Kd.at_string HR0.out x7_1 p610 q610; cases e610; replace p610 := eq_true p610; replace q610 := eq_true q610; have p611 : 0 ≤ (x7_1 : Int) := zd; have q611 : x7_1 < (l1.length : Int) := zd; obtain ⟨ad611, e611, hx611_0⟩ := Kd.at_bool HR1.out x7_1 p611 q611; (try rw [← Nbq8.out] at hx611_0); cases e611; replace p611 := eq_true p611; replace q611 := eq_true q611; go_wp2; go_roundg k1
      case measure => have := HK1.out; omega
      case rel => exact ⟨(wrap64 (x7_1 + 1)), zf, H', ⟨by have := HK1.out; omega⟩, by repeat (first | exact Drawn0.refl _ | apply Drawn0.step)⟩
     ·replace c9 := Bool.eq_false_iff.mpr c9; subst c9
      have H1 : ((spec_KeyBegins.f a2 (rdOf ByteArray.empty l0 x7_1)).bind fun t613 => (if t613 = true then (some x7_1) else (spec_l3Behind.l0 k1 l0 l1 a2 (wrap64 (x7_1 + 1))))) = some r := by rw [if_neg (show ¬ (false = true) by decide)] at H; exact H
      clear H; have H := H1; clear H1; replace H := zi H; obtain ⟨t613, A10, H⟩ := H
      by_cases c11 : t613 = true
      ·subst c11
       have H1 : (some x7_1) = some r := by rw [if_pos rfl] at H; exact H
       clear H; have H := H1; clear H1; obtain rfl := Option.some.inj H; have p610 : 0 ≤ (x7_1 : Int) := zd; have q610 : x7_1 < (l0.length : Int) := zd; obtain ⟨ad610, e610, hx610_0⟩ := Kd.at_string HR0.out x7_1 p610 q610; cases e610; replace p610 := eq_true p610; replace q610 := eq_true q610; have p611 : 0 ≤ (x7_1 : Int) := zd; have q611 : x7_1 < (l1.length : Int) := zd; obtain ⟨ad611, e611, hx611_0⟩ := Kd.at_bool HR1.out x7_1 p611 q611; (try rw [← Nbq8.out] at hx611_0); cases e611; replace p611 := eq_true p611; replace q611 := eq_true q611; have p612 : 0 ≤ (x7_1 : Int) := zd; have q612 : x7_1 < (l0.length : Int) := zd; obtain ⟨ad612, e612, hx612_0⟩ := Kd.at_string HR0.out x7_1 p612 q612; obtain rfl : ad610 = ad612 := (by injection e612); replace p612 := eq_true p612; replace q612 := eq_true q612
       go_wp2_with (first | (go_at_call 72; (with_reducible refine (spec_KeyBegins.calls a2 (rdOf ByteArray.empty l0 x7_1) true _ A10.out).mono ?_); rintro e w' ⟨rfl, ⟨nd, rfl⟩⟩))
       go_ret; exact ⟨zf, by repeat (first | exact Drawn0.refl _ | apply Drawn0.step)⟩
      ·replace c11 := Bool.eq_false_iff.mpr c11; subst c11
       have H1 : (spec_l3Behind.l0 k1 l0 l1 a2 (wrap64 (x7_1 + 1))) = some r := by rw [if_neg (show ¬ (false = true) by decide)] at H; exact H
       clear H; have H := H1; clear H1; have H' := z0 H; clear H; have p610 : 0 ≤ (x7_1 : Int) := zd; have q610 : x7_1 < (l0.length : Int) := zd; obtain ⟨ad610, e610, hx610_0⟩ := Kd.at_string HR0.out x7_1 p610 q610; cases e610; replace p610 := eq_true p610; replace q610 := eq_true q610; have p611 : 0 ≤ (x7_1 : Int) := zd; have q611 : x7_1 < (l1.length : Int) := zd; obtain ⟨ad611, e611, hx611_0⟩ := Kd.at_bool HR1.out x7_1 p611 q611; (try rw [← Nbq8.out] at hx611_0); cases e611; replace p611 := eq_true p611; replace q611 := eq_true q611; have p612 : 0 ≤ (x7_1 : Int) := zd; have q612 : x7_1 < (l0.length : Int) := zd; obtain ⟨ad612, e612, hx612_0⟩ := Kd.at_string HR0.out x7_1 p612 q612; obtain rfl : ad610 = ad612 := (by injection e612); replace p612 := eq_true p612; replace q612 := eq_true q612
       go_wp2_with (first | (go_at_call 72; (with_reducible refine (spec_KeyBegins.calls a2 (rdOf ByteArray.empty l0 x7_1) false _ A10.out).mono ?_); rintro e w' ⟨rfl, ⟨nd, rfl⟩⟩))
       go_roundg k1
       case measure => have := HK1.out; omega
       case rel => exact ⟨(wrap64 (x7_1 + 1)), zf, H', ⟨by have := HK1.out; omega⟩, by repeat (first | exact Drawn0.refl _ | apply Drawn0.step)⟩
    ·rw [if_neg c6] at H
     have c6b0 : (Op.bytesLess ((rdOf ByteArray.empty l0 x7_1).toList) a2.toList) = false := by simpa using c6
     clear c6; obtain rfl := Option.some.inj H; have p610 : 0 ≤ (x7_1 : Int) := zd; have q610 : x7_1 < (l0.length : Int) := zd; obtain ⟨ad610, e610, hx610_0⟩ := Kd.at_string HR0.out x7_1 p610 q610; cases e610; replace p610 := eq_true p610; replace q610 := eq_true q610; go_wp2; go_ret; exact ⟨zf, by repeat (first | exact Drawn0.refl _ | apply Drawn0.step)⟩
   ·rw [if_neg c4] at H; have c4b0 := decide_eq_false c4; clear c4; obtain rfl := Option.some.inj H; go_wp2; go_ret; exact ⟨zf, by repeat (first | exact Drawn0.refl _ | apply Drawn0.step)⟩
theorem spec_l3Whole.mono : ∀ a0 a1 a2 a3 a4 a5 k, LeO (spec_l3Whole.f k a0 a1 a2 a3 a4 a5) (spec_l3Whole.f (k + 1) a0 a1 a2 a3 a4 a5) := by
  intro a0 a1 a2 a3 a4 a5 k
  unfold spec_l3Whole.f
  repeat' first | (with_reducible first | apply spec_l1Ones.mono | exact LeO.refl _ | exact LeO.none _ | refine LeO.ite ?_ ?_ | refine LeO.bind ?_ (fun _ => ?_)) | exact LeO.none _ | refine LeO.ite ?_ ?_ | refine LeO.bind ?_ (fun _ => ?_)
theorem spec_l3Whole.calls (k : Nat) (a0_0 a0_1 a0_2 : ByteArray) (A0_3 : Option Addr) (c0_3 : Nat) (l0_3 : List ByteArray) (a0_4 a1 : Int) (r : Bool) (w : World) (hr0_3 : Kd.C Kd.string w A0_3 l0_3.length l0_3) (hc0_3 : l0_3.length ≤ c0_3) (h : spec_l3Whole.f k a0_0 a0_1 a0_2 l0_3 a0_4 a1 = some r) :
    Calls Try.prog 71 #[.agg #[.string a0_0, .string a0_1, .string a0_2, .slice A0_3 l0_3.length c0_3, .int .i64 a0_4], .int .i64 a1] w fun e w' => e = .returned (.bool r) ∧ Below w.heap.size w w' := by
 have hu25 := Try.underlying25; have HR0_3 := z0 hr0_3; have HC0_3 := z0 hc0_3; clear hr0_3 hc0_3; have HB := z0 (Below.refl w.heap.size w); have H : ((spec_l1Ones.f k a0_1 a1).bind fun t460 => (if 0 ≤ a1 then (if a1 < (a0_0.size : Int) then (if (bt a0_0 a1) = 45 then (some true) else (if 0 ≤ (wrap64 (a1 - t460)) then (if (wrap64 (a1 - t460)) < (l0_3.length : Int) then (some (decide (((rdOf ByteArray.empty l0_3 (wrap64 (a1 - t460))).size : Int) < a0_4))) else (none)) else (none))) else (none)) else (none))) = some r := h; clear h; replace H := zi H; obtain ⟨t460, A3, H⟩ := H; replace H := zn H; obtain ⟨c4, H⟩ := H; have c4b0 := decide_eq_true c4; clear c4; replace H := zn H; obtain ⟨c5, H⟩ := H; have c5b0 := decide_eq_true c5; clear c5
 by_cases c7 : (bt a0_0 a1) = 45
 ·rw [if_pos c7] at H; have c7b0 : ((bt a0_0 a1) == 45) = true := beq_iff_eq.mpr c7; have c7b1 : ((bt a0_0 a1) != 45) = false := bne_eq_false_iff_eq.mpr c7; clear c7; obtain rfl := Option.some.inj H; go_enter Try.func71, Try.ntmps71
  go_wp2_with (first | ((with_reducible refine gd 2 ?_); (try (refine gate_guard (by rfl) ?_; dsimp only)); refine zbx 25 #[.string a0_0, .string a0_1, .string a0_2, .slice A0_3 l0_3.length c0_3, .int .i64 a0_4] ?_; intro gb459 hg w8 hbox hb; have BK459 := z0 (hbox); have GE459 := zG hg HB; replace HB := zH HB hb; clear hb hbox hg; have hcz9 := zc5 BK459.out) | (go_at_call 70; (with_reducible refine (spec_l1Ones.calls k a0_1 a1 t460 _ A3.out).mono ?_); rintro e w' ⟨rfl, ⟨nd, rfl⟩⟩; (try exact zdd); have p6 : 0 ≤ (a1 : Int) := zd; have q6 : a1 < (a0_0.size : Int) := zd; have hx6 := bt_at a0_0 a1; replace p6 := eq_true p6; replace q6 := eq_true q6))
  repeat (go_quiet (first | ((with_reducible refine gd 2 ?_); (try (refine gate_guard (by rfl) ?_; dsimp only)); refine zbx 25 #[.string a0_0, .string a0_1, .string a0_2, .slice A0_3 l0_3.length c0_3, .int .i64 a0_4] ?_; intro gb459 hg w8 hbox hb; have BK459 := z0 (hbox); have GE459 := zG hg HB; replace HB := zH HB hb; clear hb hbox hg; have hcz9 := zc5 BK459.out) | (go_at_call 70; (with_reducible refine (spec_l1Ones.calls k a0_1 a1 t460 _ A3.out).mono ?_); rintro e w' ⟨rfl, ⟨nd, rfl⟩⟩; (try exact zdd); have p6 : 0 ≤ (a1 : Int) := zd; have q6 : a1 < (a0_0.size : Int) := zd; have hx6 := bt_at a0_0 a1; replace p6 := eq_true p6; replace q6 := eq_true q6)); try go_wp2_with (first | ((with_reducible refine gd 2 ?_); (try (refine gate_guard (by rfl) ?_; dsimp only)); refine zbx 25 #[.string a0_0, .string a0_1, .string a0_2, .slice A0_3 l0_3.length c0_3, .int .i64 a0_4] ?_; intro gb459 hg w8 hbox hb; have BK459 := z0 (hbox); have GE459 := zG hg HB; replace HB := zH HB hb; clear hb hbox hg; have hcz9 := zc5 BK459.out) | (go_at_call 70; (with_reducible refine (spec_l1Ones.calls k a0_1 a1 t460 _ A3.out).mono ?_); rintro e w' ⟨rfl, ⟨nd, rfl⟩⟩; (try exact zdd); have p6 : 0 ≤ (a1 : Int) := zd; have q6 : a1 < (a0_0.size : Int) := zd; have hx6 := bt_at a0_0 a1; replace p6 := eq_true p6; replace q6 := eq_true q6)))
  go_ret; exact ⟨ze, zb HB.out⟩
 ·rw [if_neg c7] at H; have c7b0 : ((bt a0_0 a1) == 45) = false := beq_eq_false_iff_ne.mpr c7; have c7b1 : ((bt a0_0 a1) != 45) = true := bne_iff_ne.mpr c7; obtain ⟨ji10, hji10⟩ : ∃ j_ : Int, (wrap64 (a1 - t460)) = j_ := ⟨_, rfl⟩
  replace H : (if 0 ≤ (ji10) then (if (ji10) < (l0_3.length : Int) then (some (decide (((rdOf ByteArray.empty l0_3 (ji10)).size : Int) < a0_4))) else (none)) else (none)) = some r := by first | (rw [hji10] at H; exact H) | (simp only [hji10] at H ⊢; exact H)
  (try rw [hji10] at A3); have hji10w : (IntKind.i64.wrap (a1 - t460)) = ji10 := (i64_w _).trans hji10; replace H := zn H; obtain ⟨c11, H⟩ := H; have c11b0 := decide_eq_true c11; clear c11; replace H := zn H; obtain ⟨c12, H⟩ := H; have c12b0 := decide_eq_true c12; clear c12; obtain rfl := Option.some.inj H; go_enter Try.func71, Try.ntmps71
  go_wp2_with (first | ((with_reducible refine gd 2 ?_); (try (refine gate_guard (by rfl) ?_; dsimp only)); refine zbx 25 #[.string a0_0, .string a0_1, .string a0_2, .slice A0_3 l0_3.length c0_3, .int .i64 a0_4] ?_; intro gb459 hg w13 hbox hb; have BK459 := z0 (hbox); have GE459 := zG hg HB; replace HB := zH HB hb; clear hb hbox hg; have hcz14 := zc5 BK459.out) | (go_at_call 70; (with_reducible refine (spec_l1Ones.calls k a0_1 a1 t460 _ A3.out).mono ?_); rintro e w' ⟨rfl, ⟨nd, rfl⟩⟩; (try exact zdd); have p6 : 0 ≤ (a1 : Int) := zd; have q6 : a1 < (a0_0.size : Int) := zd; have hx6 := bt_at a0_0 a1; replace p6 := eq_true p6; replace q6 := eq_true q6; have p461 : 0 ≤ ((ji10) : Int) := zd; have q461 : (ji10) < (l0_3.length : Int) := zd; obtain ⟨ad461, e461, hx461_0⟩ := Kd.at_string HR0_3.out (ji10) p461 q461; cases e461; replace hx461_0 := (HB.out.cell (World.block_lt_of_cell? w _ hx461_0)).trans hx461_0; replace p461 := eq_true p461; replace q461 := eq_true q461))
  repeat (go_quiet (first | ((with_reducible refine gd 2 ?_); (try (refine gate_guard (by rfl) ?_; dsimp only)); refine zbx 25 #[.string a0_0, .string a0_1, .string a0_2, .slice A0_3 l0_3.length c0_3, .int .i64 a0_4] ?_; intro gb459 hg w13 hbox hb; have BK459 := z0 (hbox); have GE459 := zG hg HB; replace HB := zH HB hb; clear hb hbox hg; have hcz14 := zc5 BK459.out) | (go_at_call 70; (with_reducible refine (spec_l1Ones.calls k a0_1 a1 t460 _ A3.out).mono ?_); rintro e w' ⟨rfl, ⟨nd, rfl⟩⟩; (try exact zdd); have p6 : 0 ≤ (a1 : Int) := zd; have q6 : a1 < (a0_0.size : Int) := zd; have hx6 := bt_at a0_0 a1; replace p6 := eq_true p6; replace q6 := eq_true q6; have p461 : 0 ≤ ((ji10) : Int) := zd; have q461 : (ji10) < (l0_3.length : Int) := zd; obtain ⟨ad461, e461, hx461_0⟩ := Kd.at_string HR0_3.out (ji10) p461 q461; cases e461; replace hx461_0 := (HB.out.cell (World.block_lt_of_cell? w _ hx461_0)).trans hx461_0; replace p461 := eq_true p461; replace q461 := eq_true q461)); try go_wp2_with (first | ((with_reducible refine gd 2 ?_); (try (refine gate_guard (by rfl) ?_; dsimp only)); refine zbx 25 #[.string a0_0, .string a0_1, .string a0_2, .slice A0_3 l0_3.length c0_3, .int .i64 a0_4] ?_; intro gb459 hg w13 hbox hb; have BK459 := z0 (hbox); have GE459 := zG hg HB; replace HB := zH HB hb; clear hb hbox hg; have hcz14 := zc5 BK459.out) | (go_at_call 70; (with_reducible refine (spec_l1Ones.calls k a0_1 a1 t460 _ A3.out).mono ?_); rintro e w' ⟨rfl, ⟨nd, rfl⟩⟩; (try exact zdd); have p6 : 0 ≤ (a1 : Int) := zd; have q6 : a1 < (a0_0.size : Int) := zd; have hx6 := bt_at a0_0 a1; replace p6 := eq_true p6; replace q6 := eq_true q6; have p461 : 0 ≤ ((ji10) : Int) := zd; have q461 : (ji10) < (l0_3.length : Int) := zd; obtain ⟨ad461, e461, hx461_0⟩ := Kd.at_string HR0_3.out (ji10) p461 q461; cases e461; replace hx461_0 := (HB.out.cell (World.block_lt_of_cell? w _ hx461_0)).trans hx461_0; replace p461 := eq_true p461; replace q461 := eq_true q461)))
  go_ret; exact ⟨by first | rfl | (simp [errW_none, errW_some] <;> rfl) | (simp only [← hji10]; first | rfl | (simp [errW_none, errW_some] <;> rfl)) | (simp [*, errW_none, errW_some] <;> rfl), zb HB.out⟩
theorem spec_l3Wholes.mono_l : ∀ k, (∀ y0 y1 y2 y3 y4 y5 y6 y7, LeO (spec_l3Wholes.f k y0 y1 y2 y3 y4 y5 y6 y7) (spec_l3Wholes.f (k + 1) y0 y1 y2 y3 y4 y5 y6 y7)) ∧ (∀ y0 y1 y2 y3 y4 y5 y6 y7, LeO (spec_l3Wholes.l0 k y0 y1 y2 y3 y4 y5 y6 y7) (spec_l3Wholes.l0 (k + 1) y0 y1 y2 y3 y4 y5 y6 y7)) ∧ (∀ y0 y1 y2 y3 y4 y5 y6 y7 y8, LeO (spec_l3Wholes.j1 k y0 y1 y2 y3 y4 y5 y6 y7 y8) (spec_l3Wholes.j1 (k + 1) y0 y1 y2 y3 y4 y5 y6 y7 y8))
  | 0 => ⟨fun _ _ _ _ _ _ _ _ r h => by simp [spec_l3Wholes.f] at h, fun _ _ _ _ _ _ _ _ r h => by simp [spec_l3Wholes.l0] at h, fun _ _ _ _ _ _ _ _ _ r h => by simp [spec_l3Wholes.j1] at h⟩
  | k + 1 => by
    obtain ⟨ih0, ih1, ih2⟩ := spec_l3Wholes.mono_l k
    refine ⟨?_, ?_, ?_⟩
    · intro y0 y1 y2 y3 y4 y5 y6 y7
      unfold spec_l3Wholes.f
      repeat' first | (with_reducible first | apply ih0 | apply ih1 | apply ih2 | apply spec_l3Kids.mono | apply spec_l3Whole.mono | exact LeO.refl _ | exact LeO.none _ | refine LeO.ite ?_ ?_ | refine LeO.bind ?_ (fun _ => ?_)) | exact LeO.none _ | refine LeO.ite ?_ ?_ | refine LeO.bind ?_ (fun _ => ?_)
    · intro y0 y1 y2 y3 y4 y5 y6 y7
      unfold spec_l3Wholes.l0
      repeat' first | (with_reducible first | apply ih0 | apply ih1 | apply ih2 | apply spec_l3Kids.mono | apply spec_l3Whole.mono | exact LeO.refl _ | exact LeO.none _ | refine LeO.ite ?_ ?_ | refine LeO.bind ?_ (fun _ => ?_)) | exact LeO.none _ | refine LeO.ite ?_ ?_ | refine LeO.bind ?_ (fun _ => ?_)
    · intro y0 y1 y2 y3 y4 y5 y6 y7 y8
      unfold spec_l3Wholes.j1
      repeat' first | (with_reducible first | apply ih0 | apply ih1 | apply ih2 | apply spec_l3Kids.mono | apply spec_l3Whole.mono | exact LeO.refl _ | exact LeO.none _ | refine LeO.ite ?_ ?_ | refine LeO.bind ?_ (fun _ => ?_)) | exact LeO.none _ | refine LeO.ite ?_ ?_ | refine LeO.bind ?_ (fun _ => ?_)
theorem spec_l3Wholes.mono : ∀ a0 a1 a2 a3 a4 a5 a6 a7 k, LeO (spec_l3Wholes.f k a0 a1 a2 a3 a4 a5 a6 a7) (spec_l3Wholes.f (k + 1) a0 a1 a2 a3 a4 a5 a6 a7) := by
  intro a0 a1 a2 a3 a4 a5 a6 a7 k
  obtain ⟨ih0, ih1, ih2⟩ := spec_l3Wholes.mono_l k
  exact ih0 a0 a1 a2 a3 a4 a5 a6 a7
theorem spec_l3Wholes.calls (k : Nat) : ∀ (a0_0 a0_1 a0_2 : ByteArray) (A0_3 : Option Addr) (c0_3 : Nat) (l0_3 : List ByteArray) (a0_4 a1 a2 : Int) (P3_ : Nat → Prop) (u9000_ : Value) (l3 r : List Bool) (w0 w : World) (hB : Below w0.heap.size w0 w) (hr0_3 : ∀ W_, Kept w W_ (fun k_ => P3_ k_) → Kd.C Kd.string W_ A0_3 l0_3.length l0_3) (hc0_3 : l0_3.length ≤ c0_3) (ho3 : Kd.R Kd.bool 4 w w0.heap.size P3_ u9000_ l3) (h : spec_l3Wholes.f k a0_0 a0_1 a0_2 l0_3 a0_4 a1 a2 l3 = some r),
    Calls Try.prog 84 #[.agg #[.string a0_0, .string a0_1, .string a0_2, .slice A0_3 l0_3.length c0_3, .int .i64 a0_4], .int .i64 a1, .int .i64 a2, u9000_] w fun e w' => ∃ v0_ : Value, e = .returned (v0_) ∧ Kd.R Kd.bool 4 w' w0.heap.size (fun k_ => (P3_ k_ ∨ w.heap.size ≤ k_)) v0_ r ∧ Below w0.heap.size w0 w' ∧ Kept w w' (fun k_ => P3_ k_) := by
 induction k using Nat.strongRecOn with
 | _ k ih =>
 intro a0_0 a0_1 a0_2 A0_3 c0_3 l0_3 a0_4 a1 a2 P3_ u9000_ l3 r w0 w hB hr0_3 hc0_3 ho3 h
 cases k with
 | zero => exact absurd h (by simp [spec_l3Wholes.f])
 | succ k =>
 simp only [spec_l3Wholes.f] at h; have hu25 := Try.underlying25; have HR0_3 := z0 hr0_3; have HC0_3 := z0 hc0_3; clear hr0_3 hc0_3; have HO3 := z0 (show Kd.R Kd.bool 4 w w0.heap.size (fun k_ => (P3_ k_ ∨ w.heap.size ≤ k_)) u9000_ l3 from Kd.R_mono ho3 (fun k_ hk => (.inl hk))); have HK := z0 (Kept.refl w (fun k_ => P3_ k_)); have HW0 := z0 hB.size; have HB := z0 hB; clear hB; have H : (spec_l3Wholes.l0 k a2 l3 a1 a0_0 a0_1 a0_2 l0_3 a0_4) = some r := h; clear h; have H' := z0 H; clear H; go_enter Try.func84, Try.ntmps84
 go_wp2_with (first | ((with_reducible refine gd 4 ?_); (try (refine gate_guard (by rfl) ?_; dsimp only)); refine zbx 25 #[.string a0_0, .string a0_1, .string a0_2, .slice A0_3 l0_3.length c0_3, .int .i64 a0_4] ?_; intro gb614 hg w5 hbox hb; replace HO3 := zA HO3 hb; have BK614 := z0 (hbox); have GW614 := z0 ((by rw [hg]; exact (by first | exact HK.out.1 | exact (show Kept w _ (fun k_ => P3_ k_) from zk HK.out).1) : w.heap.size ≤ gb614)); replace HK := z0 (Kept.below (zk HK.out) hb); have GE614 := zG hg HB; replace HB := zH HB hb; clear hb hbox hg))
 go_loopg [3, 9] k (fun kq v3 v9 w' => ∃ (x3_1 : List Bool) (x9_1 : Int), v9 = .int .i64 x9_1 ∧ Aside0 (spec_l3Wholes.l0 kq a2 x3_1 x9_1 a0_0 a0_1 a0_2 l0_3 a0_4 = some r) ∧ Aside0 (kq ≤ k) ∧ Aside0 (Kd.R Kd.bool 4 w' w0.heap.size (fun k_ => (P3_ k_ ∨ w.heap.size ≤ k_)) v3 x3_1) ∧ Aside0 (w'.heap[gb614]? = some (.cells #[.string a0_0, .string a0_1, .string a0_2, (.slice A0_3 l0_3.length c0_3), .int .i64 a0_4] 25 (0, 0))) ∧ Aside0 (Kept w w' (fun k_ => P3_ k_)) ∧ Aside0 (Below w0.heap.size w0 w'))
 case atStart => exact ⟨(l3), (a1), zf, H', ⟨Nat.le_refl _⟩, ⟨zr HO3.out⟩, ⟨zl BK614.out⟩, ⟨zk HK.out⟩, ⟨zb HB.out⟩⟩
 case round =>
  clear H'
  try clear p2
  obtain ⟨x3_1, x9_1, rfl, HA, HK1, HO_3, BK614, HK, HB⟩ := hrel
  cases gk with
  | zero => exact absurd HA.out (by simp [spec_l3Wholes.l0])
  | succ k1 =>
   have H := HA.out; clear HA; simp only [spec_l3Wholes.l0] at H; have HC6 := z0 H; clear H
   go_upto_region 2 with (fail)
   go_cut [22] (fun v22 wc => ∃ (kq : Nat) (x22_5 : Bool), v22 = .bool x22_5 ∧ Aside0 (spec_l3Wholes.j1 kq a2 x3_1 x9_1 x22_5 a0_0 a0_1 a0_2 l0_3 a0_4 = some r) ∧ Aside0 (kq ≤ k1) ∧ Aside0 (Kd.R Kd.bool 4 wc w0.heap.size (fun k_ => (P3_ k_ ∨ w.heap.size ≤ k_)) u3 x3_1) ∧ Aside0 (wc.heap[gb614]? = some (.cells #[.string a0_0, .string a0_1, .string a0_2, (.slice A0_3 l0_3.length c0_3), .int .i64 a0_4] 25 (0, 0))) ∧ Aside0 (Kept w wc (fun k_ => P3_ k_)) ∧ Aside0 (Below w0.heap.size w0 wc))
   case first =>
    have H := HC6.out; clear HC6
    by_cases c7 : x9_1 < a2
    ·rw [if_pos c7] at H; have c7b0 := decide_eq_true c7; clear c7; (first | rw [c7b0] | (simp only [i64_w, i32_w]; rw [c7b0]) | simp only [*, Bool.not_true, Bool.not_false] | skip); have H' := z0 H; clear H; have hcz8 := zc5 BK614.out; go_wp2; go_meet
     case rel => exact ⟨_, (decide (x9_1 < (a0_0.size : Int))), zf, H', ⟨by have := HK1.out; first | omega | exact Nat.le_refl _⟩, ⟨zr HO_3.out⟩, ⟨zl BK614.out⟩, ⟨zk HK.out⟩, ⟨zb HB.out⟩⟩
    ·rw [if_neg c7] at H; have c7b0 := decide_eq_false c7; clear c7; (first | rw [c7b0] | (simp only [i64_w, i32_w]; rw [c7b0]) | simp only [*, Bool.not_true, Bool.not_false] | skip); have H' := z0 H; clear H; go_wp2; go_meet
     case rel => exact ⟨_, (false), zf, H', ⟨by have := HK1.out; first | omega | exact Nat.le_refl _⟩, ⟨zr HO_3.out⟩, ⟨zl BK614.out⟩, ⟨zk HK.out⟩, ⟨zb HB.out⟩⟩
   case rest =>
    clear HC6
    try clear p2
    try clear c7
    try clear c7b0
    try clear c8
    try clear hcz8
    try clear p2
    obtain ⟨kq, x22_5, rfl, HA, HJ5, HO_3, BK614, HK, HB⟩ := hcut
    cases kq with
    | zero => exact absurd HA.out (by simp [spec_l3Wholes.j1])
    | succ kj5 =>
     have H := HA.out; clear HA; simp only [spec_l3Wholes.j1] at H
     by_cases c9 : x22_5 = true
     ·subst c9
      have H1 : (if 0 ≤ x9_1 then (if x9_1 < (a0_1.size : Int) then (if (bt a0_1 x9_1) = 49 then ((spec_l3Kids.f kj5 a0_0 a0_1 a0_2 l0_3 a0_4 x9_1).bind fun bt615 => ((spec_l3Wholes.f kj5 a0_0 a0_1 a0_2 l0_3 a0_4 bt615.1 bt615.2 x3_1).bind fun t617 => (spec_l3Wholes.l0 kj5 a2 t617 (wrap64 (x9_1 + 1)) a0_0 a0_1 a0_2 l0_3 a0_4))) else ((spec_l3Whole.f kj5 a0_0 a0_1 a0_2 l0_3 a0_4 x9_1).bind fun t620 => (if x3_1.length < 140737488355328 then (spec_l3Wholes.l0 kj5 a2 (x3_1 ++ [t620]) (wrap64 (x9_1 + 1)) a0_0 a0_1 a0_2 l0_3 a0_4) else (none)))) else (none)) else (none)) = some r := by rw [if_pos rfl] at H; exact H
      clear H; have H := H1; clear H1; replace H := zn H; obtain ⟨c10, H⟩ := H; have c10b0 := decide_eq_true c10; clear c10; replace H := zn H; obtain ⟨c11, H⟩ := H; have c11b0 := decide_eq_true c11; clear c11
      by_cases c13 : (bt a0_1 x9_1) = 49
      ·rw [if_pos c13] at H; have c13b0 : ((bt a0_1 x9_1) == 49) = true := beq_iff_eq.mpr c13; have c13b1 : ((bt a0_1 x9_1) != 49) = false := bne_eq_false_iff_eq.mpr c13; clear c13; replace H := zi H; obtain ⟨⟨t615, t616⟩, A14, H⟩ := H; (try dsimp only at H); replace H := zi H; obtain ⟨t617, A15, H⟩ := H; have H' := z0 H; clear H; have hcz16 := zc5 BK614.out; have p12 : 0 ≤ (x9_1 : Int) := zd; have q12 : x9_1 < (a0_1.size : Int) := zd; have hx12 := bt_at a0_1 x9_1; replace p12 := eq_true p12; replace q12 := eq_true q12
       go_wp2_with (first | ((with_reducible refine gc 108 ?_); refine zL (some 33) Try.func108 #[.agg #[.string a0_0, .string a0_1, .string a0_2, .slice A0_3 l0_3.length c0_3, .int .i64 a0_4], .int .i64 x9_1] ?_; (with_reducible refine (spec_l3Kids.calls kj5 a0_0 a0_1 a0_2 _ _ l0_3 a0_4 x9_1 t615 t616 _ (Kd.C_kept_now HR0_3.out (zk HK.out)) HC0_3.out A14.out).mono ?_); rintro e w17 ⟨rfl, hb⟩; refine zv ?_; replace HO_3 := zA HO_3 hb; replace BK614 := zK BK614 hb; replace HK := z0 (Kept.below (zk HK.out) hb); replace HB := zH HB hb; (try clear hb); have hcz18 := zc5 BK614.out; obtain ⟨Ao19, co19, eo19⟩ := Kd.R_slice HO_3.out; subst eo19) | ((with_reducible refine gc 84 ?_); refine zL (some 40) Try.func84 #[.agg #[.string a0_0, .string a0_1, .string a0_2, .slice A0_3 l0_3.length c0_3, .int .i64 a0_4], .int .i64 t615, .int .i64 t616, .slice Ao19 x3_1.length co19] ?_; (with_reducible refine (ih kj5 (by have := HK1.out; have := HJ5.out; omega) a0_0 a0_1 a0_2 _ _ l0_3 a0_4 t615 t616 (fun k_ => some k_ = (.slice Ao19 x3_1.length co19 : Value).ownBlock) (.slice Ao19 x3_1.length co19) x3_1 t617 w0 _ ?side1 ?side2 ?side3 ?side4 A15.out).mono ?_); (case side1 => repeat (first | (with_reducible first | exact HB.out | apply below_alloc | apply pw_below_drewN | apply below_drew1 | refine below_set ?_ GE614.out) | exact HB.out)); (case side2 => exact Kd.C_kept_call HR0_3.out (zk HK.out) (fun k_ hs_ => (fun e_ => (HO_3.out.1 k_ e_.symm)) hs_)); (case side3 => exact HC0_3.out); (case side4 => exact Kd.R_tight rfl HO_3.out); rintro e w20 ⟨v618, rfl, ho0, hb, hkp⟩; refine ⟨_, rfl, ?_⟩; replace BK614 := z0 (blk_kept (zl BK614.out) hkp (fun hs_ => (fun e_ => (Kd.R_ne HO_3.out BK614.out (by decide)) e_) hs_)); have HO619 := z0 (Kd.R_mono (ok' := fun k_ => (P3_ k_ ∨ w.heap.size ≤ k_)) ho0 (fun k_ hk_ => Or.elim hk_ (fun hs_ => (HO_3.out.1 k_ (hs_).symm)) (fun hn_ => (.inr (Nat.le_trans (by first | exact HK.out.1 | exact (show Kept w _ (fun k_ => P3_ k_) from zk HK.out).1) hn_))))); replace HK := z0 (Kept.then_ (S := (fun k_ => P3_ k_)) (zk HK.out) hkp (fun k_ hs_ => (fun e_ => (HO_3.out.1 k_ e_.symm)) hs_)); replace HB := z0 (hb); clear HO_3; (try clear hb); (try clear hkp); (try clear ho0)))
       go_roundg kj5
       case measure => have := HK1.out; have := HJ5.out; omega
       case rel => exact ⟨(t617), (wrap64 (x9_1 + 1)), zf, H', ⟨by have := HK1.out; have := HJ5.out; omega⟩, ⟨zr HO619.out⟩, ⟨zl BK614.out⟩, ⟨zk HK.out⟩, ⟨zb HB.out⟩⟩
      ·rw [if_neg c13] at H; have c13b0 : ((bt a0_1 x9_1) == 49) = false := beq_eq_false_iff_ne.mpr c13; have c13b1 : ((bt a0_1 x9_1) != 49) = true := bne_iff_ne.mpr c13; replace H := zi H; obtain ⟨t620, A21, H⟩ := H; replace H := zn H; obtain ⟨c22, H⟩ := H; have LMc22 := z0 c22; clear c22; obtain ⟨y621, hy621⟩ : ∃ y_ : List Bool, y_ = (x3_1 ++ [t620]) := ⟨_, rfl⟩; replace H : (spec_l3Wholes.l0 kj5 a2 y621 (wrap64 (x9_1 + 1)) a0_0 a0_1 a0_2 l0_3 a0_4) = some r := zH2 hy621 H; have Ny621 := z0 hy621; clear hy621; have H' := z0 H; clear H; have hcz23 := zc5 BK614.out; have p12 : 0 ≤ (x9_1 : Int) := zd; have q12 : x9_1 < (a0_1.size : Int) := zd; have hx12 := bt_at a0_1 x9_1; replace p12 := eq_true p12; replace q12 := eq_true q12
       go_wp2_with (first | ((with_reducible refine gc 71 ?_); refine zL (some 44) Try.func71 #[.agg #[.string a0_0, .string a0_1, .string a0_2, .slice A0_3 l0_3.length c0_3, .int .i64 a0_4], .int .i64 x9_1] ?_; (with_reducible refine (spec_l3Whole.calls kj5 a0_0 a0_1 a0_2 _ _ l0_3 a0_4 x9_1 t620 _ (Kd.C_kept_now HR0_3.out (zk HK.out)) HC0_3.out A21.out).mono ?_); rintro e w24 ⟨rfl, hb⟩; refine zv ?_; replace HO_3 := zA HO_3 hb; replace BK614 := zK BK614 hb; replace HK := z0 (Kept.below (zk HK.out) hb); replace HB := zH HB hb; (try clear hb)) | ((with_reducible refine gate_builtin (b := .append) (xs := #[.tmp 41, .tmp 45]) rfl ?_); (try (refine gate_guard (by rfl) ?_; dsimp only)); at_builtin; refine Kd.R_append Kd.bool (w0 := w0) w0.heap.size rfl (.tmp 41) (.tmp 45) 84 4 (.bool false) 1 rfl Try.underlying84 info4 rfl (by decide) (by omega) u3 x3_1 t620 [.bool t620] (fun k_ => (P3_ k_ ∨ w.heap.size ≤ k_)) (fun _ => False) rfl rfl ?aP (fun _ hk => hk.elim) ?aF ?aO ?aB ?aS ?aL ?_; (case aP => exact rfl); (case aB => exact (zb HB.out)); (case aF => exact (fun k_ hk => (.inr (Nat.le_trans (by first | exact HK.out.1 | exact (show Kept w _ (fun k_ => P3_ k_) from zk HK.out).1) hk)))); (case aO => exact (zr HO_3.out)); (case aS => exact (below_size (zb HB.out))); (case aL => have := LMc22.out; omega); intro v622 w25 ho hb hg hat; rw [← Ny621.out] at ho; replace BK614 := z0 (blk_grown (zl BK614.out) hg (Kd.R_ne HO_3.out BK614.out (by decide))); replace HB := z0 (hb); replace HK := z0 (Kept.of_grown (S := (fun k_ => P3_ k_)) hg (zk HK.out) (fun k_ e_ => (HO_3.out.1 k_ e_))); have HO623 := z0 (ho); clear HO_3; clear ho hb hg hat))
       go_roundg kj5
       case measure => have := HK1.out; have := HJ5.out; omega
       case rel => exact ⟨(y621), (wrap64 (x9_1 + 1)), zf, H', ⟨by have := HK1.out; have := HJ5.out; omega⟩, ⟨zr HO623.out⟩, ⟨zl BK614.out⟩, ⟨zk HK.out⟩, ⟨zb HB.out⟩⟩
     ·replace c9 := Bool.eq_false_iff.mpr c9; subst c9
      have H1 : (some x3_1) = some r := by rw [if_neg (show ¬ (false = true) by decide)] at H; exact H
      clear H; have H := H1; clear H1; obtain rfl := Option.some.inj H; go_wp2; go_ret; exact ⟨_, ze, zr HO_3.out, zb HB.out, zk HK.out⟩
theorem spec_SieveMeets.mono_l : ∀ k, (∀ y0 y1 y2 y3 y4 y5 y6 y7, LeO (spec_SieveMeets.j0 k y0 y1 y2 y3 y4 y5 y6 y7) (spec_SieveMeets.j0 (k + 1) y0 y1 y2 y3 y4 y5 y6 y7))
  | 0 => fun _ _ _ _ _ _ _ _ r h => by simp [spec_SieveMeets.j0] at h
  | k + 1 => by
    have ih0 := spec_SieveMeets.mono_l k
    · intro y0 y1 y2 y3 y4 y5 y6 y7
      unfold spec_SieveMeets.j0
      repeat' first | (with_reducible first | apply ih0 | apply spec_KeyOk.mono | apply spec_SieveOk.mono | apply spec_l1One.mono | apply spec_l3Behind.mono | apply spec_l3Heads.mono | apply spec_l3Wholes.mono | exact LeO.refl _ | exact LeO.none _ | refine LeO.ite ?_ ?_ | refine LeO.bind ?_ (fun _ => ?_)) | exact LeO.none _ | refine LeO.ite ?_ ?_ | refine LeO.bind ?_ (fun _ => ?_)
theorem spec_SieveMeets.mono : ∀ a0 a1 a2 a3 a4 a5 a6 k, LeO (spec_SieveMeets.f k a0 a1 a2 a3 a4 a5 a6) (spec_SieveMeets.f (k + 1) a0 a1 a2 a3 a4 a5 a6) := by
  intro a0 a1 a2 a3 a4 a5 a6 k
  have ih0 := spec_SieveMeets.mono_l k
  unfold spec_SieveMeets.f
  repeat' first | (with_reducible first | apply ih0 | apply spec_KeyOk.mono | apply spec_SieveOk.mono | apply spec_l1One.mono | apply spec_l3Behind.mono | apply spec_l3Heads.mono | apply spec_l3Wholes.mono | exact LeO.refl _ | exact LeO.none _ | refine LeO.ite ?_ ?_ | refine LeO.bind ?_ (fun _ => ?_)) | exact LeO.none _ | refine LeO.ite ?_ ?_ | refine LeO.bind ?_ (fun _ => ?_)
def spec_SieveMeets.T4 : Bool × List (List Nat × List Nat) := (true, [([], []), ([], []), ([], []), ([2], [2]), ([3], [3]), ([], []), ([1, 4, 5, 4], [1, 4, 5]), ([], []), ([0, 6, 7, 6], [0, 6, 7]), ([8, 8, 0, 1, 2, 3, 4, 5, 6, 7, 8], [8])])
def spec_SieveMeets.B4 : List Nat := [0, 0, 0, 4, 12, 0, 62, 0, 255, 511]
theorem spec_SieveMeets.tab4 : rtab .any (opsOf Try.f38 4) = spec_SieveMeets.T4 := by kernel_rfl
theorem spec_SieveMeets.bits4 : waitsOk spec_SieveMeets.T4.2 spec_SieveMeets.B4 = true := by kernel_rfl
theorem spec_SieveMeets.calls (k : Nat) (a0_0 a0_1 a0_2 : ByteArray) (A0_3 : Option Addr) (c0_3 : Nat) (l0_3 : List ByteArray) (a0_4 : Int) (a1 a2 : ByteArray) (r : Bool) (w : World) (hr0_3 : Kd.C Kd.string w A0_3 l0_3.length l0_3) (hc0_3 : l0_3.length ≤ c0_3) (h : spec_SieveMeets.f k a0_0 a0_1 a0_2 l0_3 a0_4 a1 a2 = some r) :
    Calls Try.prog 38 #[.agg #[.string a0_0, .string a0_1, .string a0_2, .slice A0_3 l0_3.length c0_3, .int .i64 a0_4], .string a1, .string a2] w fun e w' => e = .returned (.bool r) ∧ Below w.heap.size w w' := by
 have hu25 := Try.underlying25; have HR0_3 := z0 hr0_3; have HC0_3 := z0 hc0_3; clear hr0_3 hc0_3; have HB := z0 (Below.refl w.heap.size w); have H : ((spec_SieveOk.f k a0_0 a0_1 a0_2 l0_3 a0_4).bind fun t625 => (if t625 = true then ((spec_KeyOk.f k a1).bind fun t626 => (if t626 = true then ((spec_KeyOk.f k a2).bind fun t627 => (if t627 = true then (spec_SieveMeets.j0 k a1 a2 (Op.bytesLess a2.toList a1.toList) a0_0 a0_1 a0_2 l0_3 a0_4) else (spec_SieveMeets.j0 k a1 a2 true a0_0 a0_1 a0_2 l0_3 a0_4))) else (spec_SieveMeets.j0 k a1 a2 true a0_0 a0_1 a0_2 l0_3 a0_4))) else (spec_SieveMeets.j0 k a1 a2 true a0_0 a0_1 a0_2 l0_3 a0_4))) = some r := h; clear h; have HC4 := z0 H; clear H; go_enter Try.func38, Try.ntmps38
 go_upto_region 1 with (first | ((with_reducible refine gd 3 ?_); refine zbx 25 #[.string a0_0, .string a0_1, .string a0_2, .slice A0_3 l0_3.length c0_3, .int .i64 a0_4] ?_; intro gb624 hg w5 hbox hb; have BK624 := z0 (hbox); have GE624 := zG hg HB; replace HB := zH HB hb; clear hb hbox hg))
 (try simp only [Act.put, List.setIfInBounds_toArray, List.set_cons_zero, List.set_cons_succ])
 go_cut [26] (fun v26 wc => ∃ (kq : Nat) (x26_3 : Bool), v26 = .bool x26_3 ∧ Aside0 (spec_SieveMeets.j0 kq a1 a2 x26_3 a0_0 a0_1 a0_2 l0_3 a0_4 = some r) ∧ Aside0 (kq ≤ k) ∧ Aside0 (wc.heap[gb624]? = some (.cells #[.string a0_0, .string a0_1, .string a0_2, (.slice A0_3 l0_3.length c0_3), .int .i64 a0_4] 25 (0, 0))) ∧ Aside0 (Below w.heap.size w wc))
 case first =>
  have H := HC4.out; clear HC4; replace H := zi H; obtain ⟨t625, A6, H⟩ := H
  by_cases c7 : t625 = true
  ·subst c7
   have H1 : ((spec_KeyOk.f k a1).bind fun t626 => (if t626 = true then ((spec_KeyOk.f k a2).bind fun t627 => (if t627 = true then (spec_SieveMeets.j0 k a1 a2 (Op.bytesLess a2.toList a1.toList) a0_0 a0_1 a0_2 l0_3 a0_4) else (spec_SieveMeets.j0 k a1 a2 true a0_0 a0_1 a0_2 l0_3 a0_4))) else (spec_SieveMeets.j0 k a1 a2 true a0_0 a0_1 a0_2 l0_3 a0_4))) = some r := by rw [if_pos rfl] at H; exact H
   clear H; have H := H1; clear H1; replace H := zi H; obtain ⟨t626, A8, H⟩ := H
   by_cases c9 : t626 = true
   ·subst c9
    have H1 : ((spec_KeyOk.f k a2).bind fun t627 => (if t627 = true then (spec_SieveMeets.j0 k a1 a2 (Op.bytesLess a2.toList a1.toList) a0_0 a0_1 a0_2 l0_3 a0_4) else (spec_SieveMeets.j0 k a1 a2 true a0_0 a0_1 a0_2 l0_3 a0_4))) = some r := by rw [if_pos rfl] at H; exact H
    clear H; have H := H1; clear H1; replace H := zi H; obtain ⟨t627, A10, H⟩ := H
    by_cases c11 : t627 = true
    ·subst c11
     have H1 : (spec_SieveMeets.j0 k a1 a2 (Op.bytesLess a2.toList a1.toList) a0_0 a0_1 a0_2 l0_3 a0_4) = some r := by rw [if_pos rfl] at H; exact H
     clear H; have H := H1; clear H1; have H' := z0 H; clear H; have hcz12 := zc5 BK624.out
     go_wp2_with (first | ((with_reducible refine gc 46 ?_); refine zL (some 10) Try.func46 #[.agg #[.string a0_0, .string a0_1, .string a0_2, .slice A0_3 l0_3.length c0_3, .int .i64 a0_4]] ?_; (with_reducible refine (spec_SieveOk.calls k a0_0 a0_1 a0_2 _ _ l0_3 a0_4 true _ (zC (Kd.C_below HR0_3.out HB.out)) HC0_3.out A6.out).mono ?_); rintro e w13 ⟨rfl, hb⟩; refine zv ?_; replace BK624 := zK BK624 hb; replace HB := zH HB hb; (try clear hb)) | (go_at_call 31; (with_reducible refine (spec_KeyOk.calls k a1 true _ A8.out).mono ?_); rintro e w' ⟨rfl, ⟨nd, rfl⟩⟩) | (go_at_call 31; (with_reducible refine (spec_KeyOk.calls k a2 true _ A10.out).mono ?_); rintro e w' ⟨rfl, ⟨nd, rfl⟩⟩))
     go_meet
     case rel => exact ⟨_, ((Op.bytesLess a2.toList a1.toList)), zf, H', ⟨by first | omega | exact Nat.le_refl _⟩, ⟨zl BK624.out⟩, ⟨zb HB.out⟩⟩
    ·replace c11 := Bool.eq_false_iff.mpr c11; subst c11
     have H1 : (spec_SieveMeets.j0 k a1 a2 true a0_0 a0_1 a0_2 l0_3 a0_4) = some r := by rw [if_neg (show ¬ (false = true) by decide)] at H; exact H
     clear H; have H := H1; clear H1; have H' := z0 H; clear H; have hcz14 := zc5 BK624.out
     go_wp2_with (first | ((with_reducible refine gc 46 ?_); refine zL (some 10) Try.func46 #[.agg #[.string a0_0, .string a0_1, .string a0_2, .slice A0_3 l0_3.length c0_3, .int .i64 a0_4]] ?_; (with_reducible refine (spec_SieveOk.calls k a0_0 a0_1 a0_2 _ _ l0_3 a0_4 true _ (zC (Kd.C_below HR0_3.out HB.out)) HC0_3.out A6.out).mono ?_); rintro e w15 ⟨rfl, hb⟩; refine zv ?_; replace BK624 := zK BK624 hb; replace HB := zH HB hb; (try clear hb)) | (go_at_call 31; (with_reducible refine (spec_KeyOk.calls k a1 true _ A8.out).mono ?_); rintro e w' ⟨rfl, ⟨nd, rfl⟩⟩) | (go_at_call 31; (with_reducible refine (spec_KeyOk.calls k a2 false _ A10.out).mono ?_); rintro e w' ⟨rfl, ⟨nd, rfl⟩⟩))
     go_meet
     case rel => exact ⟨_, (true), zf, H', ⟨by first | omega | exact Nat.le_refl _⟩, ⟨zl BK624.out⟩, ⟨zb HB.out⟩⟩
   ·replace c9 := Bool.eq_false_iff.mpr c9; subst c9
    have H1 : (spec_SieveMeets.j0 k a1 a2 true a0_0 a0_1 a0_2 l0_3 a0_4) = some r := by rw [if_neg (show ¬ (false = true) by decide)] at H; exact H
    clear H; have H := H1; clear H1; have H' := z0 H; clear H; have hcz16 := zc5 BK624.out
    go_wp2_with (first | ((with_reducible refine gc 46 ?_); refine zL (some 10) Try.func46 #[.agg #[.string a0_0, .string a0_1, .string a0_2, .slice A0_3 l0_3.length c0_3, .int .i64 a0_4]] ?_; (with_reducible refine (spec_SieveOk.calls k a0_0 a0_1 a0_2 _ _ l0_3 a0_4 true _ (zC (Kd.C_below HR0_3.out HB.out)) HC0_3.out A6.out).mono ?_); rintro e w17 ⟨rfl, hb⟩; refine zv ?_; replace BK624 := zK BK624 hb; replace HB := zH HB hb; (try clear hb)) | (go_at_call 31; (with_reducible refine (spec_KeyOk.calls k a1 false _ A8.out).mono ?_); rintro e w' ⟨rfl, ⟨nd, rfl⟩⟩))
    go_meet
    case rel => exact ⟨_, (true), zf, H', ⟨by first | omega | exact Nat.le_refl _⟩, ⟨zl BK624.out⟩, ⟨zb HB.out⟩⟩
  ·replace c7 := Bool.eq_false_iff.mpr c7; subst c7
   have H1 : (spec_SieveMeets.j0 k a1 a2 true a0_0 a0_1 a0_2 l0_3 a0_4) = some r := by rw [if_neg (show ¬ (false = true) by decide)] at H; exact H
   clear H; have H := H1; clear H1; have H' := z0 H; clear H; have hcz18 := zc5 BK624.out
   go_wp2_with (first | ((with_reducible refine gc 46 ?_); refine zL (some 10) Try.func46 #[.agg #[.string a0_0, .string a0_1, .string a0_2, .slice A0_3 l0_3.length c0_3, .int .i64 a0_4]] ?_; (with_reducible refine (spec_SieveOk.calls k a0_0 a0_1 a0_2 _ _ l0_3 a0_4 false _ (zC (Kd.C_below HR0_3.out HB.out)) HC0_3.out A6.out).mono ?_); rintro e w19 ⟨rfl, hb⟩; refine zv ?_; replace BK624 := zK BK624 hb; replace HB := zH HB hb; (try clear hb)))
   go_meet
   case rel => exact ⟨_, (true), zf, H', ⟨by first | omega | exact Nat.le_refl _⟩, ⟨zl BK624.out⟩, ⟨zb HB.out⟩⟩
 case rest =>
  clear HC4
  try clear c1
  try clear p2
  try clear c3
  try clear c4
  try clear c7
  try clear c9
  try clear c11
  try clear hcz12
  try clear hcz14
  try clear hcz16
  try clear hcz18
  obtain ⟨kq, x26_3, rfl, HA, HJ3, BK624, HB⟩ := hcut
  cases kq with
  | zero => exact absurd HA.out (by simp [spec_SieveMeets.j0])
  | succ kj3 =>
   have H := HA.out; clear HA; simp only [spec_SieveMeets.j0] at H
   by_cases c20 : x26_3 = true
   ·subst c20
    have H1 : (some false) = some r := by rw [if_pos rfl] at H; exact H
    clear H; have H := H1; clear H1; obtain rfl := Option.some.inj H; go_wp2; go_ret; exact ⟨ze, zb HB.out⟩
   ·replace c20 := Bool.eq_false_iff.mpr c20; subst c20
    have H1 : ((spec_l3Heads.f kj3 a0_0 a0_1 a0_2 l0_3 a0_4).bind fun t628 => ((spec_l1One.f kj3 a0_2 1).bind fun t631 => ((spec_l3Wholes.f kj3 a0_0 a0_1 a0_2 l0_3 a0_4 0 t631 (([] : List Bool))).bind fun t635 => ((spec_l3Behind.f kj3 t628 t635 a1).bind fun t638 => (if t638 < (t628.length : Int) then (if 0 ≤ t638 then (some (!(Op.bytesLess a2.toList ((rdOf ByteArray.empty t628 t638).toList)))) else (none)) else (some false)))))) = some r := by rw [if_neg (show ¬ (false = true) by decide)] at H; exact H
    clear H; have H := H1; clear H1; replace H := zi H; obtain ⟨t628, A21, H⟩ := H; replace H := zi H; obtain ⟨t631, A22, H⟩ := H; obtain ⟨y632, hy632⟩ : ∃ y_ : List Bool, y_ = (([] : List Bool)) := ⟨_, rfl⟩; replace H : ((spec_l3Wholes.f kj3 a0_0 a0_1 a0_2 l0_3 a0_4 0 t631 y632).bind fun t635 => ((spec_l3Behind.f kj3 t628 t635 a1).bind fun t638 => (if t638 < (t628.length : Int) then (if 0 ≤ t638 then (some (!(Op.bytesLess a2.toList ((rdOf ByteArray.empty t628 t638).toList)))) else (none)) else (some false)))) = some r := zH2 hy632 H; have Ny632 := z0 hy632; clear hy632; replace H := zi H; obtain ⟨t635, A23, H⟩ := H; replace H := zi H; obtain ⟨t638, A24, H⟩ := H
    by_cases c25 : t638 < (t628.length : Int)
    ·rw [if_pos c25] at H; have c25b0 := decide_eq_true c25; clear c25; replace H := zn H; obtain ⟨c26, H⟩ := H; have c26b0 := decide_eq_true c26; clear c26; obtain rfl := Option.some.inj H; have hcz27 := zc5 BK624.out
     try go_wp2_with (first | ((with_reducible refine gc 82 ?_); refine zL (some 28) Try.func82 #[.agg #[.string a0_0, .string a0_1, .string a0_2, .slice A0_3 l0_3.length c0_3, .int .i64 a0_4]] ?_; (with_reducible refine (spec_l3Heads.calls kj3 a0_0 a0_1 a0_2 _ _ l0_3 a0_4 t628 _ (zC (Kd.C_below HR0_3.out HB.out)) HC0_3.out A21.out).mono ?_); rintro e w28 ⟨v629, rfl, ho0, hb⟩; refine zv ?_; have HO630 := z0 (Kd.R_lower ho0 (below_size (zb HB.out))); replace BK624 := zK BK624 hb; replace HB := zH HB hb; (try clear hb ho0); obtain ⟨Ao29, co29, eo29⟩ := Kd.R_slice HO630.out; subst eo29))
     replace HO630 := z0 (Kd.R_drew HO630.out); replace BK624 := z0 (blk_drew BK624.out); replace HB := z0 (below_drew1 HB.out); refine start_ (n := 10) (S := fun w' => w'.cell? ⟨gb624, 0, none⟩ = some (.string a0_0) ∧ w'.cell? ⟨gb624, 1, none⟩ = some (.string a0_1) ∧ w'.cell? ⟨gb624, 2, none⟩ = some (.string a0_2) ∧ w'.cell? ⟨gb624, 3, none⟩ = some (.slice A0_3 l0_3.length c0_3) ∧ w'.cell? ⟨gb624, 4, none⟩ = some (.int .i64 a0_4)) (ds := []) (fb 10 0) (by kernel_rfl) rfl rfl (zb5 BK624.out) (fun hHeld => ?_); refine with_tabW spec_SieveMeets.tab4 spec_SieveMeets.bits4 (fun HT_ HW_ => ?_); generalize w28.drew = w30 at HO630 BK624 HB hHeld ⊢; refine zu 0 1 ?_; refine zu 2 5 ?_; refine zu 7 133 ?_; refine zx 1 135 hHeld ?_; refine zx 3 143 hHeld ?_; refine join_ (σ := Value) 3 (fb 10 191) (fun s_ => [(33, .int .i64 t631), (34, s_)]) (fun s_ w' => (w'.cell? ⟨gb624, 0, none⟩ = some (.string a0_0) ∧ w'.cell? ⟨gb624, 1, none⟩ = some (.string a0_1) ∧ w'.cell? ⟨gb624, 2, none⟩ = some (.string a0_2) ∧ w'.cell? ⟨gb624, 3, none⟩ = some (.slice A0_3 l0_3.length c0_3) ∧ w'.cell? ⟨gb624, 4, none⟩ = some (.int .i64 a0_4)) ∧ (Kd.R Kd.string 9 w' w.heap.size (fun _ => True) (.slice Ao29 t628.length co29) t628) ∧ (Kd.R Kd.bool 4 w' w.heap.size (fun _ => True) s_ y632) ∧ (w'.heap[gb624]? = some (.cells #[.string a0_0, .string a0_1, .string a0_2, .slice A0_3 l0_3.length c0_3, .int .i64 a0_4] 25 (0, 0))) ∧ (Below w.heap.size w w')) ?_ ?_; rotate_left
     ·intro hCont; refine two_ (i := 4) (j := 5) (Ni := some 33) (Nj := some 34) (fb 10 159) (fb 10 175) rfl rfl rfl rfl (two_of HT_.out (by kernel_rfl)) (by decide) (by decide) (fun K hK => ?_) (fun K hK => ?_)
      ·skip
       refine zG2 Try.func85 #[.string a0_2, .int .i64 1] ?_
       with_reducible refine (spec_l1One.calls kj3 a0_2 1 t631 _ A22.out).mono ?_
       rintro e w' ⟨rfl, ⟨nd, rfl⟩⟩; refine ⟨_, rfl, ?_⟩; refine hK.out _ _ (zb5 BK624.out) (fun hHeld => ?_); clear hK K; refine znm ?_; refine zone 5 191 (fun K hK => ?_); refine Kd.R_lit_step Kd.bool _ 4 ?hg (N := 34) ?hd (xs := ([] : List Bool)) (inner := []) (ok := fun _ => True) (okp := fun _ => True) ?hr ?hp (fun _ hk => hk) trivial (Below.refl _ _) (Nat.le_refl _) (by simp) ?_; (case hd => rfl); (case hg => rfl); (case hr => first | (go_simp; done) | (go_simp; rfl)); (case hp => exact (Reps.none _ _)); intro v633 w31 ho32 hb hg_ hnew_; clear hg_ hnew_; (first | rw [← Ny632.out] at ho32 | (simp only [Int.reduceToNat] at ho32; rw [← Ny632.out] at ho32)); replace HO630 := zA HO630 hb; have HO634 := z0 (Kd.R_lower ho32 (below_size (zb HB.out))); replace BK624 := zK BK624 hb; replace HB := zH HB hb; clear hb ho32; refine hK.out _ _ (zb5 BK624.out) (fun hHeld => ?_); clear hK K; refine znm ?_; exact norm_ (by simp only [putAll, Act.put, List.setIfInBounds_toArray, List.set_cons_zero, List.set_cons_succ]) (hCont (v633) _ ⟨hHeld, (zr HO630.out), (zr HO634.out), (zl BK624.out), (zb HB.out)⟩)
      ·skip
       refine Kd.R_lit_step Kd.bool _ 4 ?hg (N := 34) ?hd (xs := ([] : List Bool)) (inner := []) (ok := fun _ => True) (okp := fun _ => True) ?hr ?hp (fun _ hk => hk) trivial (Below.refl _ _) (Nat.le_refl _) (by simp) ?_; (case hd => rfl); (case hg => rfl); (case hr => first | (go_simp; done) | (go_simp; rfl)); (case hp => exact (Reps.none _ _)); intro v633 w31 ho32 hb hg_ hnew_; clear hg_ hnew_; (first | rw [← Ny632.out] at ho32 | (simp only [Int.reduceToNat] at ho32; rw [← Ny632.out] at ho32)); replace HO630 := zA HO630 hb; have HO634 := z0 (Kd.R_lower ho32 (below_size (zb HB.out))); replace BK624 := zK BK624 hb; replace HB := zH HB hb; clear hb ho32; refine hK.out _ _ (zb5 BK624.out) (fun hHeld => ?_); clear hK K; refine znm ?_; refine zone 4 191 (fun K hK => ?_); refine zG2 Try.func85 #[.string a0_2, .int .i64 1] ?_
       with_reducible refine (spec_l1One.calls kj3 a0_2 1 t631 _ A22.out).mono ?_
       rintro e w' ⟨rfl, ⟨nd, rfl⟩⟩; refine ⟨_, rfl, ?_⟩; refine hK.out _ _ (zb5 BK624.out) (fun hHeld => ?_); clear hK K; refine znm ?_; exact norm_ (by simp only [putAll, Act.put, List.setIfInBounds_toArray, List.set_cons_zero, List.set_cons_succ]) (hCont (v633) _ ⟨hHeld, (zr HO630.out), (zr HO634.out), (zl BK624.out), (zb HB.out)⟩)
     rintro v633 w33 ⟨hS_, h0_, h1_, h2_, h3_⟩; have n0_ : Aside0 (Kd.R Kd.string 9 w33 w.heap.size (fun _ => True) (.slice Ao29 t628.length co29) t628) := ⟨h0_⟩; have n1_ : Aside0 (Kd.R Kd.bool 4 w33 w.heap.size (fun _ => True) v633 y632) := ⟨h1_⟩; have n2_ : Aside0 (w33.heap[gb624]? = some (.cells #[.string a0_0, .string a0_1, .string a0_2, .slice A0_3 l0_3.length c0_3, .int .i64 a0_4] 25 (0, 0))) := ⟨h2_⟩; have n3_ : Aside0 (Below w.heap.size w w33) := ⟨h3_⟩; clear HO630; clear BK624; clear HB; clear h0_ h1_ h2_ h3_; have HO630 := n0_; have HO634 := n1_; have BK624 := n2_; have HB := n3_; clear n0_ n1_ n2_ n3_; have hHeld : w33.cell? ⟨gb624, 0, none⟩ = some (.string a0_0) ∧ w33.cell? ⟨gb624, 1, none⟩ = some (.string a0_1) ∧ w33.cell? ⟨gb624, 2, none⟩ = some (.string a0_2) ∧ w33.cell? ⟨gb624, 3, none⟩ = some (.slice A0_3 l0_3.length c0_3) ∧ w33.cell? ⟨gb624, 4, none⟩ = some (.int .i64 a0_4) := hS_; obtain ⟨Ao34, co34, eo34⟩ := Kd.R_slice HO634.out; (first | subst eo34 | (injection eo34 with f1_ f2_ f3_; have f4_ := f1_.symm; have f5_ := f3_.symm; clear f1_ f2_ f3_; subst f4_; subst f5_)); refine norm_ (a' := ?_) ?_ ?_; rotate_left
     ·simp only [putAll, Act.put, List.setIfInBounds_toArray, List.set_cons_zero, List.set_cons_succ]
      rfl
     refine zone 6 255 (fun K hK => ?_); refine zG2 Try.func84 #[.agg #[.string a0_0, .string a0_1, .string a0_2, .slice A0_3 l0_3.length c0_3, .int .i64 a0_4], .int .i64 0, .int .i64 t631, .slice Ao34 y632.length co34] ?_
     with_reducible refine (spec_l3Wholes.calls kj3 a0_0 a0_1 a0_2 _ _ l0_3 a0_4 0 t631 (fun k_ => some k_ = (.slice Ao34 y632.length co34 : Value).ownBlock) (.slice Ao34 y632.length co34) y632 t635 w _ ?side1 ?side2 ?side3 ?side4 A23.out).mono ?_
     (case side1 => repeat (first | (with_reducible first | exact HB.out | apply below_alloc | apply pw_below_drewN | apply below_drew1 | refine below_set ?_ GE624.out) | exact HB.out)); (case side2 => exact Kd.C_kept_came Kd.heap_string HR0_3.out (zb HB.out) (fun k_ hs_ => (fun e_ => Kd.R_base HO634.out k_ e_.symm) hs_)); (case side3 => exact HC0_3.out); (case side4 => exact Kd.R_tight rfl HO634.out); rintro e w35 ⟨v636, rfl, ho0, hb, hkp⟩; refine ⟨_, rfl, ?_⟩; replace BK624 := z0 (blk_kept (zl BK624.out) hkp (fun hs_ => (fun e_ => (Kd.R_ne HO634.out BK624.out (by decide)) e_) hs_)); replace HO630 := z0 (Kd.R_mono (ok' := fun k_ => True) (Kd.R_keptB ((Kd.R_apart' HO630.out (Kd.R_typed HO634.out) (by decide))) hkp (fun k_ hk_ hs_ => (hk_.2) hs_)) (fun k_ hk_ => trivial)); have HO637 := z0 (Kd.R_mono (ok' := fun k_ => True) ho0 (fun k_ hk_ => trivial)); replace HB := z0 (hb); clear HO634; (try clear hb); (try clear hkp); (try clear ho0); obtain ⟨Ao36, co36, eo36⟩ := Kd.R_slice HO637.out; (first | subst eo36 | (injection eo36 with f1_ f2_ f3_; have f4_ := f1_.symm; have f5_ := f3_.symm; clear f1_ f2_ f3_; subst f4_; subst f5_)); refine hK.out _ _ (zb5 BK624.out) (fun hHeld => ?_); clear hK K; refine znm ?_; refine zone 8 511 (fun K hK => ?_); refine zG2 Try.func83 #[.slice Ao29 t628.length co29, .slice Ao36 t635.length co36, .string a1] ?_
     with_reducible refine (spec_l3Behind.calls kj3 _ _ t628 _ _ t635 a1 t638 _ ?side1 ?side2 ?side3 ?side4 A24.out).mono ?_
     (case side1 => repeat (first | exact (Kd.R_reads' HO630.out).2.2 | (with_reducible refine Kd.C_alloc ?_ _) | (with_reducible refine Kd.C_drewN ?_ _) | (with_reducible refine Kd.C_drew ?_))); (case side2 => exact (Kd.R_reads' HO630.out).2.1); (case side3 => repeat (first | exact (Kd.R_reads' HO637.out).2.2 | (with_reducible refine Kd.C_alloc ?_ _) | (with_reducible refine Kd.C_drewN ?_ _) | (with_reducible refine Kd.C_drew ?_))); (case side4 => exact (Kd.R_reads' HO637.out).2.1); rintro e w' ⟨rfl, ⟨nd, rfl⟩⟩; refine ⟨_, rfl, ?_⟩; refine hK.out _ _ (zb5 BK624.out) (fun hHeld => ?_); clear hK K; refine znm ?_; refine zu 9 1023 ?_; refine done_ (done_of HT_.out (by kernel_rfl)) ?_; have p639 : 0 ≤ (t638 : Int) := zd; have q639 : t638 < (t628.length : Int) := zd; obtain ⟨ad639, e639, hx639_0⟩ := Kd.at_string (Kd.R_reads' HO630.out).2.2 t638 p639 q639; cases e639; replace p639 := eq_true p639; replace q639 := eq_true q639
     try go_wp2
     go_ret; exact ⟨ze, zb HB.out⟩
    ·rw [if_neg c25] at H; have c25b0 := decide_eq_false c25; clear c25; obtain rfl := Option.some.inj H; have hcz37 := zc5 BK624.out
     try go_wp2_with (first | ((with_reducible refine gc 82 ?_); refine zL (some 28) Try.func82 #[.agg #[.string a0_0, .string a0_1, .string a0_2, .slice A0_3 l0_3.length c0_3, .int .i64 a0_4]] ?_; (with_reducible refine (spec_l3Heads.calls kj3 a0_0 a0_1 a0_2 _ _ l0_3 a0_4 t628 _ (zC (Kd.C_below HR0_3.out HB.out)) HC0_3.out A21.out).mono ?_); rintro e w38 ⟨v629, rfl, ho0, hb⟩; refine zv ?_; have HO630 := z0 (Kd.R_lower ho0 (below_size (zb HB.out))); replace BK624 := zK BK624 hb; replace HB := zH HB hb; (try clear hb ho0); obtain ⟨Ao39, co39, eo39⟩ := Kd.R_slice HO630.out; subst eo39))
     replace HO630 := z0 (Kd.R_drew HO630.out); replace BK624 := z0 (blk_drew BK624.out); replace HB := z0 (below_drew1 HB.out); refine start_ (n := 10) (S := fun w' => w'.cell? ⟨gb624, 0, none⟩ = some (.string a0_0) ∧ w'.cell? ⟨gb624, 1, none⟩ = some (.string a0_1) ∧ w'.cell? ⟨gb624, 2, none⟩ = some (.string a0_2) ∧ w'.cell? ⟨gb624, 3, none⟩ = some (.slice A0_3 l0_3.length c0_3) ∧ w'.cell? ⟨gb624, 4, none⟩ = some (.int .i64 a0_4)) (ds := []) (fb 10 0) (by kernel_rfl) rfl rfl (zb5 BK624.out) (fun hHeld => ?_); refine with_tabW spec_SieveMeets.tab4 spec_SieveMeets.bits4 (fun HT_ HW_ => ?_); generalize w38.drew = w40 at HO630 BK624 HB hHeld ⊢; refine zu 0 1 ?_; refine zu 2 5 ?_; refine zu 7 133 ?_; refine zx 1 135 hHeld ?_; refine zx 3 143 hHeld ?_; refine join_ (σ := Value) 3 (fb 10 191) (fun s_ => [(33, .int .i64 t631), (34, s_)]) (fun s_ w' => (w'.cell? ⟨gb624, 0, none⟩ = some (.string a0_0) ∧ w'.cell? ⟨gb624, 1, none⟩ = some (.string a0_1) ∧ w'.cell? ⟨gb624, 2, none⟩ = some (.string a0_2) ∧ w'.cell? ⟨gb624, 3, none⟩ = some (.slice A0_3 l0_3.length c0_3) ∧ w'.cell? ⟨gb624, 4, none⟩ = some (.int .i64 a0_4)) ∧ (Kd.R Kd.string 9 w' w.heap.size (fun _ => True) (.slice Ao39 t628.length co39) t628) ∧ (Kd.R Kd.bool 4 w' w.heap.size (fun _ => True) s_ y632) ∧ (w'.heap[gb624]? = some (.cells #[.string a0_0, .string a0_1, .string a0_2, .slice A0_3 l0_3.length c0_3, .int .i64 a0_4] 25 (0, 0))) ∧ (Below w.heap.size w w')) ?_ ?_; rotate_left
     ·intro hCont; refine two_ (i := 4) (j := 5) (Ni := some 33) (Nj := some 34) (fb 10 159) (fb 10 175) rfl rfl rfl rfl (two_of HT_.out (by kernel_rfl)) (by decide) (by decide) (fun K hK => ?_) (fun K hK => ?_)
      ·skip
       refine zG2 Try.func85 #[.string a0_2, .int .i64 1] ?_
       with_reducible refine (spec_l1One.calls kj3 a0_2 1 t631 _ A22.out).mono ?_
       rintro e w' ⟨rfl, ⟨nd, rfl⟩⟩; refine ⟨_, rfl, ?_⟩; refine hK.out _ _ (zb5 BK624.out) (fun hHeld => ?_); clear hK K; refine znm ?_; refine zone 5 191 (fun K hK => ?_); refine Kd.R_lit_step Kd.bool _ 4 ?hg (N := 34) ?hd (xs := ([] : List Bool)) (inner := []) (ok := fun _ => True) (okp := fun _ => True) ?hr ?hp (fun _ hk => hk) trivial (Below.refl _ _) (Nat.le_refl _) (by simp) ?_; (case hd => rfl); (case hg => rfl); (case hr => first | (go_simp; done) | (go_simp; rfl)); (case hp => exact (Reps.none _ _)); intro v633 w41 ho42 hb hg_ hnew_; clear hg_ hnew_; (first | rw [← Ny632.out] at ho42 | (simp only [Int.reduceToNat] at ho42; rw [← Ny632.out] at ho42)); replace HO630 := zA HO630 hb; have HO634 := z0 (Kd.R_lower ho42 (below_size (zb HB.out))); replace BK624 := zK BK624 hb; replace HB := zH HB hb; clear hb ho42; refine hK.out _ _ (zb5 BK624.out) (fun hHeld => ?_); clear hK K; refine znm ?_; exact norm_ (by simp only [putAll, Act.put, List.setIfInBounds_toArray, List.set_cons_zero, List.set_cons_succ]) (hCont (v633) _ ⟨hHeld, (zr HO630.out), (zr HO634.out), (zl BK624.out), (zb HB.out)⟩)
      ·skip
       refine Kd.R_lit_step Kd.bool _ 4 ?hg (N := 34) ?hd (xs := ([] : List Bool)) (inner := []) (ok := fun _ => True) (okp := fun _ => True) ?hr ?hp (fun _ hk => hk) trivial (Below.refl _ _) (Nat.le_refl _) (by simp) ?_; (case hd => rfl); (case hg => rfl); (case hr => first | (go_simp; done) | (go_simp; rfl)); (case hp => exact (Reps.none _ _)); intro v633 w41 ho42 hb hg_ hnew_; clear hg_ hnew_; (first | rw [← Ny632.out] at ho42 | (simp only [Int.reduceToNat] at ho42; rw [← Ny632.out] at ho42)); replace HO630 := zA HO630 hb; have HO634 := z0 (Kd.R_lower ho42 (below_size (zb HB.out))); replace BK624 := zK BK624 hb; replace HB := zH HB hb; clear hb ho42; refine hK.out _ _ (zb5 BK624.out) (fun hHeld => ?_); clear hK K; refine znm ?_; refine zone 4 191 (fun K hK => ?_); refine zG2 Try.func85 #[.string a0_2, .int .i64 1] ?_
       with_reducible refine (spec_l1One.calls kj3 a0_2 1 t631 _ A22.out).mono ?_
       rintro e w' ⟨rfl, ⟨nd, rfl⟩⟩; refine ⟨_, rfl, ?_⟩; refine hK.out _ _ (zb5 BK624.out) (fun hHeld => ?_); clear hK K; refine znm ?_; exact norm_ (by simp only [putAll, Act.put, List.setIfInBounds_toArray, List.set_cons_zero, List.set_cons_succ]) (hCont (v633) _ ⟨hHeld, (zr HO630.out), (zr HO634.out), (zl BK624.out), (zb HB.out)⟩)
     rintro v633 w43 ⟨hS_, h0_, h1_, h2_, h3_⟩; have n0_ : Aside0 (Kd.R Kd.string 9 w43 w.heap.size (fun _ => True) (.slice Ao39 t628.length co39) t628) := ⟨h0_⟩; have n1_ : Aside0 (Kd.R Kd.bool 4 w43 w.heap.size (fun _ => True) v633 y632) := ⟨h1_⟩; have n2_ : Aside0 (w43.heap[gb624]? = some (.cells #[.string a0_0, .string a0_1, .string a0_2, .slice A0_3 l0_3.length c0_3, .int .i64 a0_4] 25 (0, 0))) := ⟨h2_⟩; have n3_ : Aside0 (Below w.heap.size w w43) := ⟨h3_⟩; clear HO630; clear BK624; clear HB; clear h0_ h1_ h2_ h3_; have HO630 := n0_; have HO634 := n1_; have BK624 := n2_; have HB := n3_; clear n0_ n1_ n2_ n3_; have hHeld : w43.cell? ⟨gb624, 0, none⟩ = some (.string a0_0) ∧ w43.cell? ⟨gb624, 1, none⟩ = some (.string a0_1) ∧ w43.cell? ⟨gb624, 2, none⟩ = some (.string a0_2) ∧ w43.cell? ⟨gb624, 3, none⟩ = some (.slice A0_3 l0_3.length c0_3) ∧ w43.cell? ⟨gb624, 4, none⟩ = some (.int .i64 a0_4) := hS_; obtain ⟨Ao44, co44, eo44⟩ := Kd.R_slice HO634.out; (first | subst eo44 | (injection eo44 with f1_ f2_ f3_; have f4_ := f1_.symm; have f5_ := f3_.symm; clear f1_ f2_ f3_; subst f4_; subst f5_)); refine norm_ (a' := ?_) ?_ ?_; rotate_left
     ·simp only [putAll, Act.put, List.setIfInBounds_toArray, List.set_cons_zero, List.set_cons_succ]
      rfl
     refine zone 6 255 (fun K hK => ?_); refine zG2 Try.func84 #[.agg #[.string a0_0, .string a0_1, .string a0_2, .slice A0_3 l0_3.length c0_3, .int .i64 a0_4], .int .i64 0, .int .i64 t631, .slice Ao44 y632.length co44] ?_
     with_reducible refine (spec_l3Wholes.calls kj3 a0_0 a0_1 a0_2 _ _ l0_3 a0_4 0 t631 (fun k_ => some k_ = (.slice Ao44 y632.length co44 : Value).ownBlock) (.slice Ao44 y632.length co44) y632 t635 w _ ?side1 ?side2 ?side3 ?side4 A23.out).mono ?_
     (case side1 => repeat (first | (with_reducible first | exact HB.out | apply below_alloc | apply pw_below_drewN | apply below_drew1 | refine below_set ?_ GE624.out) | exact HB.out)); (case side2 => exact Kd.C_kept_came Kd.heap_string HR0_3.out (zb HB.out) (fun k_ hs_ => (fun e_ => Kd.R_base HO634.out k_ e_.symm) hs_)); (case side3 => exact HC0_3.out); (case side4 => exact Kd.R_tight rfl HO634.out); rintro e w45 ⟨v636, rfl, ho0, hb, hkp⟩; refine ⟨_, rfl, ?_⟩; replace BK624 := z0 (blk_kept (zl BK624.out) hkp (fun hs_ => (fun e_ => (Kd.R_ne HO634.out BK624.out (by decide)) e_) hs_)); replace HO630 := z0 (Kd.R_mono (ok' := fun k_ => True) (Kd.R_keptB ((Kd.R_apart' HO630.out (Kd.R_typed HO634.out) (by decide))) hkp (fun k_ hk_ hs_ => (hk_.2) hs_)) (fun k_ hk_ => trivial)); have HO637 := z0 (Kd.R_mono (ok' := fun k_ => True) ho0 (fun k_ hk_ => trivial)); replace HB := z0 (hb); clear HO634; (try clear hb); (try clear hkp); (try clear ho0); obtain ⟨Ao46, co46, eo46⟩ := Kd.R_slice HO637.out; (first | subst eo46 | (injection eo46 with f1_ f2_ f3_; have f4_ := f1_.symm; have f5_ := f3_.symm; clear f1_ f2_ f3_; subst f4_; subst f5_)); refine hK.out _ _ (zb5 BK624.out) (fun hHeld => ?_); clear hK K; refine znm ?_; refine zone 8 511 (fun K hK => ?_); refine zG2 Try.func83 #[.slice Ao39 t628.length co39, .slice Ao46 t635.length co46, .string a1] ?_
     with_reducible refine (spec_l3Behind.calls kj3 _ _ t628 _ _ t635 a1 t638 _ ?side1 ?side2 ?side3 ?side4 A24.out).mono ?_
     (case side1 => repeat (first | exact (Kd.R_reads' HO630.out).2.2 | (with_reducible refine Kd.C_alloc ?_ _) | (with_reducible refine Kd.C_drewN ?_ _) | (with_reducible refine Kd.C_drew ?_))); (case side2 => exact (Kd.R_reads' HO630.out).2.1); (case side3 => repeat (first | exact (Kd.R_reads' HO637.out).2.2 | (with_reducible refine Kd.C_alloc ?_ _) | (with_reducible refine Kd.C_drewN ?_ _) | (with_reducible refine Kd.C_drew ?_))); (case side4 => exact (Kd.R_reads' HO637.out).2.1); rintro e w' ⟨rfl, ⟨nd, rfl⟩⟩; refine ⟨_, rfl, ?_⟩; refine hK.out _ _ (zb5 BK624.out) (fun hHeld => ?_); clear hK K; refine znm ?_; refine zu 9 1023 ?_; refine done_ (done_of HT_.out (by kernel_rfl)) ?_
     try go_wp2
     go_ret; exact ⟨ze, zb HB.out⟩
theorem laws_FnExactSieveMeets.mono : ∀ a0 a1 a2 a3 a4 a5 a6 k, LeO (laws_FnExactSieveMeets.f k a0 a1 a2 a3 a4 a5 a6) (laws_FnExactSieveMeets.f (k + 1) a0 a1 a2 a3 a4 a5 a6) := by
  intro a0 a1 a2 a3 a4 a5 a6 k
  unfold laws_FnExactSieveMeets.f
  repeat' first | (with_reducible first | apply impl_SieveMeets.mono | apply laws_eqSieve.mono | apply laws_szSieve.mono | apply laws_toSieve.mono | apply spec_SieveMeets.mono | exact LeO.refl _ | exact LeO.none _ | refine LeO.ite ?_ ?_ | refine LeO.bind ?_ (fun _ => ?_)) | exact LeO.none _ | refine LeO.ite ?_ ?_ | refine LeO.bind ?_ (fun _ => ?_)
theorem laws_FnExactSieveMeets.calls (k : Nat) (a0_0 a0_1 a0_2 : ByteArray) (A0_3 : Option Addr) (c0_3 : Nat) (l0_3 : List ByteArray) (a0_4 : Int) (a1 a2 : ByteArray) (r : Bool) (w : World) (hr0_3 : Kd.C Kd.string w A0_3 l0_3.length l0_3) (hc0_3 : l0_3.length ≤ c0_3) (h : laws_FnExactSieveMeets.f k a0_0 a0_1 a0_2 l0_3 a0_4 a1 a2 = some r) :
    Calls Try.prog 20 #[.agg #[.string a0_0, .string a0_1, .string a0_2, .slice A0_3 l0_3.length c0_3, .int .i64 a0_4], .string a1, .string a2] w fun e w' => e = .returned (.bool r) ∧ Below w.heap.size w w' := by
 have hu49 := Try.underlying49; have hu25 := Try.underlying25; have HR0_3 := z0 hr0_3; have HC0_3 := z0 hc0_3; clear hr0_3 hc0_3; have HB := z0 (Below.refl w.heap.size w); have H : (if (a1.size : Int) > 1048576 then (some true) else (if (a2.size : Int) > 1048576 then (some true) else ((laws_szSieve.f k a0_0 a0_1 a0_2 l0_3 a0_4 1048576).bind fun t1427 => (if t1427 < 0 then (some true) else ((laws_toSieve.f k a0_0 a0_1 a0_2 l0_3 a0_4).bind fun bt1428 => ((spec_SieveMeets.f k bt1428.1 bt1428.2.1 bt1428.2.2.1 bt1428.2.2.2.1 bt1428.2.2.2.2 a1 a2).bind fun t1435 => ((laws_toSieve.f k a0_0 a0_1 a0_2 l0_3 a0_4).bind fun bt1436 => ((impl_SieveMeets.f k bt1436.1 bt1436.2.1 bt1436.2.2.1 bt1436.2.2.2.1 bt1436.2.2.2.2 a1 a2).bind fun t1444 => (if (t1444 != t1435) = true then (some false) else ((laws_toSieve.f k a0_0 a0_1 a0_2 l0_3 a0_4).bind fun bt1445 => ((laws_eqSieve.f k bt1436.1 bt1436.2.1 bt1436.2.2.1 bt1436.2.2.2.1 bt1436.2.2.2.2 bt1445.1 bt1445.2.1 bt1445.2.2.1 bt1445.2.2.2.1 bt1445.2.2.2.2).bind fun t1452 => (if t1452 = true then (some true) else (some false))))))))))))) = some r := h; clear h
 by_cases c4 : (a1.size : Int) > 1048576
 ·rw [if_pos c4] at H; have c4b0 : decide (1048576 < (a1.size : Int)) = true := decide_eq_true c4; have c4b1 : decide (1048576 < a1.size) = true := decide_eq_true (by omega); clear c4; obtain rfl := Option.some.inj H; go_enter Try.func20, Try.ntmps20
  go_wp2_with (first | ((with_reducible refine gd 3 ?_); refine zbx 49 #[.string a0_0, .string a0_1, .string a0_2, .slice A0_3 l0_3.length c0_3, .int .i64 a0_4] ?_; intro gb1426 hg w5 hbox hb; have BK1426 := z0 (hbox); have GE1426 := zG hg HB; replace HB := zH HB hb; clear hb hbox hg))
  go_ret; exact ⟨ze, zb HB.out⟩
 ·rw [if_neg c4] at H; have c4b0 : decide (1048576 < (a1.size : Int)) = false := decide_eq_false c4; have c4b1 : decide (1048576 < a1.size) = false := decide_eq_false (by omega); clear c4
  by_cases c6 : (a2.size : Int) > 1048576
  ·rw [if_pos c6] at H; have c6b0 : decide (1048576 < (a2.size : Int)) = true := decide_eq_true c6; have c6b1 : decide (1048576 < a2.size) = true := decide_eq_true (by omega); clear c6; obtain rfl := Option.some.inj H; go_enter Try.func20, Try.ntmps20
   go_wp2_with (first | ((with_reducible refine gd 3 ?_); refine zbx 49 #[.string a0_0, .string a0_1, .string a0_2, .slice A0_3 l0_3.length c0_3, .int .i64 a0_4] ?_; intro gb1426 hg w7 hbox hb; have BK1426 := z0 (hbox); have GE1426 := zG hg HB; replace HB := zH HB hb; clear hb hbox hg))
   go_ret; exact ⟨ze, zb HB.out⟩
  ·rw [if_neg c6] at H; have c6b0 : decide (1048576 < (a2.size : Int)) = false := decide_eq_false c6; have c6b1 : decide (1048576 < a2.size) = false := decide_eq_false (by omega); clear c6; replace H := zi H; obtain ⟨t1427, A8, H⟩ := H; go_enter Try.func20, Try.ntmps20
   go_upto_if 21 with (first | ((with_reducible refine gd 3 ?_); refine zbx 49 #[.string a0_0, .string a0_1, .string a0_2, .slice A0_3 l0_3.length c0_3, .int .i64 a0_4] ?_; intro gb1426 hg w9 hbox hb; have BK1426 := z0 (hbox); have GE1426 := zG hg HB; replace HB := zH HB hb; clear hb hbox hg; have hcz10 := zc5 BK1426.out) | ((with_reducible refine gc 45 ?_); refine zL (some 19) Try.func45 #[.agg #[.string a0_0, .string a0_1, .string a0_2, .slice A0_3 l0_3.length c0_3, .int .i64 a0_4], .int .i64 1048576] ?_; (with_reducible refine (laws_szSieve.calls k a0_0 a0_1 a0_2 _ _ l0_3 a0_4 1048576 t1427 _ (zC (Kd.C_below HR0_3.out HB.out)) HC0_3.out A8.out).mono ?_); rintro e w11 ⟨rfl, hb⟩; refine zv ?_; replace BK1426 := zK BK1426 hb; replace HB := zH HB hb; (try clear hb)))
   by_cases c12 : t1427 < 0
   ·rw [if_pos c12] at H; have c12b0 := decide_eq_true c12; clear c12; (first | rw [c12b0] | (simp only [i64_w, i32_w]; rw [c12b0]) | simp only [*, Bool.not_true, Bool.not_false] | skip); obtain rfl := Option.some.inj H; go_wp2; go_ret; exact ⟨ze, zb HB.out⟩
   ·rw [if_neg c12] at H; have c12b0 := decide_eq_false c12; clear c12; (first | rw [c12b0] | (simp only [i64_w, i32_w]; rw [c12b0]) | simp only [*, Bool.not_true, Bool.not_false] | skip); replace H := zi H; obtain ⟨⟨t1428, t1429, t1430, t1431, t1434⟩, A13, H⟩ := H; (try dsimp only at H); replace H := zi H; obtain ⟨t1435, A14, H⟩ := H; replace H := zi H; obtain ⟨⟨t1436, t1437, t1438, t1439, t1442⟩, A15, H⟩ := H; (try dsimp only at H); replace H := zi H; obtain ⟨t1444, A16, H⟩ := H; have hcz17 := zc5 BK1426.out
    go_upto_if 35 with (first | ((with_reducible refine gc 47 ?_); refine zL (some 23) Try.func47 #[.agg #[.string a0_0, .string a0_1, .string a0_2, .slice A0_3 l0_3.length c0_3, .int .i64 a0_4]] ?_; (with_reducible refine (laws_toSieve.calls k a0_0 a0_1 a0_2 _ _ l0_3 a0_4 t1428 t1429 t1430 t1431 t1434 _ (zC (Kd.C_below HR0_3.out HB.out)) HC0_3.out A13.out).mono ?_); rintro e w18 ⟨v1432, rfl, ho0, hb⟩; refine zv ?_; have HO1433 := z0 (Kd.R_lower ho0 (below_size (zb HB.out))); replace BK1426 := zK BK1426 hb; replace HB := zH HB hb; (try clear hb ho0); obtain ⟨Ao19, co19, eo19⟩ := Kd.R_slice HO1433.out; subst eo19) | ((with_reducible refine gc 38 ?_); refine zL (some 26) Try.func38 #[.agg #[.string t1428, .string t1429, .string t1430, .slice Ao19 t1431.length co19, .int .i64 t1434], .string a1, .string a2] ?_; (with_reducible refine (spec_SieveMeets.calls k t1428 t1429 t1430 _ _ t1431 t1434 a1 a2 t1435 _ (zC ((Kd.R_reads' HO1433.out).2.2)) ((Kd.R_reads' HO1433.out).2.1) A14.out).mono ?_); rintro e w20 ⟨rfl, hb⟩; refine zv ?_; replace HO1433 := zA HO1433 hb; replace BK1426 := zK BK1426 hb; replace HB := zH HB hb; (try clear hb); have hcz21 := zc5 BK1426.out) | ((with_reducible refine gc 47 ?_); refine zL (some 28) Try.func47 #[.agg #[.string a0_0, .string a0_1, .string a0_2, .slice A0_3 l0_3.length c0_3, .int .i64 a0_4]] ?_; (with_reducible refine (laws_toSieve.calls k a0_0 a0_1 a0_2 _ _ l0_3 a0_4 t1436 t1437 t1438 t1439 t1442 _ (zC (Kd.C_below HR0_3.out HB.out)) HC0_3.out A15.out).mono ?_); rintro e w22 ⟨v1440, rfl, ho0, hb⟩; refine zv ?_; have HO1441 := z0 (Kd.R_lower (Kd.R_new' ho0 (Kd.R_lt (zr HO1433.out))) (below_size (zb HB.out))); replace HO1433 := z0 (Kd.R_elder' (zr HO1433.out) (Kd.R_base ho0) hb); replace BK1426 := zK BK1426 hb; replace HB := zH HB hb; (try clear hb ho0)) | ((with_reducible refine gd 9 ?_); refine zbx 25 #[.string ⟨#[]⟩, .string ⟨#[]⟩, .string ⟨#[]⟩, .slice none 0 0, .int .i64 0] ?_; intro gb1443 hg w23 hbox hb; replace HO1433 := zA HO1433 hb; replace HO1441 := zA HO1441 hb; have BK1443 := z0 (hbox); have GE1443 := zG hg HB; replace HB := zH HB hb; have NB1426_1443 := zLt hg BK1426; have NB1443_1426 := zGt hg BK1426; replace BK1426 := zK BK1426 hb; clear hb hbox hg; have hnb24 := NB1443_1426.out; have hnc24 := NB1426_1443.out; have hcz25 := zc5 BK1443.out; obtain ⟨Ao26, co26, eo26⟩ := Kd.R_slice HO1441.out; subst eo26) | ((with_reducible refine gc 32 ?_); refine zL (some 32) Try.func32 #[.agg #[.string t1436, .string t1437, .string t1438, .slice Ao26 t1439.length co26, .int .i64 t1442], .string a1, .string a2] ?_; (with_reducible refine (impl_SieveMeets.calls k t1436 t1437 t1438 _ _ t1439 t1442 a1 a2 t1444 _ ?side1 ((Kd.R_reads' HO1441.out).2.1) A16.out).mono ?_); (case side1 => refine (Kd.R_reads' (e := 9) (base := w.heap.size) (ok := fun k_ => (True ∧ some k_ ≠ (.slice Ao19 t1431.length co19 : Value).ownBlock)) (n := t1439.length) (c := co26) ?_).2.2; exact (zs HO1441.out BK1443.out)); rintro e w27 ⟨rfl, hb⟩; refine zv ?_; replace HO1433 := zAs HO1433 BK1443 hb; replace HO1441 := zAs HO1441 BK1443 hb; replace BK1426 := zKy BK1426 hb; replace BK1443 := z0 (blk_below (zpc BK1443.out #[.string t1436, .string t1437, .string t1438, .slice Ao26 t1439.length co26, .int .i64 t1442]) hb); replace HB := zH HB hb; (try clear hb)))
    by_cases c28 : (t1444 != t1435) = true
    ·rw [if_pos c28] at H; have c28b0 : (t1444 != t1435) = true := c28; (try (have c28b1 : decide (t1444 = t1435) = false := by simpa using c28)); (try (have c28b2 : (t1444 == t1435) = false := by simpa using c28)); (try (have c28b3 : ¬ (t1444 = t1435) := by simpa using c28)); clear c28; (first | rw [c28b0] | (simp only [i64_w, i32_w]; rw [c28b0]) | simp only [*, Bool.not_true, Bool.not_false] | skip); obtain rfl := Option.some.inj H; go_wp2; go_ret; exact ⟨ze, zb HB.out⟩
    ·rw [if_neg c28] at H
     have c28b0 : (t1444 != t1435) = false := by simpa using c28
     (try (have c28b1 : decide (t1444 = t1435) = true := by simpa using c28)); (try (have c28b2 : (t1444 == t1435) = true := by simpa using c28)); clear c28; (first | rw [c28b0] | (simp only [i64_w, i32_w]; rw [c28b0]) | simp only [*, Bool.not_true, Bool.not_false] | skip); replace H := zi H; obtain ⟨⟨t1445, t1446, t1447, t1448, t1451⟩, A29, H⟩ := H; (try dsimp only at H); replace H := zi H; obtain ⟨t1452, A30, H⟩ := H
     by_cases c31 : t1452 = true
     ·subst c31
      have H1 : (some true) = some r := by rw [if_pos rfl] at H; exact H
      clear H; have H := H1; clear H1; obtain rfl := Option.some.inj H
      try go_wp2
      replace HO1433 := z0 (Kd.R_drew HO1433.out); replace HO1441 := z0 (Kd.R_drew HO1441.out); replace BK1426 := z0 (blk_drew BK1426.out); replace BK1443 := z0 (blk_drew BK1443.out); replace HB := z0 (below_drew1 HB.out); refine start_ (n := 5) (S := fun w' => w'.cell? ⟨gb1443, 0, none⟩ = some (.string t1436) ∧ w'.cell? ⟨gb1443, 1, none⟩ = some (.string t1437) ∧ w'.cell? ⟨gb1443, 2, none⟩ = some (.string t1438) ∧ w'.cell? ⟨gb1443, 3, none⟩ = some (.slice Ao26 t1439.length co26) ∧ w'.cell? ⟨gb1443, 4, none⟩ = some (.int .i64 t1442) ∧ w'.cell? ⟨gb1426, 0, none⟩ = some (.string a0_0) ∧ w'.cell? ⟨gb1426, 1, none⟩ = some (.string a0_1) ∧ w'.cell? ⟨gb1426, 2, none⟩ = some (.string a0_2) ∧ w'.cell? ⟨gb1426, 3, none⟩ = some (.slice A0_3 l0_3.length c0_3) ∧ w'.cell? ⟨gb1426, 4, none⟩ = some (.int .i64 a0_4)) (ds := []) (fb 5 0) (by kernel_rfl) rfl rfl (zd5 BK1443.out ⟨(blk_cell BK1426.out 0).trans rfl, (blk_cell BK1426.out 1).trans rfl, (blk_cell BK1426.out 2).trans rfl, (blk_cell BK1426.out 3).trans rfl, (blk_cell BK1426.out 4).trans rfl⟩) (fun hHeld => ?_); generalize w27.drew = w32 at HO1433 HO1441 BK1426 BK1443 HB hHeld ⊢; refine zx 0 1 hHeld ?_; refine zx 1 3 hHeld ?_; refine zone 2 7 (fun K hK => ?_); refine zG2 Try.func47 #[.agg #[.string a0_0, .string a0_1, .string a0_2, .slice A0_3 l0_3.length c0_3, .int .i64 a0_4]] ?_
      with_reducible refine (laws_toSieve.calls k a0_0 a0_1 a0_2 _ _ l0_3 a0_4 t1445 t1446 t1447 t1448 t1451 _ ?side1 ?side2 A29.out).mono ?_
      (case side1 => repeat (first | exact (Kd.C_below HR0_3.out HB.out) | (with_reducible refine Kd.C_alloc ?_ _) | (with_reducible refine Kd.C_drewN ?_ _) | (with_reducible refine Kd.C_drew ?_))); (case side2 => exact HC0_3.out); rintro e w33 ⟨v1449, rfl, ho0, hb⟩; refine ⟨_, rfl, ?_⟩; have HO1450 := z0 (Kd.R_lower (Kd.R_new' (Kd.R_new' ho0 (Kd.R_lt (zr HO1433.out))) (Kd.R_lt (zr HO1441.out))) (below_size (zb HB.out))); replace HO1433 := z0 (Kd.R_elder' (zr HO1433.out) (Kd.R_base ho0) hb); replace HO1441 := z0 (Kd.R_elder' (zr HO1441.out) (Kd.R_base ho0) hb); replace BK1426 := zK BK1426 hb; replace BK1443 := zK BK1443 hb; replace HB := zH HB hb; (try clear hb ho0); obtain ⟨Ao34, co34, eo34⟩ := Kd.R_slice HO1450.out; (first | subst eo34 | (injection eo34 with f1_ f2_ f3_; have f4_ := f1_.symm; have f5_ := f3_.symm; clear f1_ f2_ f3_; subst f4_; subst f5_)); refine hK.out _ _ (zd5 BK1443.out ⟨(blk_cell BK1426.out 0).trans rfl, (blk_cell BK1426.out 1).trans rfl, (blk_cell BK1426.out 2).trans rfl, (blk_cell BK1426.out 3).trans rfl, (blk_cell BK1426.out 4).trans rfl⟩) (fun hHeld => ?_); clear hK K; refine znm ?_; refine zone 3 15 (fun K hK => ?_); refine zG2 Try.func49 #[.agg #[.string t1436, .string t1437, .string t1438, .slice Ao26 t1439.length co26, .int .i64 t1442], .agg #[.string t1445, .string t1446, .string t1447, .slice Ao34 t1448.length co34, .int .i64 t1451]] ?_
      with_reducible refine (laws_eqSieve.calls k t1436 t1437 t1438 _ _ t1439 t1442 t1445 t1446 t1447 _ _ t1448 t1451 true _ ?side1 ?side2 ?side3 ?side4 A30.out).mono ?_
      (case side1 => repeat (first | exact (Kd.R_reads' HO1441.out).2.2 | (with_reducible refine Kd.C_alloc ?_ _) | (with_reducible refine Kd.C_drewN ?_ _) | (with_reducible refine Kd.C_drew ?_))); (case side2 => exact (Kd.R_reads' HO1441.out).2.1); (case side3 => repeat (first | exact (Kd.R_reads' HO1450.out).2.2 | (with_reducible refine Kd.C_alloc ?_ _) | (with_reducible refine Kd.C_drewN ?_ _) | (with_reducible refine Kd.C_drew ?_))); (case side4 => exact (Kd.R_reads' HO1450.out).2.1); rintro e w35 ⟨rfl, hb⟩; refine ⟨_, rfl, ?_⟩; replace HO1433 := zA HO1433 hb; replace HO1441 := zA HO1441 hb; replace HO1450 := zA HO1450 hb; replace BK1426 := zK BK1426 hb; replace BK1443 := zK BK1443 hb; replace HB := zH HB hb; (try clear hb); refine hK.out _ _ (zd5 BK1443.out ⟨(blk_cell BK1426.out 0).trans rfl, (blk_cell BK1426.out 1).trans rfl, (blk_cell BK1426.out 2).trans rfl, (blk_cell BK1426.out 3).trans rfl, (blk_cell BK1426.out 4).trans rfl⟩) (fun hHeld => ?_); clear hK K; refine znm ?_; refine zu 4 31 ?_; refine done_ (by kernel_rfl) ?_
      try go_wp2
      go_ret; exact ⟨ze, zb HB.out⟩
     ·replace c31 := Bool.eq_false_iff.mpr c31; subst c31
      have H1 : (some false) = some r := by rw [if_neg (show ¬ (false = true) by decide)] at H; exact H
      clear H; have H := H1; clear H1; obtain rfl := Option.some.inj H
      try go_wp2
      replace HO1433 := z0 (Kd.R_drew HO1433.out); replace HO1441 := z0 (Kd.R_drew HO1441.out); replace BK1426 := z0 (blk_drew BK1426.out); replace BK1443 := z0 (blk_drew BK1443.out); replace HB := z0 (below_drew1 HB.out); refine start_ (n := 5) (S := fun w' => w'.cell? ⟨gb1443, 0, none⟩ = some (.string t1436) ∧ w'.cell? ⟨gb1443, 1, none⟩ = some (.string t1437) ∧ w'.cell? ⟨gb1443, 2, none⟩ = some (.string t1438) ∧ w'.cell? ⟨gb1443, 3, none⟩ = some (.slice Ao26 t1439.length co26) ∧ w'.cell? ⟨gb1443, 4, none⟩ = some (.int .i64 t1442) ∧ w'.cell? ⟨gb1426, 0, none⟩ = some (.string a0_0) ∧ w'.cell? ⟨gb1426, 1, none⟩ = some (.string a0_1) ∧ w'.cell? ⟨gb1426, 2, none⟩ = some (.string a0_2) ∧ w'.cell? ⟨gb1426, 3, none⟩ = some (.slice A0_3 l0_3.length c0_3) ∧ w'.cell? ⟨gb1426, 4, none⟩ = some (.int .i64 a0_4)) (ds := []) (fb 5 0) (by kernel_rfl) rfl rfl (zd5 BK1443.out ⟨(blk_cell BK1426.out 0).trans rfl, (blk_cell BK1426.out 1).trans rfl, (blk_cell BK1426.out 2).trans rfl, (blk_cell BK1426.out 3).trans rfl, (blk_cell BK1426.out 4).trans rfl⟩) (fun hHeld => ?_); generalize w27.drew = w36 at HO1433 HO1441 BK1426 BK1443 HB hHeld ⊢; refine zx 0 1 hHeld ?_; refine zx 1 3 hHeld ?_; refine zone 2 7 (fun K hK => ?_); refine zG2 Try.func47 #[.agg #[.string a0_0, .string a0_1, .string a0_2, .slice A0_3 l0_3.length c0_3, .int .i64 a0_4]] ?_
      with_reducible refine (laws_toSieve.calls k a0_0 a0_1 a0_2 _ _ l0_3 a0_4 t1445 t1446 t1447 t1448 t1451 _ ?side1 ?side2 A29.out).mono ?_
      (case side1 => repeat (first | exact (Kd.C_below HR0_3.out HB.out) | (with_reducible refine Kd.C_alloc ?_ _) | (with_reducible refine Kd.C_drewN ?_ _) | (with_reducible refine Kd.C_drew ?_))); (case side2 => exact HC0_3.out); rintro e w37 ⟨v1449, rfl, ho0, hb⟩; refine ⟨_, rfl, ?_⟩; have HO1450 := z0 (Kd.R_lower (Kd.R_new' (Kd.R_new' ho0 (Kd.R_lt (zr HO1433.out))) (Kd.R_lt (zr HO1441.out))) (below_size (zb HB.out))); replace HO1433 := z0 (Kd.R_elder' (zr HO1433.out) (Kd.R_base ho0) hb); replace HO1441 := z0 (Kd.R_elder' (zr HO1441.out) (Kd.R_base ho0) hb); replace BK1426 := zK BK1426 hb; replace BK1443 := zK BK1443 hb; replace HB := zH HB hb; (try clear hb ho0); obtain ⟨Ao38, co38, eo38⟩ := Kd.R_slice HO1450.out; (first | subst eo38 | (injection eo38 with f1_ f2_ f3_; have f4_ := f1_.symm; have f5_ := f3_.symm; clear f1_ f2_ f3_; subst f4_; subst f5_)); refine hK.out _ _ (zd5 BK1443.out ⟨(blk_cell BK1426.out 0).trans rfl, (blk_cell BK1426.out 1).trans rfl, (blk_cell BK1426.out 2).trans rfl, (blk_cell BK1426.out 3).trans rfl, (blk_cell BK1426.out 4).trans rfl⟩) (fun hHeld => ?_); clear hK K; refine znm ?_; refine zone 3 15 (fun K hK => ?_); refine zG2 Try.func49 #[.agg #[.string t1436, .string t1437, .string t1438, .slice Ao26 t1439.length co26, .int .i64 t1442], .agg #[.string t1445, .string t1446, .string t1447, .slice Ao38 t1448.length co38, .int .i64 t1451]] ?_
      with_reducible refine (laws_eqSieve.calls k t1436 t1437 t1438 _ _ t1439 t1442 t1445 t1446 t1447 _ _ t1448 t1451 false _ ?side1 ?side2 ?side3 ?side4 A30.out).mono ?_
      (case side1 => repeat (first | exact (Kd.R_reads' HO1441.out).2.2 | (with_reducible refine Kd.C_alloc ?_ _) | (with_reducible refine Kd.C_drewN ?_ _) | (with_reducible refine Kd.C_drew ?_))); (case side2 => exact (Kd.R_reads' HO1441.out).2.1); (case side3 => repeat (first | exact (Kd.R_reads' HO1450.out).2.2 | (with_reducible refine Kd.C_alloc ?_ _) | (with_reducible refine Kd.C_drewN ?_ _) | (with_reducible refine Kd.C_drew ?_))); (case side4 => exact (Kd.R_reads' HO1450.out).2.1); rintro e w39 ⟨rfl, hb⟩; refine ⟨_, rfl, ?_⟩; replace HO1433 := zA HO1433 hb; replace HO1441 := zA HO1441 hb; replace HO1450 := zA HO1450 hb; replace BK1426 := zK BK1426 hb; replace BK1443 := zK BK1443 hb; replace HB := zH HB hb; (try clear hb); refine hK.out _ _ (zd5 BK1443.out ⟨(blk_cell BK1426.out 0).trans rfl, (blk_cell BK1426.out 1).trans rfl, (blk_cell BK1426.out 2).trans rfl, (blk_cell BK1426.out 3).trans rfl, (blk_cell BK1426.out 4).trans rfl⟩) (fun hHeld => ?_); clear hK K; refine znm ?_; refine zu 4 31 ?_; refine done_ (by kernel_rfl) ?_
      try go_wp2
      go_ret; exact ⟨ze, zb HB.out⟩
end Go.Proofs.Ytifgcajpkgamgaa.Q
end
section
set_option linter.unusedVariables false
set_option linter.unusedSimpArgs false
namespace Go.Proofs.Ytifgcajpkgamgaa.Pure
open Go Go.RowKit Go.Proofs.YtifgcajpkgamgaaW.PrintWords Go.Proofs.YtifgcajpkgamgaaW.PrintLast Go.Proofs.YtifgcajpkgamgaaW.PrintMore Go.Proofs.Ytifgcajpkgamgaa.Trie Go.Proofs.Ytifgcajpkgamgaa.Q Go.Proofs.Ytifgcajpkgamgaa.Pb
theorem FnExactSieveMeets (Lt Mo Fi : ByteArray) (Rs : List ByteArray) (a : Int) (x y : ByteArray) (h0 : Lt.size ≤ 9223372036854775807) (h1 : Mo.size ≤ 9223372036854775807) (h2 : Fi.size ≤ 9223372036854775807) (hn : Rs.length ≤ 9223372036854775807) (hs : ∀ s ∈ Rs, s.size ≤ 9223372036854775807) (sx : x.size ≤ 140737488351232) (sy : y.size ≤ 140737488351232) : ∃ k, laws_FnExactSieveMeets.f k Lt Mo Fi Rs a x y = some true := by
 refine Ev.rounds ?_
 unfold laws_FnExactSieveMeets.f
 by_cases cx : (x.size : Int) > 1048576
 ·exact ev_pos cx (ev_some rfl)
 by_cases cy : (y.size : Int) > 1048576
 ·exact ev_neg cx (ev_pos cy (ev_some rfl))
 obtain ⟨z, hr, g⟩ := szSieve_ev (a := a) h0 h1 h2 hn hs
 by_cases c : z < 0
 ·exact ev_neg cx (ev_neg cy (Ev.bind hr (ev_pos c (ev_some rfl))))
 ·have hz := g (by omega)
  have tv := toSieve_ev (a := a) hz
  have eq := eqSieve_self (a := a) hz
  obtain ⟨v, m1, m2⟩ : ∃ v, Ev (fun k => spec_SieveMeets.f k Lt Mo Fi Rs a x y) v ∧ Ev (fun k => impl_SieveMeets.f k Lt Mo Fi Rs a x y) v := by
   rcases both hz a with ⟨K, keep, rfl, hI, hh, hok, h3⟩ | ⟨_, hh, hok⟩
   ·exact ⟨_, spec_meets_yes hI hok x y (by omega) (by omega), impl_meets_yes hI hh x y (by omega) (by omega)⟩
   ·exact ⟨_, spec_meets_no hok x y, impl_meets_no hh x y (by omega) (by omega)⟩
  exact ev_neg cx (ev_neg cy (Ev.bind hr (ev_neg c (Ev.bind tv (Ev.bind m1 (Ev.bind tv (Ev.bind m2 (ev_neg (by simp) (Ev.bind tv (Ev.bind eq (ev_pos rfl (ev_some rfl))))))))))))
end Go.Proofs.Ytifgcajpkgamgaa.Pure
end
