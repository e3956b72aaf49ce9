/- What the law FnSieveSeekKey needs: the kit's printed words, the printed functions with their proofs, and plain facts on them. -/
import Derived.Test.YtifgcajpkgamgaaBSAf
section
namespace Go.Proofs.Ytifgcajpkgamgaa.Q
open Go.RowKit Go.Proofs.YtifgcajpkgamgaaW.PrintWords Go.Proofs.YtifgcajpkgamgaaW.PrintLast Go.Proofs.YtifgcajpkgamgaaW.PrintMore
attribute [local go_sem] max2_int min2_int max_two min_two max_three min_three max_four min_four   
set_option linter.unusedVariables false
set_option linter.unusedSimpArgs false
set_option maxHeartbeats 8000000
set_option maxRecDepth 100000
theorem impl_SieveSeek.mono_l : ∀ k, (∀ y0 y1 y2, LeO (impl_SieveSeek.j0 k y0 y1 y2) (impl_SieveSeek.j0 (k + 1) y0 y1 y2)) ∧ (∀ y0 y1 y2 y3, LeO (impl_SieveSeek.l0 k y0 y1 y2 y3) (impl_SieveSeek.l0 (k + 1) y0 y1 y2 y3))
  | 0 => ⟨fun _ _ _ r h => by simp [impl_SieveSeek.j0] at h, fun _ _ _ _ r h => by simp [impl_SieveSeek.l0] at h⟩
  | k + 1 => by
    obtain ⟨ih0, ih1⟩ := impl_SieveSeek.mono_l k
    refine ⟨?_, ?_⟩
    · intro y0 y1 y2
      unfold impl_SieveSeek.j0
      repeat' first | (with_reducible first | apply ih0 | apply ih1 | apply impl_KeyOk.mono | apply impl_Sieve_heads.mono | exact LeO.refl _ | exact LeO.none _ | refine LeO.ite ?_ ?_ | refine LeO.bind ?_ (fun _ => ?_)) | exact LeO.none _ | refine LeO.ite ?_ ?_ | refine LeO.bind ?_ (fun _ => ?_)
    · intro y0 y1 y2 y3
      unfold impl_SieveSeek.l0
      repeat' first | (with_reducible first | apply ih0 | apply ih1 | apply impl_KeyOk.mono | apply impl_Sieve_heads.mono | exact LeO.refl _ | exact LeO.none _ | refine LeO.ite ?_ ?_ | refine LeO.bind ?_ (fun _ => ?_)) | exact LeO.none _ | refine LeO.ite ?_ ?_ | refine LeO.bind ?_ (fun _ => ?_)
theorem impl_SieveSeek.mono : ∀ a0 a1 a2 a3 a4 a5 k, LeO (impl_SieveSeek.f k a0 a1 a2 a3 a4 a5) (impl_SieveSeek.f (k + 1) a0 a1 a2 a3 a4 a5) := by
  intro a0 a1 a2 a3 a4 a5 k
  obtain ⟨ih0, ih1⟩ := impl_SieveSeek.mono_l k
  unfold impl_SieveSeek.f
  repeat' first | (with_reducible first | apply ih0 | apply ih1 | apply impl_KeyOk.mono | apply impl_Sieve_heads.mono | exact LeO.refl _ | exact LeO.none _ | refine LeO.ite ?_ ?_ | refine LeO.bind ?_ (fun _ => ?_)) | exact LeO.none _ | refine LeO.ite ?_ ?_ | refine LeO.bind ?_ (fun _ => ?_)
theorem impl_SieveSeek.calls (k : Nat) (a0_0 a0_1 a0_2 : ByteArray) (A0_3 : Option Addr) (c0_3 : Nat) (l0_3 : List ByteArray) (a0_4 : Int) (a1 r1 : ByteArray) (r2 : Bool) (w : World) (hr0_3 : Kd.C Kd.string w A0_3 l0_3.length l0_3) (hc0_3 : l0_3.length ≤ c0_3) (h : impl_SieveSeek.f k a0_0 a0_1 a0_2 l0_3 a0_4 a1 = some (r1, r2)) :
    Calls Try.prog 44 #[.agg #[.string a0_0, .string a0_1, .string a0_2, .slice A0_3 l0_3.length c0_3, .int .i64 a0_4], .string a1] w fun e w' => e = .returned (.tuple #[.string r1, .bool r2]) ∧ Below w.heap.size w w' := by
 have hu25 := Try.underlying25; have hu93 := Try.underlying93; have HR0_3 := z0 hr0_3; have HC0_3 := z0 hc0_3; clear hr0_3 hc0_3; have HB := z0 (Below.refl w.heap.size w); have H : ((impl_Sieve_heads.f k a0_0 a0_1 a0_2 l0_3 a0_4).bind fun bt473 => (if bt473.2 = true then ((impl_KeyOk.f k a1).bind fun t477 => (impl_SieveSeek.j0 k a1 bt473.1 (!t477))) else (impl_SieveSeek.j0 k a1 bt473.1 true))) = some (r1, r2) := h; clear h; replace H := zi H; obtain ⟨⟨t473, t476⟩, A3, H⟩ := H; (try dsimp only at H); have HC4 := z0 H; clear H; go_enter Try.func44, Try.ntmps44
 go_upto_region 2 with (first | ((with_reducible refine gd 2 ?_); refine zbx 25 #[.string a0_0, .string a0_1, .string a0_2, .slice A0_3 l0_3.length c0_3, .int .i64 a0_4] ?_; intro gb472 hg w5 hbox hb; have BK472 := z0 (hbox); have GE472 := zG hg HB; replace HB := zH HB hb; clear hb hbox hg; have hcz6 := zc5 BK472.out) | ((with_reducible refine gc 89 ?_); refine zL (some 12) Try.func89 #[.agg #[.string a0_0, .string a0_1, .string a0_2, .slice A0_3 l0_3.length c0_3, .int .i64 a0_4]] ?_; (with_reducible refine (impl_Sieve_heads.calls k a0_0 a0_1 a0_2 _ _ l0_3 a0_4 t473 t476 _ (zC (Kd.C_below HR0_3.out HB.out)) HC0_3.out A3.out).mono ?_); rintro e w7 ⟨v474, rfl, ho0, hb⟩; refine zv ?_; have HO475 := z0 (Kd.R_lower ho0 (below_size (zb HB.out))); replace BK472 := zK BK472 hb; replace HB := zH HB hb; (try clear hb ho0)))
 (try simp only [Act.put, List.setIfInBounds_toArray, List.set_cons_zero, List.set_cons_succ])
 go_cut [21] (fun v21 wc => ∃ (kq : Nat) (x21_3 : Bool), v21 = .bool x21_3 ∧ Aside0 (impl_SieveSeek.j0 kq a1 t473 x21_3 = some (r1, r2)) ∧ Aside0 (kq ≤ k) ∧ Aside0 (Kd.R k93 93 wc w.heap.size (fun _ => True) v474 t473) ∧ Aside0 (wc.heap[gb472]? = some (.cells #[.string a0_0, .string a0_1, .string a0_2, (.slice A0_3 l0_3.length c0_3), .int .i64 a0_4] 25 (0, 0))) ∧ Aside0 (Below w.heap.size w wc))
 case first =>
  have H := HC4.out; clear HC4
  by_cases c8 : t476 = true
  ·subst c8
   have H1 : ((impl_KeyOk.f k a1).bind fun t477 => (impl_SieveSeek.j0 k a1 t473 (!t477))) = some (r1, r2) := by rw [if_pos rfl] at H; exact H
   clear H; have H := H1; clear H1; replace H := zi H; obtain ⟨t477, A9, H⟩ := H; have H' := z0 H; clear H
   go_wp2_with (first | (go_at_call 67; (with_reducible refine (impl_KeyOk.calls k a1 t477 _ A9.out).mono ?_); rintro e w' ⟨rfl, ⟨nd, rfl⟩⟩))
   go_meet
   case rel => exact ⟨_, (!t477), zf, H', ⟨by first | omega | exact Nat.le_refl _⟩, ⟨zr HO475.out⟩, ⟨zl BK472.out⟩, ⟨zb HB.out⟩⟩
  ·replace c8 := Bool.eq_false_iff.mpr c8; subst c8
   have H1 : (impl_SieveSeek.j0 k a1 t473 true) = some (r1, r2) := by rw [if_neg (show ¬ (false = true) by decide)] at H; exact H
   clear H; have H := H1; clear H1; have H' := z0 H; clear H; go_wp2; go_meet
   case rel => exact ⟨_, (true), zf, H', ⟨by first | omega | exact Nat.le_refl _⟩, ⟨zr HO475.out⟩, ⟨zl BK472.out⟩, ⟨zb HB.out⟩⟩
 case rest =>
  clear HC4
  try clear p2
  try clear c4
  try clear c8
  try clear hcz6
  obtain ⟨kq, x21_3, rfl, HA, HJ3, HO_6, BK472, HB⟩ := hcut
  cases kq with
  | zero => exact absurd HA.out (by simp [impl_SieveSeek.j0])
  | succ kj3 =>
   have H := HA.out; clear HA; simp only [impl_SieveSeek.j0] at H
   by_cases c10 : x21_3 = true
   ·subst c10
    have H1 : (some ((⟨#[]⟩ : ByteArray), false)) = some (r1, r2) := by rw [if_pos rfl] at H; exact H
    clear H; have H := H1; clear H1; simp only [Option.some.injEq, Prod.mk.injEq] at H; obtain ⟨rfl, rfl⟩ := H; go_wp2
    go_ret2
    exact ⟨ze, zb HB.out⟩
   ·replace c10 := Bool.eq_false_iff.mpr c10; subst c10
    have H1 : (impl_SieveSeek.l0 kj3 a1 t473 (t473.length : Int) 0) = some (r1, r2) := by rw [if_neg (show ¬ (false = true) by decide)] at H; exact H
    clear H; have H := H1; clear H1; have H' := z0 H; clear H; obtain ⟨Ao11, co11, eo11⟩ := Kd.R_slice HO_6.out; subst eo11; go_wp2
    go_loopg [24] kj3 (fun kq v24 w' => ∃ (x24_2 : Int), v24 = .int .i64 x24_2 ∧ Aside0 (impl_SieveSeek.l0 kq a1 t473 (t473.length : Int) x24_2 = some (r1, r2)) ∧ Aside0 (kq ≤ kj3) ∧ Aside0 (Kd.R k93 93 w' w.heap.size (fun _ => True) (.slice Ao11 t473.length co11) t473) ∧ Aside0 (w'.heap[gb472]? = some (.cells #[.string a0_0, .string a0_1, .string a0_2, (.slice A0_3 l0_3.length c0_3), .int .i64 a0_4] 25 (0, 0))) ∧ Aside0 (Below w.heap.size w w'))
    case atStart => exact ⟨(0), zf, H', ⟨Nat.le_refl _⟩, ⟨zr HO_6.out⟩, ⟨zl BK472.out⟩, ⟨zb HB.out⟩⟩
    case round =>
     clear H'
     try clear c1
     try clear p2
     try clear c4
     try clear c8
     try clear c10
     try clear hcz6
     try clear p2
     obtain ⟨x24_2, rfl, HA, HK2, HO_22, BK472, HB⟩ := hrel
     cases gk with
     | zero => exact absurd HA.out (by simp [impl_SieveSeek.l0])
     | succ k2 =>
      have H := HA.out; clear HA; simp only [impl_SieveSeek.l0] at H
      by_cases c12 : x24_2 < (t473.length : Int)
      ·rw [if_pos c12] at H; have c12b0 := decide_eq_true c12; clear c12; replace H := zn H; obtain ⟨c13, H⟩ := H; have c13b0 := decide_eq_true c13; clear c13; replace H := zn H; obtain ⟨c14, H⟩ := H; have c14b0 := decide_eq_true c14; clear c14
       by_cases c15 : ((Op.bytesLess (((rd_T93 t473 x24_2).f0).toList) a1.toList) = true)
       ·rw [if_pos c15] at H; have c15b0 : (Op.bytesLess (((rd_T93 t473 x24_2).f0).toList) a1.toList) = true := c15; clear c15; obtain ⟨bq16, hbq16⟩ : ∃ b_ : Bool, b_ = ((rd_T93 t473 x24_2).f1) := ⟨_, rfl⟩
        replace H : (if (bq16 = true) then (impl_SieveSeek.l0 k2 a1 t473 (t473.length : Int) (wrap64 (x24_2 + 1))) else ((impl_KeyBegins.f a1 ((rd_T93 t473 x24_2).f0)).bind fun t480 => (if t480 = true then (some ((rd_T93 t473 x24_2).f0, true)) else (impl_SieveSeek.l0 k2 a1 t473 (t473.length : Int) (wrap64 (x24_2 + 1)))))) = some (r1, r2) := by rw [← hbq16] at H; exact H
        have Nbq16 := z0 hbq16; clear hbq16
        by_cases c17 : (bq16 = true)
        ·subst c17
         have H1 : (impl_SieveSeek.l0 k2 a1 t473 (t473.length : Int) (wrap64 (x24_2 + 1))) = some (r1, r2) := by rw [if_pos rfl] at H; exact H
         clear H; have H := H1; clear H1; have H' := z0 H; clear H; have p478 : 0 ≤ (x24_2 : Int) := zd; have q478 : x24_2 < (t473.length : Int) := zd; obtain ⟨ad478, e478, hx478_0, hx478_1⟩ := at_T93 (Kd.R_reads' HO_22.out).2.2 x24_2 p478 q478; (try rw [← Nbq16.out] at hx478_1); cases e478; replace p478 := eq_true p478; replace q478 := eq_true q478
         go_wp2_with (first | ((with_reducible refine gd 9 ?_); refine zbx 93 #[.string ⟨#[]⟩, .bool false] ?_; intro gb479 hg w18 hbox hb; replace HO_22 := z0 (Kd.R_below (Kd.R_elderB (zr HO_22.out) gb479 (Nat.le_of_eq hg.symm)) hb); have BK479 := z0 (hbox); have GE479 := zG hg HB; replace HB := zH HB hb; have NB472_479 := zLt hg BK472; have NB479_472 := zGt hg BK472; replace BK472 := zK BK472 hb; clear hb hbox hg; have hnb19 := NB479_472.out; have hnc19 := NB472_479.out; have hcz20 := zc2 BK479.out))
         go_roundg k2
         case measure => have := HJ3.out; have := HK2.out; omega
         case rel => exact ⟨(wrap64 (x24_2 + 1)), zf, H', ⟨by have := HJ3.out; have := HK2.out; omega⟩, ⟨Kd.R_mono (zr (Kd.R_far (p := ⟨gb479, 1, none⟩) (Kd.R_far (p := ⟨gb479, 0, none⟩) (Kd.R_mono HO_22.out (fun k_ hk => (⟨hk, hk.2⟩ : _ ∧ k_ ≠ gb479))) (fun _ hk => hk.2) (.string ((rd_T93 t473 x24_2).f0))) (fun _ hk => hk.2) (.bool true))) (fun _ hk => trivial)⟩, ⟨zy BK472.out⟩, ⟨zb HB.out⟩⟩
        ·replace c17 := Bool.eq_false_iff.mpr c17; subst c17
         have H1 : ((impl_KeyBegins.f a1 ((rd_T93 t473 x24_2).f0)).bind fun t480 => (if t480 = true then (some ((rd_T93 t473 x24_2).f0, true)) else (impl_SieveSeek.l0 k2 a1 t473 (t473.length : Int) (wrap64 (x24_2 + 1))))) = some (r1, r2) := by rw [if_neg (show ¬ (false = true) by decide)] at H; exact H
         clear H; have H := H1; clear H1; replace H := zi H; obtain ⟨t480, A21, H⟩ := H
         by_cases c22 : t480 = true
         ·subst c22
          have H1 : (some ((rd_T93 t473 x24_2).f0, true)) = some (r1, r2) := by rw [if_pos rfl] at H; exact H
          clear H; have H := H1; clear H1; simp only [Option.some.injEq, Prod.mk.injEq] at H; obtain ⟨rfl, rfl⟩ := H; have p478 : 0 ≤ (x24_2 : Int) := zd; have q478 : x24_2 < (t473.length : Int) := zd; obtain ⟨ad478, e478, hx478_0, hx478_1⟩ := at_T93 (Kd.R_reads' HO_22.out).2.2 x24_2 p478 q478; (try rw [← Nbq16.out] at hx478_1); cases e478; replace p478 := eq_true p478; replace q478 := eq_true q478
          go_wp2_with (first | ((with_reducible refine gd 9 ?_); refine zbx 93 #[.string ⟨#[]⟩, .bool false] ?_; intro gb479 hg w23 hbox hb; replace HO_22 := z0 (Kd.R_below (Kd.R_elderB (zr HO_22.out) gb479 (Nat.le_of_eq hg.symm)) hb); have BK479 := z0 (hbox); have GE479 := zG hg HB; replace HB := zH HB hb; have NB472_479 := zLt hg BK472; have NB479_472 := zGt hg BK472; replace BK472 := zK BK472 hb; clear hb hbox hg; have hnb24 := NB479_472.out; have hnc24 := NB472_479.out; have hcz25 := zc2 BK479.out) | (go_at_call 42; (with_reducible refine (impl_KeyBegins.calls a1 ((rd_T93 t473 x24_2).f0) true _ A21.out).mono ?_); rintro e w' ⟨rfl, ⟨nd, rfl⟩⟩))
          go_ret2
          exact ⟨ze, zb HB.out⟩
         ·replace c22 := Bool.eq_false_iff.mpr c22; subst c22
          have H1 : (impl_SieveSeek.l0 k2 a1 t473 (t473.length : Int) (wrap64 (x24_2 + 1))) = some (r1, r2) := by rw [if_neg (show ¬ (false = true) by decide)] at H; exact H
          clear H; have H := H1; clear H1; have H' := z0 H; clear H; have p478 : 0 ≤ (x24_2 : Int) := zd; have q478 : x24_2 < (t473.length : Int) := zd; obtain ⟨ad478, e478, hx478_0, hx478_1⟩ := at_T93 (Kd.R_reads' HO_22.out).2.2 x24_2 p478 q478; (try rw [← Nbq16.out] at hx478_1); cases e478; replace p478 := eq_true p478; replace q478 := eq_true q478
          go_wp2_with (first | ((with_reducible refine gd 9 ?_); refine zbx 93 #[.string ⟨#[]⟩, .bool false] ?_; intro gb479 hg w26 hbox hb; replace HO_22 := z0 (Kd.R_below (Kd.R_elderB (zr HO_22.out) gb479 (Nat.le_of_eq hg.symm)) hb); have BK479 := z0 (hbox); have GE479 := zG hg HB; replace HB := zH HB hb; have NB472_479 := zLt hg BK472; have NB479_472 := zGt hg BK472; replace BK472 := zK BK472 hb; clear hb hbox hg; have hnb27 := NB479_472.out; have hnc27 := NB472_479.out; have hcz28 := zc2 BK479.out) | (go_at_call 42; (with_reducible refine (impl_KeyBegins.calls a1 ((rd_T93 t473 x24_2).f0) false _ A21.out).mono ?_); rintro e w' ⟨rfl, ⟨nd, rfl⟩⟩))
          go_roundg k2
          case measure => have := HJ3.out; have := HK2.out; omega
          case rel => exact ⟨(wrap64 (x24_2 + 1)), zf, H', ⟨by have := HJ3.out; have := HK2.out; omega⟩, ⟨Kd.R_mono (zr (Kd.R_far (p := ⟨gb479, 1, none⟩) (Kd.R_far (p := ⟨gb479, 0, none⟩) (Kd.R_mono HO_22.out (fun k_ hk => (⟨hk, hk.2⟩ : _ ∧ k_ ≠ gb479))) (fun _ hk => hk.2) (.string ((rd_T93 t473 x24_2).f0))) (fun _ hk => hk.2) (.bool false))) (fun _ hk => trivial)⟩, ⟨zy BK472.out⟩, ⟨zb HB.out⟩⟩
       ·rw [if_neg c15] at H
        have c15b0 : (Op.bytesLess (((rd_T93 t473 x24_2).f0).toList) a1.toList) = false := by simpa using c15
        clear c15; simp only [Option.some.injEq, Prod.mk.injEq] at H; obtain ⟨rfl, rfl⟩ := H; have p478 : 0 ≤ (x24_2 : Int) := zd; have q478 : x24_2 < (t473.length : Int) := zd; obtain ⟨ad478, e478, hx478_0, hx478_1⟩ := at_T93 (Kd.R_reads' HO_22.out).2.2 x24_2 p478 q478; cases e478; replace p478 := eq_true p478; replace q478 := eq_true q478
        go_wp2_with (first | ((with_reducible refine gd 9 ?_); refine zbx 93 #[.string ⟨#[]⟩, .bool false] ?_; intro gb479 hg w29 hbox hb; replace HO_22 := z0 (Kd.R_below (Kd.R_elderB (zr HO_22.out) gb479 (Nat.le_of_eq hg.symm)) hb); have BK479 := z0 (hbox); have GE479 := zG hg HB; replace HB := zH HB hb; have NB472_479 := zLt hg BK472; have NB479_472 := zGt hg BK472; replace BK472 := zK BK472 hb; clear hb hbox hg; have hnb30 := NB479_472.out; have hnc30 := NB472_479.out; have hcz31 := zc2 BK479.out))
        go_ret2
        exact ⟨ze, zb HB.out⟩
      ·rw [if_neg c12] at H; have c12b0 := decide_eq_false c12; clear c12; simp only [Option.some.injEq, Prod.mk.injEq] at H; obtain ⟨rfl, rfl⟩ := H; go_wp2
       go_ret2
       exact ⟨ze, zb HB.out⟩
theorem spec_DrawKeyBegins.mono : ∀ a0 k, LeO (spec_DrawKeyBegins.f k a0) (spec_DrawKeyBegins.f (k + 1) a0) := by
  intro a0 k
  unfold spec_DrawKeyBegins.f
  repeat' first | (with_reducible first | apply spec_l71Key.mono | apply spec_l71Near.mono | exact LeO.refl _ | exact LeO.none _ | refine LeO.ite ?_ ?_ | refine LeO.bind ?_ (fun _ => ?_)) | exact LeO.none _ | refine LeO.ite ?_ ?_ | refine LeO.bind ?_ (fun _ => ?_)
theorem spec_DrawKeyBegins.calls (k : Nat) (A0 : Option Addr) (c0 : Nat) (l0 : List Int) (r1 r2 : ByteArray) (w : World) (hr0 : Kd.C (Kd.int .u8) w A0 l0.length l0) (hc0 : l0.length ≤ c0) (h : spec_DrawKeyBegins.f k l0 = some (r1, r2)) :
    Calls Try.prog 39 #[.slice A0 l0.length c0] w fun e w' => e = .returned (.tuple #[.string r1, .string r2]) ∧ Below w.heap.size w w' := by
 have HR0 := z0 hr0; have HC0 := z0 hc0; clear hr0 hc0; have HB := z0 (Below.refl w.heap.size w); have H : ((spec_l6Open.f l0).bind fun bt678 => ((spec_l71Key.f k bt678.1 bt678.2).bind fun bt681 => ((spec_l71Near.f k bt678.1 bt681.2 (([bt681.1] : List ByteArray))).bind fun bt686 => (some (bt681.1, bt686.1))))) = some (r1, r2) := h; clear h; replace H := zi H; obtain ⟨⟨t678, t679⟩, A2, H⟩ := H; (try dsimp only at H); replace H := zi H; obtain ⟨⟨t681, t682⟩, A3, H⟩ := H; (try dsimp only at H); obtain ⟨y683, hy683⟩ : ∃ y_ : List ByteArray, y_ = (([t681] : List ByteArray)) := ⟨_, rfl⟩; replace H : ((spec_l71Near.f k t678 t682 y683).bind fun bt686 => (some (t681, bt686.1))) = some (r1, r2) := zH2 hy683 H; have Ny683 := z0 hy683; clear hy683; replace H := zi H; obtain ⟨⟨t686, t687⟩, A4, H⟩ := H; (try dsimp only at H); simp only [Option.some.injEq, Prod.mk.injEq] at H; obtain ⟨rfl, rfl⟩ := H; go_enter Try.func39, Try.ntmps39
 go_wp2_with (first | ((with_reducible refine gc 64 ?_); refine zL (some 7) Try.func64 #[.slice A0 l0.length c0] ?_; (with_reducible refine (spec_l6Open.calls _ _ l0 t678 t679 w _ (zb HB.out) HR0.out HC0.out A2.out).mono ?_); rintro e w5 ⟨g680, rfl, hi, hb, hb2⟩; refine zv ?_; replace HB := z0 (hb); have HI680 := z0 (hi); (try clear hb hb2 hi)) | ((with_reducible refine gc 86 ?_); refine zL (some 9) Try.func86 #[.pointer (some ⟨g680, 0, none⟩)] ?_; (with_reducible refine (spec_l71Key.calls k g680 t678 t679 t681 t682 w _ (HI680.out.zI) (HI680.out.zb HB.out) A3.out).mono ?_); rintro e w6 ⟨rfl, hi, hb, hk⟩; refine zv ?_; replace HB := z0 (hb); replace HI680 := z0 (hi); (try clear hb hk hi)) | ((with_reducible refine gd 13 ?_); refine Kd.R_lit Kd.string _ 9 ?hg (N := 13) ?hd (xs := ([t681] : List ByteArray)) (inner := [.string t681]) (ok := fun _ => True) (okp := fun _ => True) ?hr ?hp (fun _ hk => hk) trivial (Below.refl _ _) (Nat.le_refl _) (by simp) ?_; (case hd => rfl); (case hg => rfl); (case hr => first | (go_simp; done) | (go_simp; rfl)); (case hp => exact (Reps.one (show Kd.M Kd.string _ _ _ t681 [.string t681] from rfl) (Reps.none _ _))); intro v684 w7 ho8 hb hg_ hnew_; clear hg_ hnew_; (first | rw [← Ny683.out] at ho8 | (simp only [Int.reduceToNat] at ho8; rw [← Ny683.out] at ho8)); have HO685 := z0 (Kd.R_lower ho8 (below_size (HI680.out.zb HB.out))); replace HB := z0 (below_step (HI680.out.zb HB.out) hb); replace HI680 := z0 (IsS98.below (HI680.out.zI) hb); clear hb ho8; obtain ⟨Ao9, co9, eo9⟩ := Kd.R_slice HO685.out; subst eo9) | ((with_reducible refine gc 66 ?_); refine zL (some 14) Try.func66 #[.pointer (some ⟨g680, 0, none⟩), .slice Ao9 y683.length co9] ?_; (with_reducible refine (spec_l71Near.calls k g680 t678 t682 _ _ y683 t686 t687 w _ (HI680.out.zI) (HI680.out.zb HB.out) (zC ((Kd.R_reads' HO685.out).2.2)) ((Kd.R_reads' HO685.out).2.1) (far_slice (IsS98.own_ne HI680.out HO685.out (by decide))) A4.out).mono ?_); rintro e w10 ⟨rfl, hi, hb, hk⟩; refine zv ?_; replace HO685 := z0 (Kd.R_mono (Kd.R_keep (IsS98.apart (show IsS98 w _ g680 t678 t682 from HI680.out.zI) (zr HO685.out) (by decide)) hk (fun _ h => h.2)) (fun _ h => h.1)); replace HB := z0 (hb); replace HI680 := z0 (hi); (try clear hb hk hi)))
 go_ret2
 exact ⟨ze, HI680.out.zb HB.out⟩
theorem impl_KeyFirst.mono_l : ∀ k, (∀ y0 y1 y2 y3, LeO (impl_KeyFirst.l0 k y0 y1 y2 y3) (impl_KeyFirst.l0 (k + 1) y0 y1 y2 y3))
  | 0 => fun _ _ _ _ r h => by simp [impl_KeyFirst.l0] at h
  | k + 1 => by
    have ih0 := impl_KeyFirst.mono_l k
    · intro y0 y1 y2 y3
      unfold impl_KeyFirst.l0
      repeat' first | (with_reducible first | apply ih0 | apply impl_KeysOk.mono | exact LeO.refl _ | exact LeO.none _ | refine LeO.ite ?_ ?_ | refine LeO.bind ?_ (fun _ => ?_)) | exact LeO.none _ | refine LeO.ite ?_ ?_ | refine LeO.bind ?_ (fun _ => ?_)
theorem impl_KeyFirst.mono : ∀ a0 a1 k, LeO (impl_KeyFirst.f k a0 a1) (impl_KeyFirst.f (k + 1) a0 a1) := by
  intro a0 a1 k
  have ih0 := impl_KeyFirst.mono_l k
  unfold impl_KeyFirst.f
  repeat' first | (with_reducible first | apply ih0 | apply impl_KeysOk.mono | exact LeO.refl _ | exact LeO.none _ | refine LeO.ite ?_ ?_ | refine LeO.bind ?_ (fun _ => ?_)) | exact LeO.none _ | refine LeO.ite ?_ ?_ | refine LeO.bind ?_ (fun _ => ?_)
theorem impl_KeyFirst.calls (k : Nat) (A0 : Option Addr) (c0 : Nat) (l0 : List ByteArray) (a1 r1 : ByteArray) (r2 : Bool) (w : World) (hr0 : Kd.C Kd.string w A0 l0.length l0) (hc0 : l0.length ≤ c0) (h : impl_KeyFirst.f k l0 a1 = some (r1, r2)) :
    Calls Try.prog 43 #[.slice A0 l0.length c0, .string a1] w fun e w' => e = .returned (.tuple #[.string r1, .bool r2]) ∧ Drawn0 w w' := by
 have HR0 := z0 hr0; have HC0 := z0 hc0; clear hr0 hc0; have H : ((impl_KeysOk.f k l0).bind fun t941 => (if t941 = true then (impl_KeyFirst.l0 k a1 l0 (l0.length : Int) 0) else (some ((⟨#[]⟩ : ByteArray), false)))) = some (r1, r2) := h; clear h; replace H := zi H; obtain ⟨t941, A3, H⟩ := H
 by_cases c4 : t941 = true
 ·subst c4
  have H1 : (impl_KeyFirst.l0 k a1 l0 (l0.length : Int) 0) = some (r1, r2) := by rw [if_pos rfl] at H; exact H
  clear H; have H := H1; clear H1; have H' := z0 H; clear H; go_enter Try.func43, Try.ntmps43
  go_wp2_with (first | ((with_reducible refine gc 73 ?_); refine zL (some 9) Try.func73 #[.slice A0 l0.length c0] ?_; (with_reducible refine (impl_KeysOk.calls k _ _ l0 true _ ?side1 ?side2 A3.out).mono ?_); (case side1 => repeat (first | exact HR0.out | (with_reducible refine Kd.C_alloc ?_ _) | (with_reducible refine Kd.C_drewN ?_ _) | (with_reducible refine Kd.C_drew ?_))); (case side2 => exact HC0.out); rintro e w' ⟨rfl, ⟨nd, rfl⟩⟩; refine ⟨_, rfl, ?_⟩))
  go_loopg [13] k (fun kq v13 w' => ∃ (x13_1 : Int), v13 = .int .i64 x13_1 ∧ Aside0 (impl_KeyFirst.l0 kq a1 l0 (l0.length : Int) x13_1 = some (r1, r2)) ∧ Aside0 (kq ≤ k) ∧ Drawn0 w w')
  case atStart => exact ⟨(0), zf, H', ⟨Nat.le_refl _⟩, by repeat (first | exact Drawn0.refl _ | apply Drawn0.step)⟩
  case round =>
   clear H'
   try clear p2
   try clear c4
   obtain ⟨x13_1, rfl, HA, HK1, ⟨m1, rfl⟩⟩ := hrel
   cases gk with
   | zero => exact absurd HA.out (by simp [impl_KeyFirst.l0])
   | succ k1 =>
    have H := HA.out; clear HA; simp only [impl_KeyFirst.l0] at H
    by_cases c5 : x13_1 < (l0.length : Int)
    ·rw [if_pos c5] at H; have c5b0 := decide_eq_true c5; clear c5; replace H := zn H; obtain ⟨c6, H⟩ := H; have c6b0 := decide_eq_true c6; clear c6; replace H := zn H; obtain ⟨c7, H⟩ := H; have c7b0 := decide_eq_true c7; clear c7
     by_cases c8 : ((Op.bytesLess ((rdOf ByteArray.empty l0 x13_1).toList) a1.toList) = true)
     ·rw [if_pos c8] at H; have c8b0 : (Op.bytesLess ((rdOf ByteArray.empty l0 x13_1).toList) a1.toList) = true := c8; clear c8; have H' := z0 H; clear H; have p942 : 0 ≤ (x13_1 : Int) := zd; have q942 : x13_1 < (l0.length : Int) := zd; obtain ⟨ad942, e942, hx942_0⟩ := Kd.at_string HR0.out x13_1 p942 q942; cases e942; replace p942 := eq_true p942; replace q942 := eq_true q942; go_wp2; go_roundg k1
      case measure => have := HK1.out; omega
      case rel => exact ⟨(wrap64 (x13_1 + 1)), zf, H', ⟨by have := HK1.out; omega⟩, by repeat (first | exact Drawn0.refl _ | apply Drawn0.step)⟩
     ·rw [if_neg c8] at H
      have c8b0 : (Op.bytesLess ((rdOf ByteArray.empty l0 x13_1).toList) a1.toList) = false := by simpa using c8
      clear c8; simp only [Option.some.injEq, Prod.mk.injEq] at H; obtain ⟨rfl, rfl⟩ := H; have p942 : 0 ≤ (x13_1 : Int) := zd; have q942 : x13_1 < (l0.length : Int) := zd; obtain ⟨ad942, e942, hx942_0⟩ := Kd.at_string HR0.out x13_1 p942 q942; cases e942; replace p942 := eq_true p942; replace q942 := eq_true q942; go_wp2
      go_ret2
      exact ⟨zf, by repeat (first | exact Drawn0.refl _ | apply Drawn0.step)⟩
    ·rw [if_neg c5] at H; have c5b0 := decide_eq_false c5; clear c5; simp only [Option.some.injEq, Prod.mk.injEq] at H; obtain ⟨rfl, rfl⟩ := H; go_wp2
     go_ret2
     exact ⟨zf, by repeat (first | exact Drawn0.refl _ | apply Drawn0.step)⟩
 ·replace c4 := Bool.eq_false_iff.mpr c4; subst c4
  have H1 : (some ((⟨#[]⟩ : ByteArray), false)) = some (r1, r2) := by rw [if_neg (show ¬ (false = true) by decide)] at H; exact H
  clear H; have H := H1; clear H1; simp only [Option.some.injEq, Prod.mk.injEq] at H; obtain ⟨rfl, rfl⟩ := H; go_enter Try.func43, Try.ntmps43
  go_wp2_with (first | ((with_reducible refine gc 73 ?_); refine zL (some 9) Try.func73 #[.slice A0 l0.length c0] ?_; (with_reducible refine (impl_KeysOk.calls k _ _ l0 false _ ?side1 ?side2 A3.out).mono ?_); (case side1 => repeat (first | exact HR0.out | (with_reducible refine Kd.C_alloc ?_ _) | (with_reducible refine Kd.C_drewN ?_ _) | (with_reducible refine Kd.C_drew ?_))); (case side2 => exact HC0.out); rintro e w' ⟨rfl, ⟨nd, rfl⟩⟩; refine ⟨_, rfl, ?_⟩))
  go_ret2
  exact ⟨zf, by repeat (first | exact Drawn0.refl _ | apply Drawn0.step)⟩
theorem laws_FnSieveSeekKey.mono_l : ∀ k, (∀ y0 y1 y2, LeO (laws_FnSieveSeekKey.j0 k y0 y1 y2) (laws_FnSieveSeekKey.j0 (k + 1) y0 y1 y2)) ∧ (∀ y0 y1 y2 y3 y4 y5 y6 y7 y8 y9 y10 y11 y12 y13 y14, LeO (laws_FnSieveSeekKey.j1 k y0 y1 y2 y3 y4 y5 y6 y7 y8 y9 y10 y11 y12 y13 y14) (laws_FnSieveSeekKey.j1 (k + 1) y0 y1 y2 y3 y4 y5 y6 y7 y8 y9 y10 y11 y12 y13 y14))
  | 0 => ⟨fun _ _ _ r h => by simp [laws_FnSieveSeekKey.j0] at h, fun _ _ _ _ _ _ _ _ _ _ _ _ _ _ _ r h => by simp [laws_FnSieveSeekKey.j1] at h⟩
  | k + 1 => by
    obtain ⟨ih0, ih1⟩ := laws_FnSieveSeekKey.mono_l k
    refine ⟨?_, ?_⟩
    · intro y0 y1 y2
      unfold laws_FnSieveSeekKey.j0
      repeat' first | (with_reducible first | apply ih0 | apply ih1 | apply impl_KeyFirst.mono | apply impl_SieveOf.mono | apply impl_SieveSeek.mono | apply laws_ltSieve.mono | apply spec_DrawKeyBegins.mono | apply spec_DrawSieveOf.mono | apply spec_SieveOf.mono | exact LeO.refl _ | exact LeO.none _ | refine LeO.ite ?_ ?_ | refine LeO.bind ?_ (fun _ => ?_)) | exact LeO.none _ | refine LeO.ite ?_ ?_ | refine LeO.bind ?_ (fun _ => ?_)
    · intro y0 y1 y2 y3 y4 y5 y6 y7 y8 y9 y10 y11 y12 y13 y14
      unfold laws_FnSieveSeekKey.j1
      repeat' first | (with_reducible first | apply ih0 | apply ih1 | apply impl_KeyFirst.mono | apply impl_SieveOf.mono | apply impl_SieveSeek.mono | apply laws_ltSieve.mono | apply spec_DrawKeyBegins.mono | apply spec_DrawSieveOf.mono | apply spec_SieveOf.mono | exact LeO.refl _ | exact LeO.none _ | refine LeO.ite ?_ ?_ | refine LeO.bind ?_ (fun _ => ?_)) | exact LeO.none _ | refine LeO.ite ?_ ?_ | refine LeO.bind ?_ (fun _ => ?_)
theorem laws_FnSieveSeekKey.mono : ∀ a0 a1 k, LeO (laws_FnSieveSeekKey.f k a0 a1) (laws_FnSieveSeekKey.f (k + 1) a0 a1) := by
  intro a0 a1 k
  obtain ⟨ih0, ih1⟩ := laws_FnSieveSeekKey.mono_l k
  unfold laws_FnSieveSeekKey.f
  repeat' first | (with_reducible first | apply ih0 | apply ih1 | apply impl_KeyFirst.mono | apply impl_SieveOf.mono | apply impl_SieveSeek.mono | apply laws_ltSieve.mono | apply spec_DrawKeyBegins.mono | apply spec_DrawSieveOf.mono | apply spec_SieveOf.mono | exact LeO.refl _ | exact LeO.none _ | refine LeO.ite ?_ ?_ | refine LeO.bind ?_ (fun _ => ?_)) | exact LeO.none _ | refine LeO.ite ?_ ?_ | refine LeO.bind ?_ (fun _ => ?_)
theorem laws_FnSieveSeekKey.calls (k : Nat) (A0 : Option Addr) (c0 : Nat) (l0 : List Int) (A1 : Option Addr) (c1 : Nat) (l1 : List Int) (r : Bool) (w : World) (hr0 : Kd.C (Kd.int .u8) w A0 l0.length l0) (hc0 : l0.length ≤ c0) (hr1 : Kd.C (Kd.int .u8) w A1 l1.length l1) (hc1 : l1.length ≤ c1) (h : laws_FnSieveSeekKey.f k l0 l1 = some r) :
    Calls Try.prog 8 #[.slice A0 l0.length c0, .slice A1 l1.length c1] w fun e w' => e = .returned (.bool r) ∧ Below w.heap.size w w' := by
 have hu25 := Try.underlying25; have HR0 := z0 hr0; have HC0 := z0 hc0; clear hr0 hc0; have HR1 := z0 hr1; have HC1 := z0 hc1; clear hr1 hc1; have HB := z0 (Below.refl w.heap.size w); have H : (if (l0.length : Int) > 1048576 then (laws_FnSieveSeekKey.j0 k l0 l1 true) else (laws_FnSieveSeekKey.j0 k l0 l1 (decide ((l1.length : Int) > 1048576)))) = some r := h; clear h; have HC3 := z0 H; clear H; go_enter Try.func8, Try.ntmps8
 go_upto_region 1 with (fail)
 go_cut [24] (fun v24 wc => ∃ (kq : Nat) (x24_2 : Bool), v24 = .bool x24_2 ∧ Aside0 (laws_FnSieveSeekKey.j0 kq l0 l1 x24_2 = some r) ∧ Aside0 (kq ≤ k) ∧ Aside0 (Below w.heap.size w wc))
 case first =>
  have H := HC3.out; clear HC3
  by_cases c4 : (l0.length : Int) > 1048576
  ·rw [if_pos c4] at H; have c4b0 : decide (1048576 < (l0.length : Int)) = true := decide_eq_true c4; have c4b1 : decide (1048576 < l0.length) = true := decide_eq_true (by omega); clear c4; (first | rw [c4b0] | (simp only [i64_w, i32_w]; rw [c4b0]) | simp only [*, Bool.not_true, Bool.not_false] | skip); have H' := z0 H; clear H; go_wp2; go_meet
   case rel => exact ⟨_, (true), zf, H', ⟨by first | omega | exact Nat.le_refl _⟩, ⟨zb HB.out⟩⟩
  ·rw [if_neg c4] at H; have c4b0 : decide (1048576 < (l0.length : Int)) = false := decide_eq_false c4; have c4b1 : decide (1048576 < l0.length) = false := decide_eq_false (by omega); clear c4; (first | rw [c4b0] | (simp only [i64_w, i32_w]; rw [c4b0]) | simp only [*, Bool.not_true, Bool.not_false] | skip); have H' := z0 H; clear H; go_wp2; go_meet
   case rel => exact ⟨_, (decide ((l1.length : Int) > 1048576)), zf, H', ⟨by first | omega | exact Nat.le_refl _⟩, ⟨zb HB.out⟩⟩
 case rest =>
  clear HC3
  try clear c1
  try clear p2
  try clear c4
  try clear c4b0
  try clear c4b1
  obtain ⟨kq, x24_2, rfl, HA, HJ2, HB⟩ := hcut
  cases kq with
  | zero => exact absurd HA.out (by simp [laws_FnSieveSeekKey.j0])
  | succ kj2 =>
   have H := HA.out; clear HA; simp only [laws_FnSieveSeekKey.j0] at H
   by_cases c5 : x24_2 = true
   ·subst c5
    have H1 : (some true) = some r := by rw [if_pos rfl] at H; exact H
    clear H; have H := H1; clear H1; obtain rfl := Option.some.inj H; go_wp2; go_ret; exact ⟨ze, zb HB.out⟩
   ·replace c5 := Bool.eq_false_iff.mpr c5; subst c5
    have H1 : ((spec_DrawSieveOf.f kj2 l0).bind fun bt943 => ((spec_DrawKeyBegins.f kj2 l1).bind fun bt947 => ((spec_SieveOf.f kj2 bt943.1 bt943.2).bind fun bt949 => ((impl_SieveOf.f kj2 bt943.1 bt943.2).bind fun bt958 => (if (bt958.2.2.2.2.2 != bt949.2.2.2.2.2) = true then (laws_FnSieveSeekKey.j1 kj2 bt943.1 bt947.1 bt949.2.2.2.2.2 bt958.2.2.2.2.2 true bt949.1 bt949.2.1 bt949.2.2.1 bt949.2.2.2.1 bt949.2.2.2.2.1 bt958.1 bt958.2.1 bt958.2.2.1 bt958.2.2.2.1 bt958.2.2.2.2.1) else ((laws_ltSieve.f kj2 bt958.1 bt958.2.1 bt958.2.2.1 bt958.2.2.2.1 bt958.2.2.2.2.1 bt949.1 bt949.2.1 bt949.2.2.1 bt949.2.2.2.1 bt949.2.2.2.2.1).bind fun t967 => (if t967 = true then (laws_FnSieveSeekKey.j1 kj2 bt943.1 bt947.1 bt949.2.2.2.2.2 bt958.2.2.2.2.2 (!bt958.2.2.2.2.2) bt949.1 bt949.2.1 bt949.2.2.1 bt949.2.2.2.1 bt949.2.2.2.2.1 bt958.1 bt958.2.1 bt958.2.2.1 bt958.2.2.2.1 bt958.2.2.2.2.1) else (laws_FnSieveSeekKey.j1 kj2 bt943.1 bt947.1 bt949.2.2.2.2.2 bt958.2.2.2.2.2 true bt949.1 bt949.2.1 bt949.2.2.1 bt949.2.2.2.1 bt949.2.2.2.2.1 bt958.1 bt958.2.1 bt958.2.2.1 bt958.2.2.2.1 bt958.2.2.2.2.1)))))))) = some r := by rw [if_neg (show ¬ (false = true) by decide)] at H; exact H
    clear H; have H := H1; clear H1; replace H := zi H; obtain ⟨⟨t943, t944⟩, A6, H⟩ := H; (try dsimp only at H); replace H := zi H; obtain ⟨⟨t947, t948⟩, A7, H⟩ := H; (try dsimp only at H); replace H := zi H; obtain ⟨⟨t949, t950, t951, t952, t955, t956⟩, A8, H⟩ := H; (try dsimp only at H); replace H := zi H; obtain ⟨⟨t958, t959, t960, t961, t964, t965⟩, A9, H⟩ := H; (try dsimp only at H); have HC10 := z0 H; clear H
    go_upto_region 7 with (first | ((with_reducible refine gc 34 ?_); refine zL (some 27) Try.func34 #[.slice A0 l0.length c0] ?_; (with_reducible refine (spec_DrawSieveOf.calls kj2 _ _ l0 t943 t944 _ (zC (Kd.C_below HR0.out HB.out)) HC0.out A6.out).mono ?_); rintro e w11 ⟨v945, rfl, ho0, hb⟩; refine zv ?_; have HO946 := z0 (Kd.R_lower ho0 (below_size (zb HB.out))); replace HB := zH HB hb; (try clear hb ho0)) | ((with_reducible refine gc 39 ?_); refine zL (some 32) Try.func39 #[.slice A1 l1.length c1] ?_; (with_reducible refine (spec_DrawKeyBegins.calls kj2 _ _ l1 t947 t948 _ (zC (Kd.C_below HR1.out HB.out)) HC1.out A7.out).mono ?_); rintro e w12 ⟨rfl, hb⟩; refine zv ?_; replace HO946 := zA HO946 hb; replace HB := zH HB hb; (try clear hb); obtain ⟨Ao13, co13, eo13⟩ := Kd.R_slice HO946.out; subst eo13) | ((with_reducible refine gc 36 ?_); refine zL (some 38) Try.func36 #[.slice Ao13 t943.length co13, .int .i64 t944] ?_; (with_reducible refine (spec_SieveOf.calls kj2 (fun k_ => some k_ = (.slice Ao13 t943.length co13 : Value).ownBlock) _ _ t943 t944 t949 t950 t951 t952 t955 t956 _ (Kd.R_V (Kd.R_tight rfl (HO946.out))) A8.out).mono ?_); rintro e w14 ⟨v953, rfl, ho0, hb⟩; refine zv ?_; have HO954 := z0 (Kd.R_lower (Kd.R_new' (Kd.R_mono (ok' := fun k_ => True) ho0 (fun _ hk_ => trivial)) (Kd.R_lt (zr HO946.out))) (below_size (zb HB.out))); replace HO946 := z0 (Kd.R_elder' (zr HO946.out) (Kd.R_base ho0) hb); replace HB := zH HB hb; (try clear hb ho0)) | ((with_reducible refine gd 9 ?_); (try (refine gate_guard (by rfl) ?_; dsimp only)); refine zbx 25 #[.string ⟨#[]⟩, .string ⟨#[]⟩, .string ⟨#[]⟩, .slice none 0 0, .int .i64 0] ?_; intro gb957 hg w15 hbox hb; replace HO946 := zA HO946 hb; replace HO954 := zA HO954 hb; have BK957 := z0 (hbox); have GE957 := zG hg HB; replace HB := zH HB hb; clear hb hbox hg; have hcz16 := zc5 BK957.out; obtain ⟨Ao17, co17, eo17⟩ := Kd.R_slice HO954.out; subst eo17) | ((with_reducible refine gc 30 ?_); refine zL (some 44) Try.func30 #[.slice Ao13 t943.length co13, .int .i64 t944] ?_; (with_reducible refine (impl_SieveOf.calls kj2 _ _ t943 t944 t958 t959 t960 t961 t964 t965 _ ?side1 ((Kd.R_reads' HO946.out).2.1) A9.out).mono ?_); (case side1 => refine (Kd.R_reads' (e := 9) (base := w.heap.size) (ok := fun k_ => (True ∧ some k_ ≠ (.slice Ao17 t952.length co17 : Value).ownBlock)) (n := t943.length) (c := co13) ?_).2.2; exact (zs HO946.out BK957.out)); rintro e w18 ⟨v962, rfl, ho0, hb⟩; refine zv ?_; have HO963 := z0 (Kd.R_lower (Kd.R_new' (Kd.R_new' ho0 (Kd.R_lt (zs HO946.out BK957.out))) (Kd.R_lt (zs HO954.out BK957.out))) (below_size (zb HB.out))); replace HO946 := z0 (Kd.R_elder' (zs HO946.out BK957.out) (Kd.R_base ho0) hb); replace HO954 := z0 (Kd.R_elder' (zs HO954.out BK957.out) (Kd.R_base ho0) hb); replace BK957 := z0 (blk_below (zpc BK957.out #[.string t949, .string t950, .string t951, .slice Ao17 t952.length co17, .int .i64 t955]) hb); replace HB := zH HB hb; (try clear hb ho0)) | ((with_reducible refine gd 11 ?_); (try (refine gate_guard (by rfl) ?_; dsimp only)); refine zbx 25 #[.string ⟨#[]⟩, .string ⟨#[]⟩, .string ⟨#[]⟩, .slice none 0 0, .int .i64 0] ?_; intro gb966 hg w19 hbox hb; replace HO946 := zA HO946 hb; replace HO954 := zA HO954 hb; replace HO963 := zA HO963 hb; have BK966 := z0 (hbox); have GE966 := zG hg HB; replace HB := zH HB hb; have NB957_966 := zLt hg BK957; have NB966_957 := zGt hg BK957; replace BK957 := zK BK957 hb; clear hb hbox hg; have hnb20 := NB966_957.out; have hnc20 := NB957_966.out; have hcz21 := zc5 BK966.out; obtain ⟨Ao22, co22, eo22⟩ := Kd.R_slice HO963.out; subst eo22))
    (try simp only [Act.put, List.setIfInBounds_toArray, List.set_cons_zero, List.set_cons_succ])
    go_cut [59] (fun v59 wc => ∃ (kq : Nat) (x59_9 : Bool), v59 = .bool x59_9 ∧ Aside0 (laws_FnSieveSeekKey.j1 kq t943 t947 t956 t965 x59_9 t949 t950 t951 t952 t955 t958 t959 t960 t961 t964 = some r) ∧ Aside0 (kq ≤ kj2) ∧ Aside0 (Kd.R Kd.string 9 wc w.heap.size (fun k_ => some k_ ≠ ((.slice Ao17 t952.length co17) : Value).ownBlock ∧ some k_ ≠ ((.slice Ao22 t961.length co22) : Value).ownBlock) (.slice Ao13 t943.length co13) t943) ∧ Aside0 (Kd.R Kd.string 9 wc w.heap.size (fun k_ => some k_ ≠ ((.slice Ao13 t943.length co13) : Value).ownBlock ∧ some k_ ≠ ((.slice Ao22 t961.length co22) : Value).ownBlock) (.slice Ao17 t952.length co17) t952) ∧ Aside0 (Kd.R Kd.string 9 wc w.heap.size (fun k_ => some k_ ≠ ((.slice Ao13 t943.length co13) : Value).ownBlock ∧ some k_ ≠ ((.slice Ao17 t952.length co17) : Value).ownBlock) (.slice Ao22 t961.length co22) t961) ∧ Aside0 (wc.heap[gb957]? = some (.cells #[.string t949, .string t950, .string t951, (.slice Ao17 t952.length co17), .int .i64 t955] 25 (0, 0))) ∧ Aside0 (wc.heap[gb966]? = some (.cells #[.string t958, .string t959, .string t960, (.slice Ao22 t961.length co22), .int .i64 t964] 25 (0, 0))) ∧ Aside0 (Below w.heap.size w wc))
    case first =>
     have H := HC10.out; clear HC10
     by_cases c23 : (t965 != t956) = true
     ·rw [if_pos c23] at H; have c23b0 : (t965 != t956) = true := c23; (try (have c23b1 : decide (t965 = t956) = false := by simpa using c23)); (try (have c23b2 : (t965 == t956) = false := by simpa using c23)); (try (have c23b3 : ¬ (t965 = t956) := by simpa using c23)); clear c23; (first | rw [c23b0] | (simp only [i64_w, i32_w]; rw [c23b0]) | simp only [*, Bool.not_true, Bool.not_false] | skip); have H' := z0 H; clear H; go_wp2; go_meet
      case rel => exact ⟨_, (true), zf, H', ⟨by have := HJ2.out; first | omega | exact Nat.le_refl _⟩, ⟨Kd.R_mono (zt HO946.out BK966.out) (fun _ hk => ⟨hk.1.1.2, hk.1.2⟩)⟩, ⟨Kd.R_mono (zt HO954.out BK966.out) (fun _ hk => ⟨hk.1.1.2, hk.1.2⟩)⟩, ⟨Kd.R_mono (zt HO963.out BK966.out) (fun _ hk => ⟨hk.1.1.2, hk.1.2⟩)⟩, ⟨zy BK957.out⟩, ⟨zp BK966.out⟩, ⟨zb HB.out⟩⟩
     ·rw [if_neg c23] at H
      have c23b0 : (t965 != t956) = false := by simpa using c23
      (try (have c23b1 : decide (t965 = t956) = true := by simpa using c23)); (try (have c23b2 : (t965 == t956) = true := by simpa using c23)); clear c23; (first | rw [c23b0] | (simp only [i64_w, i32_w]; rw [c23b0]) | simp only [*, Bool.not_true, Bool.not_false] | skip); replace H := zi H; obtain ⟨t967, A24, H⟩ := H
      by_cases c25 : t967 = true
      ·subst c25
       have H1 : (laws_FnSieveSeekKey.j1 kj2 t943 t947 t956 t965 (!t965) t949 t950 t951 t952 t955 t958 t959 t960 t961 t964) = some r := by rw [if_pos rfl] at H; exact H
       clear H; have H := H1; clear H1; have H' := z0 H; clear H; have hnb26 := NB966_957.out; have hnc26 := NB957_966.out; have hcz27 := zc5 BK966.out; have hcz28 := zc5 BK957.out
       go_wp2_with (first | (go_at_call 37; (with_reducible refine (laws_ltSieve.calls kj2 t958 t959 t960 _ _ t961 t964 t949 t950 t951 _ _ t952 t955 true _ ?side1 ?side2 ?side3 ?side4 A24.out).mono ?_); (case side1 => refine (Kd.R_reads' (e := 9) (base := w.heap.size) (ok := fun k_ => ((True ∧ some k_ ≠ (.slice Ao13 t943.length co13 : Value).ownBlock) ∧ some k_ ≠ (.slice Ao17 t952.length co17 : Value).ownBlock)) (n := t961.length) (c := co22) ?_).2.2; exact (zs HO963.out BK966.out)); (case side2 => exact (Kd.R_reads' HO963.out).2.1); (case side3 => refine (Kd.R_reads' (e := 9) (base := w.heap.size) (ok := fun k_ => ((True ∧ some k_ ≠ (.slice Ao13 t943.length co13 : Value).ownBlock) ∧ some k_ ≠ (.slice Ao22 t961.length co22 : Value).ownBlock)) (n := t952.length) (c := co17) ?_).2.2; exact (zs HO954.out BK966.out)); (case side4 => exact (Kd.R_reads' HO954.out).2.1); rintro e w29 ⟨rfl, hb⟩; replace HO946 := zAs HO946 BK966 hb; replace HO954 := zAs HO954 BK966 hb; replace HO963 := zAs HO963 BK966 hb; replace BK957 := zKy BK957 hb; replace BK966 := z0 (blk_below (zpc BK966.out #[.string t958, .string t959, .string t960, .slice Ao22 t961.length co22, .int .i64 t964]) hb); replace HB := zH HB hb; (try clear hb)))
       go_meet
       case rel => exact ⟨_, (!t965), zf, H', ⟨by have := HJ2.out; first | omega | exact Nat.le_refl _⟩, ⟨Kd.R_mono (zr HO946.out) (fun _ hk => ⟨hk.1.2, hk.2⟩)⟩, ⟨Kd.R_mono (zr HO954.out) (fun _ hk => ⟨hk.1.2, hk.2⟩)⟩, ⟨Kd.R_mono (zr HO963.out) (fun _ hk => ⟨hk.1.2, hk.2⟩)⟩, ⟨zl BK957.out⟩, ⟨zl BK966.out⟩, ⟨zb HB.out⟩⟩
      ·replace c25 := Bool.eq_false_iff.mpr c25; subst c25
       have H1 : (laws_FnSieveSeekKey.j1 kj2 t943 t947 t956 t965 true t949 t950 t951 t952 t955 t958 t959 t960 t961 t964) = some r := by rw [if_neg (show ¬ (false = true) by decide)] at H; exact H
       clear H; have H := H1; clear H1; have H' := z0 H; clear H; have hnb30 := NB966_957.out; have hnc30 := NB957_966.out; have hcz31 := zc5 BK966.out; have hcz32 := zc5 BK957.out
       go_wp2_with (first | (go_at_call 37; (with_reducible refine (laws_ltSieve.calls kj2 t958 t959 t960 _ _ t961 t964 t949 t950 t951 _ _ t952 t955 false _ ?side1 ?side2 ?side3 ?side4 A24.out).mono ?_); (case side1 => refine (Kd.R_reads' (e := 9) (base := w.heap.size) (ok := fun k_ => ((True ∧ some k_ ≠ (.slice Ao13 t943.length co13 : Value).ownBlock) ∧ some k_ ≠ (.slice Ao17 t952.length co17 : Value).ownBlock)) (n := t961.length) (c := co22) ?_).2.2; exact (zs HO963.out BK966.out)); (case side2 => exact (Kd.R_reads' HO963.out).2.1); (case side3 => refine (Kd.R_reads' (e := 9) (base := w.heap.size) (ok := fun k_ => ((True ∧ some k_ ≠ (.slice Ao13 t943.length co13 : Value).ownBlock) ∧ some k_ ≠ (.slice Ao22 t961.length co22 : Value).ownBlock)) (n := t952.length) (c := co17) ?_).2.2; exact (zs HO954.out BK966.out)); (case side4 => exact (Kd.R_reads' HO954.out).2.1); rintro e w33 ⟨rfl, hb⟩; replace HO946 := zAs HO946 BK966 hb; replace HO954 := zAs HO954 BK966 hb; replace HO963 := zAs HO963 BK966 hb; replace BK957 := zKy BK957 hb; replace BK966 := z0 (blk_below (zpc BK966.out #[.string t958, .string t959, .string t960, .slice Ao22 t961.length co22, .int .i64 t964]) hb); replace HB := zH HB hb; (try clear hb)))
       go_meet
       case rel => exact ⟨_, (true), zf, H', ⟨by have := HJ2.out; first | omega | exact Nat.le_refl _⟩, ⟨Kd.R_mono (zr HO946.out) (fun _ hk => ⟨hk.1.2, hk.2⟩)⟩, ⟨Kd.R_mono (zr HO954.out) (fun _ hk => ⟨hk.1.2, hk.2⟩)⟩, ⟨Kd.R_mono (zr HO963.out) (fun _ hk => ⟨hk.1.2, hk.2⟩)⟩, ⟨zl BK957.out⟩, ⟨zl BK966.out⟩, ⟨zb HB.out⟩⟩
    case rest =>
     clear HC10
     try clear c1
     try clear c2
     try clear p2
     try clear c3
     try clear c4
     try clear c4b0
     try clear c4b1
     try clear c5
     try clear c8
     try clear c20
     try clear c23
     try clear c23b0
     try clear c23b1
     try clear c23b2
     try clear c25
     try clear c26
     try clear c30
     try clear hcz16
     try clear hcz21
     try clear hcz27
     try clear hcz28
     try clear hcz31
     try clear hcz32
     try clear p2
     obtain ⟨kq, x59_9, rfl, HA, HJ9, HO_5, HO_958003, HO_967003, BK957, BK966, HB⟩ := hcut
     cases kq with
     | zero => exact absurd HA.out (by simp [laws_FnSieveSeekKey.j1])
     | succ kj9 =>
      have H := HA.out; clear HA; simp only [laws_FnSieveSeekKey.j1] at H
      by_cases c34 : x59_9 = true
      ·subst c34
       have H1 : (if (t965 == t956) = true then ((laws_ltSieve.f kj9 t958 t959 t960 t961 t964 t949 t950 t951 t952 t955).bind fun t968 => (some t968)) else (some false)) = some r := by rw [if_pos rfl] at H; exact H
       clear H; have H := H1; clear H1
       by_cases c35 : (t965 == t956) = true
       ·rw [if_pos c35] at H; have c35b0 : (t965 == t956) = true := c35; (try (have c35b1 : decide (t965 = t956) = true := by simpa using c35)); (try (have c35b2 : (t965 == t956) = true := by simpa using c35)); clear c35; replace H := zi H; obtain ⟨t968, A36, H⟩ := H; obtain rfl := Option.some.inj H; have hnb37 := NB966_957.out; have hnc37 := NB957_966.out; have hcz38 := zc5 BK966.out; have hcz39 := zc5 BK957.out
        go_wp2_with (first | (go_at_call 37; (with_reducible refine (laws_ltSieve.calls kj9 t958 t959 t960 _ _ t961 t964 t949 t950 t951 _ _ t952 t955 t968 _ ?side1 ?side2 ?side3 ?side4 A36.out).mono ?_); (case side1 => repeat (first | exact (Kd.R_reads' HO_967003.out).2.2 | (with_reducible refine Kd.C_alloc ?_ _) | (with_reducible refine Kd.C_drewN ?_ _) | (with_reducible refine Kd.C_drew ?_))); (case side2 => exact (Kd.R_reads' HO_967003.out).2.1); (case side3 => repeat (first | exact (Kd.R_reads' HO_958003.out).2.2 | (with_reducible refine Kd.C_alloc ?_ _) | (with_reducible refine Kd.C_drewN ?_ _) | (with_reducible refine Kd.C_drew ?_))); (case side4 => exact (Kd.R_reads' HO_958003.out).2.1); rintro e w40 ⟨rfl, hb⟩; replace HO_5 := zA HO_5 hb; replace HO_958003 := zA HO_958003 hb; replace HO_967003 := zA HO_967003 hb; replace BK957 := zK BK957 hb; replace BK966 := zK BK966 hb; replace HB := zH HB hb; (try clear hb)))
        go_ret; exact ⟨ze, zb HB.out⟩
       ·rw [if_neg c35] at H
        have c35b0 : (t965 == t956) = false := by simpa using c35
        (try (have c35b1 : decide (t965 = t956) = false := by simpa using c35)); (try (have c35b2 : (t965 == t956) = false := by simpa using c35)); (try (have c35b3 : ¬ (t965 = t956) := by simpa using c35)); clear c35; obtain rfl := Option.some.inj H; go_wp2; go_ret; exact ⟨ze, zb HB.out⟩
      ·replace c34 := Bool.eq_false_iff.mpr c34; subst c34
       have H1 : ((impl_KeyFirst.f kj9 t943 t947).bind fun bt969 => ((impl_SieveSeek.f kj9 t958 t959 t960 t961 t964 t947).bind fun bt971 => (if bt969.2 = true then (if bt971.2 = true then (some (!(Op.bytesLess bt969.1.toList bt971.1.toList))) else (some false)) else (some true)))) = some r := by rw [if_neg (show ¬ (false = true) by decide)] at H; exact H
       clear H; have H := H1; clear H1; replace H := zi H; obtain ⟨⟨t969, t970⟩, A41, H⟩ := H; (try dsimp only at H); replace H := zi H; obtain ⟨⟨t971, t972⟩, A42, H⟩ := H; (try dsimp only at H)
       by_cases c43 : t970 = true
       ·subst c43
        have H1 : (if t972 = true then (some (!(Op.bytesLess t969.toList t971.toList))) else (some false)) = some r := by rw [if_pos rfl] at H; exact H
        clear H; have H := H1; clear H1
        by_cases c44 : t972 = true
        ·subst c44
         have H1 : (some (!(Op.bytesLess t969.toList t971.toList))) = some r := by rw [if_pos rfl] at H; exact H
         clear H; have H := H1; clear H1; obtain rfl := Option.some.inj H
         go_wp2_with (first | ((with_reducible refine gc 43 ?_); refine zL (some 71) Try.func43 #[.slice Ao13 t943.length co13, .string t947] ?_; (with_reducible refine (impl_KeyFirst.calls kj9 _ _ t943 t947 t969 true _ ?side1 ?side2 A41.out).mono ?_); (case side1 => repeat (first | exact (Kd.R_reads' HO_5.out).2.2 | (with_reducible refine Kd.C_alloc ?_ _) | (with_reducible refine Kd.C_drewN ?_ _) | (with_reducible refine Kd.C_drew ?_))); (case side2 => exact (Kd.R_reads' HO_5.out).2.1); rintro e w' ⟨rfl, ⟨nd, rfl⟩⟩; refine ⟨_, rfl, ?_⟩; have hnb45 := NB966_957.out; have hnc45 := NB957_966.out; have hcz46 := zc5 BK966.out) | ((with_reducible refine gc 44 ?_); refine zL (some 77) Try.func44 #[.agg #[.string t958, .string t959, .string t960, .slice Ao22 t961.length co22, .int .i64 t964], .string t947] ?_; (with_reducible refine (impl_SieveSeek.calls kj9 t958 t959 t960 _ _ t961 t964 t947 t971 true _ (zC ((Kd.R_reads' HO_967003.out).2.2)) ((Kd.R_reads' HO_967003.out).2.1) A42.out).mono ?_); rintro e w47 ⟨rfl, hb⟩; refine zv ?_; replace HO_5 := zA HO_5 hb; replace HO_958003 := zA HO_958003 hb; replace HO_967003 := zA HO_967003 hb; replace BK957 := zK BK957 hb; replace BK966 := zK BK966 hb; replace HB := zH HB hb; (try clear hb)))
         go_ret; exact ⟨ze, zb HB.out⟩
        ·replace c44 := Bool.eq_false_iff.mpr c44; subst c44
         have H1 : (some false) = some r := by rw [if_neg (show ¬ (false = true) by decide)] at H; exact H
         clear H; have H := H1; clear H1; obtain rfl := Option.some.inj H
         go_wp2_with (first | ((with_reducible refine gc 43 ?_); refine zL (some 71) Try.func43 #[.slice Ao13 t943.length co13, .string t947] ?_; (with_reducible refine (impl_KeyFirst.calls kj9 _ _ t943 t947 t969 true _ ?side1 ?side2 A41.out).mono ?_); (case side1 => repeat (first | exact (Kd.R_reads' HO_5.out).2.2 | (with_reducible refine Kd.C_alloc ?_ _) | (with_reducible refine Kd.C_drewN ?_ _) | (with_reducible refine Kd.C_drew ?_))); (case side2 => exact (Kd.R_reads' HO_5.out).2.1); rintro e w' ⟨rfl, ⟨nd, rfl⟩⟩; refine ⟨_, rfl, ?_⟩; have hnb48 := NB966_957.out; have hnc48 := NB957_966.out; have hcz49 := zc5 BK966.out) | ((with_reducible refine gc 44 ?_); refine zL (some 77) Try.func44 #[.agg #[.string t958, .string t959, .string t960, .slice Ao22 t961.length co22, .int .i64 t964], .string t947] ?_; (with_reducible refine (impl_SieveSeek.calls kj9 t958 t959 t960 _ _ t961 t964 t947 t971 false _ (zC ((Kd.R_reads' HO_967003.out).2.2)) ((Kd.R_reads' HO_967003.out).2.1) A42.out).mono ?_); rintro e w50 ⟨rfl, hb⟩; refine zv ?_; replace HO_5 := zA HO_5 hb; replace HO_958003 := zA HO_958003 hb; replace HO_967003 := zA HO_967003 hb; replace BK957 := zK BK957 hb; replace BK966 := zK BK966 hb; replace HB := zH HB hb; (try clear hb)))
         go_ret; exact ⟨ze, zb HB.out⟩
       ·replace c43 := Bool.eq_false_iff.mpr c43; subst c43
        have H1 : (some true) = some r := by rw [if_neg (show ¬ (false = true) by decide)] at H; exact H
        clear H; have H := H1; clear H1; obtain rfl := Option.some.inj H
        go_wp2_with (first | ((with_reducible refine gc 43 ?_); refine zL (some 71) Try.func43 #[.slice Ao13 t943.length co13, .string t947] ?_; (with_reducible refine (impl_KeyFirst.calls kj9 _ _ t943 t947 t969 false _ ?side1 ?side2 A41.out).mono ?_); (case side1 => repeat (first | exact (Kd.R_reads' HO_5.out).2.2 | (with_reducible refine Kd.C_alloc ?_ _) | (with_reducible refine Kd.C_drewN ?_ _) | (with_reducible refine Kd.C_drew ?_))); (case side2 => exact (Kd.R_reads' HO_5.out).2.1); rintro e w' ⟨rfl, ⟨nd, rfl⟩⟩; refine ⟨_, rfl, ?_⟩; have hnb51 := NB966_957.out; have hnc51 := NB957_966.out; have hcz52 := zc5 BK966.out) | ((with_reducible refine gc 44 ?_); refine zL (some 77) Try.func44 #[.agg #[.string t958, .string t959, .string t960, .slice Ao22 t961.length co22, .int .i64 t964], .string t947] ?_; (with_reducible refine (impl_SieveSeek.calls kj9 t958 t959 t960 _ _ t961 t964 t947 t971 t972 _ (zC ((Kd.R_reads' HO_967003.out).2.2)) ((Kd.R_reads' HO_967003.out).2.1) A42.out).mono ?_); rintro e w53 ⟨rfl, hb⟩; refine zv ?_; replace HO_5 := zA HO_5 hb; replace HO_958003 := zA HO_958003 hb; replace HO_967003 := zA HO_967003 hb; replace BK957 := zK BK957 hb; replace BK966 := zK BK966 hb; replace HB := zH HB hb; (try clear hb)))
        go_ret; exact ⟨ze, zb HB.out⟩
theorem laws_FnSieveSeekKey.walk (P : laws_FnSieveSeekKey.Pure) (a0 : Option Addr) (len0 cap0 : Nat) (z0 : List Int) (a1 : Option Addr) (len1 cap1 : Nat) (z1 : List Int) (w : World) (w0 : (a0 = none ∧ len0 = 0 ∧ cap0 = 0 ∧ z0 = []) ∨ ∃ x, a0 = some x ∧ len0 ≤ cap0 ∧ cap0 ≤ maxLen ∧ z0.length = cap0 ∧ (∀ i, i < z0.length → w.cell? (x.add i) = some (.int .u8 (z0.getD i 0))) ∧ ∀ n ∈ z0, (Lit.int .u8 n).wf = true) (y0 : len0 * 1 ≤ 140737488351232) (w1 : (a1 = none ∧ len1 = 0 ∧ cap1 = 0 ∧ z1 = []) ∨ ∃ x, a1 = some x ∧ len1 ≤ cap1 ∧ cap1 ≤ maxLen ∧ z1.length = cap1 ∧ (∀ i, i < z1.length → w.cell? (x.add i) = some (.int .u8 (z1.getD i 0))) ∧ ∀ n ∈ z1, (Lit.int .u8 n).wf = true) (y1 : len1 * 1 ≤ 140737488351232) :
    Calls Try.prog 8 #[.slice a0 len0 cap0, .slice a1 len1 cap1] w fun e w' => e = .returned (.bool true) ∧ Below w.heap.size w w' := by
  obtain ⟨l0, rfl, hr0, hm0, hw0, hc0⟩ := ReadsInt.ofRowC w0
  obtain ⟨l1, rfl, hr1, hm1, hw1, hc1⟩ := ReadsInt.ofRowC w1
  obtain ⟨k, h⟩ := P l0 l1 hm0 y0 hw0 hm1 y1 hw1
  refine (laws_FnSieveSeekKey.calls k _ _ l0 _ _ l1 true w (Kd.C_of_reads (d := (0 : Int)) (h1 := fun _ => rfl) hr0) hc0 (Kd.C_of_reads (d := (0 : Int)) (h1 := fun _ => rfl) hr1) hc1 h).mono ?_
  rintro e w' ⟨rfl, hd⟩
  exact ⟨rfl, hd⟩
end Go.Proofs.Ytifgcajpkgamgaa.Q
end
section
set_option linter.unusedVariables false
set_option linter.unusedSimpArgs false
namespace Go.Proofs.Ytifgcajpkgamgaa.Pure
open Go Go.RowKit Go.Proofs.YtifgcajpkgamgaaW.PrintWords Go.Proofs.YtifgcajpkgamgaaW.PrintLast Go.Proofs.YtifgcajpkgamgaaW.PrintMore Go.Proofs.Ytifgcajpkgamgaa.Trie Go.Proofs.Ytifgcajpkgamgaa.Q Go.Proofs.Ytifgcajpkgamgaa.Pb
theorem FnSieveSeekKey : laws_FnSieveSeekKey.Pure := by
 intro l0 l1 hl _ hw hl' _ hw'
 refine Ev.rounds ?_
 unfold laws_FnSieveSeekKey.f
 have go : Ev (fun k => laws_FnSieveSeekKey.j0 k l0 l1 false) true := by
  obtain ⟨s, a, hd, hz, hn⟩ := DrawSieveOf_ev l0 hl hw
  obtain ⟨x, y, hx, kx, ky⟩ := DrawKeyBegins_ev l1 hl' hw'
  have i1 := spec_SieveOf_ev s hz a
  have i2 := impl_SieveOf_ev s hz a
  have hf := sieveV_few (LL s) a
  have lt := ltSieve_ev (sieveV (LL s) a) hf
  refine ev_succ ?_
  simp only [laws_FnSieveSeekKey.j0]
  refine ev_neg (by simp) (Ev.bind hd (Ev.bind hx (Ev.bind i1 (Ev.bind i2 (ev_neg (by simp) (Ev.bind lt (ev_pos rfl (ev_succ ?_))))))))
  simp only [laws_FnSieveSeekKey.j1]
  rcases sieveV_cases (LL s) a with ⟨h1, _⟩ | ⟨keep, Lt, Mo, Fi, Rs, e, h1, hI⟩
  ·rw [h1]
   exact ev_pos (by simp) (ev_pos (by simp) (Ev.bind lt (ev_some rfl)))
  ·rw [h1]
   have hh := heads_of hI
   have hK := hI.ok.ok
   have hle := LL_length s
   have hfew := hI.ok.few
   have sx := kok_size kx
   have hq := impl_seek_yes hI hh x sx
   have k1 := impl_KeyFirst_ev s hz x
   have hkb : keysB (LL s) = true := keysB_iff.2 hI.ok
   refine ev_neg (by simp) (Ev.bind k1 (Ev.bind hq ?_))
   unfold firstB
   rw [if_pos hkb]
   cases hf : s.find? (notLess x) with
   | none => exact ev_neg (by simp [firstOf]) (ev_some rfl)
   | some y' =>
    have hy := List.find?_some hf
    have hym : L y' ∈ LL s := LL_mem (List.mem_of_find?_eq_some hf)
    have hle : ¬ L y' < L x := by simpa [notLess] using hy
    have hp := atb_down (may_atb (part_may (LL s) keep (L y'))).1 hle
    refine ev_pos rfl ?_
    unfold seekW
    rw [if_pos (kokB_iff.2 kx)]
    unfold seekV
    cases hg : (LL s).find? (atK (LL s) keep (L x)) with
    | none => exact absurd hp (by have := List.find?_eq_none.1 hg _ hym; exact this)
    | some k' =>
     refine ev_pos rfl (ev_some ?_)
     have hps := parts_sorted hK hI.ok.sorted keep
     have hfp := find_parts (LL s) keep (L x) (LL s)
     rw [hg] at hfp
     have h3 := find_first hps hfp (List.mem_map.2 ⟨_, hym, rfl⟩) hp
     have h4 : ¬ L y' < Trie.hd (LL s) keep (L y') := prefix_not_lt (hd_prefix _ _ _)
     have h5 : ¬ L y' < Trie.hd (LL s) keep k' := le_trans' h3 h4
     simp only [firstOf, Bool.not_eq_true', less_L, decide_eq_false_iff_not, toList_L, L_ht]
     exact h5
 have stop : Ev (fun k => laws_FnSieveSeekKey.j0 k l0 l1 true) true := by
  refine ev_succ ?_
  simp only [laws_FnSieveSeekKey.j0]
  exact ev_pos (by simp) (ev_some rfl)
 by_cases c : (l0.length : Int) > 1048576
 ·exact ev_pos c stop
 ·refine ev_neg c ?_
  by_cases c' : (l1.length : Int) > 1048576
  ·rw [decide_eq_true c']; exact stop
  ·rw [decide_eq_false c']; exact go
end Go.Proofs.Ytifgcajpkgamgaa.Pure
end
