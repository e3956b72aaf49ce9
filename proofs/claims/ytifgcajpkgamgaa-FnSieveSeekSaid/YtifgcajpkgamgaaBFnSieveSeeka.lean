/- What the law FnSieveSeek needs: the kit's printed words, the printed functions with their proofs, and plain facts on them. -/
import Derived.Test.YtifgcajpkgamgaaBSBb
section
namespace Go.Proofs.Ytifgcajpkgamgaa.Q
open Go.RowKit Go.Proofs.YtifgcajpkgamgaaW.PrintWords Go.Proofs.YtifgcajpkgamgaaW.PrintLast Go.Proofs.YtifgcajpkgamgaaW.PrintMore
attribute [local go_sem] max2_int min2_int max_two min_two max_three min_three max_four min_four   
set_option linter.unusedVariables false
set_option linter.unusedSimpArgs false
set_option maxHeartbeats 8000000
set_option maxRecDepth 100000
theorem impl_SieveSeek.mono_l : ∀ k, (∀ y0 y1 y2, LeO (impl_SieveSeek.j0 k y0 y1 y2) (impl_SieveSeek.j0 (k + 1) y0 y1 y2)) ∧ (∀ y0 y1 y2 y3, LeO (impl_SieveSeek.l0 k y0 y1 y2 y3) (impl_SieveSeek.l0 (k + 1) y0 y1 y2 y3))
  | 0 => ⟨fun _ _ _ r h => by simp [impl_SieveSeek.j0] at h, fun _ _ _ _ r h => by simp [impl_SieveSeek.l0] at h⟩
  | k + 1 => by
    obtain ⟨ih0, ih1⟩ := impl_SieveSeek.mono_l k
    refine ⟨?_, ?_⟩
    · intro y0 y1 y2
      unfold impl_SieveSeek.j0
      repeat' first | (with_reducible first | apply ih0 | apply ih1 | apply impl_KeyOk.mono | apply impl_Sieve_heads.mono | exact LeO.refl _ | exact LeO.none _ | refine LeO.ite ?_ ?_ | refine LeO.bind ?_ (fun _ => ?_)) | exact LeO.none _ | refine LeO.ite ?_ ?_ | refine LeO.bind ?_ (fun _ => ?_)
    · intro y0 y1 y2 y3
      unfold impl_SieveSeek.l0
      repeat' first | (with_reducible first | apply ih0 | apply ih1 | apply impl_KeyOk.mono | apply impl_Sieve_heads.mono | exact LeO.refl _ | exact LeO.none _ | refine LeO.ite ?_ ?_ | refine LeO.bind ?_ (fun _ => ?_)) | exact LeO.none _ | refine LeO.ite ?_ ?_ | refine LeO.bind ?_ (fun _ => ?_)
theorem impl_SieveSeek.mono : ∀ a0 a1 a2 a3 a4 a5 k, LeO (impl_SieveSeek.f k a0 a1 a2 a3 a4 a5) (impl_SieveSeek.f (k + 1) a0 a1 a2 a3 a4 a5) := by
  intro a0 a1 a2 a3 a4 a5 k
  obtain ⟨ih0, ih1⟩ := impl_SieveSeek.mono_l k
  unfold impl_SieveSeek.f
  repeat' first | (with_reducible first | apply ih0 | apply ih1 | apply impl_KeyOk.mono | apply impl_Sieve_heads.mono | exact LeO.refl _ | exact LeO.none _ | refine LeO.ite ?_ ?_ | refine LeO.bind ?_ (fun _ => ?_)) | exact LeO.none _ | refine LeO.ite ?_ ?_ | refine LeO.bind ?_ (fun _ => ?_)
theorem impl_SieveSeek.calls (k : Nat) (a0_0 a0_1 a0_2 : ByteArray) (A0_3 : Option Addr) (c0_3 : Nat) (l0_3 : List ByteArray) (a0_4 : Int) (a1 r1 : ByteArray) (r2 : Bool) (w : World) (hr0_3 : Kd.C Kd.string w A0_3 l0_3.length l0_3) (hc0_3 : l0_3.length ≤ c0_3) (h : impl_SieveSeek.f k a0_0 a0_1 a0_2 l0_3 a0_4 a1 = some (r1, r2)) :
    Calls Try.prog 44 #[.agg #[.string a0_0, .string a0_1, .string a0_2, .slice A0_3 l0_3.length c0_3, .int .i64 a0_4], .string a1] w fun e w' => e = .returned (.tuple #[.string r1, .bool r2]) ∧ Below w.heap.size w w' := by
 have hu25 := Try.underlying25; have hu93 := Try.underlying93; have HR0_3 := z0 hr0_3; have HC0_3 := z0 hc0_3; clear hr0_3 hc0_3; have HB := z0 (Below.refl w.heap.size w); have H : ((impl_Sieve_heads.f k a0_0 a0_1 a0_2 l0_3 a0_4).bind fun bt473 => (if bt473.2 = true then ((impl_KeyOk.f k a1).bind fun t477 => (impl_SieveSeek.j0 k a1 bt473.1 (!t477))) else (impl_SieveSeek.j0 k a1 bt473.1 true))) = some (r1, r2) := h; clear h; replace H := zi H; obtain ⟨⟨t473, t476⟩, A3, H⟩ := H; (try dsimp only at H); have HC4 := z0 H; clear H; go_enter Try.func44, Try.ntmps44
 go_upto_region 2 with (first | ((with_reducible refine gd 2 ?_); refine zbx 25 #[.string a0_0, .string a0_1, .string a0_2, .slice A0_3 l0_3.length c0_3, .int .i64 a0_4] ?_; intro gb472 hg w5 hbox hb; have BK472 := z0 (hbox); have GE472 := zG hg HB; replace HB := zH HB hb; clear hb hbox hg; have hcz6 := zc5 BK472.out) | ((with_reducible refine gc 89 ?_); refine zL (some 12) Try.func89 #[.agg #[.string a0_0, .string a0_1, .string a0_2, .slice A0_3 l0_3.length c0_3, .int .i64 a0_4]] ?_; (with_reducible refine (impl_Sieve_heads.calls k a0_0 a0_1 a0_2 _ _ l0_3 a0_4 t473 t476 _ (zC (Kd.C_below HR0_3.out HB.out)) HC0_3.out A3.out).mono ?_); rintro e w7 ⟨v474, rfl, ho0, hb⟩; refine zv ?_; have HO475 := z0 (Kd.R_lower ho0 (below_size (zb HB.out))); replace BK472 := zK BK472 hb; replace HB := zH HB hb; (try clear hb ho0)))
 (try simp only [Act.put, List.setIfInBounds_toArray, List.set_cons_zero, List.set_cons_succ])
 go_cut [21] (fun v21 wc => ∃ (kq : Nat) (x21_3 : Bool), v21 = .bool x21_3 ∧ Aside0 (impl_SieveSeek.j0 kq a1 t473 x21_3 = some (r1, r2)) ∧ Aside0 (kq ≤ k) ∧ Aside0 (Kd.R k93 93 wc w.heap.size (fun _ => True) v474 t473) ∧ Aside0 (wc.heap[gb472]? = some (.cells #[.string a0_0, .string a0_1, .string a0_2, (.slice A0_3 l0_3.length c0_3), .int .i64 a0_4] 25 (0, 0))) ∧ Aside0 (Below w.heap.size w wc))
 case first =>
  have H := HC4.out; clear HC4
  by_cases c8 : t476 = true
  ·subst c8
   have H1 : ((impl_KeyOk.f k a1).bind fun t477 => (impl_SieveSeek.j0 k a1 t473 (!t477))) = some (r1, r2) := by rw [if_pos rfl] at H; exact H
   clear H; have H := H1; clear H1; replace H := zi H; obtain ⟨t477, A9, H⟩ := H; have H' := z0 H; clear H
   go_wp2_with (first | (go_at_call 67; (with_reducible refine (impl_KeyOk.calls k a1 t477 _ A9.out).mono ?_); rintro e w' ⟨rfl, ⟨nd, rfl⟩⟩))
   go_meet
   case rel => exact ⟨_, (!t477), zf, H', ⟨by first | omega | exact Nat.le_refl _⟩, ⟨zr HO475.out⟩, ⟨zl BK472.out⟩, ⟨zb HB.out⟩⟩
  ·replace c8 := Bool.eq_false_iff.mpr c8; subst c8
   have H1 : (impl_SieveSeek.j0 k a1 t473 true) = some (r1, r2) := by rw [if_neg (show ¬ (false = true) by decide)] at H; exact H
   clear H; have H := H1; clear H1; have H' := z0 H; clear H; go_wp2; go_meet
   case rel => exact ⟨_, (true), zf, H', ⟨by first | omega | exact Nat.le_refl _⟩, ⟨zr HO475.out⟩, ⟨zl BK472.out⟩, ⟨zb HB.out⟩⟩
 case rest =>
  clear HC4
  try clear p2
  try clear c4
  try clear c8
  try clear hcz6
  obtain ⟨kq, x21_3, rfl, HA, HJ3, HO_6, BK472, HB⟩ := hcut
  cases kq with
  | zero => exact absurd HA.out (by simp [impl_SieveSeek.j0])
  | succ kj3 =>
   have H := HA.out; clear HA; simp only [impl_SieveSeek.j0] at H
   by_cases c10 : x21_3 = true
   ·subst c10
    have H1 : (some ((⟨#[]⟩ : ByteArray), false)) = some (r1, r2) := by rw [if_pos rfl] at H; exact H
    clear H; have H := H1; clear H1; simp only [Option.some.injEq, Prod.mk.injEq] at H; obtain ⟨rfl, rfl⟩ := H; go_wp2
    go_ret2
    exact ⟨ze, zb HB.out⟩
   ·replace c10 := Bool.eq_false_iff.mpr c10; subst c10
    have H1 : (impl_SieveSeek.l0 kj3 a1 t473 (t473.length : Int) 0) = some (r1, r2) := by rw [if_neg (show ¬ (false = true) by decide)] at H; exact H
    clear H; have H := H1; clear H1; have H' := z0 H; clear H; obtain ⟨Ao11, co11, eo11⟩ := Kd.R_slice HO_6.out; subst eo11; go_wp2
    go_loopg [24] kj3 (fun kq v24 w' => ∃ (x24_2 : Int), v24 = .int .i64 x24_2 ∧ Aside0 (impl_SieveSeek.l0 kq a1 t473 (t473.length : Int) x24_2 = some (r1, r2)) ∧ Aside0 (kq ≤ kj3) ∧ Aside0 (Kd.R k93 93 w' w.heap.size (fun _ => True) (.slice Ao11 t473.length co11) t473) ∧ Aside0 (w'.heap[gb472]? = some (.cells #[.string a0_0, .string a0_1, .string a0_2, (.slice A0_3 l0_3.length c0_3), .int .i64 a0_4] 25 (0, 0))) ∧ Aside0 (Below w.heap.size w w'))
    case atStart => exact ⟨(0), zf, H', ⟨Nat.le_refl _⟩, ⟨zr HO_6.out⟩, ⟨zl BK472.out⟩, ⟨zb HB.out⟩⟩
    case round =>
     clear H'
     try clear c1
     try clear p2
     try clear c4
     try clear c8
     try clear c10
     try clear hcz6
     try clear p2
     obtain ⟨x24_2, rfl, HA, HK2, HO_22, BK472, HB⟩ := hrel
     cases gk with
     | zero => exact absurd HA.out (by simp [impl_SieveSeek.l0])
     | succ k2 =>
      have H := HA.out; clear HA; simp only [impl_SieveSeek.l0] at H
      by_cases c12 : x24_2 < (t473.length : Int)
      ·rw [if_pos c12] at H; have c12b0 := decide_eq_true c12; clear c12; replace H := zn H; obtain ⟨c13, H⟩ := H; have c13b0 := decide_eq_true c13; clear c13; replace H := zn H; obtain ⟨c14, H⟩ := H; have c14b0 := decide_eq_true c14; clear c14
       by_cases c15 : ((Op.bytesLess (((rd_T93 t473 x24_2).f0).toList) a1.toList) = true)
       ·rw [if_pos c15] at H; have c15b0 : (Op.bytesLess (((rd_T93 t473 x24_2).f0).toList) a1.toList) = true := c15; clear c15; obtain ⟨bq16, hbq16⟩ : ∃ b_ : Bool, b_ = ((rd_T93 t473 x24_2).f1) := ⟨_, rfl⟩
        replace H : (if (bq16 = true) then (impl_SieveSeek.l0 k2 a1 t473 (t473.length : Int) (wrap64 (x24_2 + 1))) else ((impl_KeyBegins.f a1 ((rd_T93 t473 x24_2).f0)).bind fun t480 => (if t480 = true then (some ((rd_T93 t473 x24_2).f0, true)) else (impl_SieveSeek.l0 k2 a1 t473 (t473.length : Int) (wrap64 (x24_2 + 1)))))) = some (r1, r2) := by rw [← hbq16] at H; exact H
        have Nbq16 := z0 hbq16; clear hbq16
        by_cases c17 : (bq16 = true)
        ·subst c17
         have H1 : (impl_SieveSeek.l0 k2 a1 t473 (t473.length : Int) (wrap64 (x24_2 + 1))) = some (r1, r2) := by rw [if_pos rfl] at H; exact H
         clear H; have H := H1; clear H1; have H' := z0 H; clear H; have p478 : 0 ≤ (x24_2 : Int) := zd; have q478 : x24_2 < (t473.length : Int) := zd; obtain ⟨ad478, e478, hx478_0, hx478_1⟩ := at_T93 (Kd.R_reads' HO_22.out).2.2 x24_2 p478 q478; (try rw [← Nbq16.out] at hx478_1); cases e478; replace p478 := eq_true p478; replace q478 := eq_true q478
         go_wp2_with (first | ((with_reducible refine gd 9 ?_); refine zbx 93 #[.string ⟨#[]⟩, .bool false] ?_; intro gb479 hg w18 hbox hb; replace HO_22 := z0 (Kd.R_below (Kd.R_elderB (zr HO_22.out) gb479 (Nat.le_of_eq hg.symm)) hb); have BK479 := z0 (hbox); have GE479 := zG hg HB; replace HB := zH HB hb; have NB472_479 := zLt hg BK472; have NB479_472 := zGt hg BK472; replace BK472 := zK BK472 hb; clear hb hbox hg; have hnb19 := NB479_472.out; have hnc19 := NB472_479.out; have hcz20 := zc2 BK479.out))
         go_roundg k2
         case measure => have := HJ3.out; have := HK2.out; omega
         case rel => exact ⟨(wrap64 (x24_2 + 1)), zf, H', ⟨by have := HJ3.out; have := HK2.out; omega⟩, ⟨Kd.R_mono (zr (Kd.R_far (p := ⟨gb479, 1, none⟩) (Kd.R_far (p := ⟨gb479, 0, none⟩) (Kd.R_mono HO_22.out (fun k_ hk => (⟨hk, hk.2⟩ : _ ∧ k_ ≠ gb479))) (fun _ hk => hk.2) (.string ((rd_T93 t473 x24_2).f0))) (fun _ hk => hk.2) (.bool true))) (fun _ hk => trivial)⟩, ⟨zy BK472.out⟩, ⟨zb HB.out⟩⟩
        ·replace c17 := Bool.eq_false_iff.mpr c17; subst c17
         have H1 : ((impl_KeyBegins.f a1 ((rd_T93 t473 x24_2).f0)).bind fun t480 => (if t480 = true then (some ((rd_T93 t473 x24_2).f0, true)) else (impl_SieveSeek.l0 k2 a1 t473 (t473.length : Int) (wrap64 (x24_2 + 1))))) = some (r1, r2) := by rw [if_neg (show ¬ (false = true) by decide)] at H; exact H
         clear H; have H := H1; clear H1; replace H := zi H; obtain ⟨t480, A21, H⟩ := H
         by_cases c22 : t480 = true
         ·subst c22
          have H1 : (some ((rd_T93 t473 x24_2).f0, true)) = some (r1, r2) := by rw [if_pos rfl] at H; exact H
          clear H; have H := H1; clear H1; simp only [Option.some.injEq, Prod.mk.injEq] at H; obtain ⟨rfl, rfl⟩ := H; have p478 : 0 ≤ (x24_2 : Int) := zd; have q478 : x24_2 < (t473.length : Int) := zd; obtain ⟨ad478, e478, hx478_0, hx478_1⟩ := at_T93 (Kd.R_reads' HO_22.out).2.2 x24_2 p478 q478; (try rw [← Nbq16.out] at hx478_1); cases e478; replace p478 := eq_true p478; replace q478 := eq_true q478
          go_wp2_with (first | ((with_reducible refine gd 9 ?_); refine zbx 93 #[.string ⟨#[]⟩, .bool false] ?_; intro gb479 hg w23 hbox hb; replace HO_22 := z0 (Kd.R_below (Kd.R_elderB (zr HO_22.out) gb479 (Nat.le_of_eq hg.symm)) hb); have BK479 := z0 (hbox); have GE479 := zG hg HB; replace HB := zH HB hb; have NB472_479 := zLt hg BK472; have NB479_472 := zGt hg BK472; replace BK472 := zK BK472 hb; clear hb hbox hg; have hnb24 := NB479_472.out; have hnc24 := NB472_479.out; have hcz25 := zc2 BK479.out) | (go_at_call 42; (with_reducible refine (impl_KeyBegins.calls a1 ((rd_T93 t473 x24_2).f0) true _ A21.out).mono ?_); rintro e w' ⟨rfl, ⟨nd, rfl⟩⟩))
          go_ret2
          exact ⟨ze, zb HB.out⟩
         ·replace c22 := Bool.eq_false_iff.mpr c22; subst c22
          have H1 : (impl_SieveSeek.l0 k2 a1 t473 (t473.length : Int) (wrap64 (x24_2 + 1))) = some (r1, r2) := by rw [if_neg (show ¬ (false = true) by decide)] at H; exact H
          clear H; have H := H1; clear H1; have H' := z0 H; clear H; have p478 : 0 ≤ (x24_2 : Int) := zd; have q478 : x24_2 < (t473.length : Int) := zd; obtain ⟨ad478, e478, hx478_0, hx478_1⟩ := at_T93 (Kd.R_reads' HO_22.out).2.2 x24_2 p478 q478; (try rw [← Nbq16.out] at hx478_1); cases e478; replace p478 := eq_true p478; replace q478 := eq_true q478
          go_wp2_with (first | ((with_reducible refine gd 9 ?_); refine zbx 93 #[.string ⟨#[]⟩, .bool false] ?_; intro gb479 hg w26 hbox hb; replace HO_22 := z0 (Kd.R_below (Kd.R_elderB (zr HO_22.out) gb479 (Nat.le_of_eq hg.symm)) hb); have BK479 := z0 (hbox); have GE479 := zG hg HB; replace HB := zH HB hb; have NB472_479 := zLt hg BK472; have NB479_472 := zGt hg BK472; replace BK472 := zK BK472 hb; clear hb hbox hg; have hnb27 := NB479_472.out; have hnc27 := NB472_479.out; have hcz28 := zc2 BK479.out) | (go_at_call 42; (with_reducible refine (impl_KeyBegins.calls a1 ((rd_T93 t473 x24_2).f0) false _ A21.out).mono ?_); rintro e w' ⟨rfl, ⟨nd, rfl⟩⟩))
          go_roundg k2
          case measure => have := HJ3.out; have := HK2.out; omega
          case rel => exact ⟨(wrap64 (x24_2 + 1)), zf, H', ⟨by have := HJ3.out; have := HK2.out; omega⟩, ⟨Kd.R_mono (zr (Kd.R_far (p := ⟨gb479, 1, none⟩) (Kd.R_far (p := ⟨gb479, 0, none⟩) (Kd.R_mono HO_22.out (fun k_ hk => (⟨hk, hk.2⟩ : _ ∧ k_ ≠ gb479))) (fun _ hk => hk.2) (.string ((rd_T93 t473 x24_2).f0))) (fun _ hk => hk.2) (.bool false))) (fun _ hk => trivial)⟩, ⟨zy BK472.out⟩, ⟨zb HB.out⟩⟩
       ·rw [if_neg c15] at H
        have c15b0 : (Op.bytesLess (((rd_T93 t473 x24_2).f0).toList) a1.toList) = false := by simpa using c15
        clear c15; simp only [Option.some.injEq, Prod.mk.injEq] at H; obtain ⟨rfl, rfl⟩ := H; have p478 : 0 ≤ (x24_2 : Int) := zd; have q478 : x24_2 < (t473.length : Int) := zd; obtain ⟨ad478, e478, hx478_0, hx478_1⟩ := at_T93 (Kd.R_reads' HO_22.out).2.2 x24_2 p478 q478; cases e478; replace p478 := eq_true p478; replace q478 := eq_true q478
        go_wp2_with (first | ((with_reducible refine gd 9 ?_); refine zbx 93 #[.string ⟨#[]⟩, .bool false] ?_; intro gb479 hg w29 hbox hb; replace HO_22 := z0 (Kd.R_below (Kd.R_elderB (zr HO_22.out) gb479 (Nat.le_of_eq hg.symm)) hb); have BK479 := z0 (hbox); have GE479 := zG hg HB; replace HB := zH HB hb; have NB472_479 := zLt hg BK472; have NB479_472 := zGt hg BK472; replace BK472 := zK BK472 hb; clear hb hbox hg; have hnb30 := NB479_472.out; have hnc30 := NB472_479.out; have hcz31 := zc2 BK479.out))
        go_ret2
        exact ⟨ze, zb HB.out⟩
      ·rw [if_neg c12] at H; have c12b0 := decide_eq_false c12; clear c12; simp only [Option.some.injEq, Prod.mk.injEq] at H; obtain ⟨rfl, rfl⟩ := H; go_wp2
       go_ret2
       exact ⟨ze, zb HB.out⟩
theorem impl_SieveMeets.mono : ∀ a0 a1 a2 a3 a4 a5 a6 k, LeO (impl_SieveMeets.f k a0 a1 a2 a3 a4 a5 a6) (impl_SieveMeets.f (k + 1) a0 a1 a2 a3 a4 a5 a6) := by
  intro a0 a1 a2 a3 a4 a5 a6 k
  unfold impl_SieveMeets.f
  repeat' first | (with_reducible first | apply impl_KeyOk.mono | apply impl_SieveSeek.mono | exact LeO.refl _ | exact LeO.none _ | refine LeO.ite ?_ ?_ | refine LeO.bind ?_ (fun _ => ?_)) | exact LeO.none _ | refine LeO.ite ?_ ?_ | refine LeO.bind ?_ (fun _ => ?_)
theorem impl_SieveMeets.calls (k : Nat) (a0_0 a0_1 a0_2 : ByteArray) (A0_3 : Option Addr) (c0_3 : Nat) (l0_3 : List ByteArray) (a0_4 : Int) (a1 a2 : ByteArray) (r : Bool) (w : World) (hr0_3 : Kd.C Kd.string w A0_3 l0_3.length l0_3) (hc0_3 : l0_3.length ≤ c0_3) (h : impl_SieveMeets.f k a0_0 a0_1 a0_2 l0_3 a0_4 a1 a2 = some r) :
    Calls Try.prog 32 #[.agg #[.string a0_0, .string a0_1, .string a0_2, .slice A0_3 l0_3.length c0_3, .int .i64 a0_4], .string a1, .string a2] w fun e w' => e = .returned (.bool r) ∧ Below w.heap.size w w' := by
 have hu25 := Try.underlying25; have HR0_3 := z0 hr0_3; have HC0_3 := z0 hc0_3; clear hr0_3 hc0_3; have HB := z0 (Below.refl w.heap.size w); have H : ((impl_KeyOk.f k a1).bind fun t482 => (if t482 = true then ((impl_KeyOk.f k a2).bind fun t483 => (if t483 = true then (if (Op.bytesLess a2.toList a1.toList) = true then (some false) else ((impl_SieveSeek.f k a0_0 a0_1 a0_2 l0_3 a0_4 a1).bind fun bt484 => (if bt484.2 = true then (some (!(Op.bytesLess a2.toList bt484.1.toList))) else (some false)))) else (some false))) else (some false))) = some r := h; clear h; replace H := zi H; obtain ⟨t482, A4, H⟩ := H
 by_cases c5 : t482 = true
 ·subst c5
  have H1 : ((impl_KeyOk.f k a2).bind fun t483 => (if t483 = true then (if (Op.bytesLess a2.toList a1.toList) = true then (some false) else ((impl_SieveSeek.f k a0_0 a0_1 a0_2 l0_3 a0_4 a1).bind fun bt484 => (if bt484.2 = true then (some (!(Op.bytesLess a2.toList bt484.1.toList))) else (some false)))) else (some false))) = some r := by rw [if_pos rfl] at H; exact H
  clear H; have H := H1; clear H1; replace H := zi H; obtain ⟨t483, A6, H⟩ := H
  by_cases c7 : t483 = true
  ·subst c7
   have H1 : (if (Op.bytesLess a2.toList a1.toList) = true then (some false) else ((impl_SieveSeek.f k a0_0 a0_1 a0_2 l0_3 a0_4 a1).bind fun bt484 => (if bt484.2 = true then (some (!(Op.bytesLess a2.toList bt484.1.toList))) else (some false)))) = some r := by rw [if_pos rfl] at H; exact H
   clear H; have H := H1; clear H1; go_enter Try.func32, Try.ntmps32
   go_upto_if 21 with (first | ((with_reducible refine gd 3 ?_); refine zbx 25 #[.string a0_0, .string a0_1, .string a0_2, .slice A0_3 l0_3.length c0_3, .int .i64 a0_4] ?_; intro gb481 hg w8 hbox hb; have BK481 := z0 (hbox); have GE481 := zG hg HB; replace HB := zH HB hb; clear hb hbox hg) | ((with_reducible refine gc 67 ?_); refine zL (some 10) Try.func67 #[.string a1] ?_; (with_reducible refine (impl_KeyOk.calls k a1 true _ A4.out).mono ?_); rintro e w' ⟨rfl, ⟨nd, rfl⟩⟩; refine ⟨_, rfl, ?_⟩) | (go_at_call 67; (with_reducible refine (impl_KeyOk.calls k a2 true _ A6.out).mono ?_); rintro e w' ⟨rfl, ⟨nd, rfl⟩⟩))
   by_cases c9 : (Op.bytesLess a2.toList a1.toList) = true
   ·rw [if_pos c9] at H; have c9b0 : (Op.bytesLess a2.toList a1.toList) = true := c9; clear c9; (first | rw [c9b0] | (simp only [i64_w, i32_w]; rw [c9b0]) | simp only [*, Bool.not_true, Bool.not_false] | skip); obtain rfl := Option.some.inj H; go_wp2; go_ret; exact ⟨ze, zb HB.out⟩
   ·rw [if_neg c9] at H
    have c9b0 : (Op.bytesLess a2.toList a1.toList) = false := by simpa using c9
    clear c9; (first | rw [c9b0] | (simp only [i64_w, i32_w]; rw [c9b0]) | simp only [*, Bool.not_true, Bool.not_false] | skip); replace H := zi H; obtain ⟨⟨t484, t485⟩, A10, H⟩ := H; (try dsimp only at H)
    by_cases c11 : t485 = true
    ·subst c11
     have H1 : (some (!(Op.bytesLess a2.toList t484.toList))) = some r := by rw [if_pos rfl] at H; exact H
     clear H; have H := H1; clear H1; obtain rfl := Option.some.inj H; have hcz12 := zc5 BK481.out
     go_wp2_with (first | ((with_reducible refine gc 44 ?_); refine zL (some 25) Try.func44 #[.agg #[.string a0_0, .string a0_1, .string a0_2, .slice A0_3 l0_3.length c0_3, .int .i64 a0_4], .string a1] ?_; (with_reducible refine (impl_SieveSeek.calls k a0_0 a0_1 a0_2 _ _ l0_3 a0_4 a1 t484 true _ (zC (Kd.C_below HR0_3.out HB.out)) HC0_3.out A10.out).mono ?_); rintro e w13 ⟨rfl, hb⟩; refine zv ?_; replace BK481 := zK BK481 hb; replace HB := zH HB hb; (try clear hb)))
     go_ret; exact ⟨ze, zb HB.out⟩
    ·replace c11 := Bool.eq_false_iff.mpr c11; subst c11
     have H1 : (some false) = some r := by rw [if_neg (show ¬ (false = true) by decide)] at H; exact H
     clear H; have H := H1; clear H1; obtain rfl := Option.some.inj H; have hcz14 := zc5 BK481.out
     go_wp2_with (first | ((with_reducible refine gc 44 ?_); refine zL (some 25) Try.func44 #[.agg #[.string a0_0, .string a0_1, .string a0_2, .slice A0_3 l0_3.length c0_3, .int .i64 a0_4], .string a1] ?_; (with_reducible refine (impl_SieveSeek.calls k a0_0 a0_1 a0_2 _ _ l0_3 a0_4 a1 t484 false _ (zC (Kd.C_below HR0_3.out HB.out)) HC0_3.out A10.out).mono ?_); rintro e w15 ⟨rfl, hb⟩; refine zv ?_; replace BK481 := zK BK481 hb; replace HB := zH HB hb; (try clear hb)))
     go_ret; exact ⟨ze, zb HB.out⟩
  ·replace c7 := Bool.eq_false_iff.mpr c7; subst c7
   have H1 : (some false) = some r := by rw [if_neg (show ¬ (false = true) by decide)] at H; exact H
   clear H; have H := H1; clear H1; obtain rfl := Option.some.inj H; go_enter Try.func32, Try.ntmps32
   go_wp2_with (first | ((with_reducible refine gd 3 ?_); refine zbx 25 #[.string a0_0, .string a0_1, .string a0_2, .slice A0_3 l0_3.length c0_3, .int .i64 a0_4] ?_; intro gb481 hg w16 hbox hb; have BK481 := z0 (hbox); have GE481 := zG hg HB; replace HB := zH HB hb; clear hb hbox hg) | ((with_reducible refine gc 67 ?_); refine zL (some 10) Try.func67 #[.string a1] ?_; (with_reducible refine (impl_KeyOk.calls k a1 true _ A4.out).mono ?_); rintro e w' ⟨rfl, ⟨nd, rfl⟩⟩; refine ⟨_, rfl, ?_⟩) | (go_at_call 67; (with_reducible refine (impl_KeyOk.calls k a2 false _ A6.out).mono ?_); rintro e w' ⟨rfl, ⟨nd, rfl⟩⟩))
   go_ret; exact ⟨ze, zb HB.out⟩
 ·replace c5 := Bool.eq_false_iff.mpr c5; subst c5
  have H1 : (some false) = some r := by rw [if_neg (show ¬ (false = true) by decide)] at H; exact H
  clear H; have H := H1; clear H1; obtain rfl := Option.some.inj H; go_enter Try.func32, Try.ntmps32
  go_wp2_with (first | ((with_reducible refine gd 3 ?_); refine zbx 25 #[.string a0_0, .string a0_1, .string a0_2, .slice A0_3 l0_3.length c0_3, .int .i64 a0_4] ?_; intro gb481 hg w17 hbox hb; have BK481 := z0 (hbox); have GE481 := zG hg HB; replace HB := zH HB hb; clear hb hbox hg) | ((with_reducible refine gc 67 ?_); refine zL (some 10) Try.func67 #[.string a1] ?_; (with_reducible refine (impl_KeyOk.calls k a1 false _ A4.out).mono ?_); rintro e w' ⟨rfl, ⟨nd, rfl⟩⟩; refine ⟨_, rfl, ?_⟩))
  go_ret; exact ⟨ze, zb HB.out⟩
theorem impl_SieveHeads.mono : ∀ a0 a1 a2 a3 a4 k, LeO (impl_SieveHeads.f k a0 a1 a2 a3 a4) (impl_SieveHeads.f (k + 1) a0 a1 a2 a3 a4) := by
  intro a0 a1 a2 a3 a4 k
  unfold impl_SieveHeads.f
  repeat' first | (with_reducible first | apply impl_Sieve_heads.mono | apply impl_texts.mono | exact LeO.refl _ | exact LeO.none _ | refine LeO.ite ?_ ?_ | refine LeO.bind ?_ (fun _ => ?_)) | exact LeO.none _ | refine LeO.ite ?_ ?_ | refine LeO.bind ?_ (fun _ => ?_)
theorem impl_SieveHeads.calls (k : Nat) (a0_0 a0_1 a0_2 : ByteArray) (A0_3 : Option Addr) (c0_3 : Nat) (l0_3 : List ByteArray) (a0_4 : Int) (r : List ByteArray) (w : World) (hr0_3 : Kd.C Kd.string w A0_3 l0_3.length l0_3) (hc0_3 : l0_3.length ≤ c0_3) (h : impl_SieveHeads.f k a0_0 a0_1 a0_2 l0_3 a0_4 = some r) :
    Calls Try.prog 41 #[.agg #[.string a0_0, .string a0_1, .string a0_2, .slice A0_3 l0_3.length c0_3, .int .i64 a0_4]] w fun e w' => ∃ v0_ : Value, e = .returned (v0_) ∧ Kd.R Kd.string 9 w' w.heap.size (fun _ => True) v0_ r ∧ Below w.heap.size w w' := by
 have hu25 := Try.underlying25; have HR0_3 := z0 hr0_3; have HC0_3 := z0 hc0_3; clear hr0_3 hc0_3; have HB := z0 (Below.refl w.heap.size w); have H : ((impl_Sieve_heads.f k a0_0 a0_1 a0_2 l0_3 a0_4).bind fun bt870 => ((impl_texts.f k bt870.1).bind fun t874 => (some t874))) = some r := h; clear h; replace H := zi H; obtain ⟨⟨t870, t873⟩, A2, H⟩ := H; (try dsimp only at H); replace H := zi H; obtain ⟨t874, A3, H⟩ := H; obtain rfl := Option.some.inj H; go_enter Try.func41, Try.ntmps41
 go_wp2_with (first | ((with_reducible refine gd 1 ?_); refine zbx 25 #[.string a0_0, .string a0_1, .string a0_2, .slice A0_3 l0_3.length c0_3, .int .i64 a0_4] ?_; intro gb869 hg w4 hbox hb; have BK869 := z0 (hbox); have GE869 := zG hg HB; replace HB := zH HB hb; clear hb hbox hg; have hcz5 := zc5 BK869.out) | ((with_reducible refine gc 89 ?_); refine zL (some 7) Try.func89 #[.agg #[.string a0_0, .string a0_1, .string a0_2, .slice A0_3 l0_3.length c0_3, .int .i64 a0_4]] ?_; (with_reducible refine (impl_Sieve_heads.calls k a0_0 a0_1 a0_2 _ _ l0_3 a0_4 t870 t873 _ (zC (Kd.C_below HR0_3.out HB.out)) HC0_3.out A2.out).mono ?_); rintro e w6 ⟨v871, rfl, ho0, hb⟩; refine zv ?_; have HO872 := z0 (Kd.R_lower ho0 (below_size (zb HB.out))); replace BK869 := zK BK869 hb; replace HB := zH HB hb; (try clear hb ho0); obtain ⟨Ao7, co7, eo7⟩ := Kd.R_slice HO872.out; subst eo7) | ((with_reducible refine gc 90 ?_); refine zL (some 11) Try.func90 #[.slice Ao7 t870.length co7] ?_; (with_reducible refine (impl_texts.calls k _ _ t870 t874 _ (zC ((Kd.R_reads' HO872.out).2.2)) ((Kd.R_reads' HO872.out).2.1) A3.out).mono ?_); rintro e w8 ⟨v875, rfl, ho0, hb⟩; refine zv ?_; replace HO872 := zA HO872 hb; have HO876 := z0 (Kd.R_lower ho0 (below_size (zb HB.out))); replace BK869 := zK BK869 hb; replace HB := zH HB hb; (try clear hb ho0)))
 go_ret; exact ⟨_, ze, zr HO876.out, zb HB.out⟩
theorem laws_ltIn.mono_l : ∀ k, (∀ y0 y1 y2, LeO (laws_ltIn.l0 k y0 y1 y2) (laws_ltIn.l0 (k + 1) y0 y1 y2))
  | 0 => fun _ _ _ r h => by simp [laws_ltIn.l0] at h
  | k + 1 => by
    have ih0 := laws_ltIn.mono_l k
    · intro y0 y1 y2
      unfold laws_ltIn.l0
      repeat' first | (with_reducible first | apply ih0 | exact LeO.refl _ | exact LeO.none _ | refine LeO.ite ?_ ?_ | refine LeO.bind ?_ (fun _ => ?_)) | exact LeO.none _ | refine LeO.ite ?_ ?_ | refine LeO.bind ?_ (fun _ => ?_)
theorem laws_ltIn.mono : ∀ a0 a1 k, LeO (laws_ltIn.f k a0 a1) (laws_ltIn.f (k + 1) a0 a1) := by
  intro a0 a1 k
  have ih0 := laws_ltIn.mono_l k
  unfold laws_ltIn.f
  repeat' first | (with_reducible first | apply ih0 | exact LeO.refl _ | exact LeO.none _ | refine LeO.ite ?_ ?_ | refine LeO.bind ?_ (fun _ => ?_)) | exact LeO.none _ | refine LeO.ite ?_ ?_ | refine LeO.bind ?_ (fun _ => ?_)
theorem laws_ltIn.calls (k : Nat) (A0 : Option Addr) (c0 : Nat) (l0 : List ByteArray) (a1 : ByteArray) (r : Bool) (w : World) (hr0 : Kd.C Kd.string w A0 l0.length l0) (hc0 : l0.length ≤ c0) (h : laws_ltIn.f k l0 a1 = some r) :
    Calls Try.prog 50 #[.slice A0 l0.length c0, .string a1] w fun e w' => e = .returned (.bool r) ∧ Drawn0 w w' := by
 have HR0 := z0 hr0; have HC0 := z0 hc0; clear hr0 hc0; have H : (laws_ltIn.l0 k l0 a1 0) = some r := h; clear h; have H' := z0 H; clear H; go_enter Try.func50, Try.ntmps50; go_wp2
 go_loopg [5] k (fun kq v5 w' => ∃ (x5_1 : Int), v5 = .int .i64 x5_1 ∧ Aside0 (laws_ltIn.l0 kq l0 a1 x5_1 = some r) ∧ Aside0 (kq ≤ k) ∧ Drawn0 w w')
 case atStart => exact ⟨(0), zf, H', ⟨Nat.le_refl _⟩, by repeat (first | exact Drawn0.refl _ | apply Drawn0.step)⟩
 case round =>
  clear H'
  try clear p2
  obtain ⟨x5_1, rfl, HA, HK1, ⟨m1, rfl⟩⟩ := hrel
  cases gk with
  | zero => exact absurd HA.out (by simp [laws_ltIn.l0])
  | succ k1 =>
   have H := HA.out; clear HA; simp only [laws_ltIn.l0] at H
   by_cases c3 : x5_1 < (l0.length : Int)
   ·rw [if_pos c3] at H; have c3b0 := decide_eq_true c3; clear c3; replace H := zn H; obtain ⟨c4, H⟩ := H; have c4b0 := decide_eq_true c4; clear c4
    by_cases c5 : (rdOf ByteArray.empty l0 x5_1).toList = a1.toList
    ·rw [if_pos c5] at H; have c5b0 : ((rdOf ByteArray.empty l0 x5_1).toList == a1.toList) = true := beq_iff_eq.mpr c5; have c5b1 : ((rdOf ByteArray.empty l0 x5_1).toList != a1.toList) = false := bne_eq_false_iff_eq.mpr c5; clear c5; obtain rfl := Option.some.inj H; have p1056 : 0 ≤ (x5_1 : Int) := zd; have q1056 : x5_1 < (l0.length : Int) := zd; obtain ⟨ad1056, e1056, hx1056_0⟩ := Kd.at_string HR0.out x5_1 p1056 q1056; cases e1056; replace p1056 := eq_true p1056; replace q1056 := eq_true q1056; go_wp2; go_ret; exact ⟨zf, by repeat (first | exact Drawn0.refl _ | apply Drawn0.step)⟩
    ·rw [if_neg c5] at H; have c5b0 : ((rdOf ByteArray.empty l0 x5_1).toList == a1.toList) = false := beq_eq_false_iff_ne.mpr c5; have c5b1 : ((rdOf ByteArray.empty l0 x5_1).toList != a1.toList) = true := bne_iff_ne.mpr c5; have H' := z0 H; clear H; have p1056 : 0 ≤ (x5_1 : Int) := zd; have q1056 : x5_1 < (l0.length : Int) := zd; obtain ⟨ad1056, e1056, hx1056_0⟩ := Kd.at_string HR0.out x5_1 p1056 q1056; cases e1056; replace p1056 := eq_true p1056; replace q1056 := eq_true q1056; go_wp2; go_roundg k1
     case measure => have := HK1.out; omega
     case rel => exact ⟨(wrap64 (x5_1 + 1)), zf, H', ⟨by have := HK1.out; omega⟩, by repeat (first | exact Drawn0.refl _ | apply Drawn0.step)⟩
   ·rw [if_neg c3] at H; have c3b0 := decide_eq_false c3; clear c3; obtain rfl := Option.some.inj H; go_wp2; go_ret; exact ⟨zf, by repeat (first | exact Drawn0.refl _ | apply Drawn0.step)⟩
theorem spec_l3Behind.mono_l : ∀ k, (∀ y0 y1 y2 y3, LeO (spec_l3Behind.l0 k y0 y1 y2 y3) (spec_l3Behind.l0 (k + 1) y0 y1 y2 y3))
  | 0 => fun _ _ _ _ r h => by simp [spec_l3Behind.l0] at h
  | k + 1 => by
    have ih0 := spec_l3Behind.mono_l k
    · intro y0 y1 y2 y3
      unfold spec_l3Behind.l0
      repeat' first | (with_reducible first | apply ih0 | exact LeO.refl _ | exact LeO.none _ | refine LeO.ite ?_ ?_ | refine LeO.bind ?_ (fun _ => ?_)) | exact LeO.none _ | refine LeO.ite ?_ ?_ | refine LeO.bind ?_ (fun _ => ?_)
theorem spec_l3Behind.mono : ∀ a0 a1 a2 k, LeO (spec_l3Behind.f k a0 a1 a2) (spec_l3Behind.f (k + 1) a0 a1 a2) := by
  intro a0 a1 a2 k
  have ih0 := spec_l3Behind.mono_l k
  unfold spec_l3Behind.f
  repeat' first | (with_reducible first | apply ih0 | exact LeO.refl _ | exact LeO.none _ | refine LeO.ite ?_ ?_ | refine LeO.bind ?_ (fun _ => ?_)) | exact LeO.none _ | refine LeO.ite ?_ ?_ | refine LeO.bind ?_ (fun _ => ?_)
theorem spec_l3Behind.calls (k : Nat) (A0 : Option Addr) (c0 : Nat) (l0 : List ByteArray) (A1 : Option Addr) (c1 : Nat) (l1 : List Bool) (a2 : ByteArray) (r : Int) (w : World) (hr0 : Kd.C Kd.string w A0 l0.length l0) (hc0 : l0.length ≤ c0) (hr1 : Kd.C Kd.bool w A1 l1.length l1) (hc1 : l1.length ≤ c1) (h : spec_l3Behind.f k l0 l1 a2 = some r) :
    Calls Try.prog 83 #[.slice A0 l0.length c0, .slice A1 l1.length c1, .string a2] w fun e w' => e = .returned (.int .i64 r) ∧ Drawn0 w w' := by
 have HR0 := z0 hr0; have HC0 := z0 hc0; clear hr0 hc0; have HR1 := z0 hr1; have HC1 := z0 hc1; clear hr1 hc1; have H : (spec_l3Behind.l0 k l0 l1 a2 0) = some r := h; clear h; have H' := z0 H; clear H; go_enter Try.func83, Try.ntmps83; go_wp2
 go_loopg [7] k (fun kq v7 w' => ∃ (x7_1 : Int), v7 = .int .i64 x7_1 ∧ Aside0 (spec_l3Behind.l0 kq l0 l1 a2 x7_1 = some r) ∧ Aside0 (kq ≤ k) ∧ Drawn0 w w')
 case atStart => exact ⟨(0), zf, H', ⟨Nat.le_refl _⟩, by repeat (first | exact Drawn0.refl _ | apply Drawn0.step)⟩
 case round =>
  clear H'
  try clear c1
  try clear p2
  obtain ⟨x7_1, rfl, HA, HK1, ⟨m1, rfl⟩⟩ := hrel
  cases gk with
  | zero => exact absurd HA.out (by simp [spec_l3Behind.l0])
  | succ k1 =>
   have H := HA.out; clear HA; simp only [spec_l3Behind.l0] at H
   by_cases c4 : x7_1 < (l0.length : Int)
   ·rw [if_pos c4] at H; have c4b0 := decide_eq_true c4; clear c4; replace H := zn H; obtain ⟨c5, H⟩ := H; have c5b0 := decide_eq_true c5; clear c5
    by_cases c6 : ((Op.bytesLess ((rdOf ByteArray.empty l0 x7_1).toList) a2.toList) = true)
    ·rw [if_pos c6] at H; have c6b0 : (Op.bytesLess ((rdOf ByteArray.empty l0 x7_1).toList) a2.toList) = true := c6; clear c6; replace H := zn H; obtain ⟨c7, H⟩ := H; have c7b0 := decide_eq_true c7; clear c7; obtain ⟨bq8, hbq8⟩ : ∃ b_ : Bool, b_ = (rdOf false l1 x7_1) := ⟨_, rfl⟩
     replace H : (if bq8 = true then (spec_l3Behind.l0 k1 l0 l1 a2 (wrap64 (x7_1 + 1))) else ((spec_KeyBegins.f a2 (rdOf ByteArray.empty l0 x7_1)).bind fun t613 => (if t613 = true then (some x7_1) else (spec_l3Behind.l0 k1 l0 l1 a2 (wrap64 (x7_1 + 1)))))) = some r := by rw [← hbq8] at H; exact H
     have Nbq8 := z0 hbq8; clear hbq8
     by_cases c9 : bq8 = true
     ·subst c9
      have H1 : (spec_l3Behind.l0 k1 l0 l1 a2 (wrap64 (x7_1 + 1))) = some r := by rw [if_pos rfl] at H; exact H
      clear H; have H := H1; clear H1; have H' := z0 H; clear H; have p610 : 0 ≤ (x7_1 : Int) := zd; have q610 : x7_1 < (l0.length : Int) := zd; obtain ⟨ad610, e610, hx610_0⟩ := Kd.at_string HR0.out x7_1 p610 q610; cases e610; replace p610 := eq_true p610; replace q610 := eq_true q610; have p611 : 0 ≤ (x7_1 : Int) := zd; have q611 : x7_1 < (l1.length : Int) := zd; obtain ⟨ad611, e611, hx611_0⟩ := Kd.at_bool HR1.out x7_1 p611 q611; (try rw [← Nbq8.out] at hx611_0); cases e611; replace p611 := eq_true p611; replace q611 := eq_true q611; go_wp2; go_roundg k1
      case measure => have := HK1.out; omega
      case rel => exact ⟨(wrap64 (x7_1 + 1)), zf, H', ⟨by have := HK1.out; omega⟩, by repeat (first | exact Drawn0.refl _ | apply Drawn0.step)⟩
     ·replace c9 := Bool.eq_false_iff.mpr c9; subst c9
      have H1 : ((spec_KeyBegins.f a2 (rdOf ByteArray.empty l0 x7_1)).bind fun t613 => (if t613 = true then (some x7_1) else (spec_l3Behind.l0 k1 l0 l1 a2 (wrap64 (x7_1 + 1))))) = some r := by rw [if_neg (show ¬ (false = true) by decide)] at H; exact H
      clear H; have H := H1; clear H1; replace H := zi H; obtain ⟨t613, A10, H⟩ := H
      by_cases c11 : t613 = true
      ·subst c11
       have H1 : (some x7_1) = some r := by rw [if_pos rfl] at H; exact H
       clear H; have H := H1; clear H1; obtain rfl := Option.some.inj H; have p610 : 0 ≤ (x7_1 : Int) := zd; have q610 : x7_1 < (l0.length : Int) := zd; obtain ⟨ad610, e610, hx610_0⟩ := Kd.at_string HR0.out x7_1 p610 q610; cases e610; replace p610 := eq_true p610; replace q610 := eq_true q610; have p611 : 0 ≤ (x7_1 : Int) := zd; have q611 : x7_1 < (l1.length : Int) := zd; obtain ⟨ad611, e611, hx611_0⟩ := Kd.at_bool HR1.out x7_1 p611 q611; (try rw [← Nbq8.out] at hx611_0); cases e611; replace p611 := eq_true p611; replace q611 := eq_true q611; have p612 : 0 ≤ (x7_1 : Int) := zd; have q612 : x7_1 < (l0.length : Int) := zd; obtain ⟨ad612, e612, hx612_0⟩ := Kd.at_string HR0.out x7_1 p612 q612; obtain rfl : ad610 = ad612 := (by injection e612); replace p612 := eq_true p612; replace q612 := eq_true q612
       go_wp2_with (first | (go_at_call 72; (with_reducible refine (spec_KeyBegins.calls a2 (rdOf ByteArray.empty l0 x7_1) true _ A10.out).mono ?_); rintro e w' ⟨rfl, ⟨nd, rfl⟩⟩))
       go_ret; exact ⟨zf, by repeat (first | exact Drawn0.refl _ | apply Drawn0.step)⟩
      ·replace c11 := Bool.eq_false_iff.mpr c11; subst c11
       have H1 : (spec_l3Behind.l0 k1 l0 l1 a2 (wrap64 (x7_1 + 1))) = some r := by rw [if_neg (show ¬ (false = true) by decide)] at H; exact H
       clear H; have H := H1; clear H1; have H' := z0 H; clear H; have p610 : 0 ≤ (x7_1 : Int) := zd; have q610 : x7_1 < (l0.length : Int) := zd; obtain ⟨ad610, e610, hx610_0⟩ := Kd.at_string HR0.out x7_1 p610 q610; cases e610; replace p610 := eq_true p610; replace q610 := eq_true q610; have p611 : 0 ≤ (x7_1 : Int) := zd; have q611 : x7_1 < (l1.length : Int) := zd; obtain ⟨ad611, e611, hx611_0⟩ := Kd.at_bool HR1.out x7_1 p611 q611; (try rw [← Nbq8.out] at hx611_0); cases e611; replace p611 := eq_true p611; replace q611 := eq_true q611; have p612 : 0 ≤ (x7_1 : Int) := zd; have q612 : x7_1 < (l0.length : Int) := zd; obtain ⟨ad612, e612, hx612_0⟩ := Kd.at_string HR0.out x7_1 p612 q612; obtain rfl : ad610 = ad612 := (by injection e612); replace p612 := eq_true p612; replace q612 := eq_true q612
       go_wp2_with (first | (go_at_call 72; (with_reducible refine (spec_KeyBegins.calls a2 (rdOf ByteArray.empty l0 x7_1) false _ A10.out).mono ?_); rintro e w' ⟨rfl, ⟨nd, rfl⟩⟩))
       go_roundg k1
       case measure => have := HK1.out; omega
       case rel => exact ⟨(wrap64 (x7_1 + 1)), zf, H', ⟨by have := HK1.out; omega⟩, by repeat (first | exact Drawn0.refl _ | apply Drawn0.step)⟩
    ·rw [if_neg c6] at H
     have c6b0 : (Op.bytesLess ((rdOf ByteArray.empty l0 x7_1).toList) a2.toList) = false := by simpa using c6
     clear c6; obtain rfl := Option.some.inj H; have p610 : 0 ≤ (x7_1 : Int) := zd; have q610 : x7_1 < (l0.length : Int) := zd; obtain ⟨ad610, e610, hx610_0⟩ := Kd.at_string HR0.out x7_1 p610 q610; cases e610; replace p610 := eq_true p610; replace q610 := eq_true q610; go_wp2; go_ret; exact ⟨zf, by repeat (first | exact Drawn0.refl _ | apply Drawn0.step)⟩
   ·rw [if_neg c4] at H; have c4b0 := decide_eq_false c4; clear c4; obtain rfl := Option.some.inj H; go_wp2; go_ret; exact ⟨zf, by repeat (first | exact Drawn0.refl _ | apply Drawn0.step)⟩
theorem spec_l3Wholes.mono_l : ∀ k, (∀ y0 y1 y2 y3 y4 y5 y6 y7, LeO (spec_l3Wholes.f k y0 y1 y2 y3 y4 y5 y6 y7) (spec_l3Wholes.f (k + 1) y0 y1 y2 y3 y4 y5 y6 y7)) ∧ (∀ y0 y1 y2 y3 y4 y5 y6 y7, LeO (spec_l3Wholes.l0 k y0 y1 y2 y3 y4 y5 y6 y7) (spec_l3Wholes.l0 (k + 1) y0 y1 y2 y3 y4 y5 y6 y7)) ∧ (∀ y0 y1 y2 y3 y4 y5 y6 y7 y8, LeO (spec_l3Wholes.j1 k y0 y1 y2 y3 y4 y5 y6 y7 y8) (spec_l3Wholes.j1 (k + 1) y0 y1 y2 y3 y4 y5 y6 y7 y8))
  | 0 => ⟨fun _ _ _ _ _ _ _ _ r h => by simp [spec_l3Wholes.f] at h, fun _ _ _ _ _ _ _ _ r h => by simp [spec_l3Wholes.l0] at h, fun _ _ _ _ _ _ _ _ _ r h => by simp [spec_l3Wholes.j1] at h⟩
  | k + 1 => by
    obtain ⟨ih0, ih1, ih2⟩ := spec_l3Wholes.mono_l k
    refine ⟨?_, ?_, ?_⟩
    · intro y0 y1 y2 y3 y4 y5 y6 y7
      unfold spec_l3Wholes.f
      repeat' first | (with_reducible first | apply ih0 | apply ih1 | apply ih2 | apply spec_l3Kids.mono | apply spec_l3Whole.mono | exact LeO.refl _ | exact LeO.none _ | refine LeO.ite ?_ ?_ | refine LeO.bind ?_ (fun _ => ?_)) | exact LeO.none _ | refine LeO.ite ?_ ?_ | refine LeO.bind ?_ (fun _ => ?_)
    · intro y0 y1 y2 y3 y4 y5 y6 y7
      unfold spec_l3Wholes.l0
      repeat' first | (with_reducible first | apply ih0 | apply ih1 | apply ih2 | apply spec_l3Kids.mono | apply spec_l3Whole.mono | exact LeO.refl _ | exact LeO.none _ | refine LeO.ite ?_ ?_ | refine LeO.bind ?_ (fun _ => ?_)) | exact LeO.none _ | refine LeO.ite ?_ ?_ | refine LeO.bind ?_ (fun _ => ?_)
    · intro y0 y1 y2 y3 y4 y5 y6 y7 y8
      unfold spec_l3Wholes.j1
      repeat' first | (with_reducible first | apply ih0 | apply ih1 | apply ih2 | apply spec_l3Kids.mono | apply spec_l3Whole.mono | exact LeO.refl _ | exact LeO.none _ | refine LeO.ite ?_ ?_ | refine LeO.bind ?_ (fun _ => ?_)) | exact LeO.none _ | refine LeO.ite ?_ ?_ | refine LeO.bind ?_ (fun _ => ?_)
theorem spec_l3Wholes.mono : ∀ a0 a1 a2 a3 a4 a5 a6 a7 k, LeO (spec_l3Wholes.f k a0 a1 a2 a3 a4 a5 a6 a7) (spec_l3Wholes.f (k + 1) a0 a1 a2 a3 a4 a5 a6 a7) := by
  intro a0 a1 a2 a3 a4 a5 a6 a7 k
  obtain ⟨ih0, ih1, ih2⟩ := spec_l3Wholes.mono_l k
  exact ih0 a0 a1 a2 a3 a4 a5 a6 a7
theorem spec_l3Wholes.calls (k : Nat) : ∀ (a0_0 a0_1 a0_2 : ByteArray) (A0_3 : Option Addr) (c0_3 : Nat) (l0_3 : List ByteArray) (a0_4 a1 a2 : Int) (P3_ : Nat → Prop) (u9000_ : Value) (l3 r : List Bool) (w0 w : World) (hB : Below w0.heap.size w0 w) (hr0_3 : ∀ W_, Kept w W_ (fun k_ => P3_ k_) → Kd.C Kd.string W_ A0_3 l0_3.length l0_3) (hc0_3 : l0_3.length ≤ c0_3) (ho3 : Kd.R Kd.bool 4 w w0.heap.size P3_ u9000_ l3) (h : spec_l3Wholes.f k a0_0 a0_1 a0_2 l0_3 a0_4 a1 a2 l3 = some r),
    Calls Try.prog 84 #[.agg #[.string a0_0, .string a0_1, .string a0_2, .slice A0_3 l0_3.length c0_3, .int .i64 a0_4], .int .i64 a1, .int .i64 a2, u9000_] w fun e w' => ∃ v0_ : Value, e = .returned (v0_) ∧ Kd.R Kd.bool 4 w' w0.heap.size (fun k_ => (P3_ k_ ∨ w.heap.size ≤ k_)) v0_ r ∧ Below w0.heap.size w0 w' ∧ Kept w w' (fun k_ => P3_ k_) := by
 induction k using Nat.strongRecOn with
 | _ k ih =>
 intro a0_0 a0_1 a0_2 A0_3 c0_3 l0_3 a0_4 a1 a2 P3_ u9000_ l3 r w0 w hB hr0_3 hc0_3 ho3 h
 cases k with
 | zero => exact absurd h (by simp [spec_l3Wholes.f])
 | succ k =>
 simp only [spec_l3Wholes.f] at h; have hu25 := Try.underlying25; have HR0_3 := z0 hr0_3; have HC0_3 := z0 hc0_3; clear hr0_3 hc0_3; have HO3 := z0 (show Kd.R Kd.bool 4 w w0.heap.size (fun k_ => (P3_ k_ ∨ w.heap.size ≤ k_)) u9000_ l3 from Kd.R_mono ho3 (fun k_ hk => (.inl hk))); have HK := z0 (Kept.refl w (fun k_ => P3_ k_)); have HW0 := z0 hB.size; have HB := z0 hB; clear hB; have H : (spec_l3Wholes.l0 k a2 l3 a1 a0_0 a0_1 a0_2 l0_3 a0_4) = some r := h; clear h; have H' := z0 H; clear H; go_enter Try.func84, Try.ntmps84
 go_wp2_with (first | ((with_reducible refine gd 4 ?_); (try (refine gate_guard (by rfl) ?_; dsimp only)); refine zbx 25 #[.string a0_0, .string a0_1, .string a0_2, .slice A0_3 l0_3.length c0_3, .int .i64 a0_4] ?_; intro gb614 hg w5 hbox hb; replace HO3 := zA HO3 hb; have BK614 := z0 (hbox); have GW614 := z0 ((by rw [hg]; exact (by first | exact HK.out.1 | exact (show Kept w _ (fun k_ => P3_ k_) from zk HK.out).1) : w.heap.size ≤ gb614)); replace HK := z0 (Kept.below (zk HK.out) hb); have GE614 := zG hg HB; replace HB := zH HB hb; clear hb hbox hg))
 go_loopg [3, 9] k (fun kq v3 v9 w' => ∃ (x3_1 : List Bool) (x9_1 : Int), v9 = .int .i64 x9_1 ∧ Aside0 (spec_l3Wholes.l0 kq a2 x3_1 x9_1 a0_0 a0_1 a0_2 l0_3 a0_4 = some r) ∧ Aside0 (kq ≤ k) ∧ Aside0 (Kd.R Kd.bool 4 w' w0.heap.size (fun k_ => (P3_ k_ ∨ w.heap.size ≤ k_)) v3 x3_1) ∧ Aside0 (w'.heap[gb614]? = some (.cells #[.string a0_0, .string a0_1, .string a0_2, (.slice A0_3 l0_3.length c0_3), .int .i64 a0_4] 25 (0, 0))) ∧ Aside0 (Kept w w' (fun k_ => P3_ k_)) ∧ Aside0 (Below w0.heap.size w0 w'))
 case atStart => exact ⟨(l3), (a1), zf, H', ⟨Nat.le_refl _⟩, ⟨zr HO3.out⟩, ⟨zl BK614.out⟩, ⟨zk HK.out⟩, ⟨zb HB.out⟩⟩
 case round =>
  clear H'
  try clear p2
  obtain ⟨x3_1, x9_1, rfl, HA, HK1, HO_3, BK614, HK, HB⟩ := hrel
  cases gk with
  | zero => exact absurd HA.out (by simp [spec_l3Wholes.l0])
  | succ k1 =>
   have H := HA.out; clear HA; simp only [spec_l3Wholes.l0] at H; have HC6 := z0 H; clear H
   go_upto_region 2 with (fail)
   go_cut [22] (fun v22 wc => ∃ (kq : Nat) (x22_5 : Bool), v22 = .bool x22_5 ∧ Aside0 (spec_l3Wholes.j1 kq a2 x3_1 x9_1 x22_5 a0_0 a0_1 a0_2 l0_3 a0_4 = some r) ∧ Aside0 (kq ≤ k1) ∧ Aside0 (Kd.R Kd.bool 4 wc w0.heap.size (fun k_ => (P3_ k_ ∨ w.heap.size ≤ k_)) u3 x3_1) ∧ Aside0 (wc.heap[gb614]? = some (.cells #[.string a0_0, .string a0_1, .string a0_2, (.slice A0_3 l0_3.length c0_3), .int .i64 a0_4] 25 (0, 0))) ∧ Aside0 (Kept w wc (fun k_ => P3_ k_)) ∧ Aside0 (Below w0.heap.size w0 wc))
   case first =>
    have H := HC6.out; clear HC6
    by_cases c7 : x9_1 < a2
    ·rw [if_pos c7] at H; have c7b0 := decide_eq_true c7; clear c7; (first | rw [c7b0] | (simp only [i64_w, i32_w]; rw [c7b0]) | simp only [*, Bool.not_true, Bool.not_false] | skip); have H' := z0 H; clear H; have hcz8 := zc5 BK614.out; go_wp2; go_meet
     case rel => exact ⟨_, (decide (x9_1 < (a0_0.size : Int))), zf, H', ⟨by have := HK1.out; first | omega | exact Nat.le_refl _⟩, ⟨zr HO_3.out⟩, ⟨zl BK614.out⟩, ⟨zk HK.out⟩, ⟨zb HB.out⟩⟩
    ·rw [if_neg c7] at H; have c7b0 := decide_eq_false c7; clear c7; (first | rw [c7b0] | (simp only [i64_w, i32_w]; rw [c7b0]) | simp only [*, Bool.not_true, Bool.not_false] | skip); have H' := z0 H; clear H; go_wp2; go_meet
     case rel => exact ⟨_, (false), zf, H', ⟨by have := HK1.out; first | omega | exact Nat.le_refl _⟩, ⟨zr HO_3.out⟩, ⟨zl BK614.out⟩, ⟨zk HK.out⟩, ⟨zb HB.out⟩⟩
   case rest =>
    clear HC6
    try clear p2
    try clear c7
    try clear c7b0
    try clear c8
    try clear hcz8
    try clear p2
    obtain ⟨kq, x22_5, rfl, HA, HJ5, HO_3, BK614, HK, HB⟩ := hcut
    cases kq with
    | zero => exact absurd HA.out (by simp [spec_l3Wholes.j1])
    | succ kj5 =>
     have H := HA.out; clear HA; simp only [spec_l3Wholes.j1] at H
     by_cases c9 : x22_5 = true
     ·subst c9
      have H1 : (if 0 ≤ x9_1 then (if x9_1 < (a0_1.size : Int) then (if (bt a0_1 x9_1) = 49 then ((spec_l3Kids.f kj5 a0_0 a0_1 a0_2 l0_3 a0_4 x9_1).bind fun bt615 => ((spec_l3Wholes.f kj5 a0_0 a0_1 a0_2 l0_3 a0_4 bt615.1 bt615.2 x3_1).bind fun t617 => (spec_l3Wholes.l0 kj5 a2 t617 (wrap64 (x9_1 + 1)) a0_0 a0_1 a0_2 l0_3 a0_4))) else ((spec_l3Whole.f kj5 a0_0 a0_1 a0_2 l0_3 a0_4 x9_1).bind fun t620 => (if x3_1.length < 140737488355328 then (spec_l3Wholes.l0 kj5 a2 (x3_1 ++ [t620]) (wrap64 (x9_1 + 1)) a0_0 a0_1 a0_2 l0_3 a0_4) else (none)))) else (none)) else (none)) = some r := by rw [if_pos rfl] at H; exact H
      clear H; have H := H1; clear H1; replace H := zn H; obtain ⟨c10, H⟩ := H; have c10b0 := decide_eq_true c10; clear c10; replace H := zn H; obtain ⟨c11, H⟩ := H; have c11b0 := decide_eq_true c11; clear c11
      by_cases c13 : (bt a0_1 x9_1) = 49
      ·rw [if_pos c13] at H; have c13b0 : ((bt a0_1 x9_1) == 49) = true := beq_iff_eq.mpr c13; have c13b1 : ((bt a0_1 x9_1) != 49) = false := bne_eq_false_iff_eq.mpr c13; clear c13; replace H := zi H; obtain ⟨⟨t615, t616⟩, A14, H⟩ := H; (try dsimp only at H); replace H := zi H; obtain ⟨t617, A15, H⟩ := H; have H' := z0 H; clear H; have hcz16 := zc5 BK614.out; have p12 : 0 ≤ (x9_1 : Int) := zd; have q12 : x9_1 < (a0_1.size : Int) := zd; have hx12 := bt_at a0_1 x9_1; replace p12 := eq_true p12; replace q12 := eq_true q12
       go_wp2_with (first | ((with_reducible refine gc 108 ?_); refine zL (some 33) Try.func108 #[.agg #[.string a0_0, .string a0_1, .string a0_2, .slice A0_3 l0_3.length c0_3, .int .i64 a0_4], .int .i64 x9_1] ?_; (with_reducible refine (spec_l3Kids.calls kj5 a0_0 a0_1 a0_2 _ _ l0_3 a0_4 x9_1 t615 t616 _ (Kd.C_kept_now HR0_3.out (zk HK.out)) HC0_3.out A14.out).mono ?_); rintro e w17 ⟨rfl, hb⟩; refine zv ?_; replace HO_3 := zA HO_3 hb; replace BK614 := zK BK614 hb; replace HK := z0 (Kept.below (zk HK.out) hb); replace HB := zH HB hb; (try clear hb); have hcz18 := zc5 BK614.out; obtain ⟨Ao19, co19, eo19⟩ := Kd.R_slice HO_3.out; subst eo19) | ((with_reducible refine gc 84 ?_); refine zL (some 40) Try.func84 #[.agg #[.string a0_0, .string a0_1, .string a0_2, .slice A0_3 l0_3.length c0_3, .int .i64 a0_4], .int .i64 t615, .int .i64 t616, .slice Ao19 x3_1.length co19] ?_; (with_reducible refine (ih kj5 (by have := HK1.out; have := HJ5.out; omega) a0_0 a0_1 a0_2 _ _ l0_3 a0_4 t615 t616 (fun k_ => some k_ = (.slice Ao19 x3_1.length co19 : Value).ownBlock) (.slice Ao19 x3_1.length co19) x3_1 t617 w0 _ ?side1 ?side2 ?side3 ?side4 A15.out).mono ?_); (case side1 => repeat (first | (with_reducible first | exact HB.out | apply below_alloc | apply pw_below_drewN | apply below_drew1 | refine below_set ?_ GE614.out) | exact HB.out)); (case side2 => exact Kd.C_kept_call HR0_3.out (zk HK.out) (fun k_ hs_ => (fun e_ => (HO_3.out.1 k_ e_.symm)) hs_)); (case side3 => exact HC0_3.out); (case side4 => exact Kd.R_tight rfl HO_3.out); rintro e w20 ⟨v618, rfl, ho0, hb, hkp⟩; refine ⟨_, rfl, ?_⟩; replace BK614 := z0 (blk_kept (zl BK614.out) hkp (fun hs_ => (fun e_ => (Kd.R_ne HO_3.out BK614.out (by decide)) e_) hs_)); have HO619 := z0 (Kd.R_mono (ok' := fun k_ => (P3_ k_ ∨ w.heap.size ≤ k_)) ho0 (fun k_ hk_ => Or.elim hk_ (fun hs_ => (HO_3.out.1 k_ (hs_).symm)) (fun hn_ => (.inr (Nat.le_trans (by first | exact HK.out.1 | exact (show Kept w _ (fun k_ => P3_ k_) from zk HK.out).1) hn_))))); replace HK := z0 (Kept.then_ (S := (fun k_ => P3_ k_)) (zk HK.out) hkp (fun k_ hs_ => (fun e_ => (HO_3.out.1 k_ e_.symm)) hs_)); replace HB := z0 (hb); clear HO_3; (try clear hb); (try clear hkp); (try clear ho0)))
       go_roundg kj5
       case measure => have := HK1.out; have := HJ5.out; omega
       case rel => exact ⟨(t617), (wrap64 (x9_1 + 1)), zf, H', ⟨by have := HK1.out; have := HJ5.out; omega⟩, ⟨zr HO619.out⟩, ⟨zl BK614.out⟩, ⟨zk HK.out⟩, ⟨zb HB.out⟩⟩
      ·rw [if_neg c13] at H; have c13b0 : ((bt a0_1 x9_1) == 49) = false := beq_eq_false_iff_ne.mpr c13; have c13b1 : ((bt a0_1 x9_1) != 49) = true := bne_iff_ne.mpr c13; replace H := zi H; obtain ⟨t620, A21, H⟩ := H; replace H := zn H; obtain ⟨c22, H⟩ := H; have LMc22 := z0 c22; clear c22; obtain ⟨y621, hy621⟩ : ∃ y_ : List Bool, y_ = (x3_1 ++ [t620]) := ⟨_, rfl⟩; replace H : (spec_l3Wholes.l0 kj5 a2 y621 (wrap64 (x9_1 + 1)) a0_0 a0_1 a0_2 l0_3 a0_4) = some r := zH2 hy621 H; have Ny621 := z0 hy621; clear hy621; have H' := z0 H; clear H; have hcz23 := zc5 BK614.out; have p12 : 0 ≤ (x9_1 : Int) := zd; have q12 : x9_1 < (a0_1.size : Int) := zd; have hx12 := bt_at a0_1 x9_1; replace p12 := eq_true p12; replace q12 := eq_true q12
       go_wp2_with (first | ((with_reducible refine gc 71 ?_); refine zL (some 44) Try.func71 #[.agg #[.string a0_0, .string a0_1, .string a0_2, .slice A0_3 l0_3.length c0_3, .int .i64 a0_4], .int .i64 x9_1] ?_; (with_reducible refine (spec_l3Whole.calls kj5 a0_0 a0_1 a0_2 _ _ l0_3 a0_4 x9_1 t620 _ (Kd.C_kept_now HR0_3.out (zk HK.out)) HC0_3.out A21.out).mono ?_); rintro e w24 ⟨rfl, hb⟩; refine zv ?_; replace HO_3 := zA HO_3 hb; replace BK614 := zK BK614 hb; replace HK := z0 (Kept.below (zk HK.out) hb); replace HB := zH HB hb; (try clear hb)) | ((with_reducible refine gate_builtin (b := .append) (xs := #[.tmp 41, .tmp 45]) rfl ?_); (try (refine gate_guard (by rfl) ?_; dsimp only)); at_builtin; refine Kd.R_append Kd.bool (w0 := w0) w0.heap.size rfl (.tmp 41) (.tmp 45) 84 4 (.bool false) 1 rfl Try.underlying84 info4 rfl (by decide) (by omega) u3 x3_1 t620 [.bool t620] (fun k_ => (P3_ k_ ∨ w.heap.size ≤ k_)) (fun _ => False) rfl rfl ?aP (fun _ hk => hk.elim) ?aF ?aO ?aB ?aS ?aL ?_; (case aP => exact rfl); (case aB => exact (zb HB.out)); (case aF => exact (fun k_ hk => (.inr (Nat.le_trans (by first | exact HK.out.1 | exact (show Kept w _ (fun k_ => P3_ k_) from zk HK.out).1) hk)))); (case aO => exact (zr HO_3.out)); (case aS => exact (below_size (zb HB.out))); (case aL => have := LMc22.out; omega); intro v622 w25 ho hb hg hat; rw [← Ny621.out] at ho; replace BK614 := z0 (blk_grown (zl BK614.out) hg (Kd.R_ne HO_3.out BK614.out (by decide))); replace HB := z0 (hb); replace HK := z0 (Kept.of_grown (S := (fun k_ => P3_ k_)) hg (zk HK.out) (fun k_ e_ => (HO_3.out.1 k_ e_))); have HO623 := z0 (ho); clear HO_3; clear ho hb hg hat))
       go_roundg kj5
       case measure => have := HK1.out; have := HJ5.out; omega
       case rel => exact ⟨(y621), (wrap64 (x9_1 + 1)), zf, H', ⟨by have := HK1.out; have := HJ5.out; omega⟩, ⟨zr HO623.out⟩, ⟨zl BK614.out⟩, ⟨zk HK.out⟩, ⟨zb HB.out⟩⟩
     ·replace c9 := Bool.eq_false_iff.mpr c9; subst c9
      have H1 : (some x3_1) = some r := by rw [if_neg (show ¬ (false = true) by decide)] at H; exact H
      clear H; have H := H1; clear H1; obtain rfl := Option.some.inj H; go_wp2; go_ret; exact ⟨_, ze, zr HO_3.out, zb HB.out, zk HK.out⟩
theorem spec_SieveSeek.mono_l : ∀ k, (∀ y0 y1 y2 y3 y4 y5 y6, LeO (spec_SieveSeek.j0 k y0 y1 y2 y3 y4 y5 y6) (spec_SieveSeek.j0 (k + 1) y0 y1 y2 y3 y4 y5 y6))
  | 0 => fun _ _ _ _ _ _ _ r h => by simp [spec_SieveSeek.j0] at h
  | k + 1 => by
    have ih0 := spec_SieveSeek.mono_l k
    · intro y0 y1 y2 y3 y4 y5 y6
      unfold spec_SieveSeek.j0
      repeat' first | (with_reducible first | apply ih0 | apply spec_KeyOk.mono | apply spec_SieveOk.mono | apply spec_l1One.mono | apply spec_l3Behind.mono | apply spec_l3Heads.mono | apply spec_l3Wholes.mono | exact LeO.refl _ | exact LeO.none _ | refine LeO.ite ?_ ?_ | refine LeO.bind ?_ (fun _ => ?_)) | exact LeO.none _ | refine LeO.ite ?_ ?_ | refine LeO.bind ?_ (fun _ => ?_)
theorem spec_SieveSeek.mono : ∀ a0 a1 a2 a3 a4 a5 k, LeO (spec_SieveSeek.f k a0 a1 a2 a3 a4 a5) (spec_SieveSeek.f (k + 1) a0 a1 a2 a3 a4 a5) := by
  intro a0 a1 a2 a3 a4 a5 k
  have ih0 := spec_SieveSeek.mono_l k
  unfold spec_SieveSeek.f
  repeat' first | (with_reducible first | apply ih0 | apply spec_KeyOk.mono | apply spec_SieveOk.mono | apply spec_l1One.mono | apply spec_l3Behind.mono | apply spec_l3Heads.mono | apply spec_l3Wholes.mono | exact LeO.refl _ | exact LeO.none _ | refine LeO.ite ?_ ?_ | refine LeO.bind ?_ (fun _ => ?_)) | exact LeO.none _ | refine LeO.ite ?_ ?_ | refine LeO.bind ?_ (fun _ => ?_)
def spec_SieveSeek.T4 : Bool × List (List Nat × List Nat) := (true, [([], []), ([], []), ([], []), ([2], [2]), ([3], [3]), ([], []), ([1, 4, 5, 4], [1, 4, 5]), ([], []), ([0, 6, 7, 6], [0, 6, 7]), ([8, 8, 0, 1, 2, 3, 4, 5, 6, 7, 8], [8])])
def spec_SieveSeek.B4 : List Nat := [0, 0, 0, 4, 12, 0, 62, 0, 255, 511]
theorem spec_SieveSeek.tab4 : rtab .any (opsOf Try.f62 4) = spec_SieveSeek.T4 := by kernel_rfl
theorem spec_SieveSeek.bits4 : waitsOk spec_SieveSeek.T4.2 spec_SieveSeek.B4 = true := by kernel_rfl
theorem spec_SieveSeek.calls (k : Nat) (a0_0 a0_1 a0_2 : ByteArray) (A0_3 : Option Addr) (c0_3 : Nat) (l0_3 : List ByteArray) (a0_4 : Int) (a1 r1 : ByteArray) (r2 : Bool) (w : World) (hr0_3 : Kd.C Kd.string w A0_3 l0_3.length l0_3) (hc0_3 : l0_3.length ≤ c0_3) (h : spec_SieveSeek.f k a0_0 a0_1 a0_2 l0_3 a0_4 a1 = some (r1, r2)) :
    Calls Try.prog 62 #[.agg #[.string a0_0, .string a0_1, .string a0_2, .slice A0_3 l0_3.length c0_3, .int .i64 a0_4], .string a1] w fun e w' => e = .returned (.tuple #[.string r1, .bool r2]) ∧ Below w.heap.size w w' := by
 have hu25 := Try.underlying25; have HR0_3 := z0 hr0_3; have HC0_3 := z0 hc0_3; clear hr0_3 hc0_3; have HB := z0 (Below.refl w.heap.size w); have H : ((spec_SieveOk.f k a0_0 a0_1 a0_2 l0_3 a0_4).bind fun t1383 => (if t1383 = true then ((spec_KeyOk.f k a1).bind fun t1384 => (spec_SieveSeek.j0 k a1 (!t1384) a0_0 a0_1 a0_2 l0_3 a0_4)) else (spec_SieveSeek.j0 k a1 true a0_0 a0_1 a0_2 l0_3 a0_4))) = some (r1, r2) := h; clear h; have HC3 := z0 H; clear H; go_enter Try.func62, Try.ntmps62
 go_upto_region 1 with (first | ((with_reducible refine gd 2 ?_); refine zbx 25 #[.string a0_0, .string a0_1, .string a0_2, .slice A0_3 l0_3.length c0_3, .int .i64 a0_4] ?_; intro gb1382 hg w4 hbox hb; have BK1382 := z0 (hbox); have GE1382 := zG hg HB; replace HB := zH HB hb; clear hb hbox hg))
 (try simp only [Act.put, List.setIfInBounds_toArray, List.set_cons_zero, List.set_cons_succ])
 go_cut [15] (fun v15 wc => ∃ (kq : Nat) (x15_2 : Bool), v15 = .bool x15_2 ∧ Aside0 (spec_SieveSeek.j0 kq a1 x15_2 a0_0 a0_1 a0_2 l0_3 a0_4 = some (r1, r2)) ∧ Aside0 (kq ≤ k) ∧ Aside0 (wc.heap[gb1382]? = some (.cells #[.string a0_0, .string a0_1, .string a0_2, (.slice A0_3 l0_3.length c0_3), .int .i64 a0_4] 25 (0, 0))) ∧ Aside0 (Below w.heap.size w wc))
 case first =>
  have H := HC3.out; clear HC3; replace H := zi H; obtain ⟨t1383, A5, H⟩ := H
  by_cases c6 : t1383 = true
  ·subst c6
   have H1 : ((spec_KeyOk.f k a1).bind fun t1384 => (spec_SieveSeek.j0 k a1 (!t1384) a0_0 a0_1 a0_2 l0_3 a0_4)) = some (r1, r2) := by rw [if_pos rfl] at H; exact H
   clear H; have H := H1; clear H1; replace H := zi H; obtain ⟨t1384, A7, H⟩ := H; have H' := z0 H; clear H; have hcz8 := zc5 BK1382.out
   go_wp2_with (first | ((with_reducible refine gc 46 ?_); refine zL (some 9) Try.func46 #[.agg #[.string a0_0, .string a0_1, .string a0_2, .slice A0_3 l0_3.length c0_3, .int .i64 a0_4]] ?_; (with_reducible refine (spec_SieveOk.calls k a0_0 a0_1 a0_2 _ _ l0_3 a0_4 true _ (zC (Kd.C_below HR0_3.out HB.out)) HC0_3.out A5.out).mono ?_); rintro e w9 ⟨rfl, hb⟩; refine zv ?_; replace BK1382 := zK BK1382 hb; replace HB := zH HB hb; (try clear hb)) | (go_at_call 31; (with_reducible refine (spec_KeyOk.calls k a1 t1384 _ A7.out).mono ?_); rintro e w' ⟨rfl, ⟨nd, rfl⟩⟩))
   go_meet
   case rel => exact ⟨_, (!t1384), zf, H', ⟨by first | omega | exact Nat.le_refl _⟩, ⟨zl BK1382.out⟩, ⟨zb HB.out⟩⟩
  ·replace c6 := Bool.eq_false_iff.mpr c6; subst c6
   have H1 : (spec_SieveSeek.j0 k a1 true a0_0 a0_1 a0_2 l0_3 a0_4) = some (r1, r2) := by rw [if_neg (show ¬ (false = true) by decide)] at H; exact H
   clear H; have H := H1; clear H1; have H' := z0 H; clear H; have hcz10 := zc5 BK1382.out
   go_wp2_with (first | ((with_reducible refine gc 46 ?_); refine zL (some 9) Try.func46 #[.agg #[.string a0_0, .string a0_1, .string a0_2, .slice A0_3 l0_3.length c0_3, .int .i64 a0_4]] ?_; (with_reducible refine (spec_SieveOk.calls k a0_0 a0_1 a0_2 _ _ l0_3 a0_4 false _ (zC (Kd.C_below HR0_3.out HB.out)) HC0_3.out A5.out).mono ?_); rintro e w11 ⟨rfl, hb⟩; refine zv ?_; replace BK1382 := zK BK1382 hb; replace HB := zH HB hb; (try clear hb)))
   go_meet
   case rel => exact ⟨_, (true), zf, H', ⟨by first | omega | exact Nat.le_refl _⟩, ⟨zl BK1382.out⟩, ⟨zb HB.out⟩⟩
 case rest =>
  clear HC3
  try clear p2
  try clear c4
  try clear c6
  try clear hcz10
  try clear hcz8
  obtain ⟨kq, x15_2, rfl, HA, HJ2, BK1382, HB⟩ := hcut
  cases kq with
  | zero => exact absurd HA.out (by simp [spec_SieveSeek.j0])
  | succ kj2 =>
   have H := HA.out; clear HA; simp only [spec_SieveSeek.j0] at H
   by_cases c12 : x15_2 = true
   ·subst c12
    have H1 : (some ((⟨#[]⟩ : ByteArray), false)) = some (r1, r2) := by rw [if_pos rfl] at H; exact H
    clear H; have H := H1; clear H1; simp only [Option.some.injEq, Prod.mk.injEq] at H; obtain ⟨rfl, rfl⟩ := H; go_wp2
    go_ret2
    exact ⟨ze, zb HB.out⟩
   ·replace c12 := Bool.eq_false_iff.mpr c12; subst c12
    have H1 : ((spec_l3Heads.f kj2 a0_0 a0_1 a0_2 l0_3 a0_4).bind fun t1385 => ((spec_l1One.f kj2 a0_2 1).bind fun t1388 => ((spec_l3Wholes.f kj2 a0_0 a0_1 a0_2 l0_3 a0_4 0 t1388 (([] : List Bool))).bind fun t1392 => ((spec_l3Behind.f kj2 t1385 t1392 a1).bind fun t1395 => (if t1395 ≥ (t1385.length : Int) then (some ((⟨#[]⟩ : ByteArray), false)) else (if 0 ≤ t1395 then (if t1395 < (t1385.length : Int) then (some (rdOf ByteArray.empty t1385 t1395, true)) else (none)) else (none))))))) = some (r1, r2) := by rw [if_neg (show ¬ (false = true) by decide)] at H; exact H
    clear H; have H := H1; clear H1; replace H := zi H; obtain ⟨t1385, A13, H⟩ := H; replace H := zi H; obtain ⟨t1388, A14, H⟩ := H; obtain ⟨y1389, hy1389⟩ : ∃ y_ : List Bool, y_ = (([] : List Bool)) := ⟨_, rfl⟩; replace H : ((spec_l3Wholes.f kj2 a0_0 a0_1 a0_2 l0_3 a0_4 0 t1388 y1389).bind fun t1392 => ((spec_l3Behind.f kj2 t1385 t1392 a1).bind fun t1395 => (if t1395 ≥ (t1385.length : Int) then (some ((⟨#[]⟩ : ByteArray), false)) else (if 0 ≤ t1395 then (if t1395 < (t1385.length : Int) then (some (rdOf ByteArray.empty t1385 t1395, true)) else (none)) else (none))))) = some (r1, r2) := zH2 hy1389 H; have Ny1389 := z0 hy1389; clear hy1389; replace H := zi H; obtain ⟨t1392, A15, H⟩ := H; replace H := zi H; obtain ⟨t1395, A16, H⟩ := H; have hcz17 := zc5 BK1382.out
    try go_wp2_with (first | ((with_reducible refine gc 82 ?_); refine zL (some 17) Try.func82 #[.agg #[.string a0_0, .string a0_1, .string a0_2, .slice A0_3 l0_3.length c0_3, .int .i64 a0_4]] ?_; (with_reducible refine (spec_l3Heads.calls kj2 a0_0 a0_1 a0_2 _ _ l0_3 a0_4 t1385 _ (zC (Kd.C_below HR0_3.out HB.out)) HC0_3.out A13.out).mono ?_); rintro e w18 ⟨v1386, rfl, ho0, hb⟩; refine zv ?_; have HO1387 := z0 (Kd.R_lower ho0 (below_size (zb HB.out))); replace BK1382 := zK BK1382 hb; replace HB := zH HB hb; (try clear hb ho0); obtain ⟨Ao19, co19, eo19⟩ := Kd.R_slice HO1387.out; subst eo19))
    replace HO1387 := z0 (Kd.R_drew HO1387.out); replace BK1382 := z0 (blk_drew BK1382.out); replace HB := z0 (below_drew1 HB.out); refine start_ (n := 10) (S := fun w' => w'.cell? ⟨gb1382, 0, none⟩ = some (.string a0_0) ∧ w'.cell? ⟨gb1382, 1, none⟩ = some (.string a0_1) ∧ w'.cell? ⟨gb1382, 2, none⟩ = some (.string a0_2) ∧ w'.cell? ⟨gb1382, 3, none⟩ = some (.slice A0_3 l0_3.length c0_3) ∧ w'.cell? ⟨gb1382, 4, none⟩ = some (.int .i64 a0_4)) (ds := []) (fb 10 0) (by kernel_rfl) rfl rfl (zb5 BK1382.out) (fun hHeld => ?_); refine with_tabW spec_SieveSeek.tab4 spec_SieveSeek.bits4 (fun HT_ HW_ => ?_); generalize w18.drew = w20 at HO1387 BK1382 HB hHeld ⊢; refine zu 0 1 ?_; refine zu 2 5 ?_; refine zu 7 133 ?_; refine zx 1 135 hHeld ?_; refine zx 3 143 hHeld ?_; refine join_ (σ := Value) 3 (fb 10 191) (fun s_ => [(22, .int .i64 t1388), (23, s_)]) (fun s_ w' => (w'.cell? ⟨gb1382, 0, none⟩ = some (.string a0_0) ∧ w'.cell? ⟨gb1382, 1, none⟩ = some (.string a0_1) ∧ w'.cell? ⟨gb1382, 2, none⟩ = some (.string a0_2) ∧ w'.cell? ⟨gb1382, 3, none⟩ = some (.slice A0_3 l0_3.length c0_3) ∧ w'.cell? ⟨gb1382, 4, none⟩ = some (.int .i64 a0_4)) ∧ (Kd.R Kd.string 9 w' w.heap.size (fun _ => True) (.slice Ao19 t1385.length co19) t1385) ∧ (Kd.R Kd.bool 4 w' w.heap.size (fun _ => True) s_ y1389) ∧ (w'.heap[gb1382]? = some (.cells #[.string a0_0, .string a0_1, .string a0_2, .slice A0_3 l0_3.length c0_3, .int .i64 a0_4] 25 (0, 0))) ∧ (Below w.heap.size w w')) ?_ ?_; rotate_left
    ·intro hCont; refine two_ (i := 4) (j := 5) (Ni := some 22) (Nj := some 23) (fb 10 159) (fb 10 175) rfl rfl rfl rfl (two_of HT_.out (by kernel_rfl)) (by decide) (by decide) (fun K hK => ?_) (fun K hK => ?_)
     ·skip
      refine zG2 Try.func85 #[.string a0_2, .int .i64 1] ?_
      with_reducible refine (spec_l1One.calls kj2 a0_2 1 t1388 _ A14.out).mono ?_
      rintro e w' ⟨rfl, ⟨nd, rfl⟩⟩; refine ⟨_, rfl, ?_⟩; refine hK.out _ _ (zb5 BK1382.out) (fun hHeld => ?_); clear hK K; refine znm ?_; refine zone 5 191 (fun K hK => ?_); refine Kd.R_lit_step Kd.bool _ 4 ?hg (N := 23) ?hd (xs := ([] : List Bool)) (inner := []) (ok := fun _ => True) (okp := fun _ => True) ?hr ?hp (fun _ hk => hk) trivial (Below.refl _ _) (Nat.le_refl _) (by simp) ?_; (case hd => rfl); (case hg => rfl); (case hr => first | (go_simp; done) | (go_simp; rfl)); (case hp => exact (Reps.none _ _)); intro v1390 w21 ho22 hb hg_ hnew_; clear hg_ hnew_; (first | rw [← Ny1389.out] at ho22 | (simp only [Int.reduceToNat] at ho22; rw [← Ny1389.out] at ho22)); replace HO1387 := zA HO1387 hb; have HO1391 := z0 (Kd.R_lower ho22 (below_size (zb HB.out))); replace BK1382 := zK BK1382 hb; replace HB := zH HB hb; clear hb ho22; refine hK.out _ _ (zb5 BK1382.out) (fun hHeld => ?_); clear hK K; refine znm ?_; exact norm_ (by simp only [putAll, Act.put, List.setIfInBounds_toArray, List.set_cons_zero, List.set_cons_succ]) (hCont (v1390) _ ⟨hHeld, (zr HO1387.out), (zr HO1391.out), (zl BK1382.out), (zb HB.out)⟩)
     ·skip
      refine Kd.R_lit_step Kd.bool _ 4 ?hg (N := 23) ?hd (xs := ([] : List Bool)) (inner := []) (ok := fun _ => True) (okp := fun _ => True) ?hr ?hp (fun _ hk => hk) trivial (Below.refl _ _) (Nat.le_refl _) (by simp) ?_; (case hd => rfl); (case hg => rfl); (case hr => first | (go_simp; done) | (go_simp; rfl)); (case hp => exact (Reps.none _ _)); intro v1390 w21 ho22 hb hg_ hnew_; clear hg_ hnew_; (first | rw [← Ny1389.out] at ho22 | (simp only [Int.reduceToNat] at ho22; rw [← Ny1389.out] at ho22)); replace HO1387 := zA HO1387 hb; have HO1391 := z0 (Kd.R_lower ho22 (below_size (zb HB.out))); replace BK1382 := zK BK1382 hb; replace HB := zH HB hb; clear hb ho22; refine hK.out _ _ (zb5 BK1382.out) (fun hHeld => ?_); clear hK K; refine znm ?_; refine zone 4 191 (fun K hK => ?_); refine zG2 Try.func85 #[.string a0_2, .int .i64 1] ?_
      with_reducible refine (spec_l1One.calls kj2 a0_2 1 t1388 _ A14.out).mono ?_
      rintro e w' ⟨rfl, ⟨nd, rfl⟩⟩; refine ⟨_, rfl, ?_⟩; refine hK.out _ _ (zb5 BK1382.out) (fun hHeld => ?_); clear hK K; refine znm ?_; exact norm_ (by simp only [putAll, Act.put, List.setIfInBounds_toArray, List.set_cons_zero, List.set_cons_succ]) (hCont (v1390) _ ⟨hHeld, (zr HO1387.out), (zr HO1391.out), (zl BK1382.out), (zb HB.out)⟩)
    rintro v1390 w23 ⟨hS_, h0_, h1_, h2_, h3_⟩; have n0_ : Aside0 (Kd.R Kd.string 9 w23 w.heap.size (fun _ => True) (.slice Ao19 t1385.length co19) t1385) := ⟨h0_⟩; have n1_ : Aside0 (Kd.R Kd.bool 4 w23 w.heap.size (fun _ => True) v1390 y1389) := ⟨h1_⟩; have n2_ : Aside0 (w23.heap[gb1382]? = some (.cells #[.string a0_0, .string a0_1, .string a0_2, .slice A0_3 l0_3.length c0_3, .int .i64 a0_4] 25 (0, 0))) := ⟨h2_⟩; have n3_ : Aside0 (Below w.heap.size w w23) := ⟨h3_⟩; clear HO1387; clear BK1382; clear HB; clear h0_ h1_ h2_ h3_; have HO1387 := n0_; have HO1391 := n1_; have BK1382 := n2_; have HB := n3_; clear n0_ n1_ n2_ n3_; have hHeld : w23.cell? ⟨gb1382, 0, none⟩ = some (.string a0_0) ∧ w23.cell? ⟨gb1382, 1, none⟩ = some (.string a0_1) ∧ w23.cell? ⟨gb1382, 2, none⟩ = some (.string a0_2) ∧ w23.cell? ⟨gb1382, 3, none⟩ = some (.slice A0_3 l0_3.length c0_3) ∧ w23.cell? ⟨gb1382, 4, none⟩ = some (.int .i64 a0_4) := hS_; obtain ⟨Ao24, co24, eo24⟩ := Kd.R_slice HO1391.out; (first | subst eo24 | (injection eo24 with f1_ f2_ f3_; have f4_ := f1_.symm; have f5_ := f3_.symm; clear f1_ f2_ f3_; subst f4_; subst f5_)); refine norm_ (a' := ?_) ?_ ?_; rotate_left
    ·simp only [putAll, Act.put, List.setIfInBounds_toArray, List.set_cons_zero, List.set_cons_succ]
     rfl
    refine zone 6 255 (fun K hK => ?_); refine zG2 Try.func84 #[.agg #[.string a0_0, .string a0_1, .string a0_2, .slice A0_3 l0_3.length c0_3, .int .i64 a0_4], .int .i64 0, .int .i64 t1388, .slice Ao24 y1389.length co24] ?_
    with_reducible refine (spec_l3Wholes.calls kj2 a0_0 a0_1 a0_2 _ _ l0_3 a0_4 0 t1388 (fun k_ => some k_ = (.slice Ao24 y1389.length co24 : Value).ownBlock) (.slice Ao24 y1389.length co24) y1389 t1392 w _ ?side1 ?side2 ?side3 ?side4 A15.out).mono ?_
    (case side1 => repeat (first | (with_reducible first | exact HB.out | apply below_alloc | apply pw_below_drewN | apply below_drew1 | refine below_set ?_ GE1382.out) | exact HB.out)); (case side2 => exact Kd.C_kept_came Kd.heap_string HR0_3.out (zb HB.out) (fun k_ hs_ => (fun e_ => Kd.R_base HO1391.out k_ e_.symm) hs_)); (case side3 => exact HC0_3.out); (case side4 => exact Kd.R_tight rfl HO1391.out); rintro e w25 ⟨v1393, rfl, ho0, hb, hkp⟩; refine ⟨_, rfl, ?_⟩; replace BK1382 := z0 (blk_kept (zl BK1382.out) hkp (fun hs_ => (fun e_ => (Kd.R_ne HO1391.out BK1382.out (by decide)) e_) hs_)); replace HO1387 := z0 (Kd.R_mono (ok' := fun k_ => True) (Kd.R_keptB ((Kd.R_apart' HO1387.out (Kd.R_typed HO1391.out) (by decide))) hkp (fun k_ hk_ hs_ => (hk_.2) hs_)) (fun k_ hk_ => trivial)); have HO1394 := z0 (Kd.R_mono (ok' := fun k_ => True) ho0 (fun k_ hk_ => trivial)); replace HB := z0 (hb); clear HO1391; (try clear hb); (try clear hkp); (try clear ho0); obtain ⟨Ao26, co26, eo26⟩ := Kd.R_slice HO1394.out; (first | subst eo26 | (injection eo26 with f1_ f2_ f3_; have f4_ := f1_.symm; have f5_ := f3_.symm; clear f1_ f2_ f3_; subst f4_; subst f5_)); refine hK.out _ _ (zb5 BK1382.out) (fun hHeld => ?_); clear hK K; refine znm ?_; refine zone 8 511 (fun K hK => ?_); refine zG2 Try.func83 #[.slice Ao19 t1385.length co19, .slice Ao26 t1392.length co26, .string a1] ?_
    with_reducible refine (spec_l3Behind.calls kj2 _ _ t1385 _ _ t1392 a1 t1395 _ ?side1 ?side2 ?side3 ?side4 A16.out).mono ?_
    (case side1 => repeat (first | exact (Kd.R_reads' HO1387.out).2.2 | (with_reducible refine Kd.C_alloc ?_ _) | (with_reducible refine Kd.C_drewN ?_ _) | (with_reducible refine Kd.C_drew ?_))); (case side2 => exact (Kd.R_reads' HO1387.out).2.1); (case side3 => repeat (first | exact (Kd.R_reads' HO1394.out).2.2 | (with_reducible refine Kd.C_alloc ?_ _) | (with_reducible refine Kd.C_drewN ?_ _) | (with_reducible refine Kd.C_drew ?_))); (case side4 => exact (Kd.R_reads' HO1394.out).2.1); rintro e w' ⟨rfl, ⟨nd, rfl⟩⟩; refine ⟨_, rfl, ?_⟩; refine hK.out _ _ (zb5 BK1382.out) (fun hHeld => ?_); clear hK K; refine znm ?_; refine zu 9 1023 ?_; refine done_ (done_of HT_.out (by kernel_rfl)) ?_
    go_upto_if 30 with (fail)
    by_cases c27 : t1395 ≥ (t1385.length : Int)
    ·rw [if_pos c27] at H; have c27b0 : decide ((t1385.length : Int) ≤ t1395) = true := decide_eq_true c27; clear c27; (first | rw [c27b0] | (simp only [i64_w, i32_w]; rw [c27b0]) | simp only [*, Bool.not_true, Bool.not_false] | skip); simp only [Option.some.injEq, Prod.mk.injEq] at H; obtain ⟨rfl, rfl⟩ := H; go_wp2
     go_ret2
     exact ⟨ze, zb HB.out⟩
    ·rw [if_neg c27] at H; have c27b0 : decide ((t1385.length : Int) ≤ t1395) = false := decide_eq_false c27; clear c27; (first | rw [c27b0] | (simp only [i64_w, i32_w]; rw [c27b0]) | simp only [*, Bool.not_true, Bool.not_false] | skip); replace H := zn H; obtain ⟨c28, H⟩ := H; have c28b0 := decide_eq_true c28; clear c28; replace H := zn H; obtain ⟨c29, H⟩ := H; have c29b0 := decide_eq_true c29; clear c29; simp only [Option.some.injEq, Prod.mk.injEq] at H; obtain ⟨rfl, rfl⟩ := H; have p1396 : 0 ≤ (t1395 : Int) := zd; have q1396 : t1395 < (t1385.length : Int) := zd; obtain ⟨ad1396, e1396, hx1396_0⟩ := Kd.at_string (Kd.R_reads' HO1387.out).2.2 t1395 p1396 q1396; cases e1396; replace p1396 := eq_true p1396; replace q1396 := eq_true q1396; go_wp2
     go_ret2
     exact ⟨ze, zb HB.out⟩
theorem spec_DrawSieveHas.mono : ∀ a0 k, LeO (spec_DrawSieveHas.f k a0) (spec_DrawSieveHas.f (k + 1) a0) := by
  intro a0 k
  unfold spec_DrawSieveHas.f
  repeat' first | (with_reducible first | apply spec_l71Bent.mono | apply spec_l71Near.mono | exact LeO.refl _ | exact LeO.none _ | refine LeO.ite ?_ ?_ | refine LeO.bind ?_ (fun _ => ?_)) | exact LeO.none _ | refine LeO.ite ?_ ?_ | refine LeO.bind ?_ (fun _ => ?_)
theorem spec_DrawSieveHas.calls (k : Nat) (A0 : Option Addr) (c0 : Nat) (l0 : List Int) (r1 r2 r3 : ByteArray) (r4 : List ByteArray) (r5 : Int) (r6 : ByteArray) (w : World) (hr0 : Kd.C (Kd.int .u8) w A0 l0.length l0) (hc0 : l0.length ≤ c0) (h : spec_DrawSieveHas.f k l0 = some (r1, r2, r3, r4, r5, r6)) :
    Calls Try.prog 27 #[.slice A0 l0.length c0] w fun e w' => ∃ v3_ : Value, e = .returned (.tuple #[.agg #[.string r1, .string r2, .string r3, v3_, .int .i64 r5], .string r6]) ∧ Kd.R Kd.string 9 w' w.heap.size (fun _ => True) v3_ r4 ∧ Below w.heap.size w w' := by
 have hu25 := Try.underlying25; have HR0 := z0 hr0; have HC0 := z0 hc0; clear hr0 hc0; have HB := z0 (Below.refl w.heap.size w); have H : ((spec_l6Open.f l0).bind fun bt299 => ((spec_l71Bent.f k bt299.1 bt299.2).bind fun bt302 => ((spec_l71Near.f k bt299.1 bt302.2.2.2.2.2.2 bt302.2.2.2.2.2.1).bind fun bt314 => (some (bt302.1, bt302.2.1, bt302.2.2.1, bt302.2.2.2.1, bt302.2.2.2.2.1, bt314.1))))) = some (r1, r2, r3, r4, r5, r6) := h; clear h; replace H := zi H; obtain ⟨⟨t299, t300⟩, A2, H⟩ := H; (try dsimp only at H); replace H := zi H; obtain ⟨⟨t302, t303, t304, t305, t308, t309, t312⟩, A3, H⟩ := H; (try dsimp only at H); replace H := zi H; obtain ⟨⟨t314, t315⟩, A4, H⟩ := H; (try dsimp only at H); simp only [Option.some.injEq, Prod.mk.injEq] at H; obtain ⟨rfl, rfl, rfl, rfl, rfl, rfl⟩ := H; go_enter Try.func27, Try.ntmps27
 try go_wp2_with (first | ((with_reducible refine gd 2 ?_); refine zbx 25 #[.string ⟨#[]⟩, .string ⟨#[]⟩, .string ⟨#[]⟩, .slice none 0 0, .int .i64 0] ?_; intro gb298 hg w5 hbox hb; have BK298 := z0 (hbox); have GE298 := zG hg HB; replace HB := zH HB hb; clear hb hbox hg) | ((with_reducible refine gc 64 ?_); refine zL (some 8) Try.func64 #[.slice A0 l0.length c0] ?_; (with_reducible refine (spec_l6Open.calls _ _ l0 t299 t300 w _ (zb HB.out) HR0.out HC0.out A2.out).mono ?_); rintro e w6 ⟨g301, rfl, hi, hb, hb2⟩; refine zv ?_; replace HB := z0 (hb); have HI301 := z0 (hi); have NB301_298 := z0 (IsS98.ne_blk hi (blk_below (zl BK298.out) hb2) (by decide)); have NB298_301 := z0 (Ne.symm (IsS98.ne_blk hi (blk_below (zl BK298.out) hb2) (by decide))); replace BK298 := zK BK298 hb2; (try clear hb hb2 hi)) | ((with_reducible refine gc 65 ?_); refine zL (some 11) Try.func65 #[.pointer (some ⟨g301, 0, none⟩)] ?_; (with_reducible refine (spec_l71Bent.calls k g301 t299 t300 t302 t303 t304 t305 t308 t309 t312 w _ (HI301.out.zI) (HI301.out.zb HB.out) A3.out).mono ?_); rintro e w7 ⟨v306, v310, rfl, ho0, ho1, hi, hb, hk⟩; refine zv ?_; replace BK298 := z0 (KeepBut.blk hk (g' := gb298) (o := .cells #[.string ⟨#[]⟩, .string ⟨#[]⟩, .string ⟨#[]⟩, .slice none 0 0, .int .i64 0] 25 (0, 0)) (zl BK298.out) NB298_301.out (by simp)); have HO307 := z0 (Kd.R_lower ho0 (below_size (HI301.out.zb HB.out))); have HO311 := z0 (Kd.R_lower ho1 (below_size (HI301.out.zb HB.out))); replace HB := z0 (hb); replace HI301 := z0 (hi); (try clear hb hk hi ho0 ho1)) | ((with_reducible refine gd 5 ?_); refine zbx 25 #[.string ⟨#[]⟩, .string ⟨#[]⟩, .string ⟨#[]⟩, .slice none 0 0, .int .i64 0] ?_; intro gb313 hg w8 hbox hb; replace HO307 := zA HO307 hb; replace HO311 := zA HO311 hb; have BK313 := z0 (hbox); have GW313 := z0 ((by rw [hg]; exact (below_size (HI301.out.zb HB.out)) : w.heap.size ≤ gb313)); have GE313 := z0 ((by rw [hg]; exact (below_size (HI301.out.zb HB.out)) : w.heap.size ≤ gb313)); replace HB := z0 (below_step (HI301.out.zb HB.out) hb); have NB298_313 := zLt hg BK298; have NB313_298 := zGt hg BK298; replace BK298 := zK BK298 hb; have NB301_313 := z0 ((by rw [hg]; exact Nat.ne_of_lt (IsS98.lt (show IsS98 w _ g301 t299 t312 from HI301.out.zI)) : g301 ≠ gb313)); have NB313_301 := z0 ((by rw [hg]; exact Nat.ne_of_gt (IsS98.lt (show IsS98 w _ g301 t299 t312 from HI301.out.zI)) : gb313 ≠ g301)); replace HI301 := z0 (IsS98.below (HI301.out.zI) hb); clear hb hbox hg; have hnb9 := NB313_298.out; have hnc9 := NB298_313.out; have hnb10 := NB313_301.out; have hnc10 := NB301_313.out; have hcz11 := zc5 BK313.out; obtain ⟨Ao12, co12, eo12⟩ := Kd.R_slice HO307.out; subst eo12))
 have n0_ : Aside0 (Kd.R Kd.string 9 (((((w8.setCell ⟨gb313, 0, none⟩ (.string t302)).setCell ⟨gb313, 1, none⟩ (.string t303)).setCell ⟨gb313, 2, none⟩ (.string t304)).setCell ⟨gb313, 3, none⟩ (.slice Ao12 t305.length co12)).setCell ⟨gb313, 4, none⟩ (.int .i64 t308)) w.heap.size (fun k_ => some k_ ≠ (v310 : Value).ownBlock) (.slice Ao12 t305.length co12) t305) := ⟨Kd.R_mono (zt HO307.out BK313.out) (fun _ hk => hk.1)⟩; have n1_ : Aside0 (Kd.R Kd.string 9 (((((w8.setCell ⟨gb313, 0, none⟩ (.string t302)).setCell ⟨gb313, 1, none⟩ (.string t303)).setCell ⟨gb313, 2, none⟩ (.string t304)).setCell ⟨gb313, 3, none⟩ (.slice Ao12 t305.length co12)).setCell ⟨gb313, 4, none⟩ (.int .i64 t308)) w.heap.size (fun k_ => some k_ ≠ (.slice Ao12 t305.length co12 : Value).ownBlock) v310 t309) := ⟨Kd.R_mono (zt HO311.out BK313.out) (fun _ hk => hk.1)⟩; have n2_ : Aside0 ((((((w8.setCell ⟨gb313, 0, none⟩ (.string t302)).setCell ⟨gb313, 1, none⟩ (.string t303)).setCell ⟨gb313, 2, none⟩ (.string t304)).setCell ⟨gb313, 3, none⟩ (.slice Ao12 t305.length co12)).setCell ⟨gb313, 4, none⟩ (.int .i64 t308)).heap[gb298]? = some (.cells #[.string ⟨#[]⟩, .string ⟨#[]⟩, .string ⟨#[]⟩, .slice none 0 0, .int .i64 0] 25 (0, 0))) := ⟨zy BK298.out⟩; have n3_ : Aside0 ((((((w8.setCell ⟨gb313, 0, none⟩ (.string t302)).setCell ⟨gb313, 1, none⟩ (.string t303)).setCell ⟨gb313, 2, none⟩ (.string t304)).setCell ⟨gb313, 3, none⟩ (.slice Ao12 t305.length co12)).setCell ⟨gb313, 4, none⟩ (.int .i64 t308)).heap[gb313]? = some (.cells #[.string t302, .string t303, .string t304, .slice Ao12 t305.length co12, .int .i64 t308] 25 (0, 0))) := ⟨zp BK313.out⟩; have n4_ : Aside0 (IsS98 w (((((w8.setCell ⟨gb313, 0, none⟩ (.string t302)).setCell ⟨gb313, 1, none⟩ (.string t303)).setCell ⟨gb313, 2, none⟩ (.string t304)).setCell ⟨gb313, 3, none⟩ (.slice Ao12 t305.length co12)).setCell ⟨gb313, 4, none⟩ (.int .i64 t308)) g301 t299 t312) := ⟨HI301.out.zI⟩; have n5_ : Aside0 (Below w.heap.size w (((((w8.setCell ⟨gb313, 0, none⟩ (.string t302)).setCell ⟨gb313, 1, none⟩ (.string t303)).setCell ⟨gb313, 2, none⟩ (.string t304)).setCell ⟨gb313, 3, none⟩ (.slice Ao12 t305.length co12)).setCell ⟨gb313, 4, none⟩ (.int .i64 t308))) := ⟨HI301.out.zb HB.out⟩; (try clear HO307); (try clear HO311); (try clear BK298); (try clear BK313); (try clear HI301); (try clear HB); generalize (((((w8.setCell ⟨gb313, 0, none⟩ (.string t302)).setCell ⟨gb313, 1, none⟩ (.string t303)).setCell ⟨gb313, 2, none⟩ (.string t304)).setCell ⟨gb313, 3, none⟩ (.slice Ao12 t305.length co12)).setCell ⟨gb313, 4, none⟩ (.int .i64 t308)) = w13 at n0_ n1_ n2_ n3_ n4_ n5_ ⊢; have HO307 := n0_; have HO311 := n1_; have BK298 := n2_; have BK313 := n3_; have HI301 := n4_; have HB := n5_; clear n0_ n1_ n2_ n3_ n4_ n5_; replace HO307 := z0 (Kd.R_drew HO307.out); replace HO311 := z0 (Kd.R_drew HO311.out); replace BK298 := z0 (blk_drew BK298.out); replace BK313 := z0 (blk_drew BK313.out); replace HI301 := z0 (IsS98.drew HI301.out); replace HB := z0 (below_drew1 HB.out); obtain ⟨Ao15, co15, eo15⟩ := Kd.R_slice HO311.out; (first | subst eo15 | (injection eo15 with f1_ f2_ f3_; have f4_ := f1_.symm; have f5_ := f3_.symm; clear f1_ f2_ f3_; subst f4_; subst f5_)); refine start_ (n := 6) (S := fun w' => w'.cell? ⟨gb313, 0, none⟩ = some (.string t302) ∧ w'.cell? ⟨gb313, 1, none⟩ = some (.string t303) ∧ w'.cell? ⟨gb313, 2, none⟩ = some (.string t304) ∧ w'.cell? ⟨gb313, 3, none⟩ = some (.slice Ao12 t305.length co12) ∧ w'.cell? ⟨gb313, 4, none⟩ = some (.int .i64 t308)) (ds := []) (fb 6 0) (by kernel_rfl) rfl rfl (zb5 BK313.out) (fun hHeld => ?_); generalize w13.drew = w14 at HO307 HO311 BK298 BK313 HI301 HB hHeld ⊢; refine zu 1 2 ?_; refine zu 2 6 ?_; refine zx 0 7 hHeld ?_; refine zone 3 15 (fun K hK => ?_); refine zG2 Try.func66 #[.pointer (some ⟨g301, 0, none⟩), .slice Ao15 t309.length co15] ?_
 with_reducible refine (spec_l71Near.calls k g301 t299 t312 _ _ t309 t314 t315 w _ ?side1 ?side2 ?side3 ?side4 ?side5 A4.out).mono ?_
 (case side1 => repeat (first | (with_reducible first | exact HI301.out | apply IsS98.alloc | apply IsS98.drewN | apply IsS98.drew | apply IsS98.set_1 | refine IsS98.far ?_ NB301_298.out _ | refine IsS98.far ?_ NB301_313.out _) | exact HI301.out)); (case side2 => repeat (first | (with_reducible first | exact HB.out | apply below_alloc | apply pw_below_drewN | apply below_drew1 | refine below_set ?_ (IsS98.ge HI301.out) | refine below_set ?_ GE298.out | refine below_set ?_ GE313.out) | exact HB.out)); (case side3 => repeat (first | exact (Kd.R_reads' HO311.out).2.2 | (with_reducible refine Kd.C_alloc ?_ _) | (with_reducible refine Kd.C_drewN ?_ _) | (with_reducible refine Kd.C_drew ?_))); (case side4 => exact (Kd.R_reads' HO311.out).2.1); (case side5 => exact far_slice (IsS98.own_ne HI301.out HO311.out (by decide))); rintro e w16 ⟨rfl, hi, hb, hk⟩; refine ⟨_, rfl, ?_⟩; replace BK298 := z0 (KeepBut.blk hk (g' := gb298) (o := .cells #[.string ⟨#[]⟩, .string ⟨#[]⟩, .string ⟨#[]⟩, .slice none 0 0, .int .i64 0] 25 (0, 0)) (zl BK298.out) NB298_301.out (by simp)); replace HO307 := z0 (Kd.R_mono (Kd.R_keep (IsS98.apart (show IsS98 w _ g301 t299 t312 from HI301.out.zI) (zr HO307.out) (by decide)) hk (fun _ h => h.2)) (fun _ h => h.1)); replace HO311 := z0 (Kd.R_mono (Kd.R_keep (IsS98.apart (show IsS98 w _ g301 t299 t312 from HI301.out.zI) (zr HO311.out) (by decide)) hk (fun _ h => h.2)) (fun _ h => h.1)); replace BK313 := z0 (KeepBut.blk hk (g' := gb313) (o := .cells #[.string t302, .string t303, .string t304, .slice Ao12 t305.length co12, .int .i64 t308] 25 (0, 0)) (zl BK313.out) NB313_301.out (by simp)); replace HB := z0 (hb); replace HI301 := z0 (hi); (try clear hb hk hi); refine hK.out _ _ (zb5 BK313.out) (fun hHeld => ?_); clear hK K; refine znm ?_; refine zone 4 31 (fun K hK => ?_); have hs17 : w16.cell? ⟨gb298, 0, none⟩ = some (.string ⟨#[]⟩) := (blk_cell BK298.out 0).trans rfl; have hfs17 := blk_frozen BK298.out 0; have hns17_1 := NB313_298.out; have hms17_1 := NB298_313.out; have hs18 : w16.cell? ⟨gb298, 1, none⟩ = some (.string ⟨#[]⟩) := (blk_cell BK298.out 1).trans rfl; have hfs18 := blk_frozen BK298.out 1; have hns18_1 := NB313_298.out; have hms18_1 := NB298_313.out; have hs19 : w16.cell? ⟨gb298, 2, none⟩ = some (.string ⟨#[]⟩) := (blk_cell BK298.out 2).trans rfl; have hfs19 := blk_frozen BK298.out 2; have hns19_1 := NB313_298.out; have hms19_1 := NB298_313.out; have hs20 : w16.cell? ⟨gb298, 3, none⟩ = some (.slice none 0 0) := (blk_cell BK298.out 3).trans rfl; have hfs20 := blk_frozen BK298.out 3; have hns20_1 := NB313_298.out; have hms20_1 := NB298_313.out; have hs21 : w16.cell? ⟨gb298, 4, none⟩ = some (.int .i64 0) := (blk_cell BK298.out 4).trans rfl; have hfs21 := blk_frozen BK298.out 4; have hns21_1 := NB313_298.out; have hms21_1 := NB298_313.out; refine skip_ (w1 := ?_) (by rfl) rfl ?_ ?_; rotate_left
 ·go_simp
  rfl
 refine hK.out _ _ ⟨((cell_far (p := ⟨gb298, _, none⟩) NB313_298.out _).trans (((cell_far (p := ⟨gb298, _, none⟩) NB313_298.out _).trans (((cell_far (p := ⟨gb298, _, none⟩) NB313_298.out _).trans (((cell_far (p := ⟨gb298, _, none⟩) NB313_298.out _).trans (((cell_far (p := ⟨gb298, _, none⟩) NB313_298.out _).trans (hHeld.1)))))))))), ((cell_far (p := ⟨gb298, _, none⟩) NB313_298.out _).trans (((cell_far (p := ⟨gb298, _, none⟩) NB313_298.out _).trans (((cell_far (p := ⟨gb298, _, none⟩) NB313_298.out _).trans (((cell_far (p := ⟨gb298, _, none⟩) NB313_298.out _).trans (((cell_far (p := ⟨gb298, _, none⟩) NB313_298.out _).trans (hHeld.2.1)))))))))), ((cell_far (p := ⟨gb298, _, none⟩) NB313_298.out _).trans (((cell_far (p := ⟨gb298, _, none⟩) NB313_298.out _).trans (((cell_far (p := ⟨gb298, _, none⟩) NB313_298.out _).trans (((cell_far (p := ⟨gb298, _, none⟩) NB313_298.out _).trans (((cell_far (p := ⟨gb298, _, none⟩) NB313_298.out _).trans (hHeld.2.2.1)))))))))), ((cell_far (p := ⟨gb298, _, none⟩) NB313_298.out _).trans (((cell_far (p := ⟨gb298, _, none⟩) NB313_298.out _).trans (((cell_far (p := ⟨gb298, _, none⟩) NB313_298.out _).trans (((cell_far (p := ⟨gb298, _, none⟩) NB313_298.out _).trans (((cell_far (p := ⟨gb298, _, none⟩) NB313_298.out _).trans (hHeld.2.2.2.1)))))))))), ((cell_far (p := ⟨gb298, _, none⟩) NB313_298.out _).trans (((cell_far (p := ⟨gb298, _, none⟩) NB313_298.out _).trans (((cell_far (p := ⟨gb298, _, none⟩) NB313_298.out _).trans (((cell_far (p := ⟨gb298, _, none⟩) NB313_298.out _).trans (((cell_far (p := ⟨gb298, _, none⟩) NB313_298.out _).trans (hHeld.2.2.2.2))))))))))⟩ (fun hHeld => ?_); clear hK K; refine zu 5 63 ?_; refine done_ (by kernel_rfl) ?_
 try go_wp2
 refine bodyPost_ret (results_ct rfl _ _ gb298 25 #[.string t302, .string t303, .string t304, .slice Ao12 t305.length co12, .int .i64 t308] (0, 0) _ rfl (zp BK298.out) Try.underlying25 rfl (by kernel_rfl)) rfl ?_; exact ⟨_, ze, Kd.R_mono (zt HO307.out BK298.out) (fun _ hk => trivial), HI301.out.zb HB.out⟩
theorem spec_DrawSieveSeek.mono : ∀ a0 k, LeO (spec_DrawSieveSeek.f k a0) (spec_DrawSieveSeek.f (k + 1) a0) := by
  intro a0 k
  unfold spec_DrawSieveSeek.f
  repeat' first | (with_reducible first | apply spec_DrawSieveHas.mono | exact LeO.refl _ | exact LeO.none _ | refine LeO.ite ?_ ?_ | refine LeO.bind ?_ (fun _ => ?_)) | exact LeO.none _ | refine LeO.ite ?_ ?_ | refine LeO.bind ?_ (fun _ => ?_)
theorem spec_DrawSieveSeek.calls (k : Nat) (A0 : Option Addr) (c0 : Nat) (l0 : List Int) (r1 r2 r3 : ByteArray) (r4 : List ByteArray) (r5 : Int) (r6 : ByteArray) (w : World) (hr0 : Kd.C (Kd.int .u8) w A0 l0.length l0) (hc0 : l0.length ≤ c0) (h : spec_DrawSieveSeek.f k l0 = some (r1, r2, r3, r4, r5, r6)) :
    Calls Try.prog 63 #[.slice A0 l0.length c0] w fun e w' => ∃ v3_ : Value, e = .returned (.tuple #[.agg #[.string r1, .string r2, .string r3, v3_, .int .i64 r5], .string r6]) ∧ Kd.R Kd.string 9 w' w.heap.size (fun _ => True) v3_ r4 ∧ Below w.heap.size w w' := by
 have hu25 := Try.underlying25; have HR0 := z0 hr0; have HC0 := z0 hc0; clear hr0 hc0; have HB := z0 (Below.refl w.heap.size w); have H : ((spec_DrawSieveHas.f k l0).bind fun bt1499 => (some (bt1499.1, bt1499.2.1, bt1499.2.2.1, bt1499.2.2.2.1, bt1499.2.2.2.2.1, bt1499.2.2.2.2.2))) = some (r1, r2, r3, r4, r5, r6) := h; clear h; replace H := zi H; obtain ⟨⟨t1499, t1500, t1501, t1502, t1505, t1506⟩, A2, H⟩ := H; (try dsimp only at H); simp only [Option.some.injEq, Prod.mk.injEq] at H; obtain ⟨rfl, rfl, rfl, rfl, rfl, rfl⟩ := H; go_enter Try.func63, Try.ntmps63
 go_wp2_with (first | ((with_reducible refine gd 2 ?_); refine zbx 25 #[.string ⟨#[]⟩, .string ⟨#[]⟩, .string ⟨#[]⟩, .slice none 0 0, .int .i64 0] ?_; intro gb1498 hg w3 hbox hb; have BK1498 := z0 (hbox); have GE1498 := zG hg HB; replace HB := zH HB hb; clear hb hbox hg) | ((with_reducible refine gc 27 ?_); refine zL (some 5) Try.func27 #[.slice A0 l0.length c0] ?_; (with_reducible refine (spec_DrawSieveHas.calls k _ _ l0 t1499 t1500 t1501 t1502 t1505 t1506 _ (zC (Kd.C_below HR0.out HB.out)) HC0.out A2.out).mono ?_); rintro e w4 ⟨v1503, rfl, ho0, hb⟩; refine zv ?_; have HO1504 := z0 (Kd.R_lower ho0 (below_size (zb HB.out))); replace BK1498 := zK BK1498 hb; replace HB := zH HB hb; (try clear hb ho0); have hcz5 := zc5 BK1498.out; obtain ⟨Ao6, co6, eo6⟩ := Kd.R_slice HO1504.out; subst eo6))
 refine bodyPost_ret (results_ct rfl _ _ gb1498 25 #[.string t1499, .string t1500, .string t1501, .slice Ao6 t1502.length co6, .int .i64 t1505] (0, 0) _ rfl (zp BK1498.out) Try.underlying25 rfl (by kernel_rfl)) rfl ?_; exact ⟨_, ze, Kd.R_mono (zt HO1504.out BK1498.out) (fun _ hk => trivial), zb HB.out⟩
theorem laws_FnSieveSeek.mono_l : ∀ k, (∀ y0 y1 y2 y3 y4 y5 y6 y7 y8 y9 y10, LeO (laws_FnSieveSeek.j0 k y0 y1 y2 y3 y4 y5 y6 y7 y8 y9 y10) (laws_FnSieveSeek.j0 (k + 1) y0 y1 y2 y3 y4 y5 y6 y7 y8 y9 y10))
  | 0 => fun _ _ _ _ _ _ _ _ _ _ _ r h => by simp [laws_FnSieveSeek.j0] at h
  | k + 1 => by
    have ih0 := laws_FnSieveSeek.mono_l k
    · intro y0 y1 y2 y3 y4 y5 y6 y7 y8 y9 y10
      unfold laws_FnSieveSeek.j0
      repeat' first | (with_reducible first | apply ih0 | apply impl_SieveHeads.mono | apply impl_SieveMeets.mono | apply impl_SieveSeek.mono | apply laws_ltIn.mono | apply spec_DrawSieveSeek.mono | apply spec_SieveSeek.mono | exact LeO.refl _ | exact LeO.none _ | refine LeO.ite ?_ ?_ | refine LeO.bind ?_ (fun _ => ?_)) | exact LeO.none _ | refine LeO.ite ?_ ?_ | refine LeO.bind ?_ (fun _ => ?_)
theorem laws_FnSieveSeek.mono : ∀ a0 k, LeO (laws_FnSieveSeek.f k a0) (laws_FnSieveSeek.f (k + 1) a0) := by
  intro a0 k
  have ih0 := laws_FnSieveSeek.mono_l k
  unfold laws_FnSieveSeek.f
  repeat' first | (with_reducible first | apply ih0 | apply impl_SieveHeads.mono | apply impl_SieveMeets.mono | apply impl_SieveSeek.mono | apply laws_ltIn.mono | apply spec_DrawSieveSeek.mono | apply spec_SieveSeek.mono | exact LeO.refl _ | exact LeO.none _ | refine LeO.ite ?_ ?_ | refine LeO.bind ?_ (fun _ => ?_)) | exact LeO.none _ | refine LeO.ite ?_ ?_ | refine LeO.bind ?_ (fun _ => ?_)
theorem laws_FnSieveSeek.calls (k : Nat) (A0 : Option Addr) (c0 : Nat) (l0 : List Int) (r : Bool) (w : World) (hr0 : Kd.C (Kd.int .u8) w A0 l0.length l0) (hc0 : l0.length ≤ c0) (h : laws_FnSieveSeek.f k l0 = some r) :
    Calls Try.prog 23 #[.slice A0 l0.length c0] w fun e w' => e = .returned (.bool r) ∧ Below w.heap.size w w' := by
 have hu25 := Try.underlying25; have HR0 := z0 hr0; have HC0 := z0 hc0; clear hr0 hc0; have HB := z0 (Below.refl w.heap.size w); have H : (if (l0.length : Int) > 1048576 then (some true) else ((spec_DrawSieveSeek.f k l0).bind fun bt1507 => ((spec_SieveSeek.f k bt1507.1 bt1507.2.1 bt1507.2.2.1 bt1507.2.2.2.1 bt1507.2.2.2.2.1 bt1507.2.2.2.2.2).bind fun bt1516 => ((impl_SieveSeek.f k bt1507.1 bt1507.2.1 bt1507.2.2.1 bt1507.2.2.2.1 bt1507.2.2.2.2.1 bt1507.2.2.2.2.2).bind fun bt1518 => (if (bt1518.2 != bt1516.2) = true then (laws_FnSieveSeek.j0 k bt1507.2.2.2.2.2 bt1516.1 bt1516.2 bt1518.1 bt1518.2 true bt1507.1 bt1507.2.1 bt1507.2.2.1 bt1507.2.2.2.1 bt1507.2.2.2.2.1) else (if bt1518.1.toList = bt1516.1.toList then (laws_FnSieveSeek.j0 k bt1507.2.2.2.2.2 bt1516.1 bt1516.2 bt1518.1 bt1518.2 (!bt1518.2) bt1507.1 bt1507.2.1 bt1507.2.2.1 bt1507.2.2.2.1 bt1507.2.2.2.2.1) else (laws_FnSieveSeek.j0 k bt1507.2.2.2.2.2 bt1516.1 bt1516.2 bt1518.1 bt1518.2 true bt1507.1 bt1507.2.1 bt1507.2.2.1 bt1507.2.2.2.1 bt1507.2.2.2.2.1))))))) = some r := h; clear h
 by_cases c2 : (l0.length : Int) > 1048576
 ·rw [if_pos c2] at H; have c2b0 : decide (1048576 < (l0.length : Int)) = true := decide_eq_true c2; have c2b1 : decide (1048576 < l0.length) = true := decide_eq_true (by omega); clear c2; obtain rfl := Option.some.inj H; go_enter Try.func23, Try.ntmps23; go_wp2; go_ret; exact ⟨ze, zb HB.out⟩
 ·rw [if_neg c2] at H; have c2b0 : decide (1048576 < (l0.length : Int)) = false := decide_eq_false c2; have c2b1 : decide (1048576 < l0.length) = false := decide_eq_false (by omega); clear c2; replace H := zi H; obtain ⟨⟨t1507, t1508, t1509, t1510, t1513, t1514⟩, A3, H⟩ := H; (try dsimp only at H); replace H := zi H; obtain ⟨⟨t1516, t1517⟩, A4, H⟩ := H; (try dsimp only at H); replace H := zi H; obtain ⟨⟨t1518, t1519⟩, A5, H⟩ := H; (try dsimp only at H); have HC6 := z0 H; clear H; go_enter Try.func23, Try.ntmps23
  go_upto_region 6 with (first | ((with_reducible refine gc 63 ?_); refine zL (some 14) Try.func63 #[.slice A0 l0.length c0] ?_; (with_reducible refine (spec_DrawSieveSeek.calls k _ _ l0 t1507 t1508 t1509 t1510 t1513 t1514 _ (zC HR0.out) HC0.out A3.out).mono ?_); rintro e w7 ⟨v1511, rfl, ho0, hb⟩; refine zv ?_; have HO1512 := z0 (Kd.R_lower ho0 (below_size (zb HB.out))); replace HB := zH HB hb; (try clear hb ho0)) | ((with_reducible refine gd 3 ?_); refine zbx 25 #[.string ⟨#[]⟩, .string ⟨#[]⟩, .string ⟨#[]⟩, .slice none 0 0, .int .i64 0] ?_; intro gb1515 hg w8 hbox hb; replace HO1512 := zA HO1512 hb; have BK1515 := z0 (hbox); have GE1515 := zG hg HB; replace HB := zH HB hb; clear hb hbox hg; have hcz9 := zc5 BK1515.out; obtain ⟨Ao10, co10, eo10⟩ := Kd.R_slice HO1512.out; subst eo10) | ((with_reducible refine gc 62 ?_); refine zL (some 20) Try.func62 #[.agg #[.string t1507, .string t1508, .string t1509, .slice Ao10 t1510.length co10, .int .i64 t1513], .string t1514] ?_; (with_reducible refine (spec_SieveSeek.calls k t1507 t1508 t1509 _ _ t1510 t1513 t1514 t1516 t1517 _ ?side1 ((Kd.R_reads' HO1512.out).2.1) A4.out).mono ?_); (case side1 => refine (Kd.R_reads' (e := 9) (base := w.heap.size) (ok := fun k_ => True) (n := t1510.length) (c := co10) ?_).2.2; exact (zs HO1512.out BK1515.out)); rintro e w11 ⟨rfl, hb⟩; refine zv ?_; replace HO1512 := zAs HO1512 BK1515 hb; replace BK1515 := z0 (blk_below (zpc BK1515.out #[.string t1507, .string t1508, .string t1509, .slice Ao10 t1510.length co10, .int .i64 t1513]) hb); replace HB := zH HB hb; (try clear hb); have hcz12 := zc5 BK1515.out) | ((with_reducible refine gc 44 ?_); refine zL (some 26) Try.func44 #[.agg #[.string t1507, .string t1508, .string t1509, .slice Ao10 t1510.length co10, .int .i64 t1513], .string t1514] ?_; (with_reducible refine (impl_SieveSeek.calls k t1507 t1508 t1509 _ _ t1510 t1513 t1514 t1518 t1519 _ (zC ((Kd.R_reads' HO1512.out).2.2)) ((Kd.R_reads' HO1512.out).2.1) A5.out).mono ?_); rintro e w13 ⟨rfl, hb⟩; refine zv ?_; replace HO1512 := zA HO1512 hb; replace BK1515 := zK BK1515 hb; replace HB := zH HB hb; (try clear hb)))
  (try simp only [Act.put, List.setIfInBounds_toArray, List.set_cons_zero, List.set_cons_succ])
  go_cut [40] (fun v40 wc => ∃ (kq : Nat) (x40_5 : Bool), v40 = .bool x40_5 ∧ Aside0 (laws_FnSieveSeek.j0 kq t1514 t1516 t1517 t1518 t1519 x40_5 t1507 t1508 t1509 t1510 t1513 = some r) ∧ Aside0 (kq ≤ k) ∧ Aside0 (Kd.R Kd.string 9 wc w.heap.size (fun _ => True) (.slice Ao10 t1510.length co10) t1510) ∧ Aside0 (wc.heap[gb1515]? = some (.cells #[.string t1507, .string t1508, .string t1509, (.slice Ao10 t1510.length co10), .int .i64 t1513] 25 (0, 0))) ∧ Aside0 (Below w.heap.size w wc))
  case first =>
   have H := HC6.out; clear HC6
   by_cases c14 : (t1519 != t1517) = true
   ·rw [if_pos c14] at H; have c14b0 : (t1519 != t1517) = true := c14; (try (have c14b1 : decide (t1519 = t1517) = false := by simpa using c14)); (try (have c14b2 : (t1519 == t1517) = false := by simpa using c14)); (try (have c14b3 : ¬ (t1519 = t1517) := by simpa using c14)); clear c14; (first | rw [c14b0] | (simp only [i64_w, i32_w]; rw [c14b0]) | simp only [*, Bool.not_true, Bool.not_false] | skip); have H' := z0 H; clear H; go_wp2; go_meet
    case rel => exact ⟨_, (true), zf, H', ⟨by first | omega | exact Nat.le_refl _⟩, ⟨zr HO1512.out⟩, ⟨zl BK1515.out⟩, ⟨zb HB.out⟩⟩
   ·rw [if_neg c14] at H
    have c14b0 : (t1519 != t1517) = false := by simpa using c14
    (try (have c14b1 : decide (t1519 = t1517) = true := by simpa using c14)); (try (have c14b2 : (t1519 == t1517) = true := by simpa using c14)); clear c14; (first | rw [c14b0] | (simp only [i64_w, i32_w]; rw [c14b0]) | simp only [*, Bool.not_true, Bool.not_false] | skip)
    by_cases c15 : t1518.toList = t1516.toList
    ·rw [if_pos c15] at H; have c15b0 : (t1518.toList == t1516.toList) = true := beq_iff_eq.mpr c15; have c15b1 : (t1518.toList != t1516.toList) = false := bne_eq_false_iff_eq.mpr c15; clear c15; have H' := z0 H; clear H; go_wp2; go_meet
     case rel => exact ⟨_, (!t1519), zf, H', ⟨by first | omega | exact Nat.le_refl _⟩, ⟨zr HO1512.out⟩, ⟨zl BK1515.out⟩, ⟨zb HB.out⟩⟩
    ·rw [if_neg c15] at H; have c15b0 : (t1518.toList == t1516.toList) = false := beq_eq_false_iff_ne.mpr c15; have c15b1 : (t1518.toList != t1516.toList) = true := bne_iff_ne.mpr c15; have H' := z0 H; clear H; go_wp2; go_meet
     case rel => exact ⟨_, (true), zf, H', ⟨by first | omega | exact Nat.le_refl _⟩, ⟨zr HO1512.out⟩, ⟨zl BK1515.out⟩, ⟨zb HB.out⟩⟩
  case rest =>
   clear HC6
   try clear c1
   try clear c2
   try clear c2b0
   try clear c2b1
   try clear p2
   try clear c4
   try clear c6
   try clear c14
   try clear c14b0
   try clear c14b1
   try clear c14b2
   try clear c15
   try clear c15b0
   try clear c15b1
   try clear hcz12
   try clear hcz9
   obtain ⟨kq, x40_5, rfl, HA, HJ5, HO_1516003, BK1515, HB⟩ := hcut
   cases kq with
   | zero => exact absurd HA.out (by simp [laws_FnSieveSeek.j0])
   | succ kj5 =>
    have H := HA.out; clear HA; simp only [laws_FnSieveSeek.j0] at H
    by_cases c16 : x40_5 = true
    ·subst c16
     have H1 : (if (t1519 == t1517) = true then (some (t1518.toList == t1516.toList)) else (some false)) = some r := by rw [if_pos rfl] at H; exact H
     clear H; have H := H1; clear H1
     by_cases c17 : (t1519 == t1517) = true
     ·rw [if_pos c17] at H; have c17b0 : (t1519 == t1517) = true := c17; (try (have c17b1 : decide (t1519 = t1517) = true := by simpa using c17)); (try (have c17b2 : (t1519 == t1517) = true := by simpa using c17)); clear c17; obtain rfl := Option.some.inj H; go_wp2; go_ret; exact ⟨ze, zb HB.out⟩
     ·rw [if_neg c17] at H
      have c17b0 : (t1519 == t1517) = false := by simpa using c17
      (try (have c17b1 : decide (t1519 = t1517) = false := by simpa using c17)); (try (have c17b2 : (t1519 == t1517) = false := by simpa using c17)); (try (have c17b3 : ¬ (t1519 = t1517) := by simpa using c17)); clear c17; obtain rfl := Option.some.inj H; go_wp2; go_ret; exact ⟨ze, zb HB.out⟩
    ·replace c16 := Bool.eq_false_iff.mpr c16; subst c16
     have H1 : ((impl_SieveHeads.f kj5 t1507 t1508 t1509 t1510 t1513).bind fun t1520 => ((laws_ltIn.f kj5 t1520 t1518).bind fun t1523 => (if t1523 = true then (if ((Op.bytesLess t1518.toList t1514.toList) = true) then ((impl_KeyBegins.f t1514 t1518).bind fun t1524 => (if t1524 = true then ((impl_SieveMeets.f kj5 t1507 t1508 t1509 t1510 t1513 t1514 (⟨#[100, 100, 100, 100, 100]⟩ : ByteArray)).bind fun t1525 => (some t1525)) else (some false))) else ((impl_SieveMeets.f kj5 t1507 t1508 t1509 t1510 t1513 t1514 (⟨#[100, 100, 100, 100, 100]⟩ : ByteArray)).bind fun t1526 => (some t1526))) else (some false)))) = some r := by rw [if_neg (show ¬ (false = true) by decide)] at H; exact H
     clear H; have H := H1; clear H1; replace H := zi H; obtain ⟨t1520, A18, H⟩ := H; replace H := zi H; obtain ⟨t1523, A19, H⟩ := H
     by_cases c20 : t1523 = true
     ·subst c20
      have H1 : (if ((Op.bytesLess t1518.toList t1514.toList) = true) then ((impl_KeyBegins.f t1514 t1518).bind fun t1524 => (if t1524 = true then ((impl_SieveMeets.f kj5 t1507 t1508 t1509 t1510 t1513 t1514 (⟨#[100, 100, 100, 100, 100]⟩ : ByteArray)).bind fun t1525 => (some t1525)) else (some false))) else ((impl_SieveMeets.f kj5 t1507 t1508 t1509 t1510 t1513 t1514 (⟨#[100, 100, 100, 100, 100]⟩ : ByteArray)).bind fun t1526 => (some t1526))) = some r := by rw [if_pos rfl] at H; exact H
      clear H; have H := H1; clear H1
      by_cases c21 : ((Op.bytesLess t1518.toList t1514.toList) = true)
      ·rw [if_pos c21] at H; have c21b0 : (Op.bytesLess t1518.toList t1514.toList) = true := c21; clear c21; replace H := zi H; obtain ⟨t1524, A22, H⟩ := H
       by_cases c23 : t1524 = true
       ·subst c23
        have H1 : ((impl_SieveMeets.f kj5 t1507 t1508 t1509 t1510 t1513 t1514 (⟨#[100, 100, 100, 100, 100]⟩ : ByteArray)).bind fun t1525 => (some t1525)) = some r := by rw [if_pos rfl] at H; exact H
        clear H; have H := H1; clear H1; replace H := zi H; obtain ⟨t1525, A24, H⟩ := H; obtain rfl := Option.some.inj H; have hcz25 := zc5 BK1515.out
        go_wp2_with (first | ((with_reducible refine gc 41 ?_); refine zL (some 50) Try.func41 #[.agg #[.string t1507, .string t1508, .string t1509, .slice Ao10 t1510.length co10, .int .i64 t1513]] ?_; (with_reducible refine (impl_SieveHeads.calls kj5 t1507 t1508 t1509 _ _ t1510 t1513 t1520 _ (zC ((Kd.R_reads' HO_1516003.out).2.2)) ((Kd.R_reads' HO_1516003.out).2.1) A18.out).mono ?_); rintro e w26 ⟨v1521, rfl, ho0, hb⟩; refine zv ?_; have HO1522 := z0 (Kd.R_lower (Kd.R_new' ho0 (Kd.R_lt (zr HO_1516003.out))) (below_size (zb HB.out))); replace HO_1516003 := z0 (Kd.R_elder' (zr HO_1516003.out) (Kd.R_base ho0) hb); replace BK1515 := zK BK1515 hb; replace HB := zH HB hb; (try clear hb ho0); obtain ⟨Ao27, co27, eo27⟩ := Kd.R_slice HO1522.out; subst eo27) | ((with_reducible refine gc 50 ?_); refine zL (some 52) Try.func50 #[.slice Ao27 t1520.length co27, .string t1518] ?_; (with_reducible refine (laws_ltIn.calls kj5 _ _ t1520 t1518 true _ ?side1 ?side2 A19.out).mono ?_); (case side1 => repeat (first | exact (Kd.R_reads' HO1522.out).2.2 | (with_reducible refine Kd.C_alloc ?_ _) | (with_reducible refine Kd.C_drewN ?_ _) | (with_reducible refine Kd.C_drew ?_))); (case side2 => exact (Kd.R_reads' HO1522.out).2.1); rintro e w' ⟨rfl, ⟨nd, rfl⟩⟩; refine ⟨_, rfl, ?_⟩) | (go_at_call 42; (with_reducible refine (impl_KeyBegins.calls t1514 t1518 true _ A22.out).mono ?_); rintro e w' ⟨rfl, ⟨nd, rfl⟩⟩; have hcz28 := zc5 BK1515.out) | (go_at_call 32; (with_reducible refine (impl_SieveMeets.calls kj5 t1507 t1508 t1509 _ _ t1510 t1513 t1514 (⟨#[100, 100, 100, 100, 100]⟩ : ByteArray) t1525 _ ?side1 ?side2 A24.out).mono ?_); (case side1 => repeat (first | exact (Kd.R_reads' HO_1516003.out).2.2 | (with_reducible refine Kd.C_alloc ?_ _) | (with_reducible refine Kd.C_drewN ?_ _) | (with_reducible refine Kd.C_drew ?_))); (case side2 => exact (Kd.R_reads' HO_1516003.out).2.1); rintro e w29 ⟨rfl, hb⟩; replace HO_1516003 := zA HO_1516003 hb; replace HO1522 := zA HO1522 hb; replace BK1515 := zK BK1515 hb; replace HB := zH HB hb; (try clear hb)))
        go_ret; exact ⟨ze, zb HB.out⟩
       ·replace c23 := Bool.eq_false_iff.mpr c23; subst c23
        have H1 : (some false) = some r := by rw [if_neg (show ¬ (false = true) by decide)] at H; exact H
        clear H; have H := H1; clear H1; obtain rfl := Option.some.inj H; have hcz30 := zc5 BK1515.out
        go_wp2_with (first | ((with_reducible refine gc 41 ?_); refine zL (some 50) Try.func41 #[.agg #[.string t1507, .string t1508, .string t1509, .slice Ao10 t1510.length co10, .int .i64 t1513]] ?_; (with_reducible refine (impl_SieveHeads.calls kj5 t1507 t1508 t1509 _ _ t1510 t1513 t1520 _ (zC ((Kd.R_reads' HO_1516003.out).2.2)) ((Kd.R_reads' HO_1516003.out).2.1) A18.out).mono ?_); rintro e w31 ⟨v1521, rfl, ho0, hb⟩; refine zv ?_; have HO1522 := z0 (Kd.R_lower (Kd.R_new' ho0 (Kd.R_lt (zr HO_1516003.out))) (below_size (zb HB.out))); replace HO_1516003 := z0 (Kd.R_elder' (zr HO_1516003.out) (Kd.R_base ho0) hb); replace BK1515 := zK BK1515 hb; replace HB := zH HB hb; (try clear hb ho0); obtain ⟨Ao32, co32, eo32⟩ := Kd.R_slice HO1522.out; subst eo32) | ((with_reducible refine gc 50 ?_); refine zL (some 52) Try.func50 #[.slice Ao32 t1520.length co32, .string t1518] ?_; (with_reducible refine (laws_ltIn.calls kj5 _ _ t1520 t1518 true _ ?side1 ?side2 A19.out).mono ?_); (case side1 => repeat (first | exact (Kd.R_reads' HO1522.out).2.2 | (with_reducible refine Kd.C_alloc ?_ _) | (with_reducible refine Kd.C_drewN ?_ _) | (with_reducible refine Kd.C_drew ?_))); (case side2 => exact (Kd.R_reads' HO1522.out).2.1); rintro e w' ⟨rfl, ⟨nd, rfl⟩⟩; refine ⟨_, rfl, ?_⟩) | (go_at_call 42; (with_reducible refine (impl_KeyBegins.calls t1514 t1518 false _ A22.out).mono ?_); rintro e w' ⟨rfl, ⟨nd, rfl⟩⟩))
        go_ret; exact ⟨ze, zb HB.out⟩
      ·rw [if_neg c21] at H
       have c21b0 : (Op.bytesLess t1518.toList t1514.toList) = false := by simpa using c21
       clear c21; replace H := zi H; obtain ⟨t1526, A33, H⟩ := H; obtain rfl := Option.some.inj H; have hcz34 := zc5 BK1515.out
       go_wp2_with (first | ((with_reducible refine gc 41 ?_); refine zL (some 50) Try.func41 #[.agg #[.string t1507, .string t1508, .string t1509, .slice Ao10 t1510.length co10, .int .i64 t1513]] ?_; (with_reducible refine (impl_SieveHeads.calls kj5 t1507 t1508 t1509 _ _ t1510 t1513 t1520 _ (zC ((Kd.R_reads' HO_1516003.out).2.2)) ((Kd.R_reads' HO_1516003.out).2.1) A18.out).mono ?_); rintro e w35 ⟨v1521, rfl, ho0, hb⟩; refine zv ?_; have HO1522 := z0 (Kd.R_lower (Kd.R_new' ho0 (Kd.R_lt (zr HO_1516003.out))) (below_size (zb HB.out))); replace HO_1516003 := z0 (Kd.R_elder' (zr HO_1516003.out) (Kd.R_base ho0) hb); replace BK1515 := zK BK1515 hb; replace HB := zH HB hb; (try clear hb ho0); obtain ⟨Ao36, co36, eo36⟩ := Kd.R_slice HO1522.out; subst eo36) | ((with_reducible refine gc 50 ?_); refine zL (some 52) Try.func50 #[.slice Ao36 t1520.length co36, .string t1518] ?_; (with_reducible refine (laws_ltIn.calls kj5 _ _ t1520 t1518 true _ ?side1 ?side2 A19.out).mono ?_); (case side1 => repeat (first | exact (Kd.R_reads' HO1522.out).2.2 | (with_reducible refine Kd.C_alloc ?_ _) | (with_reducible refine Kd.C_drewN ?_ _) | (with_reducible refine Kd.C_drew ?_))); (case side2 => exact (Kd.R_reads' HO1522.out).2.1); rintro e w' ⟨rfl, ⟨nd, rfl⟩⟩; refine ⟨_, rfl, ?_⟩; have hcz37 := zc5 BK1515.out) | (go_at_call 32; (with_reducible refine (impl_SieveMeets.calls kj5 t1507 t1508 t1509 _ _ t1510 t1513 t1514 (⟨#[100, 100, 100, 100, 100]⟩ : ByteArray) t1526 _ ?side1 ?side2 A33.out).mono ?_); (case side1 => repeat (first | exact (Kd.R_reads' HO_1516003.out).2.2 | (with_reducible refine Kd.C_alloc ?_ _) | (with_reducible refine Kd.C_drewN ?_ _) | (with_reducible refine Kd.C_drew ?_))); (case side2 => exact (Kd.R_reads' HO_1516003.out).2.1); rintro e w38 ⟨rfl, hb⟩; replace HO_1516003 := zA HO_1516003 hb; replace HO1522 := zA HO1522 hb; replace BK1515 := zK BK1515 hb; replace HB := zH HB hb; (try clear hb)))
       go_ret; exact ⟨ze, zb HB.out⟩
     ·replace c20 := Bool.eq_false_iff.mpr c20; subst c20
      have H1 : (some false) = some r := by rw [if_neg (show ¬ (false = true) by decide)] at H; exact H
      clear H; have H := H1; clear H1; obtain rfl := Option.some.inj H; have hcz39 := zc5 BK1515.out
      go_wp2_with (first | ((with_reducible refine gc 41 ?_); refine zL (some 50) Try.func41 #[.agg #[.string t1507, .string t1508, .string t1509, .slice Ao10 t1510.length co10, .int .i64 t1513]] ?_; (with_reducible refine (impl_SieveHeads.calls kj5 t1507 t1508 t1509 _ _ t1510 t1513 t1520 _ (zC ((Kd.R_reads' HO_1516003.out).2.2)) ((Kd.R_reads' HO_1516003.out).2.1) A18.out).mono ?_); rintro e w40 ⟨v1521, rfl, ho0, hb⟩; refine zv ?_; have HO1522 := z0 (Kd.R_lower (Kd.R_new' ho0 (Kd.R_lt (zr HO_1516003.out))) (below_size (zb HB.out))); replace HO_1516003 := z0 (Kd.R_elder' (zr HO_1516003.out) (Kd.R_base ho0) hb); replace BK1515 := zK BK1515 hb; replace HB := zH HB hb; (try clear hb ho0); obtain ⟨Ao41, co41, eo41⟩ := Kd.R_slice HO1522.out; subst eo41) | ((with_reducible refine gc 50 ?_); refine zL (some 52) Try.func50 #[.slice Ao41 t1520.length co41, .string t1518] ?_; (with_reducible refine (laws_ltIn.calls kj5 _ _ t1520 t1518 false _ ?side1 ?side2 A19.out).mono ?_); (case side1 => repeat (first | exact (Kd.R_reads' HO1522.out).2.2 | (with_reducible refine Kd.C_alloc ?_ _) | (with_reducible refine Kd.C_drewN ?_ _) | (with_reducible refine Kd.C_drew ?_))); (case side2 => exact (Kd.R_reads' HO1522.out).2.1); rintro e w' ⟨rfl, ⟨nd, rfl⟩⟩; refine ⟨_, rfl, ?_⟩))
      go_ret; exact ⟨ze, zb HB.out⟩
theorem laws_FnSieveSeek.walk (P : laws_FnSieveSeek.Pure) (a0 : Option Addr) (len0 cap0 : Nat) (z0 : List Int) (w : World) (w0 : (a0 = none ∧ len0 = 0 ∧ cap0 = 0 ∧ z0 = []) ∨ ∃ x, a0 = some x ∧ len0 ≤ cap0 ∧ cap0 ≤ maxLen ∧ z0.length = cap0 ∧ (∀ i, i < z0.length → w.cell? (x.add i) = some (.int .u8 (z0.getD i 0))) ∧ ∀ n ∈ z0, (Lit.int .u8 n).wf = true) (y0 : len0 * 1 ≤ 140737488351232) :
    Calls Try.prog 23 #[.slice a0 len0 cap0] w fun e w' => e = .returned (.bool true) ∧ Below w.heap.size w w' := by
  obtain ⟨l0, rfl, hr0, hm0, hw0, hc0⟩ := ReadsInt.ofRowC w0
  obtain ⟨k, h⟩ := P l0 hm0 y0 hw0
  refine (laws_FnSieveSeek.calls k _ _ l0 true w (Kd.C_of_reads (d := (0 : Int)) (h1 := fun _ => rfl) hr0) hc0 h).mono ?_
  rintro e w' ⟨rfl, hd⟩
  exact ⟨rfl, hd⟩
end Go.Proofs.Ytifgcajpkgamgaa.Q
end
section
set_option linter.unusedVariables false
set_option linter.unusedSimpArgs false
namespace Go.Proofs.Ytifgcajpkgamgaa.Pure
open Go Go.RowKit Go.Proofs.YtifgcajpkgamgaaW.PrintWords Go.Proofs.YtifgcajpkgamgaaW.PrintLast Go.Proofs.YtifgcajpkgamgaaW.PrintMore Go.Proofs.Ytifgcajpkgamgaa.Trie Go.Proofs.Ytifgcajpkgamgaa.Q Go.Proofs.Ytifgcajpkgamgaa.Pb
theorem FnSieveSeek : laws_FnSieveSeek.Pure := by
 intro l0 hl _ hw
 refine Ev.rounds ?_
 unfold laws_FnSieveSeek.f
 by_cases c : (l0.length : Int) > 1048576
 ·exact ev_pos c (ev_some rfl)
 ·obtain ⟨Lt, Mo, Fi, Rs, a, x, hd, hz, kx⟩ := DrawSieveSeek_ev l0 hl hw
  have sx := kok_size kx
  have end_ : ∀ v : ByteArray, Ev (fun k => laws_FnSieveSeek.j0 k x v false v false true Lt Mo Fi Rs a) true := by
   intro v
   refine ev_succ ?_
   simp only [laws_FnSieveSeek.j0]
   exact ev_pos (by simp) (ev_pos (by simp) (ev_some (by simp)))
  rcases both hz.sz a with ⟨K, keep, rfl, hI, hh, hok, _⟩ | ⟨_, hh, hok⟩
  ·have m1 := spec_seek_yes hI hok x sx
   have m2 := impl_seek_yes hI hh x sx
   have hv : seekW K keep (L x) = seekV K keep (L x) := by unfold seekW; rw [if_pos (kokB_iff.2 kx)]
   rw [hv] at m1 m2
   refine ev_neg c (Ev.bind hd (Ev.bind m1 (Ev.bind m2 (ev_neg (by simp) (ev_pos rfl ?_)))))
   unfold seekV
   cases hf : K.find? (atK K keep (L x)) with
   | none => exact end_ _
   | some k =>
    have hk := List.mem_of_find?_eq_some hf
    have hat := List.find?_some hf
    rw [atK_eq] at hat
    refine ev_succ ?_
    simp only [laws_FnSieveSeek.j0, Bool.not_true]
    have hsh := impl_SieveHeads_of (by rw [List.length_map]; have := hI.ok.few; omega) hh
    rw [pt_text] at hsh
    have hin := ltIn_ev (K.map (ht K keep)) (szl_heads hI.ok) (ht K keep k)
    rw [LL_ht, L_ht, decide_eq_true (List.mem_map.2 ⟨k, hk, rfl⟩)] at hin
    have hmt := impl_meets_yes hI hh x (⟨#[100, 100, 100, 100, 100]⟩ : ByteArray) sx (kok_size kok_last)
    have e5 : meetsW K keep (L x) (L (⟨#[100, 100, 100, 100, 100]⟩ : ByteArray)) = true := seek_meets hI.ok kx hf
    rw [e5] at hmt
    refine ev_neg (by simp) (Ev.bind hsh (Ev.bind hin (ev_pos rfl ?_)))
    have g := less_iff (ht K keep k) x
    rw [L_ht] at g
    by_cases c1 : Trie.hd K keep k < L x
    ·refine ev_pos (g.2 c1) (ev_bindc (impl_KeyBegins_eq _ _) (ev_pos ?_ (Ev.bind hmt (ev_some rfl))))
     rw [L_ht]
     rw [decide_eq_true c1] at hat
     simp only [Bool.not_true, Bool.false_or, Bool.and_eq_true] at hat
     exact hat.2
    ·exact ev_neg (fun q => c1 (g.1 q)) (Ev.bind hmt (ev_some rfl))
  ·have m1 := spec_seek_no hok x
   have m2 := impl_seek_no hh x
   exact ev_neg c (Ev.bind hd (Ev.bind m1 (Ev.bind m2 (ev_neg (by simp) (ev_pos rfl (end_ _))))))
end Go.Proofs.Ytifgcajpkgamgaa.Pure
end
