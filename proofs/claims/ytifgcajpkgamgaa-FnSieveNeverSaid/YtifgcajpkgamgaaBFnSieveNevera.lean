/- What the law FnSieveNever needs: the kit's printed words, the printed functions with their proofs, and plain facts on them. -/
import Derived.Test.YtifgcajpkgamgaaBSAf
section
namespace Go.Proofs.Ytifgcajpkgamgaa.Q
open Go.RowKit Go.Proofs.YtifgcajpkgamgaaW.PrintWords Go.Proofs.YtifgcajpkgamgaaW.PrintLast Go.Proofs.YtifgcajpkgamgaaW.PrintMore
attribute [local go_sem] max2_int min2_int max_two min_two max_three min_three max_four min_four   
set_option linter.unusedVariables false
set_option linter.unusedSimpArgs false
set_option maxHeartbeats 8000000
set_option maxRecDepth 100000
theorem impl_SieveOk.mono : ∀ a0 a1 a2 a3 a4 k, LeO (impl_SieveOk.f k a0 a1 a2 a3 a4) (impl_SieveOk.f (k + 1) a0 a1 a2 a3 a4) := by
  intro a0 a1 a2 a3 a4 k
  unfold impl_SieveOk.f
  repeat' first | (with_reducible first | apply impl_Sieve_heads.mono | exact LeO.refl _ | exact LeO.none _ | refine LeO.ite ?_ ?_ | refine LeO.bind ?_ (fun _ => ?_)) | exact LeO.none _ | refine LeO.ite ?_ ?_ | refine LeO.bind ?_ (fun _ => ?_)
theorem impl_SieveOk.calls (k : Nat) (a0_0 a0_1 a0_2 : ByteArray) (A0_3 : Option Addr) (c0_3 : Nat) (l0_3 : List ByteArray) (a0_4 : Int) (r : Bool) (w : World) (hr0_3 : Kd.C Kd.string w A0_3 l0_3.length l0_3) (hc0_3 : l0_3.length ≤ c0_3) (h : impl_SieveOk.f k a0_0 a0_1 a0_2 l0_3 a0_4 = some r) :
    Calls Try.prog 48 #[.agg #[.string a0_0, .string a0_1, .string a0_2, .slice A0_3 l0_3.length c0_3, .int .i64 a0_4]] w fun e w' => e = .returned (.bool r) ∧ Below w.heap.size w w' := by
 have hu25 := Try.underlying25; have HR0_3 := z0 hr0_3; have HC0_3 := z0 hc0_3; clear hr0_3 hc0_3; have HB := z0 (Below.refl w.heap.size w); have H : ((impl_Sieve_heads.f k a0_0 a0_1 a0_2 l0_3 a0_4).bind fun bt390 => (some bt390.2)) = some r := h; clear h; replace H := zi H; obtain ⟨⟨t390, t393⟩, A2, H⟩ := H; (try dsimp only at H); obtain rfl := Option.some.inj H; go_enter Try.func48, Try.ntmps48
 go_wp2_with (first | ((with_reducible refine gd 1 ?_); refine zbx 25 #[.string a0_0, .string a0_1, .string a0_2, .slice A0_3 l0_3.length c0_3, .int .i64 a0_4] ?_; intro gb389 hg w3 hbox hb; have BK389 := z0 (hbox); have GE389 := zG hg HB; replace HB := zH HB hb; clear hb hbox hg; have hcz4 := zc5 BK389.out) | ((with_reducible refine gc 89 ?_); refine zL (some 7) Try.func89 #[.agg #[.string a0_0, .string a0_1, .string a0_2, .slice A0_3 l0_3.length c0_3, .int .i64 a0_4]] ?_; (with_reducible refine (impl_Sieve_heads.calls k a0_0 a0_1 a0_2 _ _ l0_3 a0_4 t390 t393 _ (zC (Kd.C_below HR0_3.out HB.out)) HC0_3.out A2.out).mono ?_); rintro e w5 ⟨v391, rfl, ho0, hb⟩; refine zv ?_; have HO392 := z0 (Kd.R_lower ho0 (below_size (zb HB.out))); replace BK389 := zK BK389 hb; replace HB := zH HB hb; (try clear hb ho0)))
 go_ret; exact ⟨ze, zb HB.out⟩
theorem impl_Sieve_has.mono_l : ∀ k, (∀ y0 y1 y2 y3 y4 y5 y6 y7, LeO (impl_Sieve_has.l0 k y0 y1 y2 y3 y4 y5 y6 y7) (impl_Sieve_has.l0 (k + 1) y0 y1 y2 y3 y4 y5 y6 y7)) ∧ (∀ y0 y1 y2 y3 y4 y5 y6 y7 y8, LeO (impl_Sieve_has.j2 k y0 y1 y2 y3 y4 y5 y6 y7 y8) (impl_Sieve_has.j2 (k + 1) y0 y1 y2 y3 y4 y5 y6 y7 y8)) ∧ (∀ y0 y1 y2 y3 y4 y5 y6 y7 y8, LeO (impl_Sieve_has.l1 k y0 y1 y2 y3 y4 y5 y6 y7 y8) (impl_Sieve_has.l1 (k + 1) y0 y1 y2 y3 y4 y5 y6 y7 y8))
  | 0 => ⟨fun _ _ _ _ _ _ _ _ r h => by simp [impl_Sieve_has.l0] at h, fun _ _ _ _ _ _ _ _ _ r h => by simp [impl_Sieve_has.j2] at h, fun _ _ _ _ _ _ _ _ _ r h => by simp [impl_Sieve_has.l1] at h⟩
  | k + 1 => by
    obtain ⟨ih0, ih1, ih2⟩ := impl_Sieve_has.mono_l k
    refine ⟨?_, ?_, ?_⟩
    · intro y0 y1 y2 y3 y4 y5 y6 y7
      unfold impl_Sieve_has.l0
      repeat' first | (with_reducible first | apply ih0 | apply ih1 | apply ih2 | apply impl_Sieve_branches.mono | exact LeO.refl _ | exact LeO.none _ | refine LeO.ite ?_ ?_ | refine LeO.bind ?_ (fun _ => ?_)) | exact LeO.none _ | refine LeO.ite ?_ ?_ | refine LeO.bind ?_ (fun _ => ?_)
    · intro y0 y1 y2 y3 y4 y5 y6 y7 y8
      unfold impl_Sieve_has.j2
      repeat' first | (with_reducible first | apply ih0 | apply ih1 | apply ih2 | apply impl_Sieve_branches.mono | exact LeO.refl _ | exact LeO.none _ | refine LeO.ite ?_ ?_ | refine LeO.bind ?_ (fun _ => ?_)) | exact LeO.none _ | refine LeO.ite ?_ ?_ | refine LeO.bind ?_ (fun _ => ?_)
    · intro y0 y1 y2 y3 y4 y5 y6 y7 y8
      unfold impl_Sieve_has.l1
      repeat' first | (with_reducible first | apply ih0 | apply ih1 | apply ih2 | apply impl_Sieve_branches.mono | exact LeO.refl _ | exact LeO.none _ | refine LeO.ite ?_ ?_ | refine LeO.bind ?_ (fun _ => ?_)) | exact LeO.none _ | refine LeO.ite ?_ ?_ | refine LeO.bind ?_ (fun _ => ?_)
theorem impl_Sieve_has.mono : ∀ a0 a1 a2 a3 a4 a5 k, LeO (impl_Sieve_has.f k a0 a1 a2 a3 a4 a5) (impl_Sieve_has.f (k + 1) a0 a1 a2 a3 a4 a5) := by
  intro a0 a1 a2 a3 a4 a5 k
  obtain ⟨ih0, ih1, ih2⟩ := impl_Sieve_has.mono_l k
  unfold impl_Sieve_has.f
  repeat' first | (with_reducible first | apply ih0 | apply ih1 | apply ih2 | apply impl_Sieve_branches.mono | exact LeO.refl _ | exact LeO.none _ | refine LeO.ite ?_ ?_ | refine LeO.bind ?_ (fun _ => ?_)) | exact LeO.none _ | refine LeO.ite ?_ ?_ | refine LeO.bind ?_ (fun _ => ?_)
theorem impl_Sieve_has.calls (k : Nat) (a0_0 a0_1 a0_2 : ByteArray) (A0_3 : Option Addr) (c0_3 : Nat) (l0_3 : List ByteArray) (a0_4 : Int) (a1 : ByteArray) (r : Bool) (w : World) (hr0_3 : Kd.C Kd.string w A0_3 l0_3.length l0_3) (hc0_3 : l0_3.length ≤ c0_3) (h : impl_Sieve_has.f k a0_0 a0_1 a0_2 l0_3 a0_4 a1 = some r) :
    Calls Try.prog 68 #[.agg #[.string a0_0, .string a0_1, .string a0_2, .slice A0_3 l0_3.length c0_3, .int .i64 a0_4], .string a1] w fun e w' => e = .returned (.bool r) ∧ Below w.heap.size w w' := by
 have hu25 := Try.underlying25; have HR0_3 := z0 hr0_3; have HC0_3 := z0 hc0_3; clear hr0_3 hc0_3; have HB := z0 (Below.refl w.heap.size w); have H : (impl_Sieve_has.l0 k a1 0 0 a0_0 a0_1 a0_2 l0_3 a0_4) = some r := h; clear h; have H' := z0 H; clear H; go_enter Try.func68, Try.ntmps68
 go_wp2_with (first | ((with_reducible refine gd 2 ?_); refine zbx 25 #[.string a0_0, .string a0_1, .string a0_2, .slice A0_3 l0_3.length c0_3, .int .i64 a0_4] ?_; intro gb396 hg w3 hbox hb; have BK396 := z0 (hbox); have GE396 := zG hg HB; replace HB := zH HB hb; clear hb hbox hg))
 repeat (go_quiet (first | ((with_reducible refine gd 2 ?_); refine zbx 25 #[.string a0_0, .string a0_1, .string a0_2, .slice A0_3 l0_3.length c0_3, .int .i64 a0_4] ?_; intro gb396 hg w3 hbox hb; have BK396 := z0 (hbox); have GE396 := zG hg HB; replace HB := zH HB hb; clear hb hbox hg)); try go_wp2_with (first | ((with_reducible refine gd 2 ?_); refine zbx 25 #[.string a0_0, .string a0_1, .string a0_2, .slice A0_3 l0_3.length c0_3, .int .i64 a0_4] ?_; intro gb396 hg w3 hbox hb; have BK396 := z0 (hbox); have GE396 := zG hg HB; replace HB := zH HB hb; clear hb hbox hg)))
 go_loopg [5, 6] k (fun kq v5 v6 w' => ∃ (x5_1 : Int) (x6_1 : Int), v5 = .int .i64 x5_1 ∧ v6 = .int .i64 x6_1 ∧ Aside0 (impl_Sieve_has.l0 kq a1 x5_1 x6_1 a0_0 a0_1 a0_2 l0_3 a0_4 = some r) ∧ Aside0 (kq ≤ k) ∧ Aside0 (w'.heap[gb396]? = some (.cells #[.string a0_0, .string a0_1, .string a0_2, (.slice A0_3 l0_3.length c0_3), .int .i64 a0_4] 25 (0, 0))) ∧ Aside0 (Below w.heap.size w w'))
 case atStart => exact ⟨(0), (0), zf, zf, H', ⟨Nat.le_refl _⟩, ⟨zl BK396.out⟩, ⟨zb HB.out⟩⟩
 case round =>
  clear H'
  try clear p2
  obtain ⟨x5_1, x6_1, rfl, rfl, HA, HK1, BK396, HB⟩ := hrel
  cases gk with
  | zero => exact absurd HA.out (by simp [impl_Sieve_has.l0])
  | succ k1 =>
   have H := HA.out; clear HA; simp only [impl_Sieve_has.l0] at H; replace H := zi H; obtain ⟨⟨t397, t398⟩, A4, H⟩ := H; (try dsimp only at H); have HC5 := z0 H; clear H; have hcz6 := zc5 BK396.out
   go_upto_block 2 with (first | (go_at_call 102; (with_reducible refine (impl_Sieve_branches.calls k1 a0_0 a0_1 a0_2 _ _ l0_3 a0_4 x5_1 t397 t398 _ ?side1 ?side2 A4.out).mono ?_); (case side1 => repeat (first | exact (Kd.C_below HR0_3.out HB.out) | (with_reducible refine Kd.C_alloc ?_ _) | (with_reducible refine Kd.C_drewN ?_ _) | (with_reducible refine Kd.C_drew ?_))); (case side2 => exact HC0_3.out); rintro e w7 ⟨rfl, hb⟩; replace BK396 := zK BK396 hb; replace HB := zH HB hb; (try clear hb)))
   repeat (go_quiet (first | (go_at_call 102; (with_reducible refine (impl_Sieve_branches.calls k1 a0_0 a0_1 a0_2 _ _ l0_3 a0_4 x5_1 t397 t398 _ ?side1 ?side2 A4.out).mono ?_); (case side1 => repeat (first | exact (Kd.C_below HR0_3.out HB.out) | (with_reducible refine Kd.C_alloc ?_ _) | (with_reducible refine Kd.C_drewN ?_ _) | (with_reducible refine Kd.C_drew ?_))); (case side2 => exact HC0_3.out); rintro e w7 ⟨rfl, hb⟩; replace BK396 := zK BK396 hb; replace HB := zH HB hb; (try clear hb))); go_upto_block 2 with (first | (go_at_call 102; (with_reducible refine (impl_Sieve_branches.calls k1 a0_0 a0_1 a0_2 _ _ l0_3 a0_4 x5_1 t397 t398 _ ?side1 ?side2 A4.out).mono ?_); (case side1 => repeat (first | exact (Kd.C_below HR0_3.out HB.out) | (with_reducible refine Kd.C_alloc ?_ _) | (with_reducible refine Kd.C_drewN ?_ _) | (with_reducible refine Kd.C_drew ?_))); (case side2 => exact HC0_3.out); rintro e w7 ⟨rfl, hb⟩; replace BK396 := zK BK396 hb; replace HB := zH HB hb; (try clear hb))))
   (try simp only [Act.put, List.setIfInBounds_toArray, List.set_cons_zero, List.set_cons_succ])
   go_cut [9] (fun v9 wc => ∃ (kq : Nat) (x9_4 : Int), v9 = .int .i64 x9_4 ∧ Aside0 (impl_Sieve_has.j2 kq a1 x6_1 t398 x9_4 a0_0 a0_1 a0_2 l0_3 a0_4 = some r) ∧ Aside0 (kq ≤ k1) ∧ Aside0 (wc.heap[gb396]? = some (.cells #[.string a0_0, .string a0_1, .string a0_2, (.slice A0_3 l0_3.length c0_3), .int .i64 a0_4] 25 (0, 0))) ∧ Aside0 (Below w.heap.size w wc))
   case first =>
    have H := HC5.out; clear HC5; have H' := z0 H; clear H; go_wp2
    repeat (go_quiet (fail); try go_wp2)
    go_loopg [9] k1 (fun kq v9 w' => ∃ (x9_2 : Int), v9 = .int .i64 x9_2 ∧ Aside0 (impl_Sieve_has.l1 kq a1 x6_1 t398 x9_2 a0_0 a0_1 a0_2 l0_3 a0_4 = some r) ∧ Aside0 (kq ≤ k1) ∧ Aside0 (w'.heap[gb396]? = some (.cells #[.string a0_0, .string a0_1, .string a0_2, (.slice A0_3 l0_3.length c0_3), .int .i64 a0_4] 25 (0, 0))) ∧ Aside0 (Below w.heap.size w w'))
    case atStart => exact ⟨(t397), zf, H', ⟨Nat.le_refl _⟩, ⟨zl BK396.out⟩, ⟨zb HB.out⟩⟩
    case round =>
     clear H'
     try clear p2
     try clear c6
     try clear hcz6
     try clear p2
     obtain ⟨x9_2, rfl, HA, HK2, BK396, HB⟩ := hrel
     cases gk with
     | zero => exact absurd HA.out (by simp [impl_Sieve_has.l1])
     | succ k2 =>
      have H := HA.out; clear HA; simp only [impl_Sieve_has.l1] at H
      by_cases c8 : x9_2 < t398
      ·rw [if_pos c8] at H; have c8b0 := decide_eq_true c8; clear c8; (first | rw [c8b0] | (simp only [i64_w, i32_w]; rw [c8b0]) | simp only [*, Bool.not_true, Bool.not_false] | skip); replace H := zn H; obtain ⟨c9, H⟩ := H; have c9b0 := decide_eq_true c9; clear c9; replace H := zn H; obtain ⟨c10, H⟩ := H; have c10b0 := decide_eq_true c10; clear c10; replace H := zi H; obtain ⟨t399, A12, H⟩ := H; have hcz13 := zc5 BK396.out; have p11 : 0 ≤ (x9_2 : Int) := zd; have q11 : x9_2 < (a0_0.size : Int) := zd; have hx11 := bt_at a0_0 x9_2; replace p11 := eq_true p11; replace q11 := eq_true q11
       go_upto_if 32 with (first | (go_at_call 103; (with_reducible refine (impl_label.calls a1 x6_1 t399 _ A12.out).mono ?_); rintro e w' ⟨rfl, ⟨nd, rfl⟩⟩; (try exact zdd)))
       repeat (go_quiet (first | (go_at_call 103; (with_reducible refine (impl_label.calls a1 x6_1 t399 _ A12.out).mono ?_); rintro e w' ⟨rfl, ⟨nd, rfl⟩⟩; (try exact zdd))); go_upto_if 32 with (first | (go_at_call 103; (with_reducible refine (impl_label.calls a1 x6_1 t399 _ A12.out).mono ?_); rintro e w' ⟨rfl, ⟨nd, rfl⟩⟩; (try exact zdd))))
       by_cases c14 : (bt a0_0 x9_2) = t399
       ·rw [if_pos c14] at H; have c14b0 : ((bt a0_0 x9_2) == t399) = true := beq_iff_eq.mpr c14; have c14b1 : ((bt a0_0 x9_2) != t399) = false := bne_eq_false_iff_eq.mpr c14; clear c14; (first | rw [c14b0] | (simp only [i64_w, i32_w]; rw [c14b0]) | simp only [*, Bool.not_true, Bool.not_false] | skip); have H' := z0 H; clear H; go_wp2
        repeat (go_quiet (fail); try go_wp2)
        go_meet
        case rel => exact ⟨_, (x9_2), zf, H', ⟨by have := HK1.out; have := HK2.out; first | omega | exact Nat.le_refl _⟩, ⟨zl BK396.out⟩, ⟨zb HB.out⟩⟩
       ·rw [if_neg c14] at H; have c14b0 : ((bt a0_0 x9_2) == t399) = false := beq_eq_false_iff_ne.mpr c14; have c14b1 : ((bt a0_0 x9_2) != t399) = true := bne_iff_ne.mpr c14; (first | rw [c14b0] | (simp only [i64_w, i32_w]; rw [c14b0]) | simp only [*, Bool.not_true, Bool.not_false] | skip); have H' := z0 H; clear H; go_wp2
        repeat (go_quiet (fail); try go_wp2)
        go_roundg k2
        case measure => have := HK1.out; have := HK2.out; omega
        case rel => exact ⟨(wrap64 (x9_2 + 1)), zf, H', ⟨by have := HK1.out; have := HK2.out; omega⟩, ⟨zl BK396.out⟩, ⟨zb HB.out⟩⟩
      ·rw [if_neg c8] at H; have c8b0 := decide_eq_false c8; clear c8; (first | rw [c8b0] | (simp only [i64_w, i32_w]; rw [c8b0]) | simp only [*, Bool.not_true, Bool.not_false] | skip); have H' := z0 H; clear H; go_wp2
       repeat (go_quiet (fail); try go_wp2)
       go_meet
       case rel => exact ⟨_, (x9_2), zf, H', ⟨by have := HK1.out; have := HK2.out; first | omega | exact Nat.le_refl _⟩, ⟨zl BK396.out⟩, ⟨zb HB.out⟩⟩
   case rest =>
    clear HC5
    try clear c1
    try clear p1
    try clear q1
    try clear hx1
    try clear p2
    try clear c6
    try clear p6
    try clear c8
    try clear c8b0
    try clear c9
    try clear c9b0
    try clear c10
    try clear c10b0
    try clear p11
    try clear q11
    try clear hx11
    try clear c14
    try clear c14b0
    try clear c14b1
    try clear hcz13
    try clear hcz6
    try clear p11
    try clear p2
    try clear q11
    obtain ⟨kq, x9_4, rfl, HA, HJ4, BK396, HB⟩ := hcut
    cases kq with
    | zero => exact absurd HA.out (by simp [impl_Sieve_has.j2])
    | succ kj4 =>
     have H := HA.out; clear HA; simp only [impl_Sieve_has.j2] at H
     by_cases c15 : x9_4 = t398
     ·rw [if_pos c15] at H; have c15b0 : (x9_4 == t398) = true := beq_iff_eq.mpr c15; have c15b1 : (x9_4 != t398) = false := bne_eq_false_iff_eq.mpr c15; clear c15; obtain rfl := Option.some.inj H; go_wp2
      repeat (go_quiet (fail); try go_wp2)
      go_ret; exact ⟨ze, zb HB.out⟩
     ·rw [if_neg c15] at H; have c15b0 : (x9_4 == t398) = false := beq_eq_false_iff_ne.mpr c15; have c15b1 : (x9_4 != t398) = true := bne_iff_ne.mpr c15; replace H := zn H; obtain ⟨c16, H⟩ := H; have c16b0 := decide_eq_true c16; clear c16; replace H := zn H; obtain ⟨c17, H⟩ := H; have c17b0 := decide_eq_true c17; clear c17
      by_cases c19 : (bt a0_1 x9_4) = 49
      ·rw [if_pos c19] at H; have c19b0 : ((bt a0_1 x9_4) == 49) = true := beq_iff_eq.mpr c19; have c19b1 : ((bt a0_1 x9_4) != 49) = false := bne_eq_false_iff_eq.mpr c19; clear c19; replace H := zi H; obtain ⟨t400, A20, H⟩ := H; have H' := z0 H; clear H; have hcz21 := zc5 BK396.out; have p18 : 0 ≤ (x9_4 : Int) := zd; have q18 : x9_4 < (a0_1.size : Int) := zd; have hx18 := bt_at a0_1 x9_4; replace p18 := eq_true p18; replace q18 := eq_true q18
       go_wp2_with (first | (go_at_call 104; (with_reducible refine (impl_Sieve_node.calls a0_0 a0_1 a0_2 _ _ l0_3 a0_4 x9_4 t400 _ ?side1 ?side2 A20.out).mono ?_); (case side1 => repeat (first | exact (Kd.C_below HR0_3.out HB.out) | (with_reducible refine Kd.C_alloc ?_ _) | (with_reducible refine Kd.C_drewN ?_ _) | (with_reducible refine Kd.C_drew ?_))); (case side2 => exact HC0_3.out); rintro e w22 ⟨rfl, hb⟩; replace BK396 := zK BK396 hb; replace HB := zH HB hb; (try clear hb)))
       repeat (go_quiet (first | (go_at_call 104; (with_reducible refine (impl_Sieve_node.calls a0_0 a0_1 a0_2 _ _ l0_3 a0_4 x9_4 t400 _ ?side1 ?side2 A20.out).mono ?_); (case side1 => repeat (first | exact (Kd.C_below HR0_3.out HB.out) | (with_reducible refine Kd.C_alloc ?_ _) | (with_reducible refine Kd.C_drewN ?_ _) | (with_reducible refine Kd.C_drew ?_))); (case side2 => exact HC0_3.out); rintro e w22 ⟨rfl, hb⟩; replace BK396 := zK BK396 hb; replace HB := zH HB hb; (try clear hb))); try go_wp2_with (first | (go_at_call 104; (with_reducible refine (impl_Sieve_node.calls a0_0 a0_1 a0_2 _ _ l0_3 a0_4 x9_4 t400 _ ?side1 ?side2 A20.out).mono ?_); (case side1 => repeat (first | exact (Kd.C_below HR0_3.out HB.out) | (with_reducible refine Kd.C_alloc ?_ _) | (with_reducible refine Kd.C_drewN ?_ _) | (with_reducible refine Kd.C_drew ?_))); (case side2 => exact HC0_3.out); rintro e w22 ⟨rfl, hb⟩; replace BK396 := zK BK396 hb; replace HB := zH HB hb; (try clear hb))))
       go_roundg kj4
       case measure => have := HK1.out; have := HJ4.out; omega
       case rel => exact ⟨(t400), (wrap64 (x6_1 + 1)), zf, zf, H', ⟨by have := HK1.out; have := HJ4.out; omega⟩, ⟨zl BK396.out⟩, ⟨zb HB.out⟩⟩
      ·rw [if_neg c19] at H; have c19b0 : ((bt a0_1 x9_4) == 49) = false := beq_eq_false_iff_ne.mpr c19; have c19b1 : ((bt a0_1 x9_4) != 49) = true := bne_iff_ne.mpr c19; obtain ⟨ji23, hji23⟩ : ∃ j_ : Int, (mn (wrap64 (x6_1 + 1)) (a1.size : Int)) = j_ := ⟨_, rfl⟩
       replace H : (if 0 ≤ (ji23) then (if (ji23) ≤ (a1.size : Int) then ((impl_Sieve_complete.f a0_0 a0_1 a0_2 l0_3 a0_4 x9_4).bind fun t401 => (if t401 = true then ((impl_Sieve_rest.f a0_0 a0_1 a0_2 l0_3 a0_4 x9_4).bind fun t402 => (some ((a1.extract ((ji23) : Int).toNat a1.size).toList == t402.toList))) else ((impl_Sieve_rest.f a0_0 a0_1 a0_2 l0_3 a0_4 x9_4).bind fun t403 => ((impl_KeyBegins.f (a1.extract ((ji23) : Int).toNat a1.size) t403).bind fun t404 => (some t404))))) else (none)) else (none)) = some r := by first | (rw [hji23] at H; exact H) | (simp only [hji23] at H ⊢; exact H)
       have hji23_ : (if (a1.size : Int) < (wrap64 (x6_1 + 1)) then (a1.size : Int) else (wrap64 (x6_1 + 1))) = ji23 := hji23; replace H := zn H; obtain ⟨c24, H⟩ := H; have c24b0 := eq_true c24; have c24b1 := decide_eq_true c24; clear c24; replace H := zn H; obtain ⟨c25, H⟩ := H; have c25b0 := eq_true c25; have c25b1 := decide_eq_true c25; clear c25; replace H := zi H; obtain ⟨t401, A26, H⟩ := H
       by_cases c27 : t401 = true
       ·subst c27
        have H1 : ((impl_Sieve_rest.f a0_0 a0_1 a0_2 l0_3 a0_4 x9_4).bind fun t402 => (some ((a1.extract ((ji23) : Int).toNat a1.size).toList == t402.toList))) = some r := by rw [if_pos rfl] at H; exact H
        clear H; have H := H1; clear H1; replace H := zi H; obtain ⟨t402, A28, H⟩ := H; obtain rfl := Option.some.inj H; have hcz29 := zc5 BK396.out; have p18 : 0 ≤ (x9_4 : Int) := zd; have q18 : x9_4 < (a0_1.size : Int) := zd; have hx18 := bt_at a0_1 x9_4; replace p18 := eq_true p18; replace q18 := eq_true q18
        go_wp2_with (first | (go_at_call 105; (with_reducible refine (impl_Sieve_complete.calls a0_0 a0_1 a0_2 _ _ l0_3 a0_4 x9_4 true _ ?side1 ?side2 A26.out).mono ?_); (case side1 => repeat (first | exact (Kd.C_below HR0_3.out HB.out) | (with_reducible refine Kd.C_alloc ?_ _) | (with_reducible refine Kd.C_drewN ?_ _) | (with_reducible refine Kd.C_drew ?_))); (case side2 => exact HC0_3.out); rintro e w30 ⟨rfl, hb⟩; replace BK396 := zK BK396 hb; replace HB := zH HB hb; (try clear hb); have hcz31 := zc5 BK396.out) | (go_at_call 106; (with_reducible refine (impl_Sieve_rest.calls a0_0 a0_1 a0_2 _ _ l0_3 a0_4 x9_4 t402 _ ?side1 ?side2 A28.out).mono ?_); (case side1 => repeat (first | exact (Kd.C_below HR0_3.out HB.out) | (with_reducible refine Kd.C_alloc ?_ _) | (with_reducible refine Kd.C_drewN ?_ _) | (with_reducible refine Kd.C_drew ?_))); (case side2 => exact HC0_3.out); rintro e w32 ⟨rfl, hb⟩; replace BK396 := zK BK396 hb; replace HB := zH HB hb; (try clear hb)))
        repeat (go_quiet (first | (go_at_call 105; (with_reducible refine (impl_Sieve_complete.calls a0_0 a0_1 a0_2 _ _ l0_3 a0_4 x9_4 true _ ?side1 ?side2 A26.out).mono ?_); (case side1 => repeat (first | exact (Kd.C_below HR0_3.out HB.out) | (with_reducible refine Kd.C_alloc ?_ _) | (with_reducible refine Kd.C_drewN ?_ _) | (with_reducible refine Kd.C_drew ?_))); (case side2 => exact HC0_3.out); rintro e w30 ⟨rfl, hb⟩; replace BK396 := zK BK396 hb; replace HB := zH HB hb; (try clear hb); have hcz31 := zc5 BK396.out) | (go_at_call 106; (with_reducible refine (impl_Sieve_rest.calls a0_0 a0_1 a0_2 _ _ l0_3 a0_4 x9_4 t402 _ ?side1 ?side2 A28.out).mono ?_); (case side1 => repeat (first | exact (Kd.C_below HR0_3.out HB.out) | (with_reducible refine Kd.C_alloc ?_ _) | (with_reducible refine Kd.C_drewN ?_ _) | (with_reducible refine Kd.C_drew ?_))); (case side2 => exact HC0_3.out); rintro e w32 ⟨rfl, hb⟩; replace BK396 := zK BK396 hb; replace HB := zH HB hb; (try clear hb))); try go_wp2_with (first | (go_at_call 105; (with_reducible refine (impl_Sieve_complete.calls a0_0 a0_1 a0_2 _ _ l0_3 a0_4 x9_4 true _ ?side1 ?side2 A26.out).mono ?_); (case side1 => repeat (first | exact (Kd.C_below HR0_3.out HB.out) | (with_reducible refine Kd.C_alloc ?_ _) | (with_reducible refine Kd.C_drewN ?_ _) | (with_reducible refine Kd.C_drew ?_))); (case side2 => exact HC0_3.out); rintro e w30 ⟨rfl, hb⟩; replace BK396 := zK BK396 hb; replace HB := zH HB hb; (try clear hb); have hcz31 := zc5 BK396.out) | (go_at_call 106; (with_reducible refine (impl_Sieve_rest.calls a0_0 a0_1 a0_2 _ _ l0_3 a0_4 x9_4 t402 _ ?side1 ?side2 A28.out).mono ?_); (case side1 => repeat (first | exact (Kd.C_below HR0_3.out HB.out) | (with_reducible refine Kd.C_alloc ?_ _) | (with_reducible refine Kd.C_drewN ?_ _) | (with_reducible refine Kd.C_drew ?_))); (case side2 => exact HC0_3.out); rintro e w32 ⟨rfl, hb⟩; replace BK396 := zK BK396 hb; replace HB := zH HB hb; (try clear hb))))
        go_ret; exact ⟨by first | rfl | (simp [errW_none, errW_some] <;> rfl) | (simp only [← hji23]; first | rfl | (simp [errW_none, errW_some] <;> rfl)) | (simp [*, errW_none, errW_some] <;> rfl), zb HB.out⟩
       ·replace c27 := Bool.eq_false_iff.mpr c27; subst c27
        have H1 : ((impl_Sieve_rest.f a0_0 a0_1 a0_2 l0_3 a0_4 x9_4).bind fun t403 => ((impl_KeyBegins.f (a1.extract ((ji23) : Int).toNat a1.size) t403).bind fun t404 => (some t404))) = some r := by rw [if_neg (show ¬ (false = true) by decide)] at H; exact H
        clear H; have H := H1; clear H1; replace H := zi H; obtain ⟨t403, A33, H⟩ := H; replace H := zi H; obtain ⟨t404, A34, H⟩ := H; obtain rfl := Option.some.inj H; have hcz35 := zc5 BK396.out; have p18 : 0 ≤ (x9_4 : Int) := zd; have q18 : x9_4 < (a0_1.size : Int) := zd; have hx18 := bt_at a0_1 x9_4; replace p18 := eq_true p18; replace q18 := eq_true q18
        go_wp2_with (first | (go_at_call 105; (with_reducible refine (impl_Sieve_complete.calls a0_0 a0_1 a0_2 _ _ l0_3 a0_4 x9_4 false _ ?side1 ?side2 A26.out).mono ?_); (case side1 => repeat (first | exact (Kd.C_below HR0_3.out HB.out) | (with_reducible refine Kd.C_alloc ?_ _) | (with_reducible refine Kd.C_drewN ?_ _) | (with_reducible refine Kd.C_drew ?_))); (case side2 => exact HC0_3.out); rintro e w36 ⟨rfl, hb⟩; replace BK396 := zK BK396 hb; replace HB := zH HB hb; (try clear hb); have hcz37 := zc5 BK396.out) | (go_at_call 106; (with_reducible refine (impl_Sieve_rest.calls a0_0 a0_1 a0_2 _ _ l0_3 a0_4 x9_4 t403 _ ?side1 ?side2 A33.out).mono ?_); (case side1 => repeat (first | exact (Kd.C_below HR0_3.out HB.out) | (with_reducible refine Kd.C_alloc ?_ _) | (with_reducible refine Kd.C_drewN ?_ _) | (with_reducible refine Kd.C_drew ?_))); (case side2 => exact HC0_3.out); rintro e w38 ⟨rfl, hb⟩; replace BK396 := zK BK396 hb; replace HB := zH HB hb; (try clear hb)) | (go_at_call 42; (with_reducible refine (impl_KeyBegins.calls (a1.extract ((ji23) : Int).toNat a1.size) t403 t404 _ A34.out).mono ?_); rintro e w' ⟨rfl, ⟨nd, rfl⟩⟩; (try exact zdd)))
        repeat (go_quiet (first | (go_at_call 105; (with_reducible refine (impl_Sieve_complete.calls a0_0 a0_1 a0_2 _ _ l0_3 a0_4 x9_4 false _ ?side1 ?side2 A26.out).mono ?_); (case side1 => repeat (first | exact (Kd.C_below HR0_3.out HB.out) | (with_reducible refine Kd.C_alloc ?_ _) | (with_reducible refine Kd.C_drewN ?_ _) | (with_reducible refine Kd.C_drew ?_))); (case side2 => exact HC0_3.out); rintro e w36 ⟨rfl, hb⟩; replace BK396 := zK BK396 hb; replace HB := zH HB hb; (try clear hb); have hcz37 := zc5 BK396.out) | (go_at_call 106; (with_reducible refine (impl_Sieve_rest.calls a0_0 a0_1 a0_2 _ _ l0_3 a0_4 x9_4 t403 _ ?side1 ?side2 A33.out).mono ?_); (case side1 => repeat (first | exact (Kd.C_below HR0_3.out HB.out) | (with_reducible refine Kd.C_alloc ?_ _) | (with_reducible refine Kd.C_drewN ?_ _) | (with_reducible refine Kd.C_drew ?_))); (case side2 => exact HC0_3.out); rintro e w38 ⟨rfl, hb⟩; replace BK396 := zK BK396 hb; replace HB := zH HB hb; (try clear hb)) | (go_at_call 42; (with_reducible refine (impl_KeyBegins.calls (a1.extract ((ji23) : Int).toNat a1.size) t403 t404 _ A34.out).mono ?_); rintro e w' ⟨rfl, ⟨nd, rfl⟩⟩; (try exact zdd))); try go_wp2_with (first | (go_at_call 105; (with_reducible refine (impl_Sieve_complete.calls a0_0 a0_1 a0_2 _ _ l0_3 a0_4 x9_4 false _ ?side1 ?side2 A26.out).mono ?_); (case side1 => repeat (first | exact (Kd.C_below HR0_3.out HB.out) | (with_reducible refine Kd.C_alloc ?_ _) | (with_reducible refine Kd.C_drewN ?_ _) | (with_reducible refine Kd.C_drew ?_))); (case side2 => exact HC0_3.out); rintro e w36 ⟨rfl, hb⟩; replace BK396 := zK BK396 hb; replace HB := zH HB hb; (try clear hb); have hcz37 := zc5 BK396.out) | (go_at_call 106; (with_reducible refine (impl_Sieve_rest.calls a0_0 a0_1 a0_2 _ _ l0_3 a0_4 x9_4 t403 _ ?side1 ?side2 A33.out).mono ?_); (case side1 => repeat (first | exact (Kd.C_below HR0_3.out HB.out) | (with_reducible refine Kd.C_alloc ?_ _) | (with_reducible refine Kd.C_drewN ?_ _) | (with_reducible refine Kd.C_drew ?_))); (case side2 => exact HC0_3.out); rintro e w38 ⟨rfl, hb⟩; replace BK396 := zK BK396 hb; replace HB := zH HB hb; (try clear hb)) | (go_at_call 42; (with_reducible refine (impl_KeyBegins.calls (a1.extract ((ji23) : Int).toNat a1.size) t403 t404 _ A34.out).mono ?_); rintro e w' ⟨rfl, ⟨nd, rfl⟩⟩; (try exact zdd))))
        go_ret; exact ⟨by first | rfl | (simp [errW_none, errW_some] <;> rfl) | (simp only [← hji23]; first | rfl | (simp [errW_none, errW_some] <;> rfl)) | (simp [*, errW_none, errW_some] <;> rfl), zb HB.out⟩
theorem impl_SieveHas.mono : ∀ a0 a1 a2 a3 a4 a5 k, LeO (impl_SieveHas.f k a0 a1 a2 a3 a4 a5) (impl_SieveHas.f (k + 1) a0 a1 a2 a3 a4 a5) := by
  intro a0 a1 a2 a3 a4 a5 k
  unfold impl_SieveHas.f
  repeat' first | (with_reducible first | apply impl_KeyOk.mono | apply impl_SieveOk.mono | apply impl_Sieve_has.mono | exact LeO.refl _ | exact LeO.none _ | refine LeO.ite ?_ ?_ | refine LeO.bind ?_ (fun _ => ?_)) | exact LeO.none _ | refine LeO.ite ?_ ?_ | refine LeO.bind ?_ (fun _ => ?_)
theorem impl_SieveHas.calls (k : Nat) (a0_0 a0_1 a0_2 : ByteArray) (A0_3 : Option Addr) (c0_3 : Nat) (l0_3 : List ByteArray) (a0_4 : Int) (a1 : ByteArray) (r : Bool) (w : World) (hr0_3 : Kd.C Kd.string w A0_3 l0_3.length l0_3) (hc0_3 : l0_3.length ≤ c0_3) (h : impl_SieveHas.f k a0_0 a0_1 a0_2 l0_3 a0_4 a1 = some r) :
    Calls Try.prog 28 #[.agg #[.string a0_0, .string a0_1, .string a0_2, .slice A0_3 l0_3.length c0_3, .int .i64 a0_4], .string a1] w fun e w' => e = .returned (.bool r) ∧ Below w.heap.size w w' := by
 have hu25 := Try.underlying25; have HR0_3 := z0 hr0_3; have HC0_3 := z0 hc0_3; clear hr0_3 hc0_3; have HB := z0 (Below.refl w.heap.size w); have H : ((impl_SieveOk.f k a0_0 a0_1 a0_2 l0_3 a0_4).bind fun t406 => (if t406 = true then ((impl_KeyOk.f k a1).bind fun t407 => (if t407 = true then ((impl_Sieve_has.f k a0_0 a0_1 a0_2 l0_3 a0_4 a1).bind fun t408 => (some t408)) else (some false))) else (some false))) = some r := h; clear h; replace H := zi H; obtain ⟨t406, A3, H⟩ := H
 by_cases c4 : t406 = true
 ·subst c4
  have H1 : ((impl_KeyOk.f k a1).bind fun t407 => (if t407 = true then ((impl_Sieve_has.f k a0_0 a0_1 a0_2 l0_3 a0_4 a1).bind fun t408 => (some t408)) else (some false))) = some r := by rw [if_pos rfl] at H; exact H
  clear H; have H := H1; clear H1; replace H := zi H; obtain ⟨t407, A5, H⟩ := H
  by_cases c6 : t407 = true
  ·subst c6
   have H1 : ((impl_Sieve_has.f k a0_0 a0_1 a0_2 l0_3 a0_4 a1).bind fun t408 => (some t408)) = some r := by rw [if_pos rfl] at H; exact H
   clear H; have H := H1; clear H1; replace H := zi H; obtain ⟨t408, A7, H⟩ := H; obtain rfl := Option.some.inj H; go_enter Try.func28, Try.ntmps28
   go_wp2_with (first | ((with_reducible refine gd 2 ?_); refine zbx 25 #[.string a0_0, .string a0_1, .string a0_2, .slice A0_3 l0_3.length c0_3, .int .i64 a0_4] ?_; intro gb405 hg w8 hbox hb; have BK405 := z0 (hbox); have GE405 := zG hg HB; replace HB := zH HB hb; clear hb hbox hg; have hcz9 := zc5 BK405.out) | ((with_reducible refine gc 48 ?_); refine zL (some 6) Try.func48 #[.agg #[.string a0_0, .string a0_1, .string a0_2, .slice A0_3 l0_3.length c0_3, .int .i64 a0_4]] ?_; (with_reducible refine (impl_SieveOk.calls k a0_0 a0_1 a0_2 _ _ l0_3 a0_4 true _ (zC (Kd.C_below HR0_3.out HB.out)) HC0_3.out A3.out).mono ?_); rintro e w10 ⟨rfl, hb⟩; refine zv ?_; replace BK405 := zK BK405 hb; replace HB := zH HB hb; (try clear hb)) | (go_at_call 67; (with_reducible refine (impl_KeyOk.calls k a1 true _ A5.out).mono ?_); rintro e w' ⟨rfl, ⟨nd, rfl⟩⟩; have hcz11 := zc5 BK405.out) | (go_at_call 68; (with_reducible refine (impl_Sieve_has.calls k a0_0 a0_1 a0_2 _ _ l0_3 a0_4 a1 t408 _ ?side1 ?side2 A7.out).mono ?_); (case side1 => repeat (first | exact (Kd.C_below HR0_3.out (zb HB.out)) | (with_reducible refine Kd.C_alloc ?_ _) | (with_reducible refine Kd.C_drewN ?_ _) | (with_reducible refine Kd.C_drew ?_))); (case side2 => exact HC0_3.out); rintro e w12 ⟨rfl, hb⟩; replace BK405 := zK BK405 hb; replace HB := zH HB hb; (try clear hb)))
   go_ret; exact ⟨ze, zb HB.out⟩
  ·replace c6 := Bool.eq_false_iff.mpr c6; subst c6
   have H1 : (some false) = some r := by rw [if_neg (show ¬ (false = true) by decide)] at H; exact H
   clear H; have H := H1; clear H1; obtain rfl := Option.some.inj H; go_enter Try.func28, Try.ntmps28
   go_wp2_with (first | ((with_reducible refine gd 2 ?_); refine zbx 25 #[.string a0_0, .string a0_1, .string a0_2, .slice A0_3 l0_3.length c0_3, .int .i64 a0_4] ?_; intro gb405 hg w13 hbox hb; have BK405 := z0 (hbox); have GE405 := zG hg HB; replace HB := zH HB hb; clear hb hbox hg; have hcz14 := zc5 BK405.out) | ((with_reducible refine gc 48 ?_); refine zL (some 6) Try.func48 #[.agg #[.string a0_0, .string a0_1, .string a0_2, .slice A0_3 l0_3.length c0_3, .int .i64 a0_4]] ?_; (with_reducible refine (impl_SieveOk.calls k a0_0 a0_1 a0_2 _ _ l0_3 a0_4 true _ (zC (Kd.C_below HR0_3.out HB.out)) HC0_3.out A3.out).mono ?_); rintro e w15 ⟨rfl, hb⟩; refine zv ?_; replace BK405 := zK BK405 hb; replace HB := zH HB hb; (try clear hb)) | (go_at_call 67; (with_reducible refine (impl_KeyOk.calls k a1 false _ A5.out).mono ?_); rintro e w' ⟨rfl, ⟨nd, rfl⟩⟩))
   go_ret; exact ⟨ze, zb HB.out⟩
 ·replace c4 := Bool.eq_false_iff.mpr c4; subst c4
  have H1 : (some false) = some r := by rw [if_neg (show ¬ (false = true) by decide)] at H; exact H
  clear H; have H := H1; clear H1; obtain rfl := Option.some.inj H; go_enter Try.func28, Try.ntmps28
  go_wp2_with (first | ((with_reducible refine gd 2 ?_); refine zbx 25 #[.string a0_0, .string a0_1, .string a0_2, .slice A0_3 l0_3.length c0_3, .int .i64 a0_4] ?_; intro gb405 hg w16 hbox hb; have BK405 := z0 (hbox); have GE405 := zG hg HB; replace HB := zH HB hb; clear hb hbox hg; have hcz17 := zc5 BK405.out) | ((with_reducible refine gc 48 ?_); refine zL (some 6) Try.func48 #[.agg #[.string a0_0, .string a0_1, .string a0_2, .slice A0_3 l0_3.length c0_3, .int .i64 a0_4]] ?_; (with_reducible refine (impl_SieveOk.calls k a0_0 a0_1 a0_2 _ _ l0_3 a0_4 false _ (zC (Kd.C_below HR0_3.out HB.out)) HC0_3.out A3.out).mono ?_); rintro e w18 ⟨rfl, hb⟩; refine zv ?_; replace BK405 := zK BK405 hb; replace HB := zH HB hb; (try clear hb)))
  go_ret; exact ⟨ze, zb HB.out⟩
theorem impl_SieveSeek.mono_l : ∀ k, (∀ y0 y1 y2, LeO (impl_SieveSeek.j0 k y0 y1 y2) (impl_SieveSeek.j0 (k + 1) y0 y1 y2)) ∧ (∀ y0 y1 y2 y3, LeO (impl_SieveSeek.l0 k y0 y1 y2 y3) (impl_SieveSeek.l0 (k + 1) y0 y1 y2 y3))
  | 0 => ⟨fun _ _ _ r h => by simp [impl_SieveSeek.j0] at h, fun _ _ _ _ r h => by simp [impl_SieveSeek.l0] at h⟩
  | k + 1 => by
    obtain ⟨ih0, ih1⟩ := impl_SieveSeek.mono_l k
    refine ⟨?_, ?_⟩
    · intro y0 y1 y2
      unfold impl_SieveSeek.j0
      repeat' first | (with_reducible first | apply ih0 | apply ih1 | apply impl_KeyOk.mono | apply impl_Sieve_heads.mono | exact LeO.refl _ | exact LeO.none _ | refine LeO.ite ?_ ?_ | refine LeO.bind ?_ (fun _ => ?_)) | exact LeO.none _ | refine LeO.ite ?_ ?_ | refine LeO.bind ?_ (fun _ => ?_)
    · intro y0 y1 y2 y3
      unfold impl_SieveSeek.l0
      repeat' first | (with_reducible first | apply ih0 | apply ih1 | apply impl_KeyOk.mono | apply impl_Sieve_heads.mono | exact LeO.refl _ | exact LeO.none _ | refine LeO.ite ?_ ?_ | refine LeO.bind ?_ (fun _ => ?_)) | exact LeO.none _ | refine LeO.ite ?_ ?_ | refine LeO.bind ?_ (fun _ => ?_)
theorem impl_SieveSeek.mono : ∀ a0 a1 a2 a3 a4 a5 k, LeO (impl_SieveSeek.f k a0 a1 a2 a3 a4 a5) (impl_SieveSeek.f (k + 1) a0 a1 a2 a3 a4 a5) := by
  intro a0 a1 a2 a3 a4 a5 k
  obtain ⟨ih0, ih1⟩ := impl_SieveSeek.mono_l k
  unfold impl_SieveSeek.f
  repeat' first | (with_reducible first | apply ih0 | apply ih1 | apply impl_KeyOk.mono | apply impl_Sieve_heads.mono | exact LeO.refl _ | exact LeO.none _ | refine LeO.ite ?_ ?_ | refine LeO.bind ?_ (fun _ => ?_)) | exact LeO.none _ | refine LeO.ite ?_ ?_ | refine LeO.bind ?_ (fun _ => ?_)
theorem impl_SieveSeek.calls (k : Nat) (a0_0 a0_1 a0_2 : ByteArray) (A0_3 : Option Addr) (c0_3 : Nat) (l0_3 : List ByteArray) (a0_4 : Int) (a1 r1 : ByteArray) (r2 : Bool) (w : World) (hr0_3 : Kd.C Kd.string w A0_3 l0_3.length l0_3) (hc0_3 : l0_3.length ≤ c0_3) (h : impl_SieveSeek.f k a0_0 a0_1 a0_2 l0_3 a0_4 a1 = some (r1, r2)) :
    Calls Try.prog 44 #[.agg #[.string a0_0, .string a0_1, .string a0_2, .slice A0_3 l0_3.length c0_3, .int .i64 a0_4], .string a1] w fun e w' => e = .returned (.tuple #[.string r1, .bool r2]) ∧ Below w.heap.size w w' := by
 have hu25 := Try.underlying25; have hu93 := Try.underlying93; have HR0_3 := z0 hr0_3; have HC0_3 := z0 hc0_3; clear hr0_3 hc0_3; have HB := z0 (Below.refl w.heap.size w); have H : ((impl_Sieve_heads.f k a0_0 a0_1 a0_2 l0_3 a0_4).bind fun bt473 => (if bt473.2 = true then ((impl_KeyOk.f k a1).bind fun t477 => (impl_SieveSeek.j0 k a1 bt473.1 (!t477))) else (impl_SieveSeek.j0 k a1 bt473.1 true))) = some (r1, r2) := h; clear h; replace H := zi H; obtain ⟨⟨t473, t476⟩, A3, H⟩ := H; (try dsimp only at H); have HC4 := z0 H; clear H; go_enter Try.func44, Try.ntmps44
 go_upto_region 2 with (first | ((with_reducible refine gd 2 ?_); refine zbx 25 #[.string a0_0, .string a0_1, .string a0_2, .slice A0_3 l0_3.length c0_3, .int .i64 a0_4] ?_; intro gb472 hg w5 hbox hb; have BK472 := z0 (hbox); have GE472 := zG hg HB; replace HB := zH HB hb; clear hb hbox hg; have hcz6 := zc5 BK472.out) | ((with_reducible refine gc 89 ?_); refine zL (some 12) Try.func89 #[.agg #[.string a0_0, .string a0_1, .string a0_2, .slice A0_3 l0_3.length c0_3, .int .i64 a0_4]] ?_; (with_reducible refine (impl_Sieve_heads.calls k a0_0 a0_1 a0_2 _ _ l0_3 a0_4 t473 t476 _ (zC (Kd.C_below HR0_3.out HB.out)) HC0_3.out A3.out).mono ?_); rintro e w7 ⟨v474, rfl, ho0, hb⟩; refine zv ?_; have HO475 := z0 (Kd.R_lower ho0 (below_size (zb HB.out))); replace BK472 := zK BK472 hb; replace HB := zH HB hb; (try clear hb ho0)))
 (try simp only [Act.put, List.setIfInBounds_toArray, List.set_cons_zero, List.set_cons_succ])
 go_cut [21] (fun v21 wc => ∃ (kq : Nat) (x21_3 : Bool), v21 = .bool x21_3 ∧ Aside0 (impl_SieveSeek.j0 kq a1 t473 x21_3 = some (r1, r2)) ∧ Aside0 (kq ≤ k) ∧ Aside0 (Kd.R k93 93 wc w.heap.size (fun _ => True) v474 t473) ∧ Aside0 (wc.heap[gb472]? = some (.cells #[.string a0_0, .string a0_1, .string a0_2, (.slice A0_3 l0_3.length c0_3), .int .i64 a0_4] 25 (0, 0))) ∧ Aside0 (Below w.heap.size w wc))
 case first =>
  have H := HC4.out; clear HC4
  by_cases c8 : t476 = true
  ·subst c8
   have H1 : ((impl_KeyOk.f k a1).bind fun t477 => (impl_SieveSeek.j0 k a1 t473 (!t477))) = some (r1, r2) := by rw [if_pos rfl] at H; exact H
   clear H; have H := H1; clear H1; replace H := zi H; obtain ⟨t477, A9, H⟩ := H; have H' := z0 H; clear H
   go_wp2_with (first | (go_at_call 67; (with_reducible refine (impl_KeyOk.calls k a1 t477 _ A9.out).mono ?_); rintro e w' ⟨rfl, ⟨nd, rfl⟩⟩))
   go_meet
   case rel => exact ⟨_, (!t477), zf, H', ⟨by first | omega | exact Nat.le_refl _⟩, ⟨zr HO475.out⟩, ⟨zl BK472.out⟩, ⟨zb HB.out⟩⟩
  ·replace c8 := Bool.eq_false_iff.mpr c8; subst c8
   have H1 : (impl_SieveSeek.j0 k a1 t473 true) = some (r1, r2) := by rw [if_neg (show ¬ (false = true) by decide)] at H; exact H
   clear H; have H := H1; clear H1; have H' := z0 H; clear H; go_wp2; go_meet
   case rel => exact ⟨_, (true), zf, H', ⟨by first | omega | exact Nat.le_refl _⟩, ⟨zr HO475.out⟩, ⟨zl BK472.out⟩, ⟨zb HB.out⟩⟩
 case rest =>
  clear HC4
  try clear p2
  try clear c4
  try clear c8
  try clear hcz6
  obtain ⟨kq, x21_3, rfl, HA, HJ3, HO_6, BK472, HB⟩ := hcut
  cases kq with
  | zero => exact absurd HA.out (by simp [impl_SieveSeek.j0])
  | succ kj3 =>
   have H := HA.out; clear HA; simp only [impl_SieveSeek.j0] at H
   by_cases c10 : x21_3 = true
   ·subst c10
    have H1 : (some ((⟨#[]⟩ : ByteArray), false)) = some (r1, r2) := by rw [if_pos rfl] at H; exact H
    clear H; have H := H1; clear H1; simp only [Option.some.injEq, Prod.mk.injEq] at H; obtain ⟨rfl, rfl⟩ := H; go_wp2
    go_ret2
    exact ⟨ze, zb HB.out⟩
   ·replace c10 := Bool.eq_false_iff.mpr c10; subst c10
    have H1 : (impl_SieveSeek.l0 kj3 a1 t473 (t473.length : Int) 0) = some (r1, r2) := by rw [if_neg (show ¬ (false = true) by decide)] at H; exact H
    clear H; have H := H1; clear H1; have H' := z0 H; clear H; obtain ⟨Ao11, co11, eo11⟩ := Kd.R_slice HO_6.out; subst eo11; go_wp2
    go_loopg [24] kj3 (fun kq v24 w' => ∃ (x24_2 : Int), v24 = .int .i64 x24_2 ∧ Aside0 (impl_SieveSeek.l0 kq a1 t473 (t473.length : Int) x24_2 = some (r1, r2)) ∧ Aside0 (kq ≤ kj3) ∧ Aside0 (Kd.R k93 93 w' w.heap.size (fun _ => True) (.slice Ao11 t473.length co11) t473) ∧ Aside0 (w'.heap[gb472]? = some (.cells #[.string a0_0, .string a0_1, .string a0_2, (.slice A0_3 l0_3.length c0_3), .int .i64 a0_4] 25 (0, 0))) ∧ Aside0 (Below w.heap.size w w'))
    case atStart => exact ⟨(0), zf, H', ⟨Nat.le_refl _⟩, ⟨zr HO_6.out⟩, ⟨zl BK472.out⟩, ⟨zb HB.out⟩⟩
    case round =>
     clear H'
     try clear c1
     try clear p2
     try clear c4
     try clear c8
     try clear c10
     try clear hcz6
     try clear p2
     obtain ⟨x24_2, rfl, HA, HK2, HO_22, BK472, HB⟩ := hrel
     cases gk with
     | zero => exact absurd HA.out (by simp [impl_SieveSeek.l0])
     | succ k2 =>
      have H := HA.out; clear HA; simp only [impl_SieveSeek.l0] at H
      by_cases c12 : x24_2 < (t473.length : Int)
      ·rw [if_pos c12] at H; have c12b0 := decide_eq_true c12; clear c12; replace H := zn H; obtain ⟨c13, H⟩ := H; have c13b0 := decide_eq_true c13; clear c13; replace H := zn H; obtain ⟨c14, H⟩ := H; have c14b0 := decide_eq_true c14; clear c14
       by_cases c15 : ((Op.bytesLess (((rd_T93 t473 x24_2).f0).toList) a1.toList) = true)
       ·rw [if_pos c15] at H; have c15b0 : (Op.bytesLess (((rd_T93 t473 x24_2).f0).toList) a1.toList) = true := c15; clear c15; obtain ⟨bq16, hbq16⟩ : ∃ b_ : Bool, b_ = ((rd_T93 t473 x24_2).f1) := ⟨_, rfl⟩
        replace H : (if (bq16 = true) then (impl_SieveSeek.l0 k2 a1 t473 (t473.length : Int) (wrap64 (x24_2 + 1))) else ((impl_KeyBegins.f a1 ((rd_T93 t473 x24_2).f0)).bind fun t480 => (if t480 = true then (some ((rd_T93 t473 x24_2).f0, true)) else (impl_SieveSeek.l0 k2 a1 t473 (t473.length : Int) (wrap64 (x24_2 + 1)))))) = some (r1, r2) := by rw [← hbq16] at H; exact H
        have Nbq16 := z0 hbq16; clear hbq16
        by_cases c17 : (bq16 = true)
        ·subst c17
         have H1 : (impl_SieveSeek.l0 k2 a1 t473 (t473.length : Int) (wrap64 (x24_2 + 1))) = some (r1, r2) := by rw [if_pos rfl] at H; exact H
         clear H; have H := H1; clear H1; have H' := z0 H; clear H; have p478 : 0 ≤ (x24_2 : Int) := zd; have q478 : x24_2 < (t473.length : Int) := zd; obtain ⟨ad478, e478, hx478_0, hx478_1⟩ := at_T93 (Kd.R_reads' HO_22.out).2.2 x24_2 p478 q478; (try rw [← Nbq16.out] at hx478_1); cases e478; replace p478 := eq_true p478; replace q478 := eq_true q478
         go_wp2_with (first | ((with_reducible refine gd 9 ?_); refine zbx 93 #[.string ⟨#[]⟩, .bool false] ?_; intro gb479 hg w18 hbox hb; replace HO_22 := z0 (Kd.R_below (Kd.R_elderB (zr HO_22.out) gb479 (Nat.le_of_eq hg.symm)) hb); have BK479 := z0 (hbox); have GE479 := zG hg HB; replace HB := zH HB hb; have NB472_479 := zLt hg BK472; have NB479_472 := zGt hg BK472; replace BK472 := zK BK472 hb; clear hb hbox hg; have hnb19 := NB479_472.out; have hnc19 := NB472_479.out; have hcz20 := zc2 BK479.out))
         go_roundg k2
         case measure => have := HJ3.out; have := HK2.out; omega
         case rel => exact ⟨(wrap64 (x24_2 + 1)), zf, H', ⟨by have := HJ3.out; have := HK2.out; omega⟩, ⟨Kd.R_mono (zr (Kd.R_far (p := ⟨gb479, 1, none⟩) (Kd.R_far (p := ⟨gb479, 0, none⟩) (Kd.R_mono HO_22.out (fun k_ hk => (⟨hk, hk.2⟩ : _ ∧ k_ ≠ gb479))) (fun _ hk => hk.2) (.string ((rd_T93 t473 x24_2).f0))) (fun _ hk => hk.2) (.bool true))) (fun _ hk => trivial)⟩, ⟨zy BK472.out⟩, ⟨zb HB.out⟩⟩
        ·replace c17 := Bool.eq_false_iff.mpr c17; subst c17
         have H1 : ((impl_KeyBegins.f a1 ((rd_T93 t473 x24_2).f0)).bind fun t480 => (if t480 = true then (some ((rd_T93 t473 x24_2).f0, true)) else (impl_SieveSeek.l0 k2 a1 t473 (t473.length : Int) (wrap64 (x24_2 + 1))))) = some (r1, r2) := by rw [if_neg (show ¬ (false = true) by decide)] at H; exact H
         clear H; have H := H1; clear H1; replace H := zi H; obtain ⟨t480, A21, H⟩ := H
         by_cases c22 : t480 = true
         ·subst c22
          have H1 : (some ((rd_T93 t473 x24_2).f0, true)) = some (r1, r2) := by rw [if_pos rfl] at H; exact H
          clear H; have H := H1; clear H1; simp only [Option.some.injEq, Prod.mk.injEq] at H; obtain ⟨rfl, rfl⟩ := H; have p478 : 0 ≤ (x24_2 : Int) := zd; have q478 : x24_2 < (t473.length : Int) := zd; obtain ⟨ad478, e478, hx478_0, hx478_1⟩ := at_T93 (Kd.R_reads' HO_22.out).2.2 x24_2 p478 q478; (try rw [← Nbq16.out] at hx478_1); cases e478; replace p478 := eq_true p478; replace q478 := eq_true q478
          go_wp2_with (first | ((with_reducible refine gd 9 ?_); refine zbx 93 #[.string ⟨#[]⟩, .bool false] ?_; intro gb479 hg w23 hbox hb; replace HO_22 := z0 (Kd.R_below (Kd.R_elderB (zr HO_22.out) gb479 (Nat.le_of_eq hg.symm)) hb); have BK479 := z0 (hbox); have GE479 := zG hg HB; replace HB := zH HB hb; have NB472_479 := zLt hg BK472; have NB479_472 := zGt hg BK472; replace BK472 := zK BK472 hb; clear hb hbox hg; have hnb24 := NB479_472.out; have hnc24 := NB472_479.out; have hcz25 := zc2 BK479.out) | (go_at_call 42; (with_reducible refine (impl_KeyBegins.calls a1 ((rd_T93 t473 x24_2).f0) true _ A21.out).mono ?_); rintro e w' ⟨rfl, ⟨nd, rfl⟩⟩))
          go_ret2
          exact ⟨ze, zb HB.out⟩
         ·replace c22 := Bool.eq_false_iff.mpr c22; subst c22
          have H1 : (impl_SieveSeek.l0 k2 a1 t473 (t473.length : Int) (wrap64 (x24_2 + 1))) = some (r1, r2) := by rw [if_neg (show ¬ (false = true) by decide)] at H; exact H
          clear H; have H := H1; clear H1; have H' := z0 H; clear H; have p478 : 0 ≤ (x24_2 : Int) := zd; have q478 : x24_2 < (t473.length : Int) := zd; obtain ⟨ad478, e478, hx478_0, hx478_1⟩ := at_T93 (Kd.R_reads' HO_22.out).2.2 x24_2 p478 q478; (try rw [← Nbq16.out] at hx478_1); cases e478; replace p478 := eq_true p478; replace q478 := eq_true q478
          go_wp2_with (first | ((with_reducible refine gd 9 ?_); refine zbx 93 #[.string ⟨#[]⟩, .bool false] ?_; intro gb479 hg w26 hbox hb; replace HO_22 := z0 (Kd.R_below (Kd.R_elderB (zr HO_22.out) gb479 (Nat.le_of_eq hg.symm)) hb); have BK479 := z0 (hbox); have GE479 := zG hg HB; replace HB := zH HB hb; have NB472_479 := zLt hg BK472; have NB479_472 := zGt hg BK472; replace BK472 := zK BK472 hb; clear hb hbox hg; have hnb27 := NB479_472.out; have hnc27 := NB472_479.out; have hcz28 := zc2 BK479.out) | (go_at_call 42; (with_reducible refine (impl_KeyBegins.calls a1 ((rd_T93 t473 x24_2).f0) false _ A21.out).mono ?_); rintro e w' ⟨rfl, ⟨nd, rfl⟩⟩))
          go_roundg k2
          case measure => have := HJ3.out; have := HK2.out; omega
          case rel => exact ⟨(wrap64 (x24_2 + 1)), zf, H', ⟨by have := HJ3.out; have := HK2.out; omega⟩, ⟨Kd.R_mono (zr (Kd.R_far (p := ⟨gb479, 1, none⟩) (Kd.R_far (p := ⟨gb479, 0, none⟩) (Kd.R_mono HO_22.out (fun k_ hk => (⟨hk, hk.2⟩ : _ ∧ k_ ≠ gb479))) (fun _ hk => hk.2) (.string ((rd_T93 t473 x24_2).f0))) (fun _ hk => hk.2) (.bool false))) (fun _ hk => trivial)⟩, ⟨zy BK472.out⟩, ⟨zb HB.out⟩⟩
       ·rw [if_neg c15] at H
        have c15b0 : (Op.bytesLess (((rd_T93 t473 x24_2).f0).toList) a1.toList) = false := by simpa using c15
        clear c15; simp only [Option.some.injEq, Prod.mk.injEq] at H; obtain ⟨rfl, rfl⟩ := H; have p478 : 0 ≤ (x24_2 : Int) := zd; have q478 : x24_2 < (t473.length : Int) := zd; obtain ⟨ad478, e478, hx478_0, hx478_1⟩ := at_T93 (Kd.R_reads' HO_22.out).2.2 x24_2 p478 q478; cases e478; replace p478 := eq_true p478; replace q478 := eq_true q478
        go_wp2_with (first | ((with_reducible refine gd 9 ?_); refine zbx 93 #[.string ⟨#[]⟩, .bool false] ?_; intro gb479 hg w29 hbox hb; replace HO_22 := z0 (Kd.R_below (Kd.R_elderB (zr HO_22.out) gb479 (Nat.le_of_eq hg.symm)) hb); have BK479 := z0 (hbox); have GE479 := zG hg HB; replace HB := zH HB hb; have NB472_479 := zLt hg BK472; have NB479_472 := zGt hg BK472; replace BK472 := zK BK472 hb; clear hb hbox hg; have hnb30 := NB479_472.out; have hnc30 := NB472_479.out; have hcz31 := zc2 BK479.out))
        go_ret2
        exact ⟨ze, zb HB.out⟩
      ·rw [if_neg c12] at H; have c12b0 := decide_eq_false c12; clear c12; simp only [Option.some.injEq, Prod.mk.injEq] at H; obtain ⟨rfl, rfl⟩ := H; go_wp2
       go_ret2
       exact ⟨ze, zb HB.out⟩
theorem impl_SieveMeets.mono : ∀ a0 a1 a2 a3 a4 a5 a6 k, LeO (impl_SieveMeets.f k a0 a1 a2 a3 a4 a5 a6) (impl_SieveMeets.f (k + 1) a0 a1 a2 a3 a4 a5 a6) := by
  intro a0 a1 a2 a3 a4 a5 a6 k
  unfold impl_SieveMeets.f
  repeat' first | (with_reducible first | apply impl_KeyOk.mono | apply impl_SieveSeek.mono | exact LeO.refl _ | exact LeO.none _ | refine LeO.ite ?_ ?_ | refine LeO.bind ?_ (fun _ => ?_)) | exact LeO.none _ | refine LeO.ite ?_ ?_ | refine LeO.bind ?_ (fun _ => ?_)
theorem impl_SieveMeets.calls (k : Nat) (a0_0 a0_1 a0_2 : ByteArray) (A0_3 : Option Addr) (c0_3 : Nat) (l0_3 : List ByteArray) (a0_4 : Int) (a1 a2 : ByteArray) (r : Bool) (w : World) (hr0_3 : Kd.C Kd.string w A0_3 l0_3.length l0_3) (hc0_3 : l0_3.length ≤ c0_3) (h : impl_SieveMeets.f k a0_0 a0_1 a0_2 l0_3 a0_4 a1 a2 = some r) :
    Calls Try.prog 32 #[.agg #[.string a0_0, .string a0_1, .string a0_2, .slice A0_3 l0_3.length c0_3, .int .i64 a0_4], .string a1, .string a2] w fun e w' => e = .returned (.bool r) ∧ Below w.heap.size w w' := by
 have hu25 := Try.underlying25; have HR0_3 := z0 hr0_3; have HC0_3 := z0 hc0_3; clear hr0_3 hc0_3; have HB := z0 (Below.refl w.heap.size w); have H : ((impl_KeyOk.f k a1).bind fun t482 => (if t482 = true then ((impl_KeyOk.f k a2).bind fun t483 => (if t483 = true then (if (Op.bytesLess a2.toList a1.toList) = true then (some false) else ((impl_SieveSeek.f k a0_0 a0_1 a0_2 l0_3 a0_4 a1).bind fun bt484 => (if bt484.2 = true then (some (!(Op.bytesLess a2.toList bt484.1.toList))) else (some false)))) else (some false))) else (some false))) = some r := h; clear h; replace H := zi H; obtain ⟨t482, A4, H⟩ := H
 by_cases c5 : t482 = true
 ·subst c5
  have H1 : ((impl_KeyOk.f k a2).bind fun t483 => (if t483 = true then (if (Op.bytesLess a2.toList a1.toList) = true then (some false) else ((impl_SieveSeek.f k a0_0 a0_1 a0_2 l0_3 a0_4 a1).bind fun bt484 => (if bt484.2 = true then (some (!(Op.bytesLess a2.toList bt484.1.toList))) else (some false)))) else (some false))) = some r := by rw [if_pos rfl] at H; exact H
  clear H; have H := H1; clear H1; replace H := zi H; obtain ⟨t483, A6, H⟩ := H
  by_cases c7 : t483 = true
  ·subst c7
   have H1 : (if (Op.bytesLess a2.toList a1.toList) = true then (some false) else ((impl_SieveSeek.f k a0_0 a0_1 a0_2 l0_3 a0_4 a1).bind fun bt484 => (if bt484.2 = true then (some (!(Op.bytesLess a2.toList bt484.1.toList))) else (some false)))) = some r := by rw [if_pos rfl] at H; exact H
   clear H; have H := H1; clear H1; go_enter Try.func32, Try.ntmps32
   go_upto_if 21 with (first | ((with_reducible refine gd 3 ?_); refine zbx 25 #[.string a0_0, .string a0_1, .string a0_2, .slice A0_3 l0_3.length c0_3, .int .i64 a0_4] ?_; intro gb481 hg w8 hbox hb; have BK481 := z0 (hbox); have GE481 := zG hg HB; replace HB := zH HB hb; clear hb hbox hg) | ((with_reducible refine gc 67 ?_); refine zL (some 10) Try.func67 #[.string a1] ?_; (with_reducible refine (impl_KeyOk.calls k a1 true _ A4.out).mono ?_); rintro e w' ⟨rfl, ⟨nd, rfl⟩⟩; refine ⟨_, rfl, ?_⟩) | (go_at_call 67; (with_reducible refine (impl_KeyOk.calls k a2 true _ A6.out).mono ?_); rintro e w' ⟨rfl, ⟨nd, rfl⟩⟩))
   by_cases c9 : (Op.bytesLess a2.toList a1.toList) = true
   ·rw [if_pos c9] at H; have c9b0 : (Op.bytesLess a2.toList a1.toList) = true := c9; clear c9; (first | rw [c9b0] | (simp only [i64_w, i32_w]; rw [c9b0]) | simp only [*, Bool.not_true, Bool.not_false] | skip); obtain rfl := Option.some.inj H; go_wp2; go_ret; exact ⟨ze, zb HB.out⟩
   ·rw [if_neg c9] at H
    have c9b0 : (Op.bytesLess a2.toList a1.toList) = false := by simpa using c9
    clear c9; (first | rw [c9b0] | (simp only [i64_w, i32_w]; rw [c9b0]) | simp only [*, Bool.not_true, Bool.not_false] | skip); replace H := zi H; obtain ⟨⟨t484, t485⟩, A10, H⟩ := H; (try dsimp only at H)
    by_cases c11 : t485 = true
    ·subst c11
     have H1 : (some (!(Op.bytesLess a2.toList t484.toList))) = some r := by rw [if_pos rfl] at H; exact H
     clear H; have H := H1; clear H1; obtain rfl := Option.some.inj H; have hcz12 := zc5 BK481.out
     go_wp2_with (first | ((with_reducible refine gc 44 ?_); refine zL (some 25) Try.func44 #[.agg #[.string a0_0, .string a0_1, .string a0_2, .slice A0_3 l0_3.length c0_3, .int .i64 a0_4], .string a1] ?_; (with_reducible refine (impl_SieveSeek.calls k a0_0 a0_1 a0_2 _ _ l0_3 a0_4 a1 t484 true _ (zC (Kd.C_below HR0_3.out HB.out)) HC0_3.out A10.out).mono ?_); rintro e w13 ⟨rfl, hb⟩; refine zv ?_; replace BK481 := zK BK481 hb; replace HB := zH HB hb; (try clear hb)))
     go_ret; exact ⟨ze, zb HB.out⟩
    ·replace c11 := Bool.eq_false_iff.mpr c11; subst c11
     have H1 : (some false) = some r := by rw [if_neg (show ¬ (false = true) by decide)] at H; exact H
     clear H; have H := H1; clear H1; obtain rfl := Option.some.inj H; have hcz14 := zc5 BK481.out
     go_wp2_with (first | ((with_reducible refine gc 44 ?_); refine zL (some 25) Try.func44 #[.agg #[.string a0_0, .string a0_1, .string a0_2, .slice A0_3 l0_3.length c0_3, .int .i64 a0_4], .string a1] ?_; (with_reducible refine (impl_SieveSeek.calls k a0_0 a0_1 a0_2 _ _ l0_3 a0_4 a1 t484 false _ (zC (Kd.C_below HR0_3.out HB.out)) HC0_3.out A10.out).mono ?_); rintro e w15 ⟨rfl, hb⟩; refine zv ?_; replace BK481 := zK BK481 hb; replace HB := zH HB hb; (try clear hb)))
     go_ret; exact ⟨ze, zb HB.out⟩
  ·replace c7 := Bool.eq_false_iff.mpr c7; subst c7
   have H1 : (some false) = some r := by rw [if_neg (show ¬ (false = true) by decide)] at H; exact H
   clear H; have H := H1; clear H1; obtain rfl := Option.some.inj H; go_enter Try.func32, Try.ntmps32
   go_wp2_with (first | ((with_reducible refine gd 3 ?_); refine zbx 25 #[.string a0_0, .string a0_1, .string a0_2, .slice A0_3 l0_3.length c0_3, .int .i64 a0_4] ?_; intro gb481 hg w16 hbox hb; have BK481 := z0 (hbox); have GE481 := zG hg HB; replace HB := zH HB hb; clear hb hbox hg) | ((with_reducible refine gc 67 ?_); refine zL (some 10) Try.func67 #[.string a1] ?_; (with_reducible refine (impl_KeyOk.calls k a1 true _ A4.out).mono ?_); rintro e w' ⟨rfl, ⟨nd, rfl⟩⟩; refine ⟨_, rfl, ?_⟩) | (go_at_call 67; (with_reducible refine (impl_KeyOk.calls k a2 false _ A6.out).mono ?_); rintro e w' ⟨rfl, ⟨nd, rfl⟩⟩))
   go_ret; exact ⟨ze, zb HB.out⟩
 ·replace c5 := Bool.eq_false_iff.mpr c5; subst c5
  have H1 : (some false) = some r := by rw [if_neg (show ¬ (false = true) by decide)] at H; exact H
  clear H; have H := H1; clear H1; obtain rfl := Option.some.inj H; go_enter Try.func32, Try.ntmps32
  go_wp2_with (first | ((with_reducible refine gd 3 ?_); refine zbx 25 #[.string a0_0, .string a0_1, .string a0_2, .slice A0_3 l0_3.length c0_3, .int .i64 a0_4] ?_; intro gb481 hg w17 hbox hb; have BK481 := z0 (hbox); have GE481 := zG hg HB; replace HB := zH HB hb; clear hb hbox hg) | ((with_reducible refine gc 67 ?_); refine zL (some 10) Try.func67 #[.string a1] ?_; (with_reducible refine (impl_KeyOk.calls k a1 false _ A4.out).mono ?_); rintro e w' ⟨rfl, ⟨nd, rfl⟩⟩; refine ⟨_, rfl, ?_⟩))
  go_ret; exact ⟨ze, zb HB.out⟩
theorem laws_FnSieveNever.mono_l : ∀ k, (∀ y0 y1 y2 y3 y4 y5 y6 y7 y8 y9 y10 y11 y12 y13, LeO (laws_FnSieveNever.j0 k y0 y1 y2 y3 y4 y5 y6 y7 y8 y9 y10 y11 y12 y13) (laws_FnSieveNever.j0 (k + 1) y0 y1 y2 y3 y4 y5 y6 y7 y8 y9 y10 y11 y12 y13)) ∧ (∀ y0 y1 y2 y3 y4 y5 y6, LeO (laws_FnSieveNever.l0 k y0 y1 y2 y3 y4 y5 y6) (laws_FnSieveNever.l0 (k + 1) y0 y1 y2 y3 y4 y5 y6))
  | 0 => ⟨fun _ _ _ _ _ _ _ _ _ _ _ _ _ _ r h => by simp [laws_FnSieveNever.j0] at h, fun _ _ _ _ _ _ _ r h => by simp [laws_FnSieveNever.l0] at h⟩
  | k + 1 => by
    obtain ⟨ih0, ih1⟩ := laws_FnSieveNever.mono_l k
    refine ⟨?_, ?_⟩
    · intro y0 y1 y2 y3 y4 y5 y6 y7 y8 y9 y10 y11 y12 y13
      unfold laws_FnSieveNever.j0
      repeat' first | (with_reducible first | apply ih0 | apply ih1 | apply impl_SieveHas.mono | apply impl_SieveMeets.mono | apply impl_SieveOf.mono | apply laws_ltSieve.mono | apply spec_DrawSieveOf.mono | apply spec_SieveOf.mono | exact LeO.refl _ | exact LeO.none _ | refine LeO.ite ?_ ?_ | refine LeO.bind ?_ (fun _ => ?_)) | exact LeO.none _ | refine LeO.ite ?_ ?_ | refine LeO.bind ?_ (fun _ => ?_)
    · intro y0 y1 y2 y3 y4 y5 y6
      unfold laws_FnSieveNever.l0
      repeat' first | (with_reducible first | apply ih0 | apply ih1 | apply impl_SieveHas.mono | apply impl_SieveMeets.mono | apply impl_SieveOf.mono | apply laws_ltSieve.mono | apply spec_DrawSieveOf.mono | apply spec_SieveOf.mono | exact LeO.refl _ | exact LeO.none _ | refine LeO.ite ?_ ?_ | refine LeO.bind ?_ (fun _ => ?_)) | exact LeO.none _ | refine LeO.ite ?_ ?_ | refine LeO.bind ?_ (fun _ => ?_)
theorem laws_FnSieveNever.mono : ∀ a0 k, LeO (laws_FnSieveNever.f k a0) (laws_FnSieveNever.f (k + 1) a0) := by
  intro a0 k
  obtain ⟨ih0, ih1⟩ := laws_FnSieveNever.mono_l k
  unfold laws_FnSieveNever.f
  repeat' first | (with_reducible first | apply ih0 | apply ih1 | apply impl_SieveHas.mono | apply impl_SieveMeets.mono | apply impl_SieveOf.mono | apply laws_ltSieve.mono | apply spec_DrawSieveOf.mono | apply spec_SieveOf.mono | exact LeO.refl _ | exact LeO.none _ | refine LeO.ite ?_ ?_ | refine LeO.bind ?_ (fun _ => ?_)) | exact LeO.none _ | refine LeO.ite ?_ ?_ | refine LeO.bind ?_ (fun _ => ?_)
def laws_FnSieveNever.T11 : Bool × List (List Nat × List Nat) := (true, [([], []), ([], []), ([], []), ([1, 2], [1, 2]), ([3], [3]), ([0, 4], [0, 4]), ([5], [5]), ([6, 5], [6]), ([7], [7]), ([7], [7]), ([7], [7]), ([9, 10, 7], [7, 9, 10]), ([11, 7], [7, 11]), ([7], [7]), ([7], [7]), ([13, 14, 7], [7, 13, 14]), ([15, 7], [7, 15]), ([8, 12, 16, 7, 7], [7, 8, 12, 16]), ([17, 7], [7, 17]), ([7, 18], [7, 18])])
def laws_FnSieveNever.B11 : List Nat := [0, 0, 0, 6, 14, 31, 63, 127, 255, 255, 255, 1791, 3839, 255, 255, 24831, 57599, 131071, 262143, 524287]
theorem laws_FnSieveNever.tab11 : rtab .any (opsOf Try.f13 11) = laws_FnSieveNever.T11 := by kernel_rfl
theorem laws_FnSieveNever.bits11 : waitsOk laws_FnSieveNever.T11.2 laws_FnSieveNever.B11 = true := by kernel_rfl
theorem laws_FnSieveNever.calls (k : Nat) (A0 : Option Addr) (c0 : Nat) (l0 : List Int) (r : Bool) (w : World) (hr0 : Kd.C (Kd.int .u8) w A0 l0.length l0) (hc0 : l0.length ≤ c0) (h : laws_FnSieveNever.f k l0 = some r) :
    Calls Try.prog 13 #[.slice A0 l0.length c0] w fun e w' => e = .returned (.bool r) ∧ Below w.heap.size w w' := by
 have hu25 := Try.underlying25; have HR0 := z0 hr0; have HC0 := z0 hc0; clear hr0 hc0; have HB := z0 (Below.refl w.heap.size w); have H : (if (l0.length : Int) > 1048576 then (some true) else ((spec_DrawSieveOf.f k l0).bind fun bt1137 => ((spec_SieveOf.f k bt1137.1 bt1137.2).bind fun bt1141 => ((impl_SieveOf.f k bt1137.1 bt1137.2).bind fun bt1150 => (if (bt1150.2.2.2.2.2 != bt1141.2.2.2.2.2) = true then (laws_FnSieveNever.j0 k bt1137.1 bt1141.2.2.2.2.2 bt1150.2.2.2.2.2 true bt1141.1 bt1141.2.1 bt1141.2.2.1 bt1141.2.2.2.1 bt1141.2.2.2.2.1 bt1150.1 bt1150.2.1 bt1150.2.2.1 bt1150.2.2.2.1 bt1150.2.2.2.2.1) else ((laws_ltSieve.f k bt1150.1 bt1150.2.1 bt1150.2.2.1 bt1150.2.2.2.1 bt1150.2.2.2.2.1 bt1141.1 bt1141.2.1 bt1141.2.2.1 bt1141.2.2.2.1 bt1141.2.2.2.2.1).bind fun t1159 => (if t1159 = true then (laws_FnSieveNever.j0 k bt1137.1 bt1141.2.2.2.2.2 bt1150.2.2.2.2.2 (!bt1150.2.2.2.2.2) bt1141.1 bt1141.2.1 bt1141.2.2.1 bt1141.2.2.2.1 bt1141.2.2.2.2.1 bt1150.1 bt1150.2.1 bt1150.2.2.1 bt1150.2.2.2.1 bt1150.2.2.2.2.1) else (laws_FnSieveNever.j0 k bt1137.1 bt1141.2.2.2.2.2 bt1150.2.2.2.2.2 true bt1141.1 bt1141.2.1 bt1141.2.2.1 bt1141.2.2.2.1 bt1141.2.2.2.2.1 bt1150.1 bt1150.2.1 bt1150.2.2.1 bt1150.2.2.2.1 bt1150.2.2.2.2.1)))))))) = some r := h; clear h
 by_cases c2 : (l0.length : Int) > 1048576
 ·rw [if_pos c2] at H; have c2b0 : decide (1048576 < (l0.length : Int)) = true := decide_eq_true c2; have c2b1 : decide (1048576 < l0.length) = true := decide_eq_true (by omega); clear c2; obtain rfl := Option.some.inj H; go_enter Try.func13, Try.ntmps13; go_wp2; go_ret; exact ⟨ze, zb HB.out⟩
 ·rw [if_neg c2] at H; have c2b0 : decide (1048576 < (l0.length : Int)) = false := decide_eq_false c2; have c2b1 : decide (1048576 < l0.length) = false := decide_eq_false (by omega); clear c2; replace H := zi H; obtain ⟨⟨t1137, t1138⟩, A3, H⟩ := H; (try dsimp only at H); replace H := zi H; obtain ⟨⟨t1141, t1142, t1143, t1144, t1147, t1148⟩, A4, H⟩ := H; (try dsimp only at H); replace H := zi H; obtain ⟨⟨t1150, t1151, t1152, t1153, t1156, t1157⟩, A5, H⟩ := H; (try dsimp only at H); have HC6 := z0 H; clear H; go_enter Try.func13, Try.ntmps13
  go_upto_region 6 with (first | ((with_reducible refine gc 34 ?_); refine zL (some 15) Try.func34 #[.slice A0 l0.length c0] ?_; (with_reducible refine (spec_DrawSieveOf.calls k _ _ l0 t1137 t1138 _ (zC HR0.out) HC0.out A3.out).mono ?_); rintro e w7 ⟨v1139, rfl, ho0, hb⟩; refine zv ?_; have HO1140 := z0 (Kd.R_lower ho0 (below_size (zb HB.out))); replace HB := zH HB hb; (try clear hb ho0); obtain ⟨Ao8, co8, eo8⟩ := Kd.R_slice HO1140.out; subst eo8) | ((with_reducible refine gc 36 ?_); refine zL (some 21) Try.func36 #[.slice Ao8 t1137.length co8, .int .i64 t1138] ?_; (with_reducible refine (spec_SieveOf.calls k (fun k_ => some k_ = (.slice Ao8 t1137.length co8 : Value).ownBlock) _ _ t1137 t1138 t1141 t1142 t1143 t1144 t1147 t1148 _ (Kd.R_V (Kd.R_tight rfl (HO1140.out))) A4.out).mono ?_); rintro e w9 ⟨v1145, rfl, ho0, hb⟩; refine zv ?_; have HO1146 := z0 (Kd.R_lower (Kd.R_new' (Kd.R_mono (ok' := fun k_ => True) ho0 (fun _ hk_ => trivial)) (Kd.R_lt (zr HO1140.out))) (below_size (zb HB.out))); replace HO1140 := z0 (Kd.R_elder' (zr HO1140.out) (Kd.R_base ho0) hb); replace HB := zH HB hb; (try clear hb ho0)) | ((with_reducible refine gd 5 ?_); refine zbx 25 #[.string ⟨#[]⟩, .string ⟨#[]⟩, .string ⟨#[]⟩, .slice none 0 0, .int .i64 0] ?_; intro gb1149 hg w10 hbox hb; replace HO1140 := zA HO1140 hb; replace HO1146 := zA HO1146 hb; have BK1149 := z0 (hbox); have GE1149 := zG hg HB; replace HB := zH HB hb; clear hb hbox hg; have hcz11 := zc5 BK1149.out; obtain ⟨Ao12, co12, eo12⟩ := Kd.R_slice HO1146.out; subst eo12) | ((with_reducible refine gc 30 ?_); refine zL (some 27) Try.func30 #[.slice Ao8 t1137.length co8, .int .i64 t1138] ?_; (with_reducible refine (impl_SieveOf.calls k _ _ t1137 t1138 t1150 t1151 t1152 t1153 t1156 t1157 _ ?side1 ((Kd.R_reads' HO1140.out).2.1) A5.out).mono ?_); (case side1 => refine (Kd.R_reads' (e := 9) (base := w.heap.size) (ok := fun k_ => (True ∧ some k_ ≠ (.slice Ao12 t1144.length co12 : Value).ownBlock)) (n := t1137.length) (c := co8) ?_).2.2; exact (zs HO1140.out BK1149.out)); rintro e w13 ⟨v1154, rfl, ho0, hb⟩; refine zv ?_; have HO1155 := z0 (Kd.R_lower (Kd.R_new' (Kd.R_new' ho0 (Kd.R_lt (zs HO1140.out BK1149.out))) (Kd.R_lt (zs HO1146.out BK1149.out))) (below_size (zb HB.out))); replace HO1140 := z0 (Kd.R_elder' (zs HO1140.out BK1149.out) (Kd.R_base ho0) hb); replace HO1146 := z0 (Kd.R_elder' (zs HO1146.out BK1149.out) (Kd.R_base ho0) hb); replace BK1149 := z0 (blk_below (zpc BK1149.out #[.string t1141, .string t1142, .string t1143, .slice Ao12 t1144.length co12, .int .i64 t1147]) hb); replace HB := zH HB hb; (try clear hb ho0)) | ((with_reducible refine gd 7 ?_); refine zbx 25 #[.string ⟨#[]⟩, .string ⟨#[]⟩, .string ⟨#[]⟩, .slice none 0 0, .int .i64 0] ?_; intro gb1158 hg w14 hbox hb; replace HO1140 := zA HO1140 hb; replace HO1146 := zA HO1146 hb; replace HO1155 := zA HO1155 hb; have BK1158 := z0 (hbox); have GE1158 := zG hg HB; replace HB := zH HB hb; have NB1149_1158 := zLt hg BK1149; have NB1158_1149 := zGt hg BK1149; replace BK1149 := zK BK1149 hb; clear hb hbox hg; have hnb15 := NB1158_1149.out; have hnc15 := NB1149_1158.out; have hcz16 := zc5 BK1158.out; obtain ⟨Ao17, co17, eo17⟩ := Kd.R_slice HO1155.out; subst eo17))
  (try simp only [Act.put, List.setIfInBounds_toArray, List.set_cons_zero, List.set_cons_succ])
  go_cut [42] (fun v42 wc => ∃ (kq : Nat) (x42_5 : Bool), v42 = .bool x42_5 ∧ Aside0 (laws_FnSieveNever.j0 kq t1137 t1148 t1157 x42_5 t1141 t1142 t1143 t1144 t1147 t1150 t1151 t1152 t1153 t1156 = some r) ∧ Aside0 (kq ≤ k) ∧ Aside0 (Kd.R Kd.string 9 wc w.heap.size (fun k_ => some k_ ≠ ((.slice Ao12 t1144.length co12) : Value).ownBlock ∧ some k_ ≠ ((.slice Ao17 t1153.length co17) : Value).ownBlock) (.slice Ao8 t1137.length co8) t1137) ∧ Aside0 (Kd.R Kd.string 9 wc w.heap.size (fun k_ => some k_ ≠ ((.slice Ao8 t1137.length co8) : Value).ownBlock ∧ some k_ ≠ ((.slice Ao17 t1153.length co17) : Value).ownBlock) (.slice Ao12 t1144.length co12) t1144) ∧ Aside0 (Kd.R Kd.string 9 wc w.heap.size (fun k_ => some k_ ≠ ((.slice Ao8 t1137.length co8) : Value).ownBlock ∧ some k_ ≠ ((.slice Ao12 t1144.length co12) : Value).ownBlock) (.slice Ao17 t1153.length co17) t1153) ∧ Aside0 (wc.heap[gb1149]? = some (.cells #[.string t1141, .string t1142, .string t1143, (.slice Ao12 t1144.length co12), .int .i64 t1147] 25 (0, 0))) ∧ Aside0 (wc.heap[gb1158]? = some (.cells #[.string t1150, .string t1151, .string t1152, (.slice Ao17 t1153.length co17), .int .i64 t1156] 25 (0, 0))) ∧ Aside0 (Below w.heap.size w wc))
  case first =>
   have H := HC6.out; clear HC6
   by_cases c18 : (t1157 != t1148) = true
   ·rw [if_pos c18] at H; have c18b0 : (t1157 != t1148) = true := c18; (try (have c18b1 : decide (t1157 = t1148) = false := by simpa using c18)); (try (have c18b2 : (t1157 == t1148) = false := by simpa using c18)); (try (have c18b3 : ¬ (t1157 = t1148) := by simpa using c18)); clear c18; (first | rw [c18b0] | (simp only [i64_w, i32_w]; rw [c18b0]) | simp only [*, Bool.not_true, Bool.not_false] | skip); have H' := z0 H; clear H; go_wp2; go_meet
    case rel => exact ⟨_, (true), zf, H', ⟨by first | omega | exact Nat.le_refl _⟩, ⟨Kd.R_mono (zt HO1140.out BK1158.out) (fun _ hk => ⟨hk.1.1.2, hk.1.2⟩)⟩, ⟨Kd.R_mono (zt HO1146.out BK1158.out) (fun _ hk => ⟨hk.1.1.2, hk.1.2⟩)⟩, ⟨Kd.R_mono (zt HO1155.out BK1158.out) (fun _ hk => ⟨hk.1.1.2, hk.1.2⟩)⟩, ⟨zy BK1149.out⟩, ⟨zp BK1158.out⟩, ⟨zb HB.out⟩⟩
   ·rw [if_neg c18] at H
    have c18b0 : (t1157 != t1148) = false := by simpa using c18
    (try (have c18b1 : decide (t1157 = t1148) = true := by simpa using c18)); (try (have c18b2 : (t1157 == t1148) = true := by simpa using c18)); clear c18; (first | rw [c18b0] | (simp only [i64_w, i32_w]; rw [c18b0]) | simp only [*, Bool.not_true, Bool.not_false] | skip); replace H := zi H; obtain ⟨t1159, A19, H⟩ := H
    by_cases c20 : t1159 = true
    ·subst c20
     have H1 : (laws_FnSieveNever.j0 k t1137 t1148 t1157 (!t1157) t1141 t1142 t1143 t1144 t1147 t1150 t1151 t1152 t1153 t1156) = some r := by rw [if_pos rfl] at H; exact H
     clear H; have H := H1; clear H1; have H' := z0 H; clear H; have hnb21 := NB1158_1149.out; have hnc21 := NB1149_1158.out; have hcz22 := zc5 BK1158.out; have hcz23 := zc5 BK1149.out
     go_wp2_with (first | (go_at_call 37; (with_reducible refine (laws_ltSieve.calls k t1150 t1151 t1152 _ _ t1153 t1156 t1141 t1142 t1143 _ _ t1144 t1147 true _ ?side1 ?side2 ?side3 ?side4 A19.out).mono ?_); (case side1 => refine (Kd.R_reads' (e := 9) (base := w.heap.size) (ok := fun k_ => ((True ∧ some k_ ≠ (.slice Ao8 t1137.length co8 : Value).ownBlock) ∧ some k_ ≠ (.slice Ao12 t1144.length co12 : Value).ownBlock)) (n := t1153.length) (c := co17) ?_).2.2; exact (zs HO1155.out BK1158.out)); (case side2 => exact (Kd.R_reads' HO1155.out).2.1); (case side3 => refine (Kd.R_reads' (e := 9) (base := w.heap.size) (ok := fun k_ => ((True ∧ some k_ ≠ (.slice Ao8 t1137.length co8 : Value).ownBlock) ∧ some k_ ≠ (.slice Ao17 t1153.length co17 : Value).ownBlock)) (n := t1144.length) (c := co12) ?_).2.2; exact (zs HO1146.out BK1158.out)); (case side4 => exact (Kd.R_reads' HO1146.out).2.1); rintro e w24 ⟨rfl, hb⟩; replace HO1140 := zAs HO1140 BK1158 hb; replace HO1146 := zAs HO1146 BK1158 hb; replace HO1155 := zAs HO1155 BK1158 hb; replace BK1149 := zKy BK1149 hb; replace BK1158 := z0 (blk_below (zpc BK1158.out #[.string t1150, .string t1151, .string t1152, .slice Ao17 t1153.length co17, .int .i64 t1156]) hb); replace HB := zH HB hb; (try clear hb)))
     go_meet
     case rel => exact ⟨_, (!t1157), zf, H', ⟨by first | omega | exact Nat.le_refl _⟩, ⟨Kd.R_mono (zr HO1140.out) (fun _ hk => ⟨hk.1.2, hk.2⟩)⟩, ⟨Kd.R_mono (zr HO1146.out) (fun _ hk => ⟨hk.1.2, hk.2⟩)⟩, ⟨Kd.R_mono (zr HO1155.out) (fun _ hk => ⟨hk.1.2, hk.2⟩)⟩, ⟨zl BK1149.out⟩, ⟨zl BK1158.out⟩, ⟨zb HB.out⟩⟩
    ·replace c20 := Bool.eq_false_iff.mpr c20; subst c20
     have H1 : (laws_FnSieveNever.j0 k t1137 t1148 t1157 true t1141 t1142 t1143 t1144 t1147 t1150 t1151 t1152 t1153 t1156) = some r := by rw [if_neg (show ¬ (false = true) by decide)] at H; exact H
     clear H; have H := H1; clear H1; have H' := z0 H; clear H; have hnb25 := NB1158_1149.out; have hnc25 := NB1149_1158.out; have hcz26 := zc5 BK1158.out; have hcz27 := zc5 BK1149.out
     go_wp2_with (first | (go_at_call 37; (with_reducible refine (laws_ltSieve.calls k t1150 t1151 t1152 _ _ t1153 t1156 t1141 t1142 t1143 _ _ t1144 t1147 false _ ?side1 ?side2 ?side3 ?side4 A19.out).mono ?_); (case side1 => refine (Kd.R_reads' (e := 9) (base := w.heap.size) (ok := fun k_ => ((True ∧ some k_ ≠ (.slice Ao8 t1137.length co8 : Value).ownBlock) ∧ some k_ ≠ (.slice Ao12 t1144.length co12 : Value).ownBlock)) (n := t1153.length) (c := co17) ?_).2.2; exact (zs HO1155.out BK1158.out)); (case side2 => exact (Kd.R_reads' HO1155.out).2.1); (case side3 => refine (Kd.R_reads' (e := 9) (base := w.heap.size) (ok := fun k_ => ((True ∧ some k_ ≠ (.slice Ao8 t1137.length co8 : Value).ownBlock) ∧ some k_ ≠ (.slice Ao17 t1153.length co17 : Value).ownBlock)) (n := t1144.length) (c := co12) ?_).2.2; exact (zs HO1146.out BK1158.out)); (case side4 => exact (Kd.R_reads' HO1146.out).2.1); rintro e w28 ⟨rfl, hb⟩; replace HO1140 := zAs HO1140 BK1158 hb; replace HO1146 := zAs HO1146 BK1158 hb; replace HO1155 := zAs HO1155 BK1158 hb; replace BK1149 := zKy BK1149 hb; replace BK1158 := z0 (blk_below (zpc BK1158.out #[.string t1150, .string t1151, .string t1152, .slice Ao17 t1153.length co17, .int .i64 t1156]) hb); replace HB := zH HB hb; (try clear hb)))
     go_meet
     case rel => exact ⟨_, (true), zf, H', ⟨by first | omega | exact Nat.le_refl _⟩, ⟨Kd.R_mono (zr HO1140.out) (fun _ hk => ⟨hk.1.2, hk.2⟩)⟩, ⟨Kd.R_mono (zr HO1146.out) (fun _ hk => ⟨hk.1.2, hk.2⟩)⟩, ⟨Kd.R_mono (zr HO1155.out) (fun _ hk => ⟨hk.1.2, hk.2⟩)⟩, ⟨zl BK1149.out⟩, ⟨zl BK1158.out⟩, ⟨zb HB.out⟩⟩
  case rest =>
   clear HC6
   try clear c1
   try clear c2
   try clear c2b0
   try clear c2b1
   try clear p2
   try clear c3
   try clear c13
   try clear c15
   try clear c18
   try clear c18b0
   try clear c18b1
   try clear c18b2
   try clear c20
   try clear c21
   try clear c25
   try clear hcz11
   try clear hcz16
   try clear hcz22
   try clear hcz23
   try clear hcz26
   try clear hcz27
   obtain ⟨kq, x42_5, rfl, HA, HJ5, HO_3, HO_1150003, HO_1159003, BK1149, BK1158, HB⟩ := hcut
   cases kq with
   | zero => exact absurd HA.out (by simp [laws_FnSieveNever.j0])
   | succ kj5 =>
    have H := HA.out; clear HA; simp only [laws_FnSieveNever.j0] at H
    by_cases c29 : x42_5 = true
    ·subst c29
     have H1 : (if (t1157 == t1148) = true then ((laws_ltSieve.f kj5 t1150 t1151 t1152 t1153 t1156 t1141 t1142 t1143 t1144 t1147).bind fun t1160 => (some t1160)) else (some false)) = some r := by rw [if_pos rfl] at H; exact H
     clear H; have H := H1; clear H1
     by_cases c30 : (t1157 == t1148) = true
     ·rw [if_pos c30] at H; have c30b0 : (t1157 == t1148) = true := c30; (try (have c30b1 : decide (t1157 = t1148) = true := by simpa using c30)); (try (have c30b2 : (t1157 == t1148) = true := by simpa using c30)); clear c30; replace H := zi H; obtain ⟨t1160, A31, H⟩ := H; obtain rfl := Option.some.inj H; have hnb32 := NB1158_1149.out; have hnc32 := NB1149_1158.out; have hcz33 := zc5 BK1158.out; have hcz34 := zc5 BK1149.out
      go_wp2_with (first | (go_at_call 37; (with_reducible refine (laws_ltSieve.calls kj5 t1150 t1151 t1152 _ _ t1153 t1156 t1141 t1142 t1143 _ _ t1144 t1147 t1160 _ ?side1 ?side2 ?side3 ?side4 A31.out).mono ?_); (case side1 => repeat (first | exact (Kd.R_reads' HO_1159003.out).2.2 | (with_reducible refine Kd.C_alloc ?_ _) | (with_reducible refine Kd.C_drewN ?_ _) | (with_reducible refine Kd.C_drew ?_))); (case side2 => exact (Kd.R_reads' HO_1159003.out).2.1); (case side3 => repeat (first | exact (Kd.R_reads' HO_1150003.out).2.2 | (with_reducible refine Kd.C_alloc ?_ _) | (with_reducible refine Kd.C_drewN ?_ _) | (with_reducible refine Kd.C_drew ?_))); (case side4 => exact (Kd.R_reads' HO_1150003.out).2.1); rintro e w35 ⟨rfl, hb⟩; replace HO_3 := zA HO_3 hb; replace HO_1150003 := zA HO_1150003 hb; replace HO_1159003 := zA HO_1159003 hb; replace BK1149 := zK BK1149 hb; replace BK1158 := zK BK1158 hb; replace HB := zH HB hb; (try clear hb)))
      go_ret; exact ⟨ze, zb HB.out⟩
     ·rw [if_neg c30] at H
      have c30b0 : (t1157 == t1148) = false := by simpa using c30
      (try (have c30b1 : decide (t1157 = t1148) = false := by simpa using c30)); (try (have c30b2 : (t1157 == t1148) = false := by simpa using c30)); (try (have c30b3 : ¬ (t1157 = t1148) := by simpa using c30)); clear c30; obtain rfl := Option.some.inj H; go_wp2; go_ret; exact ⟨ze, zb HB.out⟩
    ·replace c29 := Bool.eq_false_iff.mpr c29; subst c29
     have H1 : (laws_FnSieveNever.l0 kj5 t1137 0 t1150 t1151 t1152 t1153 t1156) = some r := by rw [if_neg (show ¬ (false = true) by decide)] at H; exact H
     clear H; have H := H1; clear H1; have H' := z0 H; clear H; go_wp2
     go_loopg [9] kj5 (fun kq v9 w' => ∃ (x9_2 : Int), v9 = .int .i64 x9_2 ∧ Aside0 (laws_FnSieveNever.l0 kq t1137 x9_2 t1150 t1151 t1152 t1153 t1156 = some r) ∧ Aside0 (kq ≤ kj5) ∧ Aside0 (Kd.R Kd.string 9 w' w.heap.size (fun k_ => some k_ ≠ ((.slice Ao12 t1144.length co12) : Value).ownBlock ∧ some k_ ≠ ((.slice Ao17 t1153.length co17) : Value).ownBlock) (.slice Ao8 t1137.length co8) t1137) ∧ Aside0 (Kd.R Kd.string 9 w' w.heap.size (fun k_ => some k_ ≠ ((.slice Ao8 t1137.length co8) : Value).ownBlock ∧ some k_ ≠ ((.slice Ao17 t1153.length co17) : Value).ownBlock) (.slice Ao12 t1144.length co12) t1144) ∧ Aside0 (Kd.R Kd.string 9 w' w.heap.size (fun k_ => some k_ ≠ ((.slice Ao8 t1137.length co8) : Value).ownBlock ∧ some k_ ≠ ((.slice Ao12 t1144.length co12) : Value).ownBlock) (.slice Ao17 t1153.length co17) t1153) ∧ Aside0 (w'.heap[gb1149]? = some (.cells #[.string t1141, .string t1142, .string t1143, (.slice Ao12 t1144.length co12), .int .i64 t1147] 25 (0, 0))) ∧ Aside0 (w'.heap[gb1158]? = some (.cells #[.string t1150, .string t1151, .string t1152, (.slice Ao17 t1153.length co17), .int .i64 t1156] 25 (0, 0))) ∧ Aside0 (Below w.heap.size w w'))
     case atStart => exact ⟨(0), zf, H', ⟨Nat.le_refl _⟩, ⟨zr HO_3.out⟩, ⟨zr HO_1150003.out⟩, ⟨zr HO_1159003.out⟩, ⟨zl BK1149.out⟩, ⟨zl BK1158.out⟩, ⟨zb HB.out⟩⟩
     case round =>
      clear H'
      try clear c1
      try clear c2
      try clear c2b0
      try clear c2b1
      try clear p2
      try clear c3
      try clear c13
      try clear c15
      try clear c18
      try clear c18b0
      try clear c18b1
      try clear c18b2
      try clear c20
      try clear c21
      try clear c25
      try clear c29
      try clear c30
      try clear c30b0
      try clear c30b1
      try clear c30b2
      try clear c32
      try clear c34
      try clear hcz11
      try clear hcz16
      try clear hcz22
      try clear hcz23
      try clear hcz26
      try clear hcz27
      try clear hcz33
      try clear hcz34
      try clear p2
      obtain ⟨x9_2, rfl, HA, HK2, HO_3, HO_1150003, HO_1159003, BK1149, BK1158, HB⟩ := hrel
      cases gk with
      | zero => exact absurd HA.out (by simp [laws_FnSieveNever.l0])
      | succ k2 =>
       have H := HA.out; clear HA; simp only [laws_FnSieveNever.l0] at H
       by_cases c36 : x9_2 < (t1137.length : Int)
       ·rw [if_pos c36] at H; have c36b0 := decide_eq_true c36; clear c36; replace H := zn H; obtain ⟨c37, H⟩ := H; have c37b0 := decide_eq_true c37; clear c37; replace H := zi H; obtain ⟨t1162, A38, H⟩ := H
        by_cases c39 : t1162 = true
        ·subst c39
         have H1 : ((impl_SieveMeets.f k2 t1150 t1151 t1152 t1153 t1156 (rdOf ByteArray.empty t1137 x9_2) (rdOf ByteArray.empty t1137 x9_2)).bind fun t1165 => (if t1165 = true then (laws_FnSieveNever.l0 k2 t1137 (wrap64 (x9_2 + 1)) t1150 t1151 t1152 t1153 t1156) else (some false))) = some r := by rw [if_pos rfl] at H; exact H
         clear H; have H := H1; clear H1; replace H := zi H; obtain ⟨t1165, A40, H⟩ := H
         by_cases c41 : t1165 = true
         ·subst c41
          have H1 : (laws_FnSieveNever.l0 k2 t1137 (wrap64 (x9_2 + 1)) t1150 t1151 t1152 t1153 t1156) = some r := by rw [if_pos rfl] at H; exact H
          clear H; have H := H1; clear H1; have H' := z0 H; clear H
          try go_wp2
          replace HO_3 := z0 (Kd.R_drew HO_3.out); replace HO_1150003 := z0 (Kd.R_drew HO_1150003.out); replace HO_1159003 := z0 (Kd.R_drew HO_1159003.out); replace BK1149 := z0 (blk_drew BK1149.out); replace BK1158 := z0 (blk_drew BK1158.out); replace HB := z0 (below_drew1 HB.out); have p1161 : 0 ≤ (x9_2 : Int) := zd; have q1161 : x9_2 < (t1137.length : Int) := zd; obtain ⟨ad1161, e1161, hx1161_0⟩ := Kd.at_string (Kd.R_reads' HO_3.out).2.2 x9_2 p1161 q1161; cases e1161; replace p1161 := eq_true p1161; replace q1161 := eq_true q1161; have p1163 : 0 ≤ (x9_2 : Int) := zd; have q1163 : x9_2 < (t1137.length : Int) := zd; obtain ⟨ad1163, e1163, hx1163_0⟩ := Kd.at_string (Kd.R_reads' HO_3.out).2.2 x9_2 p1163 q1163; obtain rfl : ad1161 = ad1163 := (by injection e1163); replace p1163 := eq_true p1163; replace q1163 := eq_true q1163; have p1164 : 0 ≤ (x9_2 : Int) := zd; have q1164 : x9_2 < (t1137.length : Int) := zd; obtain ⟨ad1164, e1164, hx1164_0⟩ := Kd.at_string (Kd.R_reads' HO_3.out).2.2 x9_2 p1164 q1164; obtain rfl : ad1161 = ad1164 := (by injection e1164); replace p1164 := eq_true p1164; replace q1164 := eq_true q1164; refine start_ (n := 20) (S := fun w' => w'.cell? ⟨gb1158, 0, none⟩ = some (.string t1150) ∧ w'.cell? ⟨gb1158, 1, none⟩ = some (.string t1151) ∧ w'.cell? ⟨gb1158, 2, none⟩ = some (.string t1152) ∧ w'.cell? ⟨gb1158, 3, none⟩ = some (.slice Ao17 t1153.length co17) ∧ w'.cell? ⟨gb1158, 4, none⟩ = some (.int .i64 t1156) ∧ w'.cell? (ad1161.add (x9_2).toNat) = some (.string (rdOf ByteArray.empty t1137 x9_2)) ∧ w'.cell? (ad1161.add (x9_2).toNat) = some (.string (rdOf ByteArray.empty t1137 x9_2)) ∧ w'.cell? (ad1161.add (x9_2).toNat) = some (.string (rdOf ByteArray.empty t1137 x9_2))) (ds := []) (fb 20 0) (by kernel_rfl) rfl rfl (zd5 BK1158.out ⟨hx1161_0, hx1163_0, hx1164_0⟩) (fun hHeld => ?_); refine with_tabW laws_FnSieveNever.tab11 laws_FnSieveNever.bits11 (fun HT_ HW_ => ?_); generalize wr.drew = w42 at HO_3 HO_1150003 HO_1159003 BK1149 BK1158 HB hx1161_0 hx1163_0 hx1164_0 hHeld ⊢; refine zu 1 2 ?_; refine zu 2 6 ?_; refine zu 3 14 ?_; refine zx 0 15 hHeld ?_; refine zx 4 31 hHeld ?_; refine zone 5 63 (fun K hK => ?_); refine zG2 Try.func28 #[.agg #[.string t1150, .string t1151, .string t1152, .slice Ao17 t1153.length co17, .int .i64 t1156], .string (rdOf ByteArray.empty t1137 x9_2)] ?_
          with_reducible refine (impl_SieveHas.calls k2 t1150 t1151 t1152 _ _ t1153 t1156 (rdOf ByteArray.empty t1137 x9_2) true _ ?side1 ?side2 A38.out).mono ?_
          (case side1 => repeat (first | exact (Kd.R_reads' HO_1159003.out).2.2 | (with_reducible refine Kd.C_alloc ?_ _) | (with_reducible refine Kd.C_drewN ?_ _) | (with_reducible refine Kd.C_drew ?_))); (case side2 => exact (Kd.R_reads' HO_1159003.out).2.1); rintro e w43 ⟨rfl, hb⟩; have HS5_ := (hb.cell (World.block_lt_of_cell? _ _ (hHeld.2.2.2.2.2.1))).trans (hHeld.2.2.2.2.2.1); have HS6_ := (hb.cell (World.block_lt_of_cell? _ _ (hHeld.2.2.2.2.2.2.1))).trans (hHeld.2.2.2.2.2.2.1); have HS7_ := (hb.cell (World.block_lt_of_cell? _ _ (hHeld.2.2.2.2.2.2.2))).trans (hHeld.2.2.2.2.2.2.2); refine ⟨_, rfl, ?_⟩; replace HO_3 := zA HO_3 hb; replace HO_1150003 := zA HO_1150003 hb; replace HO_1159003 := zA HO_1159003 hb; replace BK1149 := zK BK1149 hb; replace BK1158 := zK BK1158 hb; replace HB := zH HB hb; (try clear hb); refine hK.out _ _ (zd5 BK1158.out ⟨HS5_, HS6_, HS7_⟩) (fun hHeld => ?_); clear hK K; refine znm ?_; refine zu 6 127 ?_; refine zu 7 255 ?_; refine zu 9 767 ?_; refine zu 10 1791 ?_; refine zu 11 3839 ?_; refine zu 13 12031 ?_; refine zu 14 28415 ?_; refine zu 15 61183 ?_; refine zx 8 61439 hHeld ?_; refine zx 12 65535 hHeld ?_; refine zx 16 131071 hHeld ?_; refine zone 17 262143 (fun K hK => ?_); refine zG2 Try.func32 #[.agg #[.string t1150, .string t1151, .string t1152, .slice Ao17 t1153.length co17, .int .i64 t1156], .string (rdOf ByteArray.empty t1137 x9_2), .string (rdOf ByteArray.empty t1137 x9_2)] ?_
          with_reducible refine (impl_SieveMeets.calls k2 t1150 t1151 t1152 _ _ t1153 t1156 (rdOf ByteArray.empty t1137 x9_2) (rdOf ByteArray.empty t1137 x9_2) true _ ?side1 ?side2 A40.out).mono ?_
          (case side1 => repeat (first | exact (Kd.R_reads' HO_1159003.out).2.2 | (with_reducible refine Kd.C_alloc ?_ _) | (with_reducible refine Kd.C_drewN ?_ _) | (with_reducible refine Kd.C_drew ?_))); (case side2 => exact (Kd.R_reads' HO_1159003.out).2.1); rintro e w44 ⟨rfl, hb⟩; have HS5_ := (hb.cell (World.block_lt_of_cell? _ _ (hHeld.2.2.2.2.2.1))).trans (hHeld.2.2.2.2.2.1); have HS6_ := (hb.cell (World.block_lt_of_cell? _ _ (hHeld.2.2.2.2.2.2.1))).trans (hHeld.2.2.2.2.2.2.1); have HS7_ := (hb.cell (World.block_lt_of_cell? _ _ (hHeld.2.2.2.2.2.2.2))).trans (hHeld.2.2.2.2.2.2.2); refine ⟨_, rfl, ?_⟩; replace HO_3 := zA HO_3 hb; replace HO_1150003 := zA HO_1150003 hb; replace HO_1159003 := zA HO_1159003 hb; replace BK1149 := zK BK1149 hb; replace BK1158 := zK BK1158 hb; replace HB := zH HB hb; (try clear hb); refine hK.out _ _ (zd5 BK1158.out ⟨HS5_, HS6_, HS7_⟩) (fun hHeld => ?_); clear hK K; refine znm ?_; refine zu 18 524287 ?_; refine zu 19 1048575 ?_; refine done_ (done_of HT_.out (by kernel_rfl)) ?_
          try go_wp2
          go_roundg k2
          case measure => have := HJ5.out; have := HK2.out; omega
          case rel => exact ⟨(wrap64 (x9_2 + 1)), zf, H', ⟨by have := HJ5.out; have := HK2.out; omega⟩, ⟨zr HO_3.out⟩, ⟨zr HO_1150003.out⟩, ⟨zr HO_1159003.out⟩, ⟨zl BK1149.out⟩, ⟨zl BK1158.out⟩, ⟨zb HB.out⟩⟩
         ·replace c41 := Bool.eq_false_iff.mpr c41; subst c41
          have H1 : (some false) = some r := by rw [if_neg (show ¬ (false = true) by decide)] at H; exact H
          clear H; have H := H1; clear H1; obtain rfl := Option.some.inj H
          try go_wp2
          replace HO_3 := z0 (Kd.R_drew HO_3.out); replace HO_1150003 := z0 (Kd.R_drew HO_1150003.out); replace HO_1159003 := z0 (Kd.R_drew HO_1159003.out); replace BK1149 := z0 (blk_drew BK1149.out); replace BK1158 := z0 (blk_drew BK1158.out); replace HB := z0 (below_drew1 HB.out); have p1161 : 0 ≤ (x9_2 : Int) := zd; have q1161 : x9_2 < (t1137.length : Int) := zd; obtain ⟨ad1161, e1161, hx1161_0⟩ := Kd.at_string (Kd.R_reads' HO_3.out).2.2 x9_2 p1161 q1161; cases e1161; replace p1161 := eq_true p1161; replace q1161 := eq_true q1161; have p1163 : 0 ≤ (x9_2 : Int) := zd; have q1163 : x9_2 < (t1137.length : Int) := zd; obtain ⟨ad1163, e1163, hx1163_0⟩ := Kd.at_string (Kd.R_reads' HO_3.out).2.2 x9_2 p1163 q1163; obtain rfl : ad1161 = ad1163 := (by injection e1163); replace p1163 := eq_true p1163; replace q1163 := eq_true q1163; have p1164 : 0 ≤ (x9_2 : Int) := zd; have q1164 : x9_2 < (t1137.length : Int) := zd; obtain ⟨ad1164, e1164, hx1164_0⟩ := Kd.at_string (Kd.R_reads' HO_3.out).2.2 x9_2 p1164 q1164; obtain rfl : ad1161 = ad1164 := (by injection e1164); replace p1164 := eq_true p1164; replace q1164 := eq_true q1164; refine start_ (n := 20) (S := fun w' => w'.cell? ⟨gb1158, 0, none⟩ = some (.string t1150) ∧ w'.cell? ⟨gb1158, 1, none⟩ = some (.string t1151) ∧ w'.cell? ⟨gb1158, 2, none⟩ = some (.string t1152) ∧ w'.cell? ⟨gb1158, 3, none⟩ = some (.slice Ao17 t1153.length co17) ∧ w'.cell? ⟨gb1158, 4, none⟩ = some (.int .i64 t1156) ∧ w'.cell? (ad1161.add (x9_2).toNat) = some (.string (rdOf ByteArray.empty t1137 x9_2)) ∧ w'.cell? (ad1161.add (x9_2).toNat) = some (.string (rdOf ByteArray.empty t1137 x9_2)) ∧ w'.cell? (ad1161.add (x9_2).toNat) = some (.string (rdOf ByteArray.empty t1137 x9_2))) (ds := []) (fb 20 0) (by kernel_rfl) rfl rfl (zd5 BK1158.out ⟨hx1161_0, hx1163_0, hx1164_0⟩) (fun hHeld => ?_); refine with_tabW laws_FnSieveNever.tab11 laws_FnSieveNever.bits11 (fun HT_ HW_ => ?_); generalize wr.drew = w45 at HO_3 HO_1150003 HO_1159003 BK1149 BK1158 HB hx1161_0 hx1163_0 hx1164_0 hHeld ⊢; refine zu 1 2 ?_; refine zu 2 6 ?_; refine zu 3 14 ?_; refine zx 0 15 hHeld ?_; refine zx 4 31 hHeld ?_; refine zone 5 63 (fun K hK => ?_); refine zG2 Try.func28 #[.agg #[.string t1150, .string t1151, .string t1152, .slice Ao17 t1153.length co17, .int .i64 t1156], .string (rdOf ByteArray.empty t1137 x9_2)] ?_
          with_reducible refine (impl_SieveHas.calls k2 t1150 t1151 t1152 _ _ t1153 t1156 (rdOf ByteArray.empty t1137 x9_2) true _ ?side1 ?side2 A38.out).mono ?_
          (case side1 => repeat (first | exact (Kd.R_reads' HO_1159003.out).2.2 | (with_reducible refine Kd.C_alloc ?_ _) | (with_reducible refine Kd.C_drewN ?_ _) | (with_reducible refine Kd.C_drew ?_))); (case side2 => exact (Kd.R_reads' HO_1159003.out).2.1); rintro e w46 ⟨rfl, hb⟩; have HS5_ := (hb.cell (World.block_lt_of_cell? _ _ (hHeld.2.2.2.2.2.1))).trans (hHeld.2.2.2.2.2.1); have HS6_ := (hb.cell (World.block_lt_of_cell? _ _ (hHeld.2.2.2.2.2.2.1))).trans (hHeld.2.2.2.2.2.2.1); have HS7_ := (hb.cell (World.block_lt_of_cell? _ _ (hHeld.2.2.2.2.2.2.2))).trans (hHeld.2.2.2.2.2.2.2); refine ⟨_, rfl, ?_⟩; replace HO_3 := zA HO_3 hb; replace HO_1150003 := zA HO_1150003 hb; replace HO_1159003 := zA HO_1159003 hb; replace BK1149 := zK BK1149 hb; replace BK1158 := zK BK1158 hb; replace HB := zH HB hb; (try clear hb); refine hK.out _ _ (zd5 BK1158.out ⟨HS5_, HS6_, HS7_⟩) (fun hHeld => ?_); clear hK K; refine znm ?_; refine zu 6 127 ?_; refine zu 7 255 ?_; refine zu 9 767 ?_; refine zu 10 1791 ?_; refine zu 11 3839 ?_; refine zu 13 12031 ?_; refine zu 14 28415 ?_; refine zu 15 61183 ?_; refine zx 8 61439 hHeld ?_; refine zx 12 65535 hHeld ?_; refine zx 16 131071 hHeld ?_; refine zone 17 262143 (fun K hK => ?_); refine zG2 Try.func32 #[.agg #[.string t1150, .string t1151, .string t1152, .slice Ao17 t1153.length co17, .int .i64 t1156], .string (rdOf ByteArray.empty t1137 x9_2), .string (rdOf ByteArray.empty t1137 x9_2)] ?_
          with_reducible refine (impl_SieveMeets.calls k2 t1150 t1151 t1152 _ _ t1153 t1156 (rdOf ByteArray.empty t1137 x9_2) (rdOf ByteArray.empty t1137 x9_2) false _ ?side1 ?side2 A40.out).mono ?_
          (case side1 => repeat (first | exact (Kd.R_reads' HO_1159003.out).2.2 | (with_reducible refine Kd.C_alloc ?_ _) | (with_reducible refine Kd.C_drewN ?_ _) | (with_reducible refine Kd.C_drew ?_))); (case side2 => exact (Kd.R_reads' HO_1159003.out).2.1); rintro e w47 ⟨rfl, hb⟩; have HS5_ := (hb.cell (World.block_lt_of_cell? _ _ (hHeld.2.2.2.2.2.1))).trans (hHeld.2.2.2.2.2.1); have HS6_ := (hb.cell (World.block_lt_of_cell? _ _ (hHeld.2.2.2.2.2.2.1))).trans (hHeld.2.2.2.2.2.2.1); have HS7_ := (hb.cell (World.block_lt_of_cell? _ _ (hHeld.2.2.2.2.2.2.2))).trans (hHeld.2.2.2.2.2.2.2); refine ⟨_, rfl, ?_⟩; replace HO_3 := zA HO_3 hb; replace HO_1150003 := zA HO_1150003 hb; replace HO_1159003 := zA HO_1159003 hb; replace BK1149 := zK BK1149 hb; replace BK1158 := zK BK1158 hb; replace HB := zH HB hb; (try clear hb); refine hK.out _ _ (zd5 BK1158.out ⟨HS5_, HS6_, HS7_⟩) (fun hHeld => ?_); clear hK K; refine znm ?_; refine zu 18 524287 ?_; refine zu 19 1048575 ?_; refine done_ (done_of HT_.out (by kernel_rfl)) ?_
          try go_wp2
          go_ret; exact ⟨ze, zb HB.out⟩
        ·replace c39 := Bool.eq_false_iff.mpr c39; subst c39
         have H1 : (some false) = some r := by rw [if_neg (show ¬ (false = true) by decide)] at H; exact H
         clear H; have H := H1; clear H1; obtain rfl := Option.some.inj H
         try go_wp2
         replace HO_3 := z0 (Kd.R_drew HO_3.out); replace HO_1150003 := z0 (Kd.R_drew HO_1150003.out); replace HO_1159003 := z0 (Kd.R_drew HO_1159003.out); replace BK1149 := z0 (blk_drew BK1149.out); replace BK1158 := z0 (blk_drew BK1158.out); replace HB := z0 (below_drew1 HB.out); have p1161 : 0 ≤ (x9_2 : Int) := zd; have q1161 : x9_2 < (t1137.length : Int) := zd; obtain ⟨ad1161, e1161, hx1161_0⟩ := Kd.at_string (Kd.R_reads' HO_3.out).2.2 x9_2 p1161 q1161; cases e1161; replace p1161 := eq_true p1161; replace q1161 := eq_true q1161; refine start_ (n := 20) (S := fun w' => w'.cell? ⟨gb1158, 0, none⟩ = some (.string t1150) ∧ w'.cell? ⟨gb1158, 1, none⟩ = some (.string t1151) ∧ w'.cell? ⟨gb1158, 2, none⟩ = some (.string t1152) ∧ w'.cell? ⟨gb1158, 3, none⟩ = some (.slice Ao17 t1153.length co17) ∧ w'.cell? ⟨gb1158, 4, none⟩ = some (.int .i64 t1156) ∧ w'.cell? (ad1161.add (x9_2).toNat) = some (.string (rdOf ByteArray.empty t1137 x9_2))) (ds := []) (fb 20 0) (by kernel_rfl) rfl rfl (zd5 BK1158.out hx1161_0) (fun hHeld => ?_); refine with_tabW laws_FnSieveNever.tab11 laws_FnSieveNever.bits11 (fun HT_ HW_ => ?_); generalize wr.drew = w48 at HO_3 HO_1150003 HO_1159003 BK1149 BK1158 HB hx1161_0 hHeld ⊢; refine zu 1 2 ?_; refine zu 2 6 ?_; refine zu 3 14 ?_; refine zx 0 15 hHeld ?_; refine zx 4 31 hHeld ?_; refine zone 5 63 (fun K hK => ?_); refine zG2 Try.func28 #[.agg #[.string t1150, .string t1151, .string t1152, .slice Ao17 t1153.length co17, .int .i64 t1156], .string (rdOf ByteArray.empty t1137 x9_2)] ?_
         with_reducible refine (impl_SieveHas.calls k2 t1150 t1151 t1152 _ _ t1153 t1156 (rdOf ByteArray.empty t1137 x9_2) false _ ?side1 ?side2 A38.out).mono ?_
         (case side1 => repeat (first | exact (Kd.R_reads' HO_1159003.out).2.2 | (with_reducible refine Kd.C_alloc ?_ _) | (with_reducible refine Kd.C_drewN ?_ _) | (with_reducible refine Kd.C_drew ?_))); (case side2 => exact (Kd.R_reads' HO_1159003.out).2.1); rintro e w49 ⟨rfl, hb⟩; have HS5_ := (hb.cell (World.block_lt_of_cell? _ _ (hHeld.2.2.2.2.2))).trans (hHeld.2.2.2.2.2); refine ⟨_, rfl, ?_⟩; replace HO_3 := zA HO_3 hb; replace HO_1150003 := zA HO_1150003 hb; replace HO_1159003 := zA HO_1159003 hb; replace BK1149 := zK BK1149 hb; replace BK1158 := zK BK1158 hb; replace HB := zH HB hb; (try clear hb); refine hK.out _ _ (zd5 BK1158.out HS5_) (fun hHeld => ?_); clear hK K; refine znm ?_; refine zu 6 127 ?_; refine zu 7 255 ?_; refine zw 8 511 ?_; refine zw 9 1023 ?_; refine zw 10 2047 ?_; refine zw 11 4095 ?_; refine zw 12 8191 ?_; refine zw 13 16383 ?_; refine zw 14 32767 ?_; refine zw 15 65535 ?_; refine zw 16 131071 ?_; refine zw 17 262143 ?_; refine zw 18 524287 ?_; refine zu 19 1048575 ?_; refine done_ (done_of HT_.out (by kernel_rfl)) ?_
         try go_wp2
         go_ret; exact ⟨ze, zb HB.out⟩
       ·rw [if_neg c36] at H; have c36b0 := decide_eq_false c36; clear c36; obtain rfl := Option.some.inj H; go_wp2; go_ret; exact ⟨ze, zb HB.out⟩
theorem laws_FnSieveNever.walk (P : laws_FnSieveNever.Pure) (a0 : Option Addr) (len0 cap0 : Nat) (z0 : List Int) (w : World) (w0 : (a0 = none ∧ len0 = 0 ∧ cap0 = 0 ∧ z0 = []) ∨ ∃ x, a0 = some x ∧ len0 ≤ cap0 ∧ cap0 ≤ maxLen ∧ z0.length = cap0 ∧ (∀ i, i < z0.length → w.cell? (x.add i) = some (.int .u8 (z0.getD i 0))) ∧ ∀ n ∈ z0, (Lit.int .u8 n).wf = true) (y0 : len0 * 1 ≤ 140737488351232) :
    Calls Try.prog 13 #[.slice a0 len0 cap0] w fun e w' => e = .returned (.bool true) ∧ Below w.heap.size w w' := by
  obtain ⟨l0, rfl, hr0, hm0, hw0, hc0⟩ := ReadsInt.ofRowC w0
  obtain ⟨k, h⟩ := P l0 hm0 y0 hw0
  refine (laws_FnSieveNever.calls k _ _ l0 true w (Kd.C_of_reads (d := (0 : Int)) (h1 := fun _ => rfl) hr0) hc0 h).mono ?_
  rintro e w' ⟨rfl, hd⟩
  exact ⟨rfl, hd⟩
end Go.Proofs.Ytifgcajpkgamgaa.Q
end
section
set_option linter.unusedVariables false
set_option linter.unusedSimpArgs false
namespace Go.Proofs.Ytifgcajpkgamgaa.Pure
open Go Go.RowKit Go.Proofs.YtifgcajpkgamgaaW.PrintWords Go.Proofs.YtifgcajpkgamgaaW.PrintLast Go.Proofs.YtifgcajpkgamgaaW.PrintMore Go.Proofs.Ytifgcajpkgamgaa.Trie Go.Proofs.Ytifgcajpkgamgaa.Q Go.Proofs.Ytifgcajpkgamgaa.Pb
theorem never_l0 (l : List ByteArray) (keep : Nat) {Lt Mo Fi : ByteArray} {Rs : List ByteArray} (h : Is (LL l) keep Lt Mo Fi Rs) (d : Nat) : ∀ i : Nat, i ≤ l.length → l.length - i = d →
  Ev (fun k => laws_FnSieveNever.l0 k l (i : Int) Lt Mo Fi Rs (keep : Int)) true := by
 have hn : l.length ≤ 24 := by have := h.ok.few; rwa [LL_length] at this
 have hh := heads_of h
 induction d with
 | zero =>
  intro i h1 h2
  refine ev_succ ?_
  simp only [laws_FnSieveNever.l0]
  exact ev_neg (by omega) (ev_some rfl)
 | succ d ih =>
  intro i h1 h2
  have ih := ih (i + 1) (by omega) (by omega)
  refine ev_succ ?_
  simp only [laws_FnSieveNever.l0]
  have hw : ∀ _ : Unit, wrap64 ((i : Int) + 1) = ((i + 1 : Nat) : Int) := fun _ => by rw [w64 (by omega) (by omega)]; omega
  rw [hw ()]
  have hm : L (rdOf ByteArray.empty l (i : Int)) ∈ LL l := by
   show L (l.getD i ByteArray.empty) ∈ LL l
   rw [getD_lt _ (show i < l.length by omega)]
   exact LL_mem (List.getElem_mem _)
  have hk := h.ok.ok _ hm
  have hs := kok_size hk
  have h1' := impl_has_yes h hh _ hs
  have hv := has_self (keep := keep) h.ok.ok hm
  rw [hv] at h1'
  have h2' := impl_meets_yes h hh _ _ hs hs
  rw [meets_of_has h.ok hv hk hk (key_irrefl _) (key_irrefl _)] at h2'
  exact ev_pos (by omega) (ev_pos (by omega) (Ev.bind h1' (ev_pos rfl (Ev.bind h2' (ev_pos rfl ih)))))
theorem FnSieveNever : laws_FnSieveNever.Pure := by
 intro l0 hl _ hw
 refine Ev.rounds ?_
 unfold laws_FnSieveNever.f
 by_cases c : (l0.length : Int) > 1048576
 ·exact ev_pos c (ev_some rfl)
 ·obtain ⟨s, a, hd, hz, hn⟩ := DrawSieveOf_ev l0 hl hw
  have i1 := spec_SieveOf_ev s hz a
  have i2 := impl_SieveOf_ev s hz a
  have hf := sieveV_few (LL s) a
  have lt := ltSieve_ev (sieveV (LL s) a) hf
  refine ev_neg c (Ev.bind hd (Ev.bind i1 (Ev.bind i2 (ev_neg (by simp) (Ev.bind lt (ev_pos rfl (ev_succ ?_)))))))
  simp only [laws_FnSieveNever.j0]
  rcases sieveV_cases (LL s) a with ⟨h1, _⟩ | ⟨keep, Lt, Mo, Fi, Rs, e, h1, hI⟩
  ·rw [h1]
   exact ev_pos (by simp) (ev_pos (by simp) (Ev.bind lt (ev_some rfl)))
  ·rw [h1]
   have hh := heads_of hI
   have hK := hI.ok.ok
   have hle := LL_length s
   have hfew := hI.ok.few
   exact ev_neg (by simp) (never_l0 s keep hI s.length 0 (Nat.zero_le _) rfl)
end Go.Proofs.Ytifgcajpkgamgaa.Pure
end
