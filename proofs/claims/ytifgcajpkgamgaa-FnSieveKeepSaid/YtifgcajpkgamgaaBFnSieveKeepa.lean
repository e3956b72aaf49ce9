/- What the law FnSieveKeep needs: the kit's printed words, the printed functions with their proofs, and plain facts on them. -/
import Derived.Test.YtifgcajpkgamgaaBSAf
section
namespace Go.Proofs.Ytifgcajpkgamgaa.Q
open Go.RowKit Go.Proofs.YtifgcajpkgamgaaW.PrintWords Go.Proofs.YtifgcajpkgamgaaW.PrintLast Go.Proofs.YtifgcajpkgamgaaW.PrintMore
attribute [local go_sem] max2_int min2_int max_two min_two max_three min_three max_four min_four   
set_option linter.unusedVariables false
set_option linter.unusedSimpArgs false
set_option maxHeartbeats 8000000
set_option maxRecDepth 100000
theorem impl_SieveOk.mono : ∀ a0 a1 a2 a3 a4 k, LeO (impl_SieveOk.f k a0 a1 a2 a3 a4) (impl_SieveOk.f (k + 1) a0 a1 a2 a3 a4) := by
  intro a0 a1 a2 a3 a4 k
  unfold impl_SieveOk.f
  repeat' first | (with_reducible first | apply impl_Sieve_heads.mono | exact LeO.refl _ | exact LeO.none _ | refine LeO.ite ?_ ?_ | refine LeO.bind ?_ (fun _ => ?_)) | exact LeO.none _ | refine LeO.ite ?_ ?_ | refine LeO.bind ?_ (fun _ => ?_)
theorem impl_SieveOk.calls (k : Nat) (a0_0 a0_1 a0_2 : ByteArray) (A0_3 : Option Addr) (c0_3 : Nat) (l0_3 : List ByteArray) (a0_4 : Int) (r : Bool) (w : World) (hr0_3 : Kd.C Kd.string w A0_3 l0_3.length l0_3) (hc0_3 : l0_3.length ≤ c0_3) (h : impl_SieveOk.f k a0_0 a0_1 a0_2 l0_3 a0_4 = some r) :
    Calls Try.prog 48 #[.agg #[.string a0_0, .string a0_1, .string a0_2, .slice A0_3 l0_3.length c0_3, .int .i64 a0_4]] w fun e w' => e = .returned (.bool r) ∧ Below w.heap.size w w' := by
 have hu25 := Try.underlying25; have HR0_3 := z0 hr0_3; have HC0_3 := z0 hc0_3; clear hr0_3 hc0_3; have HB := z0 (Below.refl w.heap.size w); have H : ((impl_Sieve_heads.f k a0_0 a0_1 a0_2 l0_3 a0_4).bind fun bt390 => (some bt390.2)) = some r := h; clear h; replace H := zi H; obtain ⟨⟨t390, t393⟩, A2, H⟩ := H; (try dsimp only at H); obtain rfl := Option.some.inj H; go_enter Try.func48, Try.ntmps48
 go_wp2_with (first | ((with_reducible refine gd 1 ?_); refine zbx 25 #[.string a0_0, .string a0_1, .string a0_2, .slice A0_3 l0_3.length c0_3, .int .i64 a0_4] ?_; intro gb389 hg w3 hbox hb; have BK389 := z0 (hbox); have GE389 := zG hg HB; replace HB := zH HB hb; clear hb hbox hg; have hcz4 := zc5 BK389.out) | ((with_reducible refine gc 89 ?_); refine zL (some 7) Try.func89 #[.agg #[.string a0_0, .string a0_1, .string a0_2, .slice A0_3 l0_3.length c0_3, .int .i64 a0_4]] ?_; (with_reducible refine (impl_Sieve_heads.calls k a0_0 a0_1 a0_2 _ _ l0_3 a0_4 t390 t393 _ (zC (Kd.C_below HR0_3.out HB.out)) HC0_3.out A2.out).mono ?_); rintro e w5 ⟨v391, rfl, ho0, hb⟩; refine zv ?_; have HO392 := z0 (Kd.R_lower ho0 (below_size (zb HB.out))); replace BK389 := zK BK389 hb; replace HB := zH HB hb; (try clear hb ho0)))
 go_ret; exact ⟨ze, zb HB.out⟩
theorem impl_Sieve_has.mono_l : ∀ k, (∀ y0 y1 y2 y3 y4 y5 y6 y7, LeO (impl_Sieve_has.l0 k y0 y1 y2 y3 y4 y5 y6 y7) (impl_Sieve_has.l0 (k + 1) y0 y1 y2 y3 y4 y5 y6 y7)) ∧ (∀ y0 y1 y2 y3 y4 y5 y6 y7 y8, LeO (impl_Sieve_has.j2 k y0 y1 y2 y3 y4 y5 y6 y7 y8) (impl_Sieve_has.j2 (k + 1) y0 y1 y2 y3 y4 y5 y6 y7 y8)) ∧ (∀ y0 y1 y2 y3 y4 y5 y6 y7 y8, LeO (impl_Sieve_has.l1 k y0 y1 y2 y3 y4 y5 y6 y7 y8) (impl_Sieve_has.l1 (k + 1) y0 y1 y2 y3 y4 y5 y6 y7 y8))
  | 0 => ⟨fun _ _ _ _ _ _ _ _ r h => by simp [impl_Sieve_has.l0] at h, fun _ _ _ _ _ _ _ _ _ r h => by simp [impl_Sieve_has.j2] at h, fun _ _ _ _ _ _ _ _ _ r h => by simp [impl_Sieve_has.l1] at h⟩
  | k + 1 => by
    obtain ⟨ih0, ih1, ih2⟩ := impl_Sieve_has.mono_l k
    refine ⟨?_, ?_, ?_⟩
    · intro y0 y1 y2 y3 y4 y5 y6 y7
      unfold impl_Sieve_has.l0
      repeat' first | (with_reducible first | apply ih0 | apply ih1 | apply ih2 | apply impl_Sieve_branches.mono | exact LeO.refl _ | exact LeO.none _ | refine LeO.ite ?_ ?_ | refine LeO.bind ?_ (fun _ => ?_)) | exact LeO.none _ | refine LeO.ite ?_ ?_ | refine LeO.bind ?_ (fun _ => ?_)
    · intro y0 y1 y2 y3 y4 y5 y6 y7 y8
      unfold impl_Sieve_has.j2
      repeat' first | (with_reducible first | apply ih0 | apply ih1 | apply ih2 | apply impl_Sieve_branches.mono | exact LeO.refl _ | exact LeO.none _ | refine LeO.ite ?_ ?_ | refine LeO.bind ?_ (fun _ => ?_)) | exact LeO.none _ | refine LeO.ite ?_ ?_ | refine LeO.bind ?_ (fun _ => ?_)
    · intro y0 y1 y2 y3 y4 y5 y6 y7 y8
      unfold impl_Sieve_has.l1
      repeat' first | (with_reducible first | apply ih0 | apply ih1 | apply ih2 | apply impl_Sieve_branches.mono | exact LeO.refl _ | exact LeO.none _ | refine LeO.ite ?_ ?_ | refine LeO.bind ?_ (fun _ => ?_)) | exact LeO.none _ | refine LeO.ite ?_ ?_ | refine LeO.bind ?_ (fun _ => ?_)
theorem impl_Sieve_has.mono : ∀ a0 a1 a2 a3 a4 a5 k, LeO (impl_Sieve_has.f k a0 a1 a2 a3 a4 a5) (impl_Sieve_has.f (k + 1) a0 a1 a2 a3 a4 a5) := by
  intro a0 a1 a2 a3 a4 a5 k
  obtain ⟨ih0, ih1, ih2⟩ := impl_Sieve_has.mono_l k
  unfold impl_Sieve_has.f
  repeat' first | (with_reducible first | apply ih0 | apply ih1 | apply ih2 | apply impl_Sieve_branches.mono | exact LeO.refl _ | exact LeO.none _ | refine LeO.ite ?_ ?_ | refine LeO.bind ?_ (fun _ => ?_)) | exact LeO.none _ | refine LeO.ite ?_ ?_ | refine LeO.bind ?_ (fun _ => ?_)
theorem impl_Sieve_has.calls (k : Nat) (a0_0 a0_1 a0_2 : ByteArray) (A0_3 : Option Addr) (c0_3 : Nat) (l0_3 : List ByteArray) (a0_4 : Int) (a1 : ByteArray) (r : Bool) (w : World) (hr0_3 : Kd.C Kd.string w A0_3 l0_3.length l0_3) (hc0_3 : l0_3.length ≤ c0_3) (h : impl_Sieve_has.f k a0_0 a0_1 a0_2 l0_3 a0_4 a1 = some r) :
    Calls Try.prog 68 #[.agg #[.string a0_0, .string a0_1, .string a0_2, .slice A0_3 l0_3.length c0_3, .int .i64 a0_4], .string a1] w fun e w' => e = .returned (.bool r) ∧ Below w.heap.size w w' := by
 have hu25 := Try.underlying25; have HR0_3 := z0 hr0_3; have HC0_3 := z0 hc0_3; clear hr0_3 hc0_3; have HB := z0 (Below.refl w.heap.size w); have H : (impl_Sieve_has.l0 k a1 0 0 a0_0 a0_1 a0_2 l0_3 a0_4) = some r := h; clear h; have H' := z0 H; clear H; go_enter Try.func68, Try.ntmps68
 go_wp2_with (first | ((with_reducible refine gd 2 ?_); refine zbx 25 #[.string a0_0, .string a0_1, .string a0_2, .slice A0_3 l0_3.length c0_3, .int .i64 a0_4] ?_; intro gb396 hg w3 hbox hb; have BK396 := z0 (hbox); have GE396 := zG hg HB; replace HB := zH HB hb; clear hb hbox hg))
 repeat (go_quiet (first | ((with_reducible refine gd 2 ?_); refine zbx 25 #[.string a0_0, .string a0_1, .string a0_2, .slice A0_3 l0_3.length c0_3, .int .i64 a0_4] ?_; intro gb396 hg w3 hbox hb; have BK396 := z0 (hbox); have GE396 := zG hg HB; replace HB := zH HB hb; clear hb hbox hg)); try go_wp2_with (first | ((with_reducible refine gd 2 ?_); refine zbx 25 #[.string a0_0, .string a0_1, .string a0_2, .slice A0_3 l0_3.length c0_3, .int .i64 a0_4] ?_; intro gb396 hg w3 hbox hb; have BK396 := z0 (hbox); have GE396 := zG hg HB; replace HB := zH HB hb; clear hb hbox hg)))
 go_loopg [5, 6] k (fun kq v5 v6 w' => ∃ (x5_1 : Int) (x6_1 : Int), v5 = .int .i64 x5_1 ∧ v6 = .int .i64 x6_1 ∧ Aside0 (impl_Sieve_has.l0 kq a1 x5_1 x6_1 a0_0 a0_1 a0_2 l0_3 a0_4 = some r) ∧ Aside0 (kq ≤ k) ∧ Aside0 (w'.heap[gb396]? = some (.cells #[.string a0_0, .string a0_1, .string a0_2, (.slice A0_3 l0_3.length c0_3), .int .i64 a0_4] 25 (0, 0))) ∧ Aside0 (Below w.heap.size w w'))
 case atStart => exact ⟨(0), (0), zf, zf, H', ⟨Nat.le_refl _⟩, ⟨zl BK396.out⟩, ⟨zb HB.out⟩⟩
 case round =>
  clear H'
  try clear p2
  obtain ⟨x5_1, x6_1, rfl, rfl, HA, HK1, BK396, HB⟩ := hrel
  cases gk with
  | zero => exact absurd HA.out (by simp [impl_Sieve_has.l0])
  | succ k1 =>
   have H := HA.out; clear HA; simp only [impl_Sieve_has.l0] at H; replace H := zi H; obtain ⟨⟨t397, t398⟩, A4, H⟩ := H; (try dsimp only at H); have HC5 := z0 H; clear H; have hcz6 := zc5 BK396.out
   go_upto_block 2 with (first | (go_at_call 102; (with_reducible refine (impl_Sieve_branches.calls k1 a0_0 a0_1 a0_2 _ _ l0_3 a0_4 x5_1 t397 t398 _ ?side1 ?side2 A4.out).mono ?_); (case side1 => repeat (first | exact (Kd.C_below HR0_3.out HB.out) | (with_reducible refine Kd.C_alloc ?_ _) | (with_reducible refine Kd.C_drewN ?_ _) | (with_reducible refine Kd.C_drew ?_))); (case side2 => exact HC0_3.out); rintro e w7 ⟨rfl, hb⟩; replace BK396 := zK BK396 hb; replace HB := zH HB hb; (try clear hb)))
   repeat (go_quiet (first | (go_at_call 102; (with_reducible refine (impl_Sieve_branches.calls k1 a0_0 a0_1 a0_2 _ _ l0_3 a0_4 x5_1 t397 t398 _ ?side1 ?side2 A4.out).mono ?_); (case side1 => repeat (first | exact (Kd.C_below HR0_3.out HB.out) | (with_reducible refine Kd.C_alloc ?_ _) | (with_reducible refine Kd.C_drewN ?_ _) | (with_reducible refine Kd.C_drew ?_))); (case side2 => exact HC0_3.out); rintro e w7 ⟨rfl, hb⟩; replace BK396 := zK BK396 hb; replace HB := zH HB hb; (try clear hb))); go_upto_block 2 with (first | (go_at_call 102; (with_reducible refine (impl_Sieve_branches.calls k1 a0_0 a0_1 a0_2 _ _ l0_3 a0_4 x5_1 t397 t398 _ ?side1 ?side2 A4.out).mono ?_); (case side1 => repeat (first | exact (Kd.C_below HR0_3.out HB.out) | (with_reducible refine Kd.C_alloc ?_ _) | (with_reducible refine Kd.C_drewN ?_ _) | (with_reducible refine Kd.C_drew ?_))); (case side2 => exact HC0_3.out); rintro e w7 ⟨rfl, hb⟩; replace BK396 := zK BK396 hb; replace HB := zH HB hb; (try clear hb))))
   (try simp only [Act.put, List.setIfInBounds_toArray, List.set_cons_zero, List.set_cons_succ])
   go_cut [9] (fun v9 wc => ∃ (kq : Nat) (x9_4 : Int), v9 = .int .i64 x9_4 ∧ Aside0 (impl_Sieve_has.j2 kq a1 x6_1 t398 x9_4 a0_0 a0_1 a0_2 l0_3 a0_4 = some r) ∧ Aside0 (kq ≤ k1) ∧ Aside0 (wc.heap[gb396]? = some (.cells #[.string a0_0, .string a0_1, .string a0_2, (.slice A0_3 l0_3.length c0_3), .int .i64 a0_4] 25 (0, 0))) ∧ Aside0 (Below w.heap.size w wc))
   case first =>
    have H := HC5.out; clear HC5; have H' := z0 H; clear H; go_wp2
    repeat (go_quiet (fail); try go_wp2)
    go_loopg [9] k1 (fun kq v9 w' => ∃ (x9_2 : Int), v9 = .int .i64 x9_2 ∧ Aside0 (impl_Sieve_has.l1 kq a1 x6_1 t398 x9_2 a0_0 a0_1 a0_2 l0_3 a0_4 = some r) ∧ Aside0 (kq ≤ k1) ∧ Aside0 (w'.heap[gb396]? = some (.cells #[.string a0_0, .string a0_1, .string a0_2, (.slice A0_3 l0_3.length c0_3), .int .i64 a0_4] 25 (0, 0))) ∧ Aside0 (Below w.heap.size w w'))
    case atStart => exact ⟨(t397), zf, H', ⟨Nat.le_refl _⟩, ⟨zl BK396.out⟩, ⟨zb HB.out⟩⟩
    case round =>
     clear H'
     try clear p2
     try clear c6
     try clear hcz6
     try clear p2
     obtain ⟨x9_2, rfl, HA, HK2, BK396, HB⟩ := hrel
     cases gk with
     | zero => exact absurd HA.out (by simp [impl_Sieve_has.l1])
     | succ k2 =>
      have H := HA.out; clear HA; simp only [impl_Sieve_has.l1] at H
      by_cases c8 : x9_2 < t398
      ·rw [if_pos c8] at H; have c8b0 := decide_eq_true c8; clear c8; (first | rw [c8b0] | (simp only [i64_w, i32_w]; rw [c8b0]) | simp only [*, Bool.not_true, Bool.not_false] | skip); replace H := zn H; obtain ⟨c9, H⟩ := H; have c9b0 := decide_eq_true c9; clear c9; replace H := zn H; obtain ⟨c10, H⟩ := H; have c10b0 := decide_eq_true c10; clear c10; replace H := zi H; obtain ⟨t399, A12, H⟩ := H; have hcz13 := zc5 BK396.out; have p11 : 0 ≤ (x9_2 : Int) := zd; have q11 : x9_2 < (a0_0.size : Int) := zd; have hx11 := bt_at a0_0 x9_2; replace p11 := eq_true p11; replace q11 := eq_true q11
       go_upto_if 32 with (first | (go_at_call 103; (with_reducible refine (impl_label.calls a1 x6_1 t399 _ A12.out).mono ?_); rintro e w' ⟨rfl, ⟨nd, rfl⟩⟩; (try exact zdd)))
       repeat (go_quiet (first | (go_at_call 103; (with_reducible refine (impl_label.calls a1 x6_1 t399 _ A12.out).mono ?_); rintro e w' ⟨rfl, ⟨nd, rfl⟩⟩; (try exact zdd))); go_upto_if 32 with (first | (go_at_call 103; (with_reducible refine (impl_label.calls a1 x6_1 t399 _ A12.out).mono ?_); rintro e w' ⟨rfl, ⟨nd, rfl⟩⟩; (try exact zdd))))
       by_cases c14 : (bt a0_0 x9_2) = t399
       ·rw [if_pos c14] at H; have c14b0 : ((bt a0_0 x9_2) == t399) = true := beq_iff_eq.mpr c14; have c14b1 : ((bt a0_0 x9_2) != t399) = false := bne_eq_false_iff_eq.mpr c14; clear c14; (first | rw [c14b0] | (simp only [i64_w, i32_w]; rw [c14b0]) | simp only [*, Bool.not_true, Bool.not_false] | skip); have H' := z0 H; clear H; go_wp2
        repeat (go_quiet (fail); try go_wp2)
        go_meet
        case rel => exact ⟨_, (x9_2), zf, H', ⟨by have := HK1.out; have := HK2.out; first | omega | exact Nat.le_refl _⟩, ⟨zl BK396.out⟩, ⟨zb HB.out⟩⟩
       ·rw [if_neg c14] at H; have c14b0 : ((bt a0_0 x9_2) == t399) = false := beq_eq_false_iff_ne.mpr c14; have c14b1 : ((bt a0_0 x9_2) != t399) = true := bne_iff_ne.mpr c14; (first | rw [c14b0] | (simp only [i64_w, i32_w]; rw [c14b0]) | simp only [*, Bool.not_true, Bool.not_false] | skip); have H' := z0 H; clear H; go_wp2
        repeat (go_quiet (fail); try go_wp2)
        go_roundg k2
        case measure => have := HK1.out; have := HK2.out; omega
        case rel => exact ⟨(wrap64 (x9_2 + 1)), zf, H', ⟨by have := HK1.out; have := HK2.out; omega⟩, ⟨zl BK396.out⟩, ⟨zb HB.out⟩⟩
      ·rw [if_neg c8] at H; have c8b0 := decide_eq_false c8; clear c8; (first | rw [c8b0] | (simp only [i64_w, i32_w]; rw [c8b0]) | simp only [*, Bool.not_true, Bool.not_false] | skip); have H' := z0 H; clear H; go_wp2
       repeat (go_quiet (fail); try go_wp2)
       go_meet
       case rel => exact ⟨_, (x9_2), zf, H', ⟨by have := HK1.out; have := HK2.out; first | omega | exact Nat.le_refl _⟩, ⟨zl BK396.out⟩, ⟨zb HB.out⟩⟩
   case rest =>
    clear HC5
    try clear c1
    try clear p1
    try clear q1
    try clear hx1
    try clear p2
    try clear c6
    try clear p6
    try clear c8
    try clear c8b0
    try clear c9
    try clear c9b0
    try clear c10
    try clear c10b0
    try clear p11
    try clear q11
    try clear hx11
    try clear c14
    try clear c14b0
    try clear c14b1
    try clear hcz13
    try clear hcz6
    try clear p11
    try clear p2
    try clear q11
    obtain ⟨kq, x9_4, rfl, HA, HJ4, BK396, HB⟩ := hcut
    cases kq with
    | zero => exact absurd HA.out (by simp [impl_Sieve_has.j2])
    | succ kj4 =>
     have H := HA.out; clear HA; simp only [impl_Sieve_has.j2] at H
     by_cases c15 : x9_4 = t398
     ·rw [if_pos c15] at H; have c15b0 : (x9_4 == t398) = true := beq_iff_eq.mpr c15; have c15b1 : (x9_4 != t398) = false := bne_eq_false_iff_eq.mpr c15; clear c15; obtain rfl := Option.some.inj H; go_wp2
      repeat (go_quiet (fail); try go_wp2)
      go_ret; exact ⟨ze, zb HB.out⟩
     ·rw [if_neg c15] at H; have c15b0 : (x9_4 == t398) = false := beq_eq_false_iff_ne.mpr c15; have c15b1 : (x9_4 != t398) = true := bne_iff_ne.mpr c15; replace H := zn H; obtain ⟨c16, H⟩ := H; have c16b0 := decide_eq_true c16; clear c16; replace H := zn H; obtain ⟨c17, H⟩ := H; have c17b0 := decide_eq_true c17; clear c17
      by_cases c19 : (bt a0_1 x9_4) = 49
      ·rw [if_pos c19] at H; have c19b0 : ((bt a0_1 x9_4) == 49) = true := beq_iff_eq.mpr c19; have c19b1 : ((bt a0_1 x9_4) != 49) = false := bne_eq_false_iff_eq.mpr c19; clear c19; replace H := zi H; obtain ⟨t400, A20, H⟩ := H; have H' := z0 H; clear H; have hcz21 := zc5 BK396.out; have p18 : 0 ≤ (x9_4 : Int) := zd; have q18 : x9_4 < (a0_1.size : Int) := zd; have hx18 := bt_at a0_1 x9_4; replace p18 := eq_true p18; replace q18 := eq_true q18
       go_wp2_with (first | (go_at_call 104; (with_reducible refine (impl_Sieve_node.calls a0_0 a0_1 a0_2 _ _ l0_3 a0_4 x9_4 t400 _ ?side1 ?side2 A20.out).mono ?_); (case side1 => repeat (first | exact (Kd.C_below HR0_3.out HB.out) | (with_reducible refine Kd.C_alloc ?_ _) | (with_reducible refine Kd.C_drewN ?_ _) | (with_reducible refine Kd.C_drew ?_))); (case side2 => exact HC0_3.out); rintro e w22 ⟨rfl, hb⟩; replace BK396 := zK BK396 hb; replace HB := zH HB hb; (try clear hb)))
       repeat (go_quiet (first | (go_at_call 104; (with_reducible refine (impl_Sieve_node.calls a0_0 a0_1 a0_2 _ _ l0_3 a0_4 x9_4 t400 _ ?side1 ?side2 A20.out).mono ?_); (case side1 => repeat (first | exact (Kd.C_below HR0_3.out HB.out) | (with_reducible refine Kd.C_alloc ?_ _) | (with_reducible refine Kd.C_drewN ?_ _) | (with_reducible refine Kd.C_drew ?_))); (case side2 => exact HC0_3.out); rintro e w22 ⟨rfl, hb⟩; replace BK396 := zK BK396 hb; replace HB := zH HB hb; (try clear hb))); try go_wp2_with (first | (go_at_call 104; (with_reducible refine (impl_Sieve_node.calls a0_0 a0_1 a0_2 _ _ l0_3 a0_4 x9_4 t400 _ ?side1 ?side2 A20.out).mono ?_); (case side1 => repeat (first | exact (Kd.C_below HR0_3.out HB.out) | (with_reducible refine Kd.C_alloc ?_ _) | (with_reducible refine Kd.C_drewN ?_ _) | (with_reducible refine Kd.C_drew ?_))); (case side2 => exact HC0_3.out); rintro e w22 ⟨rfl, hb⟩; replace BK396 := zK BK396 hb; replace HB := zH HB hb; (try clear hb))))
       go_roundg kj4
       case measure => have := HK1.out; have := HJ4.out; omega
       case rel => exact ⟨(t400), (wrap64 (x6_1 + 1)), zf, zf, H', ⟨by have := HK1.out; have := HJ4.out; omega⟩, ⟨zl BK396.out⟩, ⟨zb HB.out⟩⟩
      ·rw [if_neg c19] at H; have c19b0 : ((bt a0_1 x9_4) == 49) = false := beq_eq_false_iff_ne.mpr c19; have c19b1 : ((bt a0_1 x9_4) != 49) = true := bne_iff_ne.mpr c19; obtain ⟨ji23, hji23⟩ : ∃ j_ : Int, (mn (wrap64 (x6_1 + 1)) (a1.size : Int)) = j_ := ⟨_, rfl⟩
       replace H : (if 0 ≤ (ji23) then (if (ji23) ≤ (a1.size : Int) then ((impl_Sieve_complete.f a0_0 a0_1 a0_2 l0_3 a0_4 x9_4).bind fun t401 => (if t401 = true then ((impl_Sieve_rest.f a0_0 a0_1 a0_2 l0_3 a0_4 x9_4).bind fun t402 => (some ((a1.extract ((ji23) : Int).toNat a1.size).toList == t402.toList))) else ((impl_Sieve_rest.f a0_0 a0_1 a0_2 l0_3 a0_4 x9_4).bind fun t403 => ((impl_KeyBegins.f (a1.extract ((ji23) : Int).toNat a1.size) t403).bind fun t404 => (some t404))))) else (none)) else (none)) = some r := by first | (rw [hji23] at H; exact H) | (simp only [hji23] at H ⊢; exact H)
       have hji23_ : (if (a1.size : Int) < (wrap64 (x6_1 + 1)) then (a1.size : Int) else (wrap64 (x6_1 + 1))) = ji23 := hji23; replace H := zn H; obtain ⟨c24, H⟩ := H; have c24b0 := eq_true c24; have c24b1 := decide_eq_true c24; clear c24; replace H := zn H; obtain ⟨c25, H⟩ := H; have c25b0 := eq_true c25; have c25b1 := decide_eq_true c25; clear c25; replace H := zi H; obtain ⟨t401, A26, H⟩ := H
       by_cases c27 : t401 = true
       ·subst c27
        have H1 : ((impl_Sieve_rest.f a0_0 a0_1 a0_2 l0_3 a0_4 x9_4).bind fun t402 => (some ((a1.extract ((ji23) : Int).toNat a1.size).toList == t402.toList))) = some r := by rw [if_pos rfl] at H; exact H
        clear H; have H := H1; clear H1; replace H := zi H; obtain ⟨t402, A28, H⟩ := H; obtain rfl := Option.some.inj H; have hcz29 := zc5 BK396.out; have p18 : 0 ≤ (x9_4 : Int) := zd; have q18 : x9_4 < (a0_1.size : Int) := zd; have hx18 := bt_at a0_1 x9_4; replace p18 := eq_true p18; replace q18 := eq_true q18
        go_wp2_with (first | (go_at_call 105; (with_reducible refine (impl_Sieve_complete.calls a0_0 a0_1 a0_2 _ _ l0_3 a0_4 x9_4 true _ ?side1 ?side2 A26.out).mono ?_); (case side1 => repeat (first | exact (Kd.C_below HR0_3.out HB.out) | (with_reducible refine Kd.C_alloc ?_ _) | (with_reducible refine Kd.C_drewN ?_ _) | (with_reducible refine Kd.C_drew ?_))); (case side2 => exact HC0_3.out); rintro e w30 ⟨rfl, hb⟩; replace BK396 := zK BK396 hb; replace HB := zH HB hb; (try clear hb); have hcz31 := zc5 BK396.out) | (go_at_call 106; (with_reducible refine (impl_Sieve_rest.calls a0_0 a0_1 a0_2 _ _ l0_3 a0_4 x9_4 t402 _ ?side1 ?side2 A28.out).mono ?_); (case side1 => repeat (first | exact (Kd.C_below HR0_3.out HB.out) | (with_reducible refine Kd.C_alloc ?_ _) | (with_reducible refine Kd.C_drewN ?_ _) | (with_reducible refine Kd.C_drew ?_))); (case side2 => exact HC0_3.out); rintro e w32 ⟨rfl, hb⟩; replace BK396 := zK BK396 hb; replace HB := zH HB hb; (try clear hb)))
        repeat (go_quiet (first | (go_at_call 105; (with_reducible refine (impl_Sieve_complete.calls a0_0 a0_1 a0_2 _ _ l0_3 a0_4 x9_4 true _ ?side1 ?side2 A26.out).mono ?_); (case side1 => repeat (first | exact (Kd.C_below HR0_3.out HB.out) | (with_reducible refine Kd.C_alloc ?_ _) | (with_reducible refine Kd.C_drewN ?_ _) | (with_reducible refine Kd.C_drew ?_))); (case side2 => exact HC0_3.out); rintro e w30 ⟨rfl, hb⟩; replace BK396 := zK BK396 hb; replace HB := zH HB hb; (try clear hb); have hcz31 := zc5 BK396.out) | (go_at_call 106; (with_reducible refine (impl_Sieve_rest.calls a0_0 a0_1 a0_2 _ _ l0_3 a0_4 x9_4 t402 _ ?side1 ?side2 A28.out).mono ?_); (case side1 => repeat (first | exact (Kd.C_below HR0_3.out HB.out) | (with_reducible refine Kd.C_alloc ?_ _) | (with_reducible refine Kd.C_drewN ?_ _) | (with_reducible refine Kd.C_drew ?_))); (case side2 => exact HC0_3.out); rintro e w32 ⟨rfl, hb⟩; replace BK396 := zK BK396 hb; replace HB := zH HB hb; (try clear hb))); try go_wp2_with (first | (go_at_call 105; (with_reducible refine (impl_Sieve_complete.calls a0_0 a0_1 a0_2 _ _ l0_3 a0_4 x9_4 true _ ?side1 ?side2 A26.out).mono ?_); (case side1 => repeat (first | exact (Kd.C_below HR0_3.out HB.out) | (with_reducible refine Kd.C_alloc ?_ _) | (with_reducible refine Kd.C_drewN ?_ _) | (with_reducible refine Kd.C_drew ?_))); (case side2 => exact HC0_3.out); rintro e w30 ⟨rfl, hb⟩; replace BK396 := zK BK396 hb; replace HB := zH HB hb; (try clear hb); have hcz31 := zc5 BK396.out) | (go_at_call 106; (with_reducible refine (impl_Sieve_rest.calls a0_0 a0_1 a0_2 _ _ l0_3 a0_4 x9_4 t402 _ ?side1 ?side2 A28.out).mono ?_); (case side1 => repeat (first | exact (Kd.C_below HR0_3.out HB.out) | (with_reducible refine Kd.C_alloc ?_ _) | (with_reducible refine Kd.C_drewN ?_ _) | (with_reducible refine Kd.C_drew ?_))); (case side2 => exact HC0_3.out); rintro e w32 ⟨rfl, hb⟩; replace BK396 := zK BK396 hb; replace HB := zH HB hb; (try clear hb))))
        go_ret; exact ⟨by first | rfl | (simp [errW_none, errW_some] <;> rfl) | (simp only [← hji23]; first | rfl | (simp [errW_none, errW_some] <;> rfl)) | (simp [*, errW_none, errW_some] <;> rfl), zb HB.out⟩
       ·replace c27 := Bool.eq_false_iff.mpr c27; subst c27
        have H1 : ((impl_Sieve_rest.f a0_0 a0_1 a0_2 l0_3 a0_4 x9_4).bind fun t403 => ((impl_KeyBegins.f (a1.extract ((ji23) : Int).toNat a1.size) t403).bind fun t404 => (some t404))) = some r := by rw [if_neg (show ¬ (false = true) by decide)] at H; exact H
        clear H; have H := H1; clear H1; replace H := zi H; obtain ⟨t403, A33, H⟩ := H; replace H := zi H; obtain ⟨t404, A34, H⟩ := H; obtain rfl := Option.some.inj H; have hcz35 := zc5 BK396.out; have p18 : 0 ≤ (x9_4 : Int) := zd; have q18 : x9_4 < (a0_1.size : Int) := zd; have hx18 := bt_at a0_1 x9_4; replace p18 := eq_true p18; replace q18 := eq_true q18
        go_wp2_with (first | (go_at_call 105; (with_reducible refine (impl_Sieve_complete.calls a0_0 a0_1 a0_2 _ _ l0_3 a0_4 x9_4 false _ ?side1 ?side2 A26.out).mono ?_); (case side1 => repeat (first | exact (Kd.C_below HR0_3.out HB.out) | (with_reducible refine Kd.C_alloc ?_ _) | (with_reducible refine Kd.C_drewN ?_ _) | (with_reducible refine Kd.C_drew ?_))); (case side2 => exact HC0_3.out); rintro e w36 ⟨rfl, hb⟩; replace BK396 := zK BK396 hb; replace HB := zH HB hb; (try clear hb); have hcz37 := zc5 BK396.out) | (go_at_call 106; (with_reducible refine (impl_Sieve_rest.calls a0_0 a0_1 a0_2 _ _ l0_3 a0_4 x9_4 t403 _ ?side1 ?side2 A33.out).mono ?_); (case side1 => repeat (first | exact (Kd.C_below HR0_3.out HB.out) | (with_reducible refine Kd.C_alloc ?_ _) | (with_reducible refine Kd.C_drewN ?_ _) | (with_reducible refine Kd.C_drew ?_))); (case side2 => exact HC0_3.out); rintro e w38 ⟨rfl, hb⟩; replace BK396 := zK BK396 hb; replace HB := zH HB hb; (try clear hb)) | (go_at_call 42; (with_reducible refine (impl_KeyBegins.calls (a1.extract ((ji23) : Int).toNat a1.size) t403 t404 _ A34.out).mono ?_); rintro e w' ⟨rfl, ⟨nd, rfl⟩⟩; (try exact zdd)))
        repeat (go_quiet (first | (go_at_call 105; (with_reducible refine (impl_Sieve_complete.calls a0_0 a0_1 a0_2 _ _ l0_3 a0_4 x9_4 false _ ?side1 ?side2 A26.out).mono ?_); (case side1 => repeat (first | exact (Kd.C_below HR0_3.out HB.out) | (with_reducible refine Kd.C_alloc ?_ _) | (with_reducible refine Kd.C_drewN ?_ _) | (with_reducible refine Kd.C_drew ?_))); (case side2 => exact HC0_3.out); rintro e w36 ⟨rfl, hb⟩; replace BK396 := zK BK396 hb; replace HB := zH HB hb; (try clear hb); have hcz37 := zc5 BK396.out) | (go_at_call 106; (with_reducible refine (impl_Sieve_rest.calls a0_0 a0_1 a0_2 _ _ l0_3 a0_4 x9_4 t403 _ ?side1 ?side2 A33.out).mono ?_); (case side1 => repeat (first | exact (Kd.C_below HR0_3.out HB.out) | (with_reducible refine Kd.C_alloc ?_ _) | (with_reducible refine Kd.C_drewN ?_ _) | (with_reducible refine Kd.C_drew ?_))); (case side2 => exact HC0_3.out); rintro e w38 ⟨rfl, hb⟩; replace BK396 := zK BK396 hb; replace HB := zH HB hb; (try clear hb)) | (go_at_call 42; (with_reducible refine (impl_KeyBegins.calls (a1.extract ((ji23) : Int).toNat a1.size) t403 t404 _ A34.out).mono ?_); rintro e w' ⟨rfl, ⟨nd, rfl⟩⟩; (try exact zdd))); try go_wp2_with (first | (go_at_call 105; (with_reducible refine (impl_Sieve_complete.calls a0_0 a0_1 a0_2 _ _ l0_3 a0_4 x9_4 false _ ?side1 ?side2 A26.out).mono ?_); (case side1 => repeat (first | exact (Kd.C_below HR0_3.out HB.out) | (with_reducible refine Kd.C_alloc ?_ _) | (with_reducible refine Kd.C_drewN ?_ _) | (with_reducible refine Kd.C_drew ?_))); (case side2 => exact HC0_3.out); rintro e w36 ⟨rfl, hb⟩; replace BK396 := zK BK396 hb; replace HB := zH HB hb; (try clear hb); have hcz37 := zc5 BK396.out) | (go_at_call 106; (with_reducible refine (impl_Sieve_rest.calls a0_0 a0_1 a0_2 _ _ l0_3 a0_4 x9_4 t403 _ ?side1 ?side2 A33.out).mono ?_); (case side1 => repeat (first | exact (Kd.C_below HR0_3.out HB.out) | (with_reducible refine Kd.C_alloc ?_ _) | (with_reducible refine Kd.C_drewN ?_ _) | (with_reducible refine Kd.C_drew ?_))); (case side2 => exact HC0_3.out); rintro e w38 ⟨rfl, hb⟩; replace BK396 := zK BK396 hb; replace HB := zH HB hb; (try clear hb)) | (go_at_call 42; (with_reducible refine (impl_KeyBegins.calls (a1.extract ((ji23) : Int).toNat a1.size) t403 t404 _ A34.out).mono ?_); rintro e w' ⟨rfl, ⟨nd, rfl⟩⟩; (try exact zdd))))
        go_ret; exact ⟨by first | rfl | (simp [errW_none, errW_some] <;> rfl) | (simp only [← hji23]; first | rfl | (simp [errW_none, errW_some] <;> rfl)) | (simp [*, errW_none, errW_some] <;> rfl), zb HB.out⟩
theorem impl_SieveHas.mono : ∀ a0 a1 a2 a3 a4 a5 k, LeO (impl_SieveHas.f k a0 a1 a2 a3 a4 a5) (impl_SieveHas.f (k + 1) a0 a1 a2 a3 a4 a5) := by
  intro a0 a1 a2 a3 a4 a5 k
  unfold impl_SieveHas.f
  repeat' first | (with_reducible first | apply impl_KeyOk.mono | apply impl_SieveOk.mono | apply impl_Sieve_has.mono | exact LeO.refl _ | exact LeO.none _ | refine LeO.ite ?_ ?_ | refine LeO.bind ?_ (fun _ => ?_)) | exact LeO.none _ | refine LeO.ite ?_ ?_ | refine LeO.bind ?_ (fun _ => ?_)
theorem impl_SieveHas.calls (k : Nat) (a0_0 a0_1 a0_2 : ByteArray) (A0_3 : Option Addr) (c0_3 : Nat) (l0_3 : List ByteArray) (a0_4 : Int) (a1 : ByteArray) (r : Bool) (w : World) (hr0_3 : Kd.C Kd.string w A0_3 l0_3.length l0_3) (hc0_3 : l0_3.length ≤ c0_3) (h : impl_SieveHas.f k a0_0 a0_1 a0_2 l0_3 a0_4 a1 = some r) :
    Calls Try.prog 28 #[.agg #[.string a0_0, .string a0_1, .string a0_2, .slice A0_3 l0_3.length c0_3, .int .i64 a0_4], .string a1] w fun e w' => e = .returned (.bool r) ∧ Below w.heap.size w w' := by
 have hu25 := Try.underlying25; have HR0_3 := z0 hr0_3; have HC0_3 := z0 hc0_3; clear hr0_3 hc0_3; have HB := z0 (Below.refl w.heap.size w); have H : ((impl_SieveOk.f k a0_0 a0_1 a0_2 l0_3 a0_4).bind fun t406 => (if t406 = true then ((impl_KeyOk.f k a1).bind fun t407 => (if t407 = true then ((impl_Sieve_has.f k a0_0 a0_1 a0_2 l0_3 a0_4 a1).bind fun t408 => (some t408)) else (some false))) else (some false))) = some r := h; clear h; replace H := zi H; obtain ⟨t406, A3, H⟩ := H
 by_cases c4 : t406 = true
 ·subst c4
  have H1 : ((impl_KeyOk.f k a1).bind fun t407 => (if t407 = true then ((impl_Sieve_has.f k a0_0 a0_1 a0_2 l0_3 a0_4 a1).bind fun t408 => (some t408)) else (some false))) = some r := by rw [if_pos rfl] at H; exact H
  clear H; have H := H1; clear H1; replace H := zi H; obtain ⟨t407, A5, H⟩ := H
  by_cases c6 : t407 = true
  ·subst c6
   have H1 : ((impl_Sieve_has.f k a0_0 a0_1 a0_2 l0_3 a0_4 a1).bind fun t408 => (some t408)) = some r := by rw [if_pos rfl] at H; exact H
   clear H; have H := H1; clear H1; replace H := zi H; obtain ⟨t408, A7, H⟩ := H; obtain rfl := Option.some.inj H; go_enter Try.func28, Try.ntmps28
   go_wp2_with (first | ((with_reducible refine gd 2 ?_); refine zbx 25 #[.string a0_0, .string a0_1, .string a0_2, .slice A0_3 l0_3.length c0_3, .int .i64 a0_4] ?_; intro gb405 hg w8 hbox hb; have BK405 := z0 (hbox); have GE405 := zG hg HB; replace HB := zH HB hb; clear hb hbox hg; have hcz9 := zc5 BK405.out) | ((with_reducible refine gc 48 ?_); refine zL (some 6) Try.func48 #[.agg #[.string a0_0, .string a0_1, .string a0_2, .slice A0_3 l0_3.length c0_3, .int .i64 a0_4]] ?_; (with_reducible refine (impl_SieveOk.calls k a0_0 a0_1 a0_2 _ _ l0_3 a0_4 true _ (zC (Kd.C_below HR0_3.out HB.out)) HC0_3.out A3.out).mono ?_); rintro e w10 ⟨rfl, hb⟩; refine zv ?_; replace BK405 := zK BK405 hb; replace HB := zH HB hb; (try clear hb)) | (go_at_call 67; (with_reducible refine (impl_KeyOk.calls k a1 true _ A5.out).mono ?_); rintro e w' ⟨rfl, ⟨nd, rfl⟩⟩; have hcz11 := zc5 BK405.out) | (go_at_call 68; (with_reducible refine (impl_Sieve_has.calls k a0_0 a0_1 a0_2 _ _ l0_3 a0_4 a1 t408 _ ?side1 ?side2 A7.out).mono ?_); (case side1 => repeat (first | exact (Kd.C_below HR0_3.out (zb HB.out)) | (with_reducible refine Kd.C_alloc ?_ _) | (with_reducible refine Kd.C_drewN ?_ _) | (with_reducible refine Kd.C_drew ?_))); (case side2 => exact HC0_3.out); rintro e w12 ⟨rfl, hb⟩; replace BK405 := zK BK405 hb; replace HB := zH HB hb; (try clear hb)))
   go_ret; exact ⟨ze, zb HB.out⟩
  ·replace c6 := Bool.eq_false_iff.mpr c6; subst c6
   have H1 : (some false) = some r := by rw [if_neg (show ¬ (false = true) by decide)] at H; exact H
   clear H; have H := H1; clear H1; obtain rfl := Option.some.inj H; go_enter Try.func28, Try.ntmps28
   go_wp2_with (first | ((with_reducible refine gd 2 ?_); refine zbx 25 #[.string a0_0, .string a0_1, .string a0_2, .slice A0_3 l0_3.length c0_3, .int .i64 a0_4] ?_; intro gb405 hg w13 hbox hb; have BK405 := z0 (hbox); have GE405 := zG hg HB; replace HB := zH HB hb; clear hb hbox hg; have hcz14 := zc5 BK405.out) | ((with_reducible refine gc 48 ?_); refine zL (some 6) Try.func48 #[.agg #[.string a0_0, .string a0_1, .string a0_2, .slice A0_3 l0_3.length c0_3, .int .i64 a0_4]] ?_; (with_reducible refine (impl_SieveOk.calls k a0_0 a0_1 a0_2 _ _ l0_3 a0_4 true _ (zC (Kd.C_below HR0_3.out HB.out)) HC0_3.out A3.out).mono ?_); rintro e w15 ⟨rfl, hb⟩; refine zv ?_; replace BK405 := zK BK405 hb; replace HB := zH HB hb; (try clear hb)) | (go_at_call 67; (with_reducible refine (impl_KeyOk.calls k a1 false _ A5.out).mono ?_); rintro e w' ⟨rfl, ⟨nd, rfl⟩⟩))
   go_ret; exact ⟨ze, zb HB.out⟩
 ·replace c4 := Bool.eq_false_iff.mpr c4; subst c4
  have H1 : (some false) = some r := by rw [if_neg (show ¬ (false = true) by decide)] at H; exact H
  clear H; have H := H1; clear H1; obtain rfl := Option.some.inj H; go_enter Try.func28, Try.ntmps28
  go_wp2_with (first | ((with_reducible refine gd 2 ?_); refine zbx 25 #[.string a0_0, .string a0_1, .string a0_2, .slice A0_3 l0_3.length c0_3, .int .i64 a0_4] ?_; intro gb405 hg w16 hbox hb; have BK405 := z0 (hbox); have GE405 := zG hg HB; replace HB := zH HB hb; clear hb hbox hg; have hcz17 := zc5 BK405.out) | ((with_reducible refine gc 48 ?_); refine zL (some 6) Try.func48 #[.agg #[.string a0_0, .string a0_1, .string a0_2, .slice A0_3 l0_3.length c0_3, .int .i64 a0_4]] ?_; (with_reducible refine (impl_SieveOk.calls k a0_0 a0_1 a0_2 _ _ l0_3 a0_4 false _ (zC (Kd.C_below HR0_3.out HB.out)) HC0_3.out A3.out).mono ?_); rintro e w18 ⟨rfl, hb⟩; refine zv ?_; replace BK405 := zK BK405 hb; replace HB := zH HB hb; (try clear hb)))
  go_ret; exact ⟨ze, zb HB.out⟩
theorem spec_DrawKeyBegins.mono : ∀ a0 k, LeO (spec_DrawKeyBegins.f k a0) (spec_DrawKeyBegins.f (k + 1) a0) := by
  intro a0 k
  unfold spec_DrawKeyBegins.f
  repeat' first | (with_reducible first | apply spec_l71Key.mono | apply spec_l71Near.mono | exact LeO.refl _ | exact LeO.none _ | refine LeO.ite ?_ ?_ | refine LeO.bind ?_ (fun _ => ?_)) | exact LeO.none _ | refine LeO.ite ?_ ?_ | refine LeO.bind ?_ (fun _ => ?_)
theorem spec_DrawKeyBegins.calls (k : Nat) (A0 : Option Addr) (c0 : Nat) (l0 : List Int) (r1 r2 : ByteArray) (w : World) (hr0 : Kd.C (Kd.int .u8) w A0 l0.length l0) (hc0 : l0.length ≤ c0) (h : spec_DrawKeyBegins.f k l0 = some (r1, r2)) :
    Calls Try.prog 39 #[.slice A0 l0.length c0] w fun e w' => e = .returned (.tuple #[.string r1, .string r2]) ∧ Below w.heap.size w w' := by
 have HR0 := z0 hr0; have HC0 := z0 hc0; clear hr0 hc0; have HB := z0 (Below.refl w.heap.size w); have H : ((spec_l6Open.f l0).bind fun bt678 => ((spec_l71Key.f k bt678.1 bt678.2).bind fun bt681 => ((spec_l71Near.f k bt678.1 bt681.2 (([bt681.1] : List ByteArray))).bind fun bt686 => (some (bt681.1, bt686.1))))) = some (r1, r2) := h; clear h; replace H := zi H; obtain ⟨⟨t678, t679⟩, A2, H⟩ := H; (try dsimp only at H); replace H := zi H; obtain ⟨⟨t681, t682⟩, A3, H⟩ := H; (try dsimp only at H); obtain ⟨y683, hy683⟩ : ∃ y_ : List ByteArray, y_ = (([t681] : List ByteArray)) := ⟨_, rfl⟩; replace H : ((spec_l71Near.f k t678 t682 y683).bind fun bt686 => (some (t681, bt686.1))) = some (r1, r2) := zH2 hy683 H; have Ny683 := z0 hy683; clear hy683; replace H := zi H; obtain ⟨⟨t686, t687⟩, A4, H⟩ := H; (try dsimp only at H); simp only [Option.some.injEq, Prod.mk.injEq] at H; obtain ⟨rfl, rfl⟩ := H; go_enter Try.func39, Try.ntmps39
 go_wp2_with (first | ((with_reducible refine gc 64 ?_); refine zL (some 7) Try.func64 #[.slice A0 l0.length c0] ?_; (with_reducible refine (spec_l6Open.calls _ _ l0 t678 t679 w _ (zb HB.out) HR0.out HC0.out A2.out).mono ?_); rintro e w5 ⟨g680, rfl, hi, hb, hb2⟩; refine zv ?_; replace HB := z0 (hb); have HI680 := z0 (hi); (try clear hb hb2 hi)) | ((with_reducible refine gc 86 ?_); refine zL (some 9) Try.func86 #[.pointer (some ⟨g680, 0, none⟩)] ?_; (with_reducible refine (spec_l71Key.calls k g680 t678 t679 t681 t682 w _ (HI680.out.zI) (HI680.out.zb HB.out) A3.out).mono ?_); rintro e w6 ⟨rfl, hi, hb, hk⟩; refine zv ?_; replace HB := z0 (hb); replace HI680 := z0 (hi); (try clear hb hk hi)) | ((with_reducible refine gd 13 ?_); refine Kd.R_lit Kd.string _ 9 ?hg (N := 13) ?hd (xs := ([t681] : List ByteArray)) (inner := [.string t681]) (ok := fun _ => True) (okp := fun _ => True) ?hr ?hp (fun _ hk => hk) trivial (Below.refl _ _) (Nat.le_refl _) (by simp) ?_; (case hd => rfl); (case hg => rfl); (case hr => first | (go_simp; done) | (go_simp; rfl)); (case hp => exact (Reps.one (show Kd.M Kd.string _ _ _ t681 [.string t681] from rfl) (Reps.none _ _))); intro v684 w7 ho8 hb hg_ hnew_; clear hg_ hnew_; (first | rw [← Ny683.out] at ho8 | (simp only [Int.reduceToNat] at ho8; rw [← Ny683.out] at ho8)); have HO685 := z0 (Kd.R_lower ho8 (below_size (HI680.out.zb HB.out))); replace HB := z0 (below_step (HI680.out.zb HB.out) hb); replace HI680 := z0 (IsS98.below (HI680.out.zI) hb); clear hb ho8; obtain ⟨Ao9, co9, eo9⟩ := Kd.R_slice HO685.out; subst eo9) | ((with_reducible refine gc 66 ?_); refine zL (some 14) Try.func66 #[.pointer (some ⟨g680, 0, none⟩), .slice Ao9 y683.length co9] ?_; (with_reducible refine (spec_l71Near.calls k g680 t678 t682 _ _ y683 t686 t687 w _ (HI680.out.zI) (HI680.out.zb HB.out) (zC ((Kd.R_reads' HO685.out).2.2)) ((Kd.R_reads' HO685.out).2.1) (far_slice (IsS98.own_ne HI680.out HO685.out (by decide))) A4.out).mono ?_); rintro e w10 ⟨rfl, hi, hb, hk⟩; refine zv ?_; replace HO685 := z0 (Kd.R_mono (Kd.R_keep (IsS98.apart (show IsS98 w _ g680 t678 t682 from HI680.out.zI) (zr HO685.out) (by decide)) hk (fun _ h => h.2)) (fun _ h => h.1)); replace HB := z0 (hb); replace HI680 := z0 (hi); (try clear hb hk hi)))
 go_ret2
 exact ⟨ze, HI680.out.zb HB.out⟩
theorem laws_FnSieveKeep.mono_l : ∀ k, (∀ y0 y1 y2, LeO (laws_FnSieveKeep.j0 k y0 y1 y2) (laws_FnSieveKeep.j0 (k + 1) y0 y1 y2)) ∧ (∀ y0 y1 y2 y3 y4 y5 y6 y7 y8 y9 y10 y11 y12 y13 y14 y15, LeO (laws_FnSieveKeep.j1 k y0 y1 y2 y3 y4 y5 y6 y7 y8 y9 y10 y11 y12 y13 y14 y15) (laws_FnSieveKeep.j1 (k + 1) y0 y1 y2 y3 y4 y5 y6 y7 y8 y9 y10 y11 y12 y13 y14 y15))
  | 0 => ⟨fun _ _ _ r h => by simp [laws_FnSieveKeep.j0] at h, fun _ _ _ _ _ _ _ _ _ _ _ _ _ _ _ _ r h => by simp [laws_FnSieveKeep.j1] at h⟩
  | k + 1 => by
    obtain ⟨ih0, ih1⟩ := laws_FnSieveKeep.mono_l k
    refine ⟨?_, ?_⟩
    · intro y0 y1 y2
      unfold laws_FnSieveKeep.j0
      repeat' first | (with_reducible first | apply ih0 | apply ih1 | apply impl_SieveHas.mono | apply impl_SieveOf.mono | apply laws_ltSieve.mono | apply spec_DrawKeyBegins.mono | apply spec_DrawSieveOf.mono | apply spec_SieveOf.mono | exact LeO.refl _ | exact LeO.none _ | refine LeO.ite ?_ ?_ | refine LeO.bind ?_ (fun _ => ?_)) | exact LeO.none _ | refine LeO.ite ?_ ?_ | refine LeO.bind ?_ (fun _ => ?_)
    · intro y0 y1 y2 y3 y4 y5 y6 y7 y8 y9 y10 y11 y12 y13 y14 y15
      unfold laws_FnSieveKeep.j1
      repeat' first | (with_reducible first | apply ih0 | apply ih1 | apply impl_SieveHas.mono | apply impl_SieveOf.mono | apply laws_ltSieve.mono | apply spec_DrawKeyBegins.mono | apply spec_DrawSieveOf.mono | apply spec_SieveOf.mono | exact LeO.refl _ | exact LeO.none _ | refine LeO.ite ?_ ?_ | refine LeO.bind ?_ (fun _ => ?_)) | exact LeO.none _ | refine LeO.ite ?_ ?_ | refine LeO.bind ?_ (fun _ => ?_)
theorem laws_FnSieveKeep.mono : ∀ a0 a1 k, LeO (laws_FnSieveKeep.f k a0 a1) (laws_FnSieveKeep.f (k + 1) a0 a1) := by
  intro a0 a1 k
  obtain ⟨ih0, ih1⟩ := laws_FnSieveKeep.mono_l k
  unfold laws_FnSieveKeep.f
  repeat' first | (with_reducible first | apply ih0 | apply ih1 | apply impl_SieveHas.mono | apply impl_SieveOf.mono | apply laws_ltSieve.mono | apply spec_DrawKeyBegins.mono | apply spec_DrawSieveOf.mono | apply spec_SieveOf.mono | exact LeO.refl _ | exact LeO.none _ | refine LeO.ite ?_ ?_ | refine LeO.bind ?_ (fun _ => ?_)) | exact LeO.none _ | refine LeO.ite ?_ ?_ | refine LeO.bind ?_ (fun _ => ?_)
theorem laws_FnSieveKeep.calls (k : Nat) (A0 : Option Addr) (c0 : Nat) (l0 : List Int) (A1 : Option Addr) (c1 : Nat) (l1 : List Int) (r : Bool) (w : World) (hr0 : Kd.C (Kd.int .u8) w A0 l0.length l0) (hc0 : l0.length ≤ c0) (hr1 : Kd.C (Kd.int .u8) w A1 l1.length l1) (hc1 : l1.length ≤ c1) (h : laws_FnSieveKeep.f k l0 l1 = some r) :
    Calls Try.prog 9 #[.slice A0 l0.length c0, .slice A1 l1.length c1] w fun e w' => e = .returned (.bool r) ∧ Below w.heap.size w w' := by
 have hu25 := Try.underlying25; have HR0 := z0 hr0; have HC0 := z0 hc0; clear hr0 hc0; have HR1 := z0 hr1; have HC1 := z0 hc1; clear hr1 hc1; have HB := z0 (Below.refl w.heap.size w); have H : (if (l0.length : Int) > 1048576 then (laws_FnSieveKeep.j0 k l0 l1 true) else (laws_FnSieveKeep.j0 k l0 l1 (decide ((l1.length : Int) > 1048576)))) = some r := h; clear h; have HC3 := z0 H; clear H; go_enter Try.func9, Try.ntmps9
 go_upto_region 1 with (fail)
 go_cut [22] (fun v22 wc => ∃ (kq : Nat) (x22_2 : Bool), v22 = .bool x22_2 ∧ Aside0 (laws_FnSieveKeep.j0 kq l0 l1 x22_2 = some r) ∧ Aside0 (kq ≤ k) ∧ Aside0 (Below w.heap.size w wc))
 case first =>
  have H := HC3.out; clear HC3
  by_cases c4 : (l0.length : Int) > 1048576
  ·rw [if_pos c4] at H; have c4b0 : decide (1048576 < (l0.length : Int)) = true := decide_eq_true c4; have c4b1 : decide (1048576 < l0.length) = true := decide_eq_true (by omega); clear c4; (first | rw [c4b0] | (simp only [i64_w, i32_w]; rw [c4b0]) | simp only [*, Bool.not_true, Bool.not_false] | skip); have H' := z0 H; clear H; go_wp2; go_meet
   case rel => exact ⟨_, (true), zf, H', ⟨by first | omega | exact Nat.le_refl _⟩, ⟨zb HB.out⟩⟩
  ·rw [if_neg c4] at H; have c4b0 : decide (1048576 < (l0.length : Int)) = false := decide_eq_false c4; have c4b1 : decide (1048576 < l0.length) = false := decide_eq_false (by omega); clear c4; (first | rw [c4b0] | (simp only [i64_w, i32_w]; rw [c4b0]) | simp only [*, Bool.not_true, Bool.not_false] | skip); have H' := z0 H; clear H; go_wp2; go_meet
   case rel => exact ⟨_, (decide ((l1.length : Int) > 1048576)), zf, H', ⟨by first | omega | exact Nat.le_refl _⟩, ⟨zb HB.out⟩⟩
 case rest =>
  clear HC3
  try clear c1
  try clear p2
  try clear c4
  try clear c4b0
  try clear c4b1
  obtain ⟨kq, x22_2, rfl, HA, HJ2, HB⟩ := hcut
  cases kq with
  | zero => exact absurd HA.out (by simp [laws_FnSieveKeep.j0])
  | succ kj2 =>
   have H := HA.out; clear HA; simp only [laws_FnSieveKeep.j0] at H
   by_cases c5 : x22_2 = true
   ·subst c5
    have H1 : (some true) = some r := by rw [if_pos rfl] at H; exact H
    clear H; have H := H1; clear H1; obtain rfl := Option.some.inj H; go_wp2; go_ret; exact ⟨ze, zb HB.out⟩
   ·replace c5 := Bool.eq_false_iff.mpr c5; subst c5
    have H1 : ((spec_DrawSieveOf.f kj2 l0).bind fun bt973 => ((spec_DrawKeyBegins.f kj2 l1).bind fun bt977 => ((spec_SieveOf.f kj2 bt973.1 bt973.2).bind fun bt979 => ((impl_SieveOf.f kj2 bt973.1 bt973.2).bind fun bt988 => (if (bt988.2.2.2.2.2 != bt979.2.2.2.2.2) = true then (laws_FnSieveKeep.j1 kj2 bt973.1 bt973.2 bt977.1 bt979.2.2.2.2.2 bt988.2.2.2.2.2 true bt979.1 bt979.2.1 bt979.2.2.1 bt979.2.2.2.1 bt979.2.2.2.2.1 bt988.1 bt988.2.1 bt988.2.2.1 bt988.2.2.2.1 bt988.2.2.2.2.1) else ((laws_ltSieve.f kj2 bt988.1 bt988.2.1 bt988.2.2.1 bt988.2.2.2.1 bt988.2.2.2.2.1 bt979.1 bt979.2.1 bt979.2.2.1 bt979.2.2.2.1 bt979.2.2.2.2.1).bind fun t997 => (if t997 = true then (laws_FnSieveKeep.j1 kj2 bt973.1 bt973.2 bt977.1 bt979.2.2.2.2.2 bt988.2.2.2.2.2 (!bt988.2.2.2.2.2) bt979.1 bt979.2.1 bt979.2.2.1 bt979.2.2.2.1 bt979.2.2.2.2.1 bt988.1 bt988.2.1 bt988.2.2.1 bt988.2.2.2.1 bt988.2.2.2.2.1) else (laws_FnSieveKeep.j1 kj2 bt973.1 bt973.2 bt977.1 bt979.2.2.2.2.2 bt988.2.2.2.2.2 true bt979.1 bt979.2.1 bt979.2.2.1 bt979.2.2.2.1 bt979.2.2.2.2.1 bt988.1 bt988.2.1 bt988.2.2.1 bt988.2.2.2.1 bt988.2.2.2.2.1)))))))) = some r := by rw [if_neg (show ¬ (false = true) by decide)] at H; exact H
    clear H; have H := H1; clear H1; replace H := zi H; obtain ⟨⟨t973, t974⟩, A6, H⟩ := H; (try dsimp only at H); replace H := zi H; obtain ⟨⟨t977, t978⟩, A7, H⟩ := H; (try dsimp only at H); replace H := zi H; obtain ⟨⟨t979, t980, t981, t982, t985, t986⟩, A8, H⟩ := H; (try dsimp only at H); replace H := zi H; obtain ⟨⟨t988, t989, t990, t991, t994, t995⟩, A9, H⟩ := H; (try dsimp only at H); have HC10 := z0 H; clear H
    go_upto_region 7 with (first | ((with_reducible refine gc 34 ?_); refine zL (some 25) Try.func34 #[.slice A0 l0.length c0] ?_; (with_reducible refine (spec_DrawSieveOf.calls kj2 _ _ l0 t973 t974 _ (zC (Kd.C_below HR0.out HB.out)) HC0.out A6.out).mono ?_); rintro e w11 ⟨v975, rfl, ho0, hb⟩; refine zv ?_; have HO976 := z0 (Kd.R_lower ho0 (below_size (zb HB.out))); replace HB := zH HB hb; (try clear hb ho0)) | ((with_reducible refine gc 39 ?_); refine zL (some 30) Try.func39 #[.slice A1 l1.length c1] ?_; (with_reducible refine (spec_DrawKeyBegins.calls kj2 _ _ l1 t977 t978 _ (zC (Kd.C_below HR1.out HB.out)) HC1.out A7.out).mono ?_); rintro e w12 ⟨rfl, hb⟩; refine zv ?_; replace HO976 := zA HO976 hb; replace HB := zH HB hb; (try clear hb); obtain ⟨Ao13, co13, eo13⟩ := Kd.R_slice HO976.out; subst eo13) | ((with_reducible refine gc 36 ?_); refine zL (some 36) Try.func36 #[.slice Ao13 t973.length co13, .int .i64 t974] ?_; (with_reducible refine (spec_SieveOf.calls kj2 (fun k_ => some k_ = (.slice Ao13 t973.length co13 : Value).ownBlock) _ _ t973 t974 t979 t980 t981 t982 t985 t986 _ (Kd.R_V (Kd.R_tight rfl (HO976.out))) A8.out).mono ?_); rintro e w14 ⟨v983, rfl, ho0, hb⟩; refine zv ?_; have HO984 := z0 (Kd.R_lower (Kd.R_new' (Kd.R_mono (ok' := fun k_ => True) ho0 (fun _ hk_ => trivial)) (Kd.R_lt (zr HO976.out))) (below_size (zb HB.out))); replace HO976 := z0 (Kd.R_elder' (zr HO976.out) (Kd.R_base ho0) hb); replace HB := zH HB hb; (try clear hb ho0)) | ((with_reducible refine gd 9 ?_); (try (refine gate_guard (by rfl) ?_; dsimp only)); refine zbx 25 #[.string ⟨#[]⟩, .string ⟨#[]⟩, .string ⟨#[]⟩, .slice none 0 0, .int .i64 0] ?_; intro gb987 hg w15 hbox hb; replace HO976 := zA HO976 hb; replace HO984 := zA HO984 hb; have BK987 := z0 (hbox); have GE987 := zG hg HB; replace HB := zH HB hb; clear hb hbox hg; have hcz16 := zc5 BK987.out; obtain ⟨Ao17, co17, eo17⟩ := Kd.R_slice HO984.out; subst eo17) | ((with_reducible refine gc 30 ?_); refine zL (some 42) Try.func30 #[.slice Ao13 t973.length co13, .int .i64 t974] ?_; (with_reducible refine (impl_SieveOf.calls kj2 _ _ t973 t974 t988 t989 t990 t991 t994 t995 _ ?side1 ((Kd.R_reads' HO976.out).2.1) A9.out).mono ?_); (case side1 => refine (Kd.R_reads' (e := 9) (base := w.heap.size) (ok := fun k_ => (True ∧ some k_ ≠ (.slice Ao17 t982.length co17 : Value).ownBlock)) (n := t973.length) (c := co13) ?_).2.2; exact (zs HO976.out BK987.out)); rintro e w18 ⟨v992, rfl, ho0, hb⟩; refine zv ?_; have HO993 := z0 (Kd.R_lower (Kd.R_new' (Kd.R_new' ho0 (Kd.R_lt (zs HO976.out BK987.out))) (Kd.R_lt (zs HO984.out BK987.out))) (below_size (zb HB.out))); replace HO976 := z0 (Kd.R_elder' (zs HO976.out BK987.out) (Kd.R_base ho0) hb); replace HO984 := z0 (Kd.R_elder' (zs HO984.out BK987.out) (Kd.R_base ho0) hb); replace BK987 := z0 (blk_below (zpc BK987.out #[.string t979, .string t980, .string t981, .slice Ao17 t982.length co17, .int .i64 t985]) hb); replace HB := zH HB hb; (try clear hb ho0)) | ((with_reducible refine gd 11 ?_); (try (refine gate_guard (by rfl) ?_; dsimp only)); refine zbx 25 #[.string ⟨#[]⟩, .string ⟨#[]⟩, .string ⟨#[]⟩, .slice none 0 0, .int .i64 0] ?_; intro gb996 hg w19 hbox hb; replace HO976 := zA HO976 hb; replace HO984 := zA HO984 hb; replace HO993 := zA HO993 hb; have BK996 := z0 (hbox); have GE996 := zG hg HB; replace HB := zH HB hb; have NB987_996 := zLt hg BK987; have NB996_987 := zGt hg BK987; replace BK987 := zK BK987 hb; clear hb hbox hg; have hnb20 := NB996_987.out; have hnc20 := NB987_996.out; have hcz21 := zc5 BK996.out; obtain ⟨Ao22, co22, eo22⟩ := Kd.R_slice HO993.out; subst eo22))
    (try simp only [Act.put, List.setIfInBounds_toArray, List.set_cons_zero, List.set_cons_succ])
    go_cut [57] (fun v57 wc => ∃ (kq : Nat) (x57_9 : Bool), v57 = .bool x57_9 ∧ Aside0 (laws_FnSieveKeep.j1 kq t973 t974 t977 t986 t995 x57_9 t979 t980 t981 t982 t985 t988 t989 t990 t991 t994 = some r) ∧ Aside0 (kq ≤ kj2) ∧ Aside0 (Kd.R Kd.string 9 wc w.heap.size (fun k_ => some k_ ≠ ((.slice Ao17 t982.length co17) : Value).ownBlock ∧ some k_ ≠ ((.slice Ao22 t991.length co22) : Value).ownBlock) (.slice Ao13 t973.length co13) t973) ∧ Aside0 (Kd.R Kd.string 9 wc w.heap.size (fun k_ => some k_ ≠ ((.slice Ao13 t973.length co13) : Value).ownBlock ∧ some k_ ≠ ((.slice Ao22 t991.length co22) : Value).ownBlock) (.slice Ao17 t982.length co17) t982) ∧ Aside0 (Kd.R Kd.string 9 wc w.heap.size (fun k_ => some k_ ≠ ((.slice Ao13 t973.length co13) : Value).ownBlock ∧ some k_ ≠ ((.slice Ao17 t982.length co17) : Value).ownBlock) (.slice Ao22 t991.length co22) t991) ∧ Aside0 (wc.heap[gb987]? = some (.cells #[.string t979, .string t980, .string t981, (.slice Ao17 t982.length co17), .int .i64 t985] 25 (0, 0))) ∧ Aside0 (wc.heap[gb996]? = some (.cells #[.string t988, .string t989, .string t990, (.slice Ao22 t991.length co22), .int .i64 t994] 25 (0, 0))) ∧ Aside0 (Below w.heap.size w wc))
    case first =>
     have H := HC10.out; clear HC10
     by_cases c23 : (t995 != t986) = true
     ·rw [if_pos c23] at H; have c23b0 : (t995 != t986) = true := c23; (try (have c23b1 : decide (t995 = t986) = false := by simpa using c23)); (try (have c23b2 : (t995 == t986) = false := by simpa using c23)); (try (have c23b3 : ¬ (t995 = t986) := by simpa using c23)); clear c23; (first | rw [c23b0] | (simp only [i64_w, i32_w]; rw [c23b0]) | simp only [*, Bool.not_true, Bool.not_false] | skip); have H' := z0 H; clear H; go_wp2; go_meet
      case rel => exact ⟨_, (true), zf, H', ⟨by have := HJ2.out; first | omega | exact Nat.le_refl _⟩, ⟨Kd.R_mono (zt HO976.out BK996.out) (fun _ hk => ⟨hk.1.1.2, hk.1.2⟩)⟩, ⟨Kd.R_mono (zt HO984.out BK996.out) (fun _ hk => ⟨hk.1.1.2, hk.1.2⟩)⟩, ⟨Kd.R_mono (zt HO993.out BK996.out) (fun _ hk => ⟨hk.1.1.2, hk.1.2⟩)⟩, ⟨zy BK987.out⟩, ⟨zp BK996.out⟩, ⟨zb HB.out⟩⟩
     ·rw [if_neg c23] at H
      have c23b0 : (t995 != t986) = false := by simpa using c23
      (try (have c23b1 : decide (t995 = t986) = true := by simpa using c23)); (try (have c23b2 : (t995 == t986) = true := by simpa using c23)); clear c23; (first | rw [c23b0] | (simp only [i64_w, i32_w]; rw [c23b0]) | simp only [*, Bool.not_true, Bool.not_false] | skip); replace H := zi H; obtain ⟨t997, A24, H⟩ := H
      by_cases c25 : t997 = true
      ·subst c25
       have H1 : (laws_FnSieveKeep.j1 kj2 t973 t974 t977 t986 t995 (!t995) t979 t980 t981 t982 t985 t988 t989 t990 t991 t994) = some r := by rw [if_pos rfl] at H; exact H
       clear H; have H := H1; clear H1; have H' := z0 H; clear H; have hnb26 := NB996_987.out; have hnc26 := NB987_996.out; have hcz27 := zc5 BK996.out; have hcz28 := zc5 BK987.out
       go_wp2_with (first | (go_at_call 37; (with_reducible refine (laws_ltSieve.calls kj2 t988 t989 t990 _ _ t991 t994 t979 t980 t981 _ _ t982 t985 true _ ?side1 ?side2 ?side3 ?side4 A24.out).mono ?_); (case side1 => refine (Kd.R_reads' (e := 9) (base := w.heap.size) (ok := fun k_ => ((True ∧ some k_ ≠ (.slice Ao13 t973.length co13 : Value).ownBlock) ∧ some k_ ≠ (.slice Ao17 t982.length co17 : Value).ownBlock)) (n := t991.length) (c := co22) ?_).2.2; exact (zs HO993.out BK996.out)); (case side2 => exact (Kd.R_reads' HO993.out).2.1); (case side3 => refine (Kd.R_reads' (e := 9) (base := w.heap.size) (ok := fun k_ => ((True ∧ some k_ ≠ (.slice Ao13 t973.length co13 : Value).ownBlock) ∧ some k_ ≠ (.slice Ao22 t991.length co22 : Value).ownBlock)) (n := t982.length) (c := co17) ?_).2.2; exact (zs HO984.out BK996.out)); (case side4 => exact (Kd.R_reads' HO984.out).2.1); rintro e w29 ⟨rfl, hb⟩; replace HO976 := zAs HO976 BK996 hb; replace HO984 := zAs HO984 BK996 hb; replace HO993 := zAs HO993 BK996 hb; replace BK987 := zKy BK987 hb; replace BK996 := z0 (blk_below (zpc BK996.out #[.string t988, .string t989, .string t990, .slice Ao22 t991.length co22, .int .i64 t994]) hb); replace HB := zH HB hb; (try clear hb)))
       go_meet
       case rel => exact ⟨_, (!t995), zf, H', ⟨by have := HJ2.out; first | omega | exact Nat.le_refl _⟩, ⟨Kd.R_mono (zr HO976.out) (fun _ hk => ⟨hk.1.2, hk.2⟩)⟩, ⟨Kd.R_mono (zr HO984.out) (fun _ hk => ⟨hk.1.2, hk.2⟩)⟩, ⟨Kd.R_mono (zr HO993.out) (fun _ hk => ⟨hk.1.2, hk.2⟩)⟩, ⟨zl BK987.out⟩, ⟨zl BK996.out⟩, ⟨zb HB.out⟩⟩
      ·replace c25 := Bool.eq_false_iff.mpr c25; subst c25
       have H1 : (laws_FnSieveKeep.j1 kj2 t973 t974 t977 t986 t995 true t979 t980 t981 t982 t985 t988 t989 t990 t991 t994) = some r := by rw [if_neg (show ¬ (false = true) by decide)] at H; exact H
       clear H; have H := H1; clear H1; have H' := z0 H; clear H; have hnb30 := NB996_987.out; have hnc30 := NB987_996.out; have hcz31 := zc5 BK996.out; have hcz32 := zc5 BK987.out
       go_wp2_with (first | (go_at_call 37; (with_reducible refine (laws_ltSieve.calls kj2 t988 t989 t990 _ _ t991 t994 t979 t980 t981 _ _ t982 t985 false _ ?side1 ?side2 ?side3 ?side4 A24.out).mono ?_); (case side1 => refine (Kd.R_reads' (e := 9) (base := w.heap.size) (ok := fun k_ => ((True ∧ some k_ ≠ (.slice Ao13 t973.length co13 : Value).ownBlock) ∧ some k_ ≠ (.slice Ao17 t982.length co17 : Value).ownBlock)) (n := t991.length) (c := co22) ?_).2.2; exact (zs HO993.out BK996.out)); (case side2 => exact (Kd.R_reads' HO993.out).2.1); (case side3 => refine (Kd.R_reads' (e := 9) (base := w.heap.size) (ok := fun k_ => ((True ∧ some k_ ≠ (.slice Ao13 t973.length co13 : Value).ownBlock) ∧ some k_ ≠ (.slice Ao22 t991.length co22 : Value).ownBlock)) (n := t982.length) (c := co17) ?_).2.2; exact (zs HO984.out BK996.out)); (case side4 => exact (Kd.R_reads' HO984.out).2.1); rintro e w33 ⟨rfl, hb⟩; replace HO976 := zAs HO976 BK996 hb; replace HO984 := zAs HO984 BK996 hb; replace HO993 := zAs HO993 BK996 hb; replace BK987 := zKy BK987 hb; replace BK996 := z0 (blk_below (zpc BK996.out #[.string t988, .string t989, .string t990, .slice Ao22 t991.length co22, .int .i64 t994]) hb); replace HB := zH HB hb; (try clear hb)))
       go_meet
       case rel => exact ⟨_, (true), zf, H', ⟨by have := HJ2.out; first | omega | exact Nat.le_refl _⟩, ⟨Kd.R_mono (zr HO976.out) (fun _ hk => ⟨hk.1.2, hk.2⟩)⟩, ⟨Kd.R_mono (zr HO984.out) (fun _ hk => ⟨hk.1.2, hk.2⟩)⟩, ⟨Kd.R_mono (zr HO993.out) (fun _ hk => ⟨hk.1.2, hk.2⟩)⟩, ⟨zl BK987.out⟩, ⟨zl BK996.out⟩, ⟨zb HB.out⟩⟩
    case rest =>
     clear HC10
     try clear c1
     try clear c2
     try clear p2
     try clear c3
     try clear c4
     try clear c4b0
     try clear c4b1
     try clear c5
     try clear c9
     try clear c20
     try clear c23
     try clear c23b0
     try clear c23b1
     try clear c23b2
     try clear c25
     try clear c26
     try clear c30
     try clear hcz16
     try clear hcz21
     try clear hcz27
     try clear hcz28
     try clear hcz31
     try clear hcz32
     try clear p2
     obtain ⟨kq, x57_9, rfl, HA, HJ9, HO_5, HO_988003, HO_997003, BK987, BK996, HB⟩ := hcut
     cases kq with
     | zero => exact absurd HA.out (by simp [laws_FnSieveKeep.j1])
     | succ kj9 =>
      have H := HA.out; clear HA; simp only [laws_FnSieveKeep.j1] at H
      by_cases c34 : x57_9 = true
      ·subst c34
       have H1 : (if (t995 == t986) = true then ((laws_ltSieve.f kj9 t988 t989 t990 t991 t994 t979 t980 t981 t982 t985).bind fun t998 => (some t998)) else (some false)) = some r := by rw [if_pos rfl] at H; exact H
       clear H; have H := H1; clear H1
       by_cases c35 : (t995 == t986) = true
       ·rw [if_pos c35] at H; have c35b0 : (t995 == t986) = true := c35; (try (have c35b1 : decide (t995 = t986) = true := by simpa using c35)); (try (have c35b2 : (t995 == t986) = true := by simpa using c35)); clear c35; replace H := zi H; obtain ⟨t998, A36, H⟩ := H; obtain rfl := Option.some.inj H; have hnb37 := NB996_987.out; have hnc37 := NB987_996.out; have hcz38 := zc5 BK996.out; have hcz39 := zc5 BK987.out
        go_wp2_with (first | (go_at_call 37; (with_reducible refine (laws_ltSieve.calls kj9 t988 t989 t990 _ _ t991 t994 t979 t980 t981 _ _ t982 t985 t998 _ ?side1 ?side2 ?side3 ?side4 A36.out).mono ?_); (case side1 => repeat (first | exact (Kd.R_reads' HO_997003.out).2.2 | (with_reducible refine Kd.C_alloc ?_ _) | (with_reducible refine Kd.C_drewN ?_ _) | (with_reducible refine Kd.C_drew ?_))); (case side2 => exact (Kd.R_reads' HO_997003.out).2.1); (case side3 => repeat (first | exact (Kd.R_reads' HO_988003.out).2.2 | (with_reducible refine Kd.C_alloc ?_ _) | (with_reducible refine Kd.C_drewN ?_ _) | (with_reducible refine Kd.C_drew ?_))); (case side4 => exact (Kd.R_reads' HO_988003.out).2.1); rintro e w40 ⟨rfl, hb⟩; replace HO_5 := zA HO_5 hb; replace HO_988003 := zA HO_988003 hb; replace HO_997003 := zA HO_997003 hb; replace BK987 := zK BK987 hb; replace BK996 := zK BK996 hb; replace HB := zH HB hb; (try clear hb)))
        go_ret; exact ⟨ze, zb HB.out⟩
       ·rw [if_neg c35] at H
        have c35b0 : (t995 == t986) = false := by simpa using c35
        (try (have c35b1 : decide (t995 = t986) = false := by simpa using c35)); (try (have c35b2 : (t995 == t986) = false := by simpa using c35)); (try (have c35b3 : ¬ (t995 = t986) := by simpa using c35)); clear c35; obtain rfl := Option.some.inj H; go_wp2; go_ret; exact ⟨ze, zb HB.out⟩
      ·replace c34 := Bool.eq_false_iff.mpr c34; subst c34
       have H1 : ((impl_SieveOf.f kj9 t973 (wrap64 (t974 + 1))).bind fun bt999 => (if bt999.2.2.2.2.2 = true then ((impl_SieveHas.f kj9 bt999.1 bt999.2.1 bt999.2.2.1 bt999.2.2.2.1 bt999.2.2.2.2.1 t977).bind fun t1008 => (if t1008 = true then ((impl_SieveHas.f kj9 t988 t989 t990 t991 t994 t977).bind fun t1009 => (some t1009)) else (some true))) else (some true))) = some r := by rw [if_neg (show ¬ (false = true) by decide)] at H; exact H
       clear H; have H := H1; clear H1; replace H := zi H; obtain ⟨⟨t999, t1000, t1001, t1002, t1005, t1006⟩, A41, H⟩ := H; (try dsimp only at H)
       by_cases c42 : t1006 = true
       ·subst c42
        have H1 : ((impl_SieveHas.f kj9 t999 t1000 t1001 t1002 t1005 t977).bind fun t1008 => (if t1008 = true then ((impl_SieveHas.f kj9 t988 t989 t990 t991 t994 t977).bind fun t1009 => (some t1009)) else (some true))) = some r := by rw [if_pos rfl] at H; exact H
        clear H; have H := H1; clear H1; replace H := zi H; obtain ⟨t1008, A43, H⟩ := H
        by_cases c44 : t1008 = true
        ·subst c44
         have H1 : ((impl_SieveHas.f kj9 t988 t989 t990 t991 t994 t977).bind fun t1009 => (some t1009)) = some r := by rw [if_pos rfl] at H; exact H
         clear H; have H := H1; clear H1; replace H := zi H; obtain ⟨t1009, A45, H⟩ := H; obtain rfl := Option.some.inj H
         go_wp2_with (first | ((with_reducible refine gc 30 ?_); refine zL (some 70) Try.func30 #[.slice Ao13 t973.length co13, .int .i64 (wrap64 (t974 + 1))] ?_; (with_reducible refine (impl_SieveOf.calls kj9 _ _ t973 (wrap64 (t974 + 1)) t999 t1000 t1001 t1002 t1005 true _ (zC ((Kd.R_reads' HO_5.out).2.2)) ((Kd.R_reads' HO_5.out).2.1) A41.out).mono ?_); rintro e w46 ⟨v1003, rfl, ho0, hb⟩; refine zv ?_; have HO1004 := z0 (Kd.R_lower (Kd.R_new' (Kd.R_new' (Kd.R_new' ho0 (Kd.R_lt (zr HO_5.out))) (Kd.R_lt (zr HO_988003.out))) (Kd.R_lt (zr HO_997003.out))) (below_size (zb HB.out))); replace HO_5 := z0 (Kd.R_elder' (zr HO_5.out) (Kd.R_base ho0) hb); replace HO_988003 := z0 (Kd.R_elder' (zr HO_988003.out) (Kd.R_base ho0) hb); replace HO_997003 := z0 (Kd.R_elder' (zr HO_997003.out) (Kd.R_base ho0) hb); replace BK987 := zK BK987 hb; replace BK996 := zK BK996 hb; replace HB := zH HB hb; (try clear hb ho0)) | ((with_reducible refine gd 13 ?_); (try (refine gate_guard (by rfl) ?_; dsimp only)); refine zbx 25 #[.string ⟨#[]⟩, .string ⟨#[]⟩, .string ⟨#[]⟩, .slice none 0 0, .int .i64 0] ?_; intro gb1007 hg w47 hbox hb; replace HO_5 := zA HO_5 hb; replace HO_988003 := zA HO_988003 hb; replace HO_997003 := zA HO_997003 hb; replace HO1004 := zA HO1004 hb; have BK1007 := z0 (hbox); have GE1007 := zG hg HB; replace HB := zH HB hb; have NB987_1007 := zLt hg BK987; have NB1007_987 := zGt hg BK987; replace BK987 := zK BK987 hb; have NB996_1007 := zLt hg BK996; have NB1007_996 := zGt hg BK996; replace BK996 := zK BK996 hb; clear hb hbox hg; have hnb48 := NB1007_987.out; have hnc48 := NB987_1007.out; have hnb49 := NB1007_996.out; have hnc49 := NB996_1007.out; have hcz50 := zc5 BK1007.out; obtain ⟨Ao51, co51, eo51⟩ := Kd.R_slice HO1004.out; subst eo51) | (go_at_call 28; (with_reducible refine (impl_SieveHas.calls kj9 t999 t1000 t1001 _ _ t1002 t1005 t977 true _ ?side1 ?side2 A43.out).mono ?_); (case side1 => refine (Kd.R_reads' (e := 9) (base := w.heap.size) (ok := fun k_ => (((True ∧ some k_ ≠ (.slice Ao13 t973.length co13 : Value).ownBlock) ∧ some k_ ≠ (.slice Ao17 t982.length co17 : Value).ownBlock) ∧ some k_ ≠ (.slice Ao22 t991.length co22 : Value).ownBlock)) (n := t1002.length) (c := co51) ?_).2.2; exact (zs HO1004.out BK1007.out)); (case side2 => exact (Kd.R_reads' HO1004.out).2.1); rintro e w52 ⟨rfl, hb⟩; replace HO_5 := zAs HO_5 BK1007 hb; replace HO_988003 := zAs HO_988003 BK1007 hb; replace HO_997003 := zAs HO_997003 BK1007 hb; replace HO1004 := zAs HO1004 BK1007 hb; replace BK987 := zKy BK987 hb; replace BK996 := zKy BK996 hb; replace BK1007 := z0 (blk_below (zpc BK1007.out #[.string t999, .string t1000, .string t1001, .slice Ao51 t1002.length co51, .int .i64 t1005]) hb); replace HB := zH HB hb; (try clear hb); have hnb53 := NB996_987.out; have hnc53 := NB987_996.out; have hcz54 := zc5 BK996.out) | (go_at_call 28; (with_reducible refine (impl_SieveHas.calls kj9 t988 t989 t990 _ _ t991 t994 t977 t1009 _ ?side1 ?side2 A45.out).mono ?_); (case side1 => repeat (first | exact (Kd.R_reads' HO_997003.out).2.2 | (with_reducible refine Kd.C_alloc ?_ _) | (with_reducible refine Kd.C_drewN ?_ _) | (with_reducible refine Kd.C_drew ?_))); (case side2 => exact (Kd.R_reads' HO_997003.out).2.1); rintro e w55 ⟨rfl, hb⟩; replace HO_5 := zA HO_5 hb; replace HO_988003 := zA HO_988003 hb; replace HO_997003 := zA HO_997003 hb; replace HO1004 := zA HO1004 hb; replace BK987 := zK BK987 hb; replace BK996 := zK BK996 hb; replace BK1007 := zK BK1007 hb; replace HB := zH HB hb; (try clear hb)))
         go_ret; exact ⟨ze, zb HB.out⟩
        ·replace c44 := Bool.eq_false_iff.mpr c44; subst c44
         have H1 : (some true) = some r := by rw [if_neg (show ¬ (false = true) by decide)] at H; exact H
         clear H; have H := H1; clear H1; obtain rfl := Option.some.inj H
         go_wp2_with (first | ((with_reducible refine gc 30 ?_); refine zL (some 70) Try.func30 #[.slice Ao13 t973.length co13, .int .i64 (wrap64 (t974 + 1))] ?_; (with_reducible refine (impl_SieveOf.calls kj9 _ _ t973 (wrap64 (t974 + 1)) t999 t1000 t1001 t1002 t1005 true _ (zC ((Kd.R_reads' HO_5.out).2.2)) ((Kd.R_reads' HO_5.out).2.1) A41.out).mono ?_); rintro e w56 ⟨v1003, rfl, ho0, hb⟩; refine zv ?_; have HO1004 := z0 (Kd.R_lower (Kd.R_new' (Kd.R_new' (Kd.R_new' ho0 (Kd.R_lt (zr HO_5.out))) (Kd.R_lt (zr HO_988003.out))) (Kd.R_lt (zr HO_997003.out))) (below_size (zb HB.out))); replace HO_5 := z0 (Kd.R_elder' (zr HO_5.out) (Kd.R_base ho0) hb); replace HO_988003 := z0 (Kd.R_elder' (zr HO_988003.out) (Kd.R_base ho0) hb); replace HO_997003 := z0 (Kd.R_elder' (zr HO_997003.out) (Kd.R_base ho0) hb); replace BK987 := zK BK987 hb; replace BK996 := zK BK996 hb; replace HB := zH HB hb; (try clear hb ho0)) | ((with_reducible refine gd 13 ?_); (try (refine gate_guard (by rfl) ?_; dsimp only)); refine zbx 25 #[.string ⟨#[]⟩, .string ⟨#[]⟩, .string ⟨#[]⟩, .slice none 0 0, .int .i64 0] ?_; intro gb1007 hg w57 hbox hb; replace HO_5 := zA HO_5 hb; replace HO_988003 := zA HO_988003 hb; replace HO_997003 := zA HO_997003 hb; replace HO1004 := zA HO1004 hb; have BK1007 := z0 (hbox); have GE1007 := zG hg HB; replace HB := zH HB hb; have NB987_1007 := zLt hg BK987; have NB1007_987 := zGt hg BK987; replace BK987 := zK BK987 hb; have NB996_1007 := zLt hg BK996; have NB1007_996 := zGt hg BK996; replace BK996 := zK BK996 hb; clear hb hbox hg; have hnb58 := NB1007_987.out; have hnc58 := NB987_1007.out; have hnb59 := NB1007_996.out; have hnc59 := NB996_1007.out; have hcz60 := zc5 BK1007.out; obtain ⟨Ao61, co61, eo61⟩ := Kd.R_slice HO1004.out; subst eo61) | (go_at_call 28; (with_reducible refine (impl_SieveHas.calls kj9 t999 t1000 t1001 _ _ t1002 t1005 t977 false _ ?side1 ?side2 A43.out).mono ?_); (case side1 => refine (Kd.R_reads' (e := 9) (base := w.heap.size) (ok := fun k_ => (((True ∧ some k_ ≠ (.slice Ao13 t973.length co13 : Value).ownBlock) ∧ some k_ ≠ (.slice Ao17 t982.length co17 : Value).ownBlock) ∧ some k_ ≠ (.slice Ao22 t991.length co22 : Value).ownBlock)) (n := t1002.length) (c := co61) ?_).2.2; exact (zs HO1004.out BK1007.out)); (case side2 => exact (Kd.R_reads' HO1004.out).2.1); rintro e w62 ⟨rfl, hb⟩; replace HO_5 := zAs HO_5 BK1007 hb; replace HO_988003 := zAs HO_988003 BK1007 hb; replace HO_997003 := zAs HO_997003 BK1007 hb; replace HO1004 := zAs HO1004 BK1007 hb; replace BK987 := zKy BK987 hb; replace BK996 := zKy BK996 hb; replace BK1007 := z0 (blk_below (zpc BK1007.out #[.string t999, .string t1000, .string t1001, .slice Ao61 t1002.length co61, .int .i64 t1005]) hb); replace HB := zH HB hb; (try clear hb)))
         go_ret; exact ⟨ze, zb HB.out⟩
       ·replace c42 := Bool.eq_false_iff.mpr c42; subst c42
        have H1 : (some true) = some r := by rw [if_neg (show ¬ (false = true) by decide)] at H; exact H
        clear H; have H := H1; clear H1; obtain rfl := Option.some.inj H
        go_wp2_with (first | ((with_reducible refine gc 30 ?_); refine zL (some 70) Try.func30 #[.slice Ao13 t973.length co13, .int .i64 (wrap64 (t974 + 1))] ?_; (with_reducible refine (impl_SieveOf.calls kj9 _ _ t973 (wrap64 (t974 + 1)) t999 t1000 t1001 t1002 t1005 false _ (zC ((Kd.R_reads' HO_5.out).2.2)) ((Kd.R_reads' HO_5.out).2.1) A41.out).mono ?_); rintro e w63 ⟨v1003, rfl, ho0, hb⟩; refine zv ?_; have HO1004 := z0 (Kd.R_lower (Kd.R_new' (Kd.R_new' (Kd.R_new' ho0 (Kd.R_lt (zr HO_5.out))) (Kd.R_lt (zr HO_988003.out))) (Kd.R_lt (zr HO_997003.out))) (below_size (zb HB.out))); replace HO_5 := z0 (Kd.R_elder' (zr HO_5.out) (Kd.R_base ho0) hb); replace HO_988003 := z0 (Kd.R_elder' (zr HO_988003.out) (Kd.R_base ho0) hb); replace HO_997003 := z0 (Kd.R_elder' (zr HO_997003.out) (Kd.R_base ho0) hb); replace BK987 := zK BK987 hb; replace BK996 := zK BK996 hb; replace HB := zH HB hb; (try clear hb ho0)) | ((with_reducible refine gd 13 ?_); (try (refine gate_guard (by rfl) ?_; dsimp only)); refine zbx 25 #[.string ⟨#[]⟩, .string ⟨#[]⟩, .string ⟨#[]⟩, .slice none 0 0, .int .i64 0] ?_; intro gb1007 hg w64 hbox hb; replace HO_5 := zA HO_5 hb; replace HO_988003 := zA HO_988003 hb; replace HO_997003 := zA HO_997003 hb; replace HO1004 := zA HO1004 hb; have BK1007 := z0 (hbox); have GE1007 := zG hg HB; replace HB := zH HB hb; have NB987_1007 := zLt hg BK987; have NB1007_987 := zGt hg BK987; replace BK987 := zK BK987 hb; have NB996_1007 := zLt hg BK996; have NB1007_996 := zGt hg BK996; replace BK996 := zK BK996 hb; clear hb hbox hg; have hnb65 := NB1007_987.out; have hnc65 := NB987_1007.out; have hnb66 := NB1007_996.out; have hnc66 := NB996_1007.out; have hcz67 := zc5 BK1007.out; obtain ⟨Ao68, co68, eo68⟩ := Kd.R_slice HO1004.out; subst eo68))
        go_ret; exact ⟨ze, zb HB.out⟩
theorem laws_FnSieveKeep.walk (P : laws_FnSieveKeep.Pure) (a0 : Option Addr) (len0 cap0 : Nat) (z0 : List Int) (a1 : Option Addr) (len1 cap1 : Nat) (z1 : List Int) (w : World) (w0 : (a0 = none ∧ len0 = 0 ∧ cap0 = 0 ∧ z0 = []) ∨ ∃ x, a0 = some x ∧ len0 ≤ cap0 ∧ cap0 ≤ maxLen ∧ z0.length = cap0 ∧ (∀ i, i < z0.length → w.cell? (x.add i) = some (.int .u8 (z0.getD i 0))) ∧ ∀ n ∈ z0, (Lit.int .u8 n).wf = true) (y0 : len0 * 1 ≤ 140737488351232) (w1 : (a1 = none ∧ len1 = 0 ∧ cap1 = 0 ∧ z1 = []) ∨ ∃ x, a1 = some x ∧ len1 ≤ cap1 ∧ cap1 ≤ maxLen ∧ z1.length = cap1 ∧ (∀ i, i < z1.length → w.cell? (x.add i) = some (.int .u8 (z1.getD i 0))) ∧ ∀ n ∈ z1, (Lit.int .u8 n).wf = true) (y1 : len1 * 1 ≤ 140737488351232) :
    Calls Try.prog 9 #[.slice a0 len0 cap0, .slice a1 len1 cap1] w fun e w' => e = .returned (.bool true) ∧ Below w.heap.size w w' := by
  obtain ⟨l0, rfl, hr0, hm0, hw0, hc0⟩ := ReadsInt.ofRowC w0
  obtain ⟨l1, rfl, hr1, hm1, hw1, hc1⟩ := ReadsInt.ofRowC w1
  obtain ⟨k, h⟩ := P l0 l1 hm0 y0 hw0 hm1 y1 hw1
  refine (laws_FnSieveKeep.calls k _ _ l0 _ _ l1 true w (Kd.C_of_reads (d := (0 : Int)) (h1 := fun _ => rfl) hr0) hc0 (Kd.C_of_reads (d := (0 : Int)) (h1 := fun _ => rfl) hr1) hc1 h).mono ?_
  rintro e w' ⟨rfl, hd⟩
  exact ⟨rfl, hd⟩
end Go.Proofs.Ytifgcajpkgamgaa.Q
end
section
set_option linter.unusedVariables false
set_option linter.unusedSimpArgs false
namespace Go.Proofs.Ytifgcajpkgamgaa.Pure
open Go Go.RowKit Go.Proofs.YtifgcajpkgamgaaW.PrintWords Go.Proofs.YtifgcajpkgamgaaW.PrintLast Go.Proofs.YtifgcajpkgamgaaW.PrintMore Go.Proofs.Ytifgcajpkgamgaa.Trie Go.Proofs.Ytifgcajpkgamgaa.Q Go.Proofs.Ytifgcajpkgamgaa.Pb
theorem FnSieveKeep : laws_FnSieveKeep.Pure := by
 intro l0 l1 hl _ hw hl' _ hw'
 refine Ev.rounds ?_
 unfold laws_FnSieveKeep.f
 have go : Ev (fun k => laws_FnSieveKeep.j0 k l0 l1 false) true := by
  obtain ⟨s, a, hd, hz, hn⟩ := DrawSieveOf_ev l0 hl hw
  obtain ⟨x, y, hx, kx, ky⟩ := DrawKeyBegins_ev l1 hl' hw'
  have i1 := spec_SieveOf_ev s hz a
  have i2 := impl_SieveOf_ev s hz a
  have hf := sieveV_few (LL s) a
  have lt := ltSieve_ev (sieveV (LL s) a) hf
  refine ev_succ ?_
  simp only [laws_FnSieveKeep.j0]
  refine ev_neg (by simp) (Ev.bind hd (Ev.bind hx (Ev.bind i1 (Ev.bind i2 (ev_neg (by simp) (Ev.bind lt (ev_pos rfl (ev_succ ?_))))))))
  simp only [laws_FnSieveKeep.j1]
  rcases sieveV_cases (LL s) a with ⟨h1, _⟩ | ⟨keep, Lt, Mo, Fi, Rs, e, h1, hI⟩
  ·rw [h1]
   exact ev_pos (by simp) (ev_pos (by simp) (Ev.bind lt (ev_some rfl)))
  ·rw [h1]
   have hh := heads_of hI
   have hK := hI.ok.ok
   have hle := LL_length s
   have hfew := hI.ok.few
   have sx := kok_size kx
   have w2 := impl_SieveOf_ev s hz ((keep : Int) + 1)
   have hkp := hI.kp
   have hw1 : ∀ _ : Unit, wrap64 (a + 1) = (keep : Int) + 1 := fun _ => by rw [e, w64 (by omega) (by omega)]
   rw [hw1 ()]
   refine ev_neg (by simp) (Ev.bind w2 ?_)
   rcases sieveV_cases (LL s) ((keep : Int) + 1) with ⟨g1, _⟩ | ⟨keep', Lt', Mo', Fi', Rs', e', g1, gI⟩
   ·rw [g1]
    exact ev_neg (by simp) (ev_some rfl)
   ·have e2 : keep' = keep + 1 := by omega
    subst e2
    rw [g1]
    have hq := impl_has_yes gI (heads_of gI) x sx
    have hq' := impl_has_yes hI hh x sx
    refine ev_pos rfl (Ev.bind hq ?_)
    by_cases c1 : hasV (LL s) (keep + 1) (L x) = true
    ·have c2 : hasV (LL s) keep (L x) = true := by
      obtain ⟨q1, k, hk, hm⟩ := hasV_iff.1 c1
      exact hasV_iff.2 ⟨q1, k, hk, may_keep hm⟩
     rw [c2] at hq'
     exact ev_pos c1 (Ev.bind hq' (ev_some rfl))
    ·exact ev_neg c1 (ev_some rfl)
 have stop : Ev (fun k => laws_FnSieveKeep.j0 k l0 l1 true) true := by
  refine ev_succ ?_
  simp only [laws_FnSieveKeep.j0]
  exact ev_pos (by simp) (ev_some rfl)
 by_cases c : (l0.length : Int) > 1048576
 ·exact ev_pos c stop
 ·refine ev_neg c ?_
  by_cases c' : (l1.length : Int) > 1048576
  ·rw [decide_eq_true c']; exact stop
  ·rw [decide_eq_false c']; exact go
end Go.Proofs.Ytifgcajpkgamgaa.Pure
end
