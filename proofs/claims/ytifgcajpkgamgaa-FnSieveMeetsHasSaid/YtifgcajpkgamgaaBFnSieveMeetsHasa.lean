/- What the law FnSieveMeetsHas needs: the kit's printed words, the printed functions with their proofs, and plain facts on them. -/
import Derived.Test.YtifgcajpkgamgaaBSBb
section
namespace Go.Proofs.Ytifgcajpkgamgaa.Q
open Go.RowKit Go.Proofs.YtifgcajpkgamgaaW.PrintWords Go.Proofs.YtifgcajpkgamgaaW.PrintLast Go.Proofs.YtifgcajpkgamgaaW.PrintMore
attribute [local go_sem] max2_int min2_int max_two min_two max_three min_three max_four min_four   
set_option linter.unusedVariables false
set_option linter.unusedSimpArgs false
set_option maxHeartbeats 8000000
set_option maxRecDepth 100000
theorem impl_SieveOk.mono : ∀ a0 a1 a2 a3 a4 k, LeO (impl_SieveOk.f k a0 a1 a2 a3 a4) (impl_SieveOk.f (k + 1) a0 a1 a2 a3 a4) := by
  intro a0 a1 a2 a3 a4 k
  unfold impl_SieveOk.f
  repeat' first | (with_reducible first | apply impl_Sieve_heads.mono | exact LeO.refl _ | exact LeO.none _ | refine LeO.ite ?_ ?_ | refine LeO.bind ?_ (fun _ => ?_)) | exact LeO.none _ | refine LeO.ite ?_ ?_ | refine LeO.bind ?_ (fun _ => ?_)
theorem impl_SieveOk.calls (k : Nat) (a0_0 a0_1 a0_2 : ByteArray) (A0_3 : Option Addr) (c0_3 : Nat) (l0_3 : List ByteArray) (a0_4 : Int) (r : Bool) (w : World) (hr0_3 : Kd.C Kd.string w A0_3 l0_3.length l0_3) (hc0_3 : l0_3.length ≤ c0_3) (h : impl_SieveOk.f k a0_0 a0_1 a0_2 l0_3 a0_4 = some r) :
    Calls Try.prog 48 #[.agg #[.string a0_0, .string a0_1, .string a0_2, .slice A0_3 l0_3.length c0_3, .int .i64 a0_4]] w fun e w' => e = .returned (.bool r) ∧ Below w.heap.size w w' := by
 have hu25 := Try.underlying25; have HR0_3 := z0 hr0_3; have HC0_3 := z0 hc0_3; clear hr0_3 hc0_3; have HB := z0 (Below.refl w.heap.size w); have H : ((impl_Sieve_heads.f k a0_0 a0_1 a0_2 l0_3 a0_4).bind fun bt390 => (some bt390.2)) = some r := h; clear h; replace H := zi H; obtain ⟨⟨t390, t393⟩, A2, H⟩ := H; (try dsimp only at H); obtain rfl := Option.some.inj H; go_enter Try.func48, Try.ntmps48
 go_wp2_with (first | ((with_reducible refine gd 1 ?_); refine zbx 25 #[.string a0_0, .string a0_1, .string a0_2, .slice A0_3 l0_3.length c0_3, .int .i64 a0_4] ?_; intro gb389 hg w3 hbox hb; have BK389 := z0 (hbox); have GE389 := zG hg HB; replace HB := zH HB hb; clear hb hbox hg; have hcz4 := zc5 BK389.out) | ((with_reducible refine gc 89 ?_); refine zL (some 7) Try.func89 #[.agg #[.string a0_0, .string a0_1, .string a0_2, .slice A0_3 l0_3.length c0_3, .int .i64 a0_4]] ?_; (with_reducible refine (impl_Sieve_heads.calls k a0_0 a0_1 a0_2 _ _ l0_3 a0_4 t390 t393 _ (zC (Kd.C_below HR0_3.out HB.out)) HC0_3.out A2.out).mono ?_); rintro e w5 ⟨v391, rfl, ho0, hb⟩; refine zv ?_; have HO392 := z0 (Kd.R_lower ho0 (below_size (zb HB.out))); replace BK389 := zK BK389 hb; replace HB := zH HB hb; (try clear hb ho0)))
 go_ret; exact ⟨ze, zb HB.out⟩
theorem impl_Sieve_has.mono_l : ∀ k, (∀ y0 y1 y2 y3 y4 y5 y6 y7, LeO (impl_Sieve_has.l0 k y0 y1 y2 y3 y4 y5 y6 y7) (impl_Sieve_has.l0 (k + 1) y0 y1 y2 y3 y4 y5 y6 y7)) ∧ (∀ y0 y1 y2 y3 y4 y5 y6 y7 y8, LeO (impl_Sieve_has.j2 k y0 y1 y2 y3 y4 y5 y6 y7 y8) (impl_Sieve_has.j2 (k + 1) y0 y1 y2 y3 y4 y5 y6 y7 y8)) ∧ (∀ y0 y1 y2 y3 y4 y5 y6 y7 y8, LeO (impl_Sieve_has.l1 k y0 y1 y2 y3 y4 y5 y6 y7 y8) (impl_Sieve_has.l1 (k + 1) y0 y1 y2 y3 y4 y5 y6 y7 y8))
  | 0 => ⟨fun _ _ _ _ _ _ _ _ r h => by simp [impl_Sieve_has.l0] at h, fun _ _ _ _ _ _ _ _ _ r h => by simp [impl_Sieve_has.j2] at h, fun _ _ _ _ _ _ _ _ _ r h => by simp [impl_Sieve_has.l1] at h⟩
  | k + 1 => by
    obtain ⟨ih0, ih1, ih2⟩ := impl_Sieve_has.mono_l k
    refine ⟨?_, ?_, ?_⟩
    · intro y0 y1 y2 y3 y4 y5 y6 y7
      unfold impl_Sieve_has.l0
      repeat' first | (with_reducible first | apply ih0 | apply ih1 | apply ih2 | apply impl_Sieve_branches.mono | exact LeO.refl _ | exact LeO.none _ | refine LeO.ite ?_ ?_ | refine LeO.bind ?_ (fun _ => ?_)) | exact LeO.none _ | refine LeO.ite ?_ ?_ | refine LeO.bind ?_ (fun _ => ?_)
    · intro y0 y1 y2 y3 y4 y5 y6 y7 y8
      unfold impl_Sieve_has.j2
      repeat' first | (with_reducible first | apply ih0 | apply ih1 | apply ih2 | apply impl_Sieve_branches.mono | exact LeO.refl _ | exact LeO.none _ | refine LeO.ite ?_ ?_ | refine LeO.bind ?_ (fun _ => ?_)) | exact LeO.none _ | refine LeO.ite ?_ ?_ | refine LeO.bind ?_ (fun _ => ?_)
    · intro y0 y1 y2 y3 y4 y5 y6 y7 y8
      unfold impl_Sieve_has.l1
      repeat' first | (with_reducible first | apply ih0 | apply ih1 | apply ih2 | apply impl_Sieve_branches.mono | exact LeO.refl _ | exact LeO.none _ | refine LeO.ite ?_ ?_ | refine LeO.bind ?_ (fun _ => ?_)) | exact LeO.none _ | refine LeO.ite ?_ ?_ | refine LeO.bind ?_ (fun _ => ?_)
theorem impl_Sieve_has.mono : ∀ a0 a1 a2 a3 a4 a5 k, LeO (impl_Sieve_has.f k a0 a1 a2 a3 a4 a5) (impl_Sieve_has.f (k + 1) a0 a1 a2 a3 a4 a5) := by
  intro a0 a1 a2 a3 a4 a5 k
  obtain ⟨ih0, ih1, ih2⟩ := impl_Sieve_has.mono_l k
  unfold impl_Sieve_has.f
  repeat' first | (with_reducible first | apply ih0 | apply ih1 | apply ih2 | apply impl_Sieve_branches.mono | exact LeO.refl _ | exact LeO.none _ | refine LeO.ite ?_ ?_ | refine LeO.bind ?_ (fun _ => ?_)) | exact LeO.none _ | refine LeO.ite ?_ ?_ | refine LeO.bind ?_ (fun _ => ?_)
theorem impl_Sieve_has.calls (k : Nat) (a0_0 a0_1 a0_2 : ByteArray) (A0_3 : Option Addr) (c0_3 : Nat) (l0_3 : List ByteArray) (a0_4 : Int) (a1 : ByteArray) (r : Bool) (w : World) (hr0_3 : Kd.C Kd.string w A0_3 l0_3.length l0_3) (hc0_3 : l0_3.length ≤ c0_3) (h : impl_Sieve_has.f k a0_0 a0_1 a0_2 l0_3 a0_4 a1 = some r) :
    Calls Try.prog 68 #[.agg #[.string a0_0, .string a0_1, .string a0_2, .slice A0_3 l0_3.length c0_3, .int .i64 a0_4], .string a1] w fun e w' => e = .returned (.bool r) ∧ Below w.heap.size w w' := by
 have hu25 := Try.underlying25; have HR0_3 := z0 hr0_3; have HC0_3 := z0 hc0_3; clear hr0_3 hc0_3; have HB := z0 (Below.refl w.heap.size w); have H : (impl_Sieve_has.l0 k a1 0 0 a0_0 a0_1 a0_2 l0_3 a0_4) = some r := h; clear h; have H' := z0 H; clear H; go_enter Try.func68, Try.ntmps68
 go_wp2_with (first | ((with_reducible refine gd 2 ?_); refine zbx 25 #[.string a0_0, .string a0_1, .string a0_2, .slice A0_3 l0_3.length c0_3, .int .i64 a0_4] ?_; intro gb396 hg w3 hbox hb; have BK396 := z0 (hbox); have GE396 := zG hg HB; replace HB := zH HB hb; clear hb hbox hg))
 repeat (go_quiet (first | ((with_reducible refine gd 2 ?_); refine zbx 25 #[.string a0_0, .string a0_1, .string a0_2, .slice A0_3 l0_3.length c0_3, .int .i64 a0_4] ?_; intro gb396 hg w3 hbox hb; have BK396 := z0 (hbox); have GE396 := zG hg HB; replace HB := zH HB hb; clear hb hbox hg)); try go_wp2_with (first | ((with_reducible refine gd 2 ?_); refine zbx 25 #[.string a0_0, .string a0_1, .string a0_2, .slice A0_3 l0_3.length c0_3, .int .i64 a0_4] ?_; intro gb396 hg w3 hbox hb; have BK396 := z0 (hbox); have GE396 := zG hg HB; replace HB := zH HB hb; clear hb hbox hg)))
 go_loopg [5, 6] k (fun kq v5 v6 w' => ∃ (x5_1 : Int) (x6_1 : Int), v5 = .int .i64 x5_1 ∧ v6 = .int .i64 x6_1 ∧ Aside0 (impl_Sieve_has.l0 kq a1 x5_1 x6_1 a0_0 a0_1 a0_2 l0_3 a0_4 = some r) ∧ Aside0 (kq ≤ k) ∧ Aside0 (w'.heap[gb396]? = some (.cells #[.string a0_0, .string a0_1, .string a0_2, (.slice A0_3 l0_3.length c0_3), .int .i64 a0_4] 25 (0, 0))) ∧ Aside0 (Below w.heap.size w w'))
 case atStart => exact ⟨(0), (0), zf, zf, H', ⟨Nat.le_refl _⟩, ⟨zl BK396.out⟩, ⟨zb HB.out⟩⟩
 case round =>
  clear H'
  try clear p2
  obtain ⟨x5_1, x6_1, rfl, rfl, HA, HK1, BK396, HB⟩ := hrel
  cases gk with
  | zero => exact absurd HA.out (by simp [impl_Sieve_has.l0])
  | succ k1 =>
   have H := HA.out; clear HA; simp only [impl_Sieve_has.l0] at H; replace H := zi H; obtain ⟨⟨t397, t398⟩, A4, H⟩ := H; (try dsimp only at H); have HC5 := z0 H; clear H; have hcz6 := zc5 BK396.out
   go_upto_block 2 with (first | (go_at_call 102; (with_reducible refine (impl_Sieve_branches.calls k1 a0_0 a0_1 a0_2 _ _ l0_3 a0_4 x5_1 t397 t398 _ ?side1 ?side2 A4.out).mono ?_); (case side1 => repeat (first | exact (Kd.C_below HR0_3.out HB.out) | (with_reducible refine Kd.C_alloc ?_ _) | (with_reducible refine Kd.C_drewN ?_ _) | (with_reducible refine Kd.C_drew ?_))); (case side2 => exact HC0_3.out); rintro e w7 ⟨rfl, hb⟩; replace BK396 := zK BK396 hb; replace HB := zH HB hb; (try clear hb)))
   repeat (go_quiet (first | (go_at_call 102; (with_reducible refine (impl_Sieve_branches.calls k1 a0_0 a0_1 a0_2 _ _ l0_3 a0_4 x5_1 t397 t398 _ ?side1 ?side2 A4.out).mono ?_); (case side1 => repeat (first | exact (Kd.C_below HR0_3.out HB.out) | (with_reducible refine Kd.C_alloc ?_ _) | (with_reducible refine Kd.C_drewN ?_ _) | (with_reducible refine Kd.C_drew ?_))); (case side2 => exact HC0_3.out); rintro e w7 ⟨rfl, hb⟩; replace BK396 := zK BK396 hb; replace HB := zH HB hb; (try clear hb))); go_upto_block 2 with (first | (go_at_call 102; (with_reducible refine (impl_Sieve_branches.calls k1 a0_0 a0_1 a0_2 _ _ l0_3 a0_4 x5_1 t397 t398 _ ?side1 ?side2 A4.out).mono ?_); (case side1 => repeat (first | exact (Kd.C_below HR0_3.out HB.out) | (with_reducible refine Kd.C_alloc ?_ _) | (with_reducible refine Kd.C_drewN ?_ _) | (with_reducible refine Kd.C_drew ?_))); (case side2 => exact HC0_3.out); rintro e w7 ⟨rfl, hb⟩; replace BK396 := zK BK396 hb; replace HB := zH HB hb; (try clear hb))))
   (try simp only [Act.put, List.setIfInBounds_toArray, List.set_cons_zero, List.set_cons_succ])
   go_cut [9] (fun v9 wc => ∃ (kq : Nat) (x9_4 : Int), v9 = .int .i64 x9_4 ∧ Aside0 (impl_Sieve_has.j2 kq a1 x6_1 t398 x9_4 a0_0 a0_1 a0_2 l0_3 a0_4 = some r) ∧ Aside0 (kq ≤ k1) ∧ Aside0 (wc.heap[gb396]? = some (.cells #[.string a0_0, .string a0_1, .string a0_2, (.slice A0_3 l0_3.length c0_3), .int .i64 a0_4] 25 (0, 0))) ∧ Aside0 (Below w.heap.size w wc))
   case first =>
    have H := HC5.out; clear HC5; have H' := z0 H; clear H; go_wp2
    repeat (go_quiet (fail); try go_wp2)
    go_loopg [9] k1 (fun kq v9 w' => ∃ (x9_2 : Int), v9 = .int .i64 x9_2 ∧ Aside0 (impl_Sieve_has.l1 kq a1 x6_1 t398 x9_2 a0_0 a0_1 a0_2 l0_3 a0_4 = some r) ∧ Aside0 (kq ≤ k1) ∧ Aside0 (w'.heap[gb396]? = some (.cells #[.string a0_0, .string a0_1, .string a0_2, (.slice A0_3 l0_3.length c0_3), .int .i64 a0_4] 25 (0, 0))) ∧ Aside0 (Below w.heap.size w w'))
    case atStart => exact ⟨(t397), zf, H', ⟨Nat.le_refl _⟩, ⟨zl BK396.out⟩, ⟨zb HB.out⟩⟩
    case round =>
     clear H'
     try clear p2
     try clear c6
     try clear hcz6
     try clear p2
     obtain ⟨x9_2, rfl, HA, HK2, BK396, HB⟩ := hrel
     cases gk with
     | zero => exact absurd HA.out (by simp [impl_Sieve_has.l1])
     | succ k2 =>
      have H := HA.out; clear HA; simp only [impl_Sieve_has.l1] at H
      by_cases c8 : x9_2 < t398
      ·rw [if_pos c8] at H; have c8b0 := decide_eq_true c8; clear c8; (first | rw [c8b0] | (simp only [i64_w, i32_w]; rw [c8b0]) | simp only [*, Bool.not_true, Bool.not_false] | skip); replace H := zn H; obtain ⟨c9, H⟩ := H; have c9b0 := decide_eq_true c9; clear c9; replace H := zn H; obtain ⟨c10, H⟩ := H; have c10b0 := decide_eq_true c10; clear c10; replace H := zi H; obtain ⟨t399, A12, H⟩ := H; have hcz13 := zc5 BK396.out; have p11 : 0 ≤ (x9_2 : Int) := zd; have q11 : x9_2 < (a0_0.size : Int) := zd; have hx11 := bt_at a0_0 x9_2; replace p11 := eq_true p11; replace q11 := eq_true q11
       go_upto_if 32 with (first | (go_at_call 103; (with_reducible refine (impl_label.calls a1 x6_1 t399 _ A12.out).mono ?_); rintro e w' ⟨rfl, ⟨nd, rfl⟩⟩; (try exact zdd)))
       repeat (go_quiet (first | (go_at_call 103; (with_reducible refine (impl_label.calls a1 x6_1 t399 _ A12.out).mono ?_); rintro e w' ⟨rfl, ⟨nd, rfl⟩⟩; (try exact zdd))); go_upto_if 32 with (first | (go_at_call 103; (with_reducible refine (impl_label.calls a1 x6_1 t399 _ A12.out).mono ?_); rintro e w' ⟨rfl, ⟨nd, rfl⟩⟩; (try exact zdd))))
       by_cases c14 : (bt a0_0 x9_2) = t399
       ·rw [if_pos c14] at H; have c14b0 : ((bt a0_0 x9_2) == t399) = true := beq_iff_eq.mpr c14; have c14b1 : ((bt a0_0 x9_2) != t399) = false := bne_eq_false_iff_eq.mpr c14; clear c14; (first | rw [c14b0] | (simp only [i64_w, i32_w]; rw [c14b0]) | simp only [*, Bool.not_true, Bool.not_false] | skip); have H' := z0 H; clear H; go_wp2
        repeat (go_quiet (fail); try go_wp2)
        go_meet
        case rel => exact ⟨_, (x9_2), zf, H', ⟨by have := HK1.out; have := HK2.out; first | omega | exact Nat.le_refl _⟩, ⟨zl BK396.out⟩, ⟨zb HB.out⟩⟩
       ·rw [if_neg c14] at H; have c14b0 : ((bt a0_0 x9_2) == t399) = false := beq_eq_false_iff_ne.mpr c14; have c14b1 : ((bt a0_0 x9_2) != t399) = true := bne_iff_ne.mpr c14; (first | rw [c14b0] | (simp only [i64_w, i32_w]; rw [c14b0]) | simp only [*, Bool.not_true, Bool.not_false] | skip); have H' := z0 H; clear H; go_wp2
        repeat (go_quiet (fail); try go_wp2)
        go_roundg k2
        case measure => have := HK1.out; have := HK2.out; omega
        case rel => exact ⟨(wrap64 (x9_2 + 1)), zf, H', ⟨by have := HK1.out; have := HK2.out; omega⟩, ⟨zl BK396.out⟩, ⟨zb HB.out⟩⟩
      ·rw [if_neg c8] at H; have c8b0 := decide_eq_false c8; clear c8; (first | rw [c8b0] | (simp only [i64_w, i32_w]; rw [c8b0]) | simp only [*, Bool.not_true, Bool.not_false] | skip); have H' := z0 H; clear H; go_wp2
       repeat (go_quiet (fail); try go_wp2)
       go_meet
       case rel => exact ⟨_, (x9_2), zf, H', ⟨by have := HK1.out; have := HK2.out; first | omega | exact Nat.le_refl _⟩, ⟨zl BK396.out⟩, ⟨zb HB.out⟩⟩
   case rest =>
    clear HC5
    try clear c1
    try clear p1
    try clear q1
    try clear hx1
    try clear p2
    try clear c6
    try clear p6
    try clear c8
    try clear c8b0
    try clear c9
    try clear c9b0
    try clear c10
    try clear c10b0
    try clear p11
    try clear q11
    try clear hx11
    try clear c14
    try clear c14b0
    try clear c14b1
    try clear hcz13
    try clear hcz6
    try clear p11
    try clear p2
    try clear q11
    obtain ⟨kq, x9_4, rfl, HA, HJ4, BK396, HB⟩ := hcut
    cases kq with
    | zero => exact absurd HA.out (by simp [impl_Sieve_has.j2])
    | succ kj4 =>
     have H := HA.out; clear HA; simp only [impl_Sieve_has.j2] at H
     by_cases c15 : x9_4 = t398
     ·rw [if_pos c15] at H; have c15b0 : (x9_4 == t398) = true := beq_iff_eq.mpr c15; have c15b1 : (x9_4 != t398) = false := bne_eq_false_iff_eq.mpr c15; clear c15; obtain rfl := Option.some.inj H; go_wp2
      repeat (go_quiet (fail); try go_wp2)
      go_ret; exact ⟨ze, zb HB.out⟩
     ·rw [if_neg c15] at H; have c15b0 : (x9_4 == t398) = false := beq_eq_false_iff_ne.mpr c15; have c15b1 : (x9_4 != t398) = true := bne_iff_ne.mpr c15; replace H := zn H; obtain ⟨c16, H⟩ := H; have c16b0 := decide_eq_true c16; clear c16; replace H := zn H; obtain ⟨c17, H⟩ := H; have c17b0 := decide_eq_true c17; clear c17
      by_cases c19 : (bt a0_1 x9_4) = 49
      ·rw [if_pos c19] at H; have c19b0 : ((bt a0_1 x9_4) == 49) = true := beq_iff_eq.mpr c19; have c19b1 : ((bt a0_1 x9_4) != 49) = false := bne_eq_false_iff_eq.mpr c19; clear c19; replace H := zi H; obtain ⟨t400, A20, H⟩ := H; have H' := z0 H; clear H; have hcz21 := zc5 BK396.out; have p18 : 0 ≤ (x9_4 : Int) := zd; have q18 : x9_4 < (a0_1.size : Int) := zd; have hx18 := bt_at a0_1 x9_4; replace p18 := eq_true p18; replace q18 := eq_true q18
       go_wp2_with (first | (go_at_call 104; (with_reducible refine (impl_Sieve_node.calls a0_0 a0_1 a0_2 _ _ l0_3 a0_4 x9_4 t400 _ ?side1 ?side2 A20.out).mono ?_); (case side1 => repeat (first | exact (Kd.C_below HR0_3.out HB.out) | (with_reducible refine Kd.C_alloc ?_ _) | (with_reducible refine Kd.C_drewN ?_ _) | (with_reducible refine Kd.C_drew ?_))); (case side2 => exact HC0_3.out); rintro e w22 ⟨rfl, hb⟩; replace BK396 := zK BK396 hb; replace HB := zH HB hb; (try clear hb)))
       repeat (go_quiet (first | (go_at_call 104; (with_reducible refine (impl_Sieve_node.calls a0_0 a0_1 a0_2 _ _ l0_3 a0_4 x9_4 t400 _ ?side1 ?side2 A20.out).mono ?_); (case side1 => repeat (first | exact (Kd.C_below HR0_3.out HB.out) | (with_reducible refine Kd.C_alloc ?_ _) | (with_reducible refine Kd.C_drewN ?_ _) | (with_reducible refine Kd.C_drew ?_))); (case side2 => exact HC0_3.out); rintro e w22 ⟨rfl, hb⟩; replace BK396 := zK BK396 hb; replace HB := zH HB hb; (try clear hb))); try go_wp2_with (first | (go_at_call 104; (with_reducible refine (impl_Sieve_node.calls a0_0 a0_1 a0_2 _ _ l0_3 a0_4 x9_4 t400 _ ?side1 ?side2 A20.out).mono ?_); (case side1 => repeat (first | exact (Kd.C_below HR0_3.out HB.out) | (with_reducible refine Kd.C_alloc ?_ _) | (with_reducible refine Kd.C_drewN ?_ _) | (with_reducible refine Kd.C_drew ?_))); (case side2 => exact HC0_3.out); rintro e w22 ⟨rfl, hb⟩; replace BK396 := zK BK396 hb; replace HB := zH HB hb; (try clear hb))))
       go_roundg kj4
       case measure => have := HK1.out; have := HJ4.out; omega
       case rel => exact ⟨(t400), (wrap64 (x6_1 + 1)), zf, zf, H', ⟨by have := HK1.out; have := HJ4.out; omega⟩, ⟨zl BK396.out⟩, ⟨zb HB.out⟩⟩
      ·rw [if_neg c19] at H; have c19b0 : ((bt a0_1 x9_4) == 49) = false := beq_eq_false_iff_ne.mpr c19; have c19b1 : ((bt a0_1 x9_4) != 49) = true := bne_iff_ne.mpr c19; obtain ⟨ji23, hji23⟩ : ∃ j_ : Int, (mn (wrap64 (x6_1 + 1)) (a1.size : Int)) = j_ := ⟨_, rfl⟩
       replace H : (if 0 ≤ (ji23) then (if (ji23) ≤ (a1.size : Int) then ((impl_Sieve_complete.f a0_0 a0_1 a0_2 l0_3 a0_4 x9_4).bind fun t401 => (if t401 = true then ((impl_Sieve_rest.f a0_0 a0_1 a0_2 l0_3 a0_4 x9_4).bind fun t402 => (some ((a1.extract ((ji23) : Int).toNat a1.size).toList == t402.toList))) else ((impl_Sieve_rest.f a0_0 a0_1 a0_2 l0_3 a0_4 x9_4).bind fun t403 => ((impl_KeyBegins.f (a1.extract ((ji23) : Int).toNat a1.size) t403).bind fun t404 => (some t404))))) else (none)) else (none)) = some r := by first | (rw [hji23] at H; exact H) | (simp only [hji23] at H ⊢; exact H)
       have hji23_ : (if (a1.size : Int) < (wrap64 (x6_1 + 1)) then (a1.size : Int) else (wrap64 (x6_1 + 1))) = ji23 := hji23; replace H := zn H; obtain ⟨c24, H⟩ := H; have c24b0 := eq_true c24; have c24b1 := decide_eq_true c24; clear c24; replace H := zn H; obtain ⟨c25, H⟩ := H; have c25b0 := eq_true c25; have c25b1 := decide_eq_true c25; clear c25; replace H := zi H; obtain ⟨t401, A26, H⟩ := H
       by_cases c27 : t401 = true
       ·subst c27
        have H1 : ((impl_Sieve_rest.f a0_0 a0_1 a0_2 l0_3 a0_4 x9_4).bind fun t402 => (some ((a1.extract ((ji23) : Int).toNat a1.size).toList == t402.toList))) = some r := by rw [if_pos rfl] at H; exact H
        clear H; have H := H1; clear H1; replace H := zi H; obtain ⟨t402, A28, H⟩ := H; obtain rfl := Option.some.inj H; have hcz29 := zc5 BK396.out; have p18 : 0 ≤ (x9_4 : Int) := zd; have q18 : x9_4 < (a0_1.size : Int) := zd; have hx18 := bt_at a0_1 x9_4; replace p18 := eq_true p18; replace q18 := eq_true q18
        go_wp2_with (first | (go_at_call 105; (with_reducible refine (impl_Sieve_complete.calls a0_0 a0_1 a0_2 _ _ l0_3 a0_4 x9_4 true _ ?side1 ?side2 A26.out).mono ?_); (case side1 => repeat (first | exact (Kd.C_below HR0_3.out HB.out) | (with_reducible refine Kd.C_alloc ?_ _) | (with_reducible refine Kd.C_drewN ?_ _) | (with_reducible refine Kd.C_drew ?_))); (case side2 => exact HC0_3.out); rintro e w30 ⟨rfl, hb⟩; replace BK396 := zK BK396 hb; replace HB := zH HB hb; (try clear hb); have hcz31 := zc5 BK396.out) | (go_at_call 106; (with_reducible refine (impl_Sieve_rest.calls a0_0 a0_1 a0_2 _ _ l0_3 a0_4 x9_4 t402 _ ?side1 ?side2 A28.out).mono ?_); (case side1 => repeat (first | exact (Kd.C_below HR0_3.out HB.out) | (with_reducible refine Kd.C_alloc ?_ _) | (with_reducible refine Kd.C_drewN ?_ _) | (with_reducible refine Kd.C_drew ?_))); (case side2 => exact HC0_3.out); rintro e w32 ⟨rfl, hb⟩; replace BK396 := zK BK396 hb; replace HB := zH HB hb; (try clear hb)))
        repeat (go_quiet (first | (go_at_call 105; (with_reducible refine (impl_Sieve_complete.calls a0_0 a0_1 a0_2 _ _ l0_3 a0_4 x9_4 true _ ?side1 ?side2 A26.out).mono ?_); (case side1 => repeat (first | exact (Kd.C_below HR0_3.out HB.out) | (with_reducible refine Kd.C_alloc ?_ _) | (with_reducible refine Kd.C_drewN ?_ _) | (with_reducible refine Kd.C_drew ?_))); (case side2 => exact HC0_3.out); rintro e w30 ⟨rfl, hb⟩; replace BK396 := zK BK396 hb; replace HB := zH HB hb; (try clear hb); have hcz31 := zc5 BK396.out) | (go_at_call 106; (with_reducible refine (impl_Sieve_rest.calls a0_0 a0_1 a0_2 _ _ l0_3 a0_4 x9_4 t402 _ ?side1 ?side2 A28.out).mono ?_); (case side1 => repeat (first | exact (Kd.C_below HR0_3.out HB.out) | (with_reducible refine Kd.C_alloc ?_ _) | (with_reducible refine Kd.C_drewN ?_ _) | (with_reducible refine Kd.C_drew ?_))); (case side2 => exact HC0_3.out); rintro e w32 ⟨rfl, hb⟩; replace BK396 := zK BK396 hb; replace HB := zH HB hb; (try clear hb))); try go_wp2_with (first | (go_at_call 105; (with_reducible refine (impl_Sieve_complete.calls a0_0 a0_1 a0_2 _ _ l0_3 a0_4 x9_4 true _ ?side1 ?side2 A26.out).mono ?_); (case side1 => repeat (first | exact (Kd.C_below HR0_3.out HB.out) | (with_reducible refine Kd.C_alloc ?_ _) | (with_reducible refine Kd.C_drewN ?_ _) | (with_reducible refine Kd.C_drew ?_))); (case side2 => exact HC0_3.out); rintro e w30 ⟨rfl, hb⟩; replace BK396 := zK BK396 hb; replace HB := zH HB hb; (try clear hb); have hcz31 := zc5 BK396.out) | (go_at_call 106; (with_reducible refine (impl_Sieve_rest.calls a0_0 a0_1 a0_2 _ _ l0_3 a0_4 x9_4 t402 _ ?side1 ?side2 A28.out).mono ?_); (case side1 => repeat (first | exact (Kd.C_below HR0_3.out HB.out) | (with_reducible refine Kd.C_alloc ?_ _) | (with_reducible refine Kd.C_drewN ?_ _) | (with_reducible refine Kd.C_drew ?_))); (case side2 => exact HC0_3.out); rintro e w32 ⟨rfl, hb⟩; replace BK396 := zK BK396 hb; replace HB := zH HB hb; (try clear hb))))
        go_ret; exact ⟨by first | rfl | (simp [errW_none, errW_some] <;> rfl) | (simp only [← hji23]; first | rfl | (simp [errW_none, errW_some] <;> rfl)) | (simp [*, errW_none, errW_some] <;> rfl), zb HB.out⟩
       ·replace c27 := Bool.eq_false_iff.mpr c27; subst c27
        have H1 : ((impl_Sieve_rest.f a0_0 a0_1 a0_2 l0_3 a0_4 x9_4).bind fun t403 => ((impl_KeyBegins.f (a1.extract ((ji23) : Int).toNat a1.size) t403).bind fun t404 => (some t404))) = some r := by rw [if_neg (show ¬ (false = true) by decide)] at H; exact H
        clear H; have H := H1; clear H1; replace H := zi H; obtain ⟨t403, A33, H⟩ := H; replace H := zi H; obtain ⟨t404, A34, H⟩ := H; obtain rfl := Option.some.inj H; have hcz35 := zc5 BK396.out; have p18 : 0 ≤ (x9_4 : Int) := zd; have q18 : x9_4 < (a0_1.size : Int) := zd; have hx18 := bt_at a0_1 x9_4; replace p18 := eq_true p18; replace q18 := eq_true q18
        go_wp2_with (first | (go_at_call 105; (with_reducible refine (impl_Sieve_complete.calls a0_0 a0_1 a0_2 _ _ l0_3 a0_4 x9_4 false _ ?side1 ?side2 A26.out).mono ?_); (case side1 => repeat (first | exact (Kd.C_below HR0_3.out HB.out) | (with_reducible refine Kd.C_alloc ?_ _) | (with_reducible refine Kd.C_drewN ?_ _) | (with_reducible refine Kd.C_drew ?_))); (case side2 => exact HC0_3.out); rintro e w36 ⟨rfl, hb⟩; replace BK396 := zK BK396 hb; replace HB := zH HB hb; (try clear hb); have hcz37 := zc5 BK396.out) | (go_at_call 106; (with_reducible refine (impl_Sieve_rest.calls a0_0 a0_1 a0_2 _ _ l0_3 a0_4 x9_4 t403 _ ?side1 ?side2 A33.out).mono ?_); (case side1 => repeat (first | exact (Kd.C_below HR0_3.out HB.out) | (with_reducible refine Kd.C_alloc ?_ _) | (with_reducible refine Kd.C_drewN ?_ _) | (with_reducible refine Kd.C_drew ?_))); (case side2 => exact HC0_3.out); rintro e w38 ⟨rfl, hb⟩; replace BK396 := zK BK396 hb; replace HB := zH HB hb; (try clear hb)) | (go_at_call 42; (with_reducible refine (impl_KeyBegins.calls (a1.extract ((ji23) : Int).toNat a1.size) t403 t404 _ A34.out).mono ?_); rintro e w' ⟨rfl, ⟨nd, rfl⟩⟩; (try exact zdd)))
        repeat (go_quiet (first | (go_at_call 105; (with_reducible refine (impl_Sieve_complete.calls a0_0 a0_1 a0_2 _ _ l0_3 a0_4 x9_4 false _ ?side1 ?side2 A26.out).mono ?_); (case side1 => repeat (first | exact (Kd.C_below HR0_3.out HB.out) | (with_reducible refine Kd.C_alloc ?_ _) | (with_reducible refine Kd.C_drewN ?_ _) | (with_reducible refine Kd.C_drew ?_))); (case side2 => exact HC0_3.out); rintro e w36 ⟨rfl, hb⟩; replace BK396 := zK BK396 hb; replace HB := zH HB hb; (try clear hb); have hcz37 := zc5 BK396.out) | (go_at_call 106; (with_reducible refine (impl_Sieve_rest.calls a0_0 a0_1 a0_2 _ _ l0_3 a0_4 x9_4 t403 _ ?side1 ?side2 A33.out).mono ?_); (case side1 => repeat (first | exact (Kd.C_below HR0_3.out HB.out) | (with_reducible refine Kd.C_alloc ?_ _) | (with_reducible refine Kd.C_drewN ?_ _) | (with_reducible refine Kd.C_drew ?_))); (case side2 => exact HC0_3.out); rintro e w38 ⟨rfl, hb⟩; replace BK396 := zK BK396 hb; replace HB := zH HB hb; (try clear hb)) | (go_at_call 42; (with_reducible refine (impl_KeyBegins.calls (a1.extract ((ji23) : Int).toNat a1.size) t403 t404 _ A34.out).mono ?_); rintro e w' ⟨rfl, ⟨nd, rfl⟩⟩; (try exact zdd))); try go_wp2_with (first | (go_at_call 105; (with_reducible refine (impl_Sieve_complete.calls a0_0 a0_1 a0_2 _ _ l0_3 a0_4 x9_4 false _ ?side1 ?side2 A26.out).mono ?_); (case side1 => repeat (first | exact (Kd.C_below HR0_3.out HB.out) | (with_reducible refine Kd.C_alloc ?_ _) | (with_reducible refine Kd.C_drewN ?_ _) | (with_reducible refine Kd.C_drew ?_))); (case side2 => exact HC0_3.out); rintro e w36 ⟨rfl, hb⟩; replace BK396 := zK BK396 hb; replace HB := zH HB hb; (try clear hb); have hcz37 := zc5 BK396.out) | (go_at_call 106; (with_reducible refine (impl_Sieve_rest.calls a0_0 a0_1 a0_2 _ _ l0_3 a0_4 x9_4 t403 _ ?side1 ?side2 A33.out).mono ?_); (case side1 => repeat (first | exact (Kd.C_below HR0_3.out HB.out) | (with_reducible refine Kd.C_alloc ?_ _) | (with_reducible refine Kd.C_drewN ?_ _) | (with_reducible refine Kd.C_drew ?_))); (case side2 => exact HC0_3.out); rintro e w38 ⟨rfl, hb⟩; replace BK396 := zK BK396 hb; replace HB := zH HB hb; (try clear hb)) | (go_at_call 42; (with_reducible refine (impl_KeyBegins.calls (a1.extract ((ji23) : Int).toNat a1.size) t403 t404 _ A34.out).mono ?_); rintro e w' ⟨rfl, ⟨nd, rfl⟩⟩; (try exact zdd))))
        go_ret; exact ⟨by first | rfl | (simp [errW_none, errW_some] <;> rfl) | (simp only [← hji23]; first | rfl | (simp [errW_none, errW_some] <;> rfl)) | (simp [*, errW_none, errW_some] <;> rfl), zb HB.out⟩
theorem impl_SieveHas.mono : ∀ a0 a1 a2 a3 a4 a5 k, LeO (impl_SieveHas.f k a0 a1 a2 a3 a4 a5) (impl_SieveHas.f (k + 1) a0 a1 a2 a3 a4 a5) := by
  intro a0 a1 a2 a3 a4 a5 k
  unfold impl_SieveHas.f
  repeat' first | (with_reducible first | apply impl_KeyOk.mono | apply impl_SieveOk.mono | apply impl_Sieve_has.mono | exact LeO.refl _ | exact LeO.none _ | refine LeO.ite ?_ ?_ | refine LeO.bind ?_ (fun _ => ?_)) | exact LeO.none _ | refine LeO.ite ?_ ?_ | refine LeO.bind ?_ (fun _ => ?_)
theorem impl_SieveHas.calls (k : Nat) (a0_0 a0_1 a0_2 : ByteArray) (A0_3 : Option Addr) (c0_3 : Nat) (l0_3 : List ByteArray) (a0_4 : Int) (a1 : ByteArray) (r : Bool) (w : World) (hr0_3 : Kd.C Kd.string w A0_3 l0_3.length l0_3) (hc0_3 : l0_3.length ≤ c0_3) (h : impl_SieveHas.f k a0_0 a0_1 a0_2 l0_3 a0_4 a1 = some r) :
    Calls Try.prog 28 #[.agg #[.string a0_0, .string a0_1, .string a0_2, .slice A0_3 l0_3.length c0_3, .int .i64 a0_4], .string a1] w fun e w' => e = .returned (.bool r) ∧ Below w.heap.size w w' := by
 have hu25 := Try.underlying25; have HR0_3 := z0 hr0_3; have HC0_3 := z0 hc0_3; clear hr0_3 hc0_3; have HB := z0 (Below.refl w.heap.size w); have H : ((impl_SieveOk.f k a0_0 a0_1 a0_2 l0_3 a0_4).bind fun t406 => (if t406 = true then ((impl_KeyOk.f k a1).bind fun t407 => (if t407 = true then ((impl_Sieve_has.f k a0_0 a0_1 a0_2 l0_3 a0_4 a1).bind fun t408 => (some t408)) else (some false))) else (some false))) = some r := h; clear h; replace H := zi H; obtain ⟨t406, A3, H⟩ := H
 by_cases c4 : t406 = true
 ·subst c4
  have H1 : ((impl_KeyOk.f k a1).bind fun t407 => (if t407 = true then ((impl_Sieve_has.f k a0_0 a0_1 a0_2 l0_3 a0_4 a1).bind fun t408 => (some t408)) else (some false))) = some r := by rw [if_pos rfl] at H; exact H
  clear H; have H := H1; clear H1; replace H := zi H; obtain ⟨t407, A5, H⟩ := H
  by_cases c6 : t407 = true
  ·subst c6
   have H1 : ((impl_Sieve_has.f k a0_0 a0_1 a0_2 l0_3 a0_4 a1).bind fun t408 => (some t408)) = some r := by rw [if_pos rfl] at H; exact H
   clear H; have H := H1; clear H1; replace H := zi H; obtain ⟨t408, A7, H⟩ := H; obtain rfl := Option.some.inj H; go_enter Try.func28, Try.ntmps28
   go_wp2_with (first | ((with_reducible refine gd 2 ?_); refine zbx 25 #[.string a0_0, .string a0_1, .string a0_2, .slice A0_3 l0_3.length c0_3, .int .i64 a0_4] ?_; intro gb405 hg w8 hbox hb; have BK405 := z0 (hbox); have GE405 := zG hg HB; replace HB := zH HB hb; clear hb hbox hg; have hcz9 := zc5 BK405.out) | ((with_reducible refine gc 48 ?_); refine zL (some 6) Try.func48 #[.agg #[.string a0_0, .string a0_1, .string a0_2, .slice A0_3 l0_3.length c0_3, .int .i64 a0_4]] ?_; (with_reducible refine (impl_SieveOk.calls k a0_0 a0_1 a0_2 _ _ l0_3 a0_4 true _ (zC (Kd.C_below HR0_3.out HB.out)) HC0_3.out A3.out).mono ?_); rintro e w10 ⟨rfl, hb⟩; refine zv ?_; replace BK405 := zK BK405 hb; replace HB := zH HB hb; (try clear hb)) | (go_at_call 67; (with_reducible refine (impl_KeyOk.calls k a1 true _ A5.out).mono ?_); rintro e w' ⟨rfl, ⟨nd, rfl⟩⟩; have hcz11 := zc5 BK405.out) | (go_at_call 68; (with_reducible refine (impl_Sieve_has.calls k a0_0 a0_1 a0_2 _ _ l0_3 a0_4 a1 t408 _ ?side1 ?side2 A7.out).mono ?_); (case side1 => repeat (first | exact (Kd.C_below HR0_3.out (zb HB.out)) | (with_reducible refine Kd.C_alloc ?_ _) | (with_reducible refine Kd.C_drewN ?_ _) | (with_reducible refine Kd.C_drew ?_))); (case side2 => exact HC0_3.out); rintro e w12 ⟨rfl, hb⟩; replace BK405 := zK BK405 hb; replace HB := zH HB hb; (try clear hb)))
   go_ret; exact ⟨ze, zb HB.out⟩
  ·replace c6 := Bool.eq_false_iff.mpr c6; subst c6
   have H1 : (some false) = some r := by rw [if_neg (show ¬ (false = true) by decide)] at H; exact H
   clear H; have H := H1; clear H1; obtain rfl := Option.some.inj H; go_enter Try.func28, Try.ntmps28
   go_wp2_with (first | ((with_reducible refine gd 2 ?_); refine zbx 25 #[.string a0_0, .string a0_1, .string a0_2, .slice A0_3 l0_3.length c0_3, .int .i64 a0_4] ?_; intro gb405 hg w13 hbox hb; have BK405 := z0 (hbox); have GE405 := zG hg HB; replace HB := zH HB hb; clear hb hbox hg; have hcz14 := zc5 BK405.out) | ((with_reducible refine gc 48 ?_); refine zL (some 6) Try.func48 #[.agg #[.string a0_0, .string a0_1, .string a0_2, .slice A0_3 l0_3.length c0_3, .int .i64 a0_4]] ?_; (with_reducible refine (impl_SieveOk.calls k a0_0 a0_1 a0_2 _ _ l0_3 a0_4 true _ (zC (Kd.C_below HR0_3.out HB.out)) HC0_3.out A3.out).mono ?_); rintro e w15 ⟨rfl, hb⟩; refine zv ?_; replace BK405 := zK BK405 hb; replace HB := zH HB hb; (try clear hb)) | (go_at_call 67; (with_reducible refine (impl_KeyOk.calls k a1 false _ A5.out).mono ?_); rintro e w' ⟨rfl, ⟨nd, rfl⟩⟩))
   go_ret; exact ⟨ze, zb HB.out⟩
 ·replace c4 := Bool.eq_false_iff.mpr c4; subst c4
  have H1 : (some false) = some r := by rw [if_neg (show ¬ (false = true) by decide)] at H; exact H
  clear H; have H := H1; clear H1; obtain rfl := Option.some.inj H; go_enter Try.func28, Try.ntmps28
  go_wp2_with (first | ((with_reducible refine gd 2 ?_); refine zbx 25 #[.string a0_0, .string a0_1, .string a0_2, .slice A0_3 l0_3.length c0_3, .int .i64 a0_4] ?_; intro gb405 hg w16 hbox hb; have BK405 := z0 (hbox); have GE405 := zG hg HB; replace HB := zH HB hb; clear hb hbox hg; have hcz17 := zc5 BK405.out) | ((with_reducible refine gc 48 ?_); refine zL (some 6) Try.func48 #[.agg #[.string a0_0, .string a0_1, .string a0_2, .slice A0_3 l0_3.length c0_3, .int .i64 a0_4]] ?_; (with_reducible refine (impl_SieveOk.calls k a0_0 a0_1 a0_2 _ _ l0_3 a0_4 false _ (zC (Kd.C_below HR0_3.out HB.out)) HC0_3.out A3.out).mono ?_); rintro e w18 ⟨rfl, hb⟩; refine zv ?_; replace BK405 := zK BK405 hb; replace HB := zH HB hb; (try clear hb)))
  go_ret; exact ⟨ze, zb HB.out⟩
theorem impl_SieveSeek.mono_l : ∀ k, (∀ y0 y1 y2, LeO (impl_SieveSeek.j0 k y0 y1 y2) (impl_SieveSeek.j0 (k + 1) y0 y1 y2)) ∧ (∀ y0 y1 y2 y3, LeO (impl_SieveSeek.l0 k y0 y1 y2 y3) (impl_SieveSeek.l0 (k + 1) y0 y1 y2 y3))
  | 0 => ⟨fun _ _ _ r h => by simp [impl_SieveSeek.j0] at h, fun _ _ _ _ r h => by simp [impl_SieveSeek.l0] at h⟩
  | k + 1 => by
    obtain ⟨ih0, ih1⟩ := impl_SieveSeek.mono_l k
    refine ⟨?_, ?_⟩
    · intro y0 y1 y2
      unfold impl_SieveSeek.j0
      repeat' first | (with_reducible first | apply ih0 | apply ih1 | apply impl_KeyOk.mono | apply impl_Sieve_heads.mono | exact LeO.refl _ | exact LeO.none _ | refine LeO.ite ?_ ?_ | refine LeO.bind ?_ (fun _ => ?_)) | exact LeO.none _ | refine LeO.ite ?_ ?_ | refine LeO.bind ?_ (fun _ => ?_)
    · intro y0 y1 y2 y3
      unfold impl_SieveSeek.l0
      repeat' first | (with_reducible first | apply ih0 | apply ih1 | apply impl_KeyOk.mono | apply impl_Sieve_heads.mono | exact LeO.refl _ | exact LeO.none _ | refine LeO.ite ?_ ?_ | refine LeO.bind ?_ (fun _ => ?_)) | exact LeO.none _ | refine LeO.ite ?_ ?_ | refine LeO.bind ?_ (fun _ => ?_)
theorem impl_SieveSeek.mono : ∀ a0 a1 a2 a3 a4 a5 k, LeO (impl_SieveSeek.f k a0 a1 a2 a3 a4 a5) (impl_SieveSeek.f (k + 1) a0 a1 a2 a3 a4 a5) := by
  intro a0 a1 a2 a3 a4 a5 k
  obtain ⟨ih0, ih1⟩ := impl_SieveSeek.mono_l k
  unfold impl_SieveSeek.f
  repeat' first | (with_reducible first | apply ih0 | apply ih1 | apply impl_KeyOk.mono | apply impl_Sieve_heads.mono | exact LeO.refl _ | exact LeO.none _ | refine LeO.ite ?_ ?_ | refine LeO.bind ?_ (fun _ => ?_)) | exact LeO.none _ | refine LeO.ite ?_ ?_ | refine LeO.bind ?_ (fun _ => ?_)
theorem impl_SieveSeek.calls (k : Nat) (a0_0 a0_1 a0_2 : ByteArray) (A0_3 : Option Addr) (c0_3 : Nat) (l0_3 : List ByteArray) (a0_4 : Int) (a1 r1 : ByteArray) (r2 : Bool) (w : World) (hr0_3 : Kd.C Kd.string w A0_3 l0_3.length l0_3) (hc0_3 : l0_3.length ≤ c0_3) (h : impl_SieveSeek.f k a0_0 a0_1 a0_2 l0_3 a0_4 a1 = some (r1, r2)) :
    Calls Try.prog 44 #[.agg #[.string a0_0, .string a0_1, .string a0_2, .slice A0_3 l0_3.length c0_3, .int .i64 a0_4], .string a1] w fun e w' => e = .returned (.tuple #[.string r1, .bool r2]) ∧ Below w.heap.size w w' := by
 have hu25 := Try.underlying25; have hu93 := Try.underlying93; have HR0_3 := z0 hr0_3; have HC0_3 := z0 hc0_3; clear hr0_3 hc0_3; have HB := z0 (Below.refl w.heap.size w); have H : ((impl_Sieve_heads.f k a0_0 a0_1 a0_2 l0_3 a0_4).bind fun bt473 => (if bt473.2 = true then ((impl_KeyOk.f k a1).bind fun t477 => (impl_SieveSeek.j0 k a1 bt473.1 (!t477))) else (impl_SieveSeek.j0 k a1 bt473.1 true))) = some (r1, r2) := h; clear h; replace H := zi H; obtain ⟨⟨t473, t476⟩, A3, H⟩ := H; (try dsimp only at H); have HC4 := z0 H; clear H; go_enter Try.func44, Try.ntmps44
 go_upto_region 2 with (first | ((with_reducible refine gd 2 ?_); refine zbx 25 #[.string a0_0, .string a0_1, .string a0_2, .slice A0_3 l0_3.length c0_3, .int .i64 a0_4] ?_; intro gb472 hg w5 hbox hb; have BK472 := z0 (hbox); have GE472 := zG hg HB; replace HB := zH HB hb; clear hb hbox hg; have hcz6 := zc5 BK472.out) | ((with_reducible refine gc 89 ?_); refine zL (some 12) Try.func89 #[.agg #[.string a0_0, .string a0_1, .string a0_2, .slice A0_3 l0_3.length c0_3, .int .i64 a0_4]] ?_; (with_reducible refine (impl_Sieve_heads.calls k a0_0 a0_1 a0_2 _ _ l0_3 a0_4 t473 t476 _ (zC (Kd.C_below HR0_3.out HB.out)) HC0_3.out A3.out).mono ?_); rintro e w7 ⟨v474, rfl, ho0, hb⟩; refine zv ?_; have HO475 := z0 (Kd.R_lower ho0 (below_size (zb HB.out))); replace BK472 := zK BK472 hb; replace HB := zH HB hb; (try clear hb ho0)))
 (try simp only [Act.put, List.setIfInBounds_toArray, List.set_cons_zero, List.set_cons_succ])
 go_cut [21] (fun v21 wc => ∃ (kq : Nat) (x21_3 : Bool), v21 = .bool x21_3 ∧ Aside0 (impl_SieveSeek.j0 kq a1 t473 x21_3 = some (r1, r2)) ∧ Aside0 (kq ≤ k) ∧ Aside0 (Kd.R k93 93 wc w.heap.size (fun _ => True) v474 t473) ∧ Aside0 (wc.heap[gb472]? = some (.cells #[.string a0_0, .string a0_1, .string a0_2, (.slice A0_3 l0_3.length c0_3), .int .i64 a0_4] 25 (0, 0))) ∧ Aside0 (Below w.heap.size w wc))
 case first =>
  have H := HC4.out; clear HC4
  by_cases c8 : t476 = true
  ·subst c8
   have H1 : ((impl_KeyOk.f k a1).bind fun t477 => (impl_SieveSeek.j0 k a1 t473 (!t477))) = some (r1, r2) := by rw [if_pos rfl] at H; exact H
   clear H; have H := H1; clear H1; replace H := zi H; obtain ⟨t477, A9, H⟩ := H; have H' := z0 H; clear H
   go_wp2_with (first | (go_at_call 67; (with_reducible refine (impl_KeyOk.calls k a1 t477 _ A9.out).mono ?_); rintro e w' ⟨rfl, ⟨nd, rfl⟩⟩))
   go_meet
   case rel => exact ⟨_, (!t477), zf, H', ⟨by first | omega | exact Nat.le_refl _⟩, ⟨zr HO475.out⟩, ⟨zl BK472.out⟩, ⟨zb HB.out⟩⟩
  ·replace c8 := Bool.eq_false_iff.mpr c8; subst c8
   have H1 : (impl_SieveSeek.j0 k a1 t473 true) = some (r1, r2) := by rw [if_neg (show ¬ (false = true) by decide)] at H; exact H
   clear H; have H := H1; clear H1; have H' := z0 H; clear H; go_wp2; go_meet
   case rel => exact ⟨_, (true), zf, H', ⟨by first | omega | exact Nat.le_refl _⟩, ⟨zr HO475.out⟩, ⟨zl BK472.out⟩, ⟨zb HB.out⟩⟩
 case rest =>
  clear HC4
  try clear p2
  try clear c4
  try clear c8
  try clear hcz6
  obtain ⟨kq, x21_3, rfl, HA, HJ3, HO_6, BK472, HB⟩ := hcut
  cases kq with
  | zero => exact absurd HA.out (by simp [impl_SieveSeek.j0])
  | succ kj3 =>
   have H := HA.out; clear HA; simp only [impl_SieveSeek.j0] at H
   by_cases c10 : x21_3 = true
   ·subst c10
    have H1 : (some ((⟨#[]⟩ : ByteArray), false)) = some (r1, r2) := by rw [if_pos rfl] at H; exact H
    clear H; have H := H1; clear H1; simp only [Option.some.injEq, Prod.mk.injEq] at H; obtain ⟨rfl, rfl⟩ := H; go_wp2
    go_ret2
    exact ⟨ze, zb HB.out⟩
   ·replace c10 := Bool.eq_false_iff.mpr c10; subst c10
    have H1 : (impl_SieveSeek.l0 kj3 a1 t473 (t473.length : Int) 0) = some (r1, r2) := by rw [if_neg (show ¬ (false = true) by decide)] at H; exact H
    clear H; have H := H1; clear H1; have H' := z0 H; clear H; obtain ⟨Ao11, co11, eo11⟩ := Kd.R_slice HO_6.out; subst eo11; go_wp2
    go_loopg [24] kj3 (fun kq v24 w' => ∃ (x24_2 : Int), v24 = .int .i64 x24_2 ∧ Aside0 (impl_SieveSeek.l0 kq a1 t473 (t473.length : Int) x24_2 = some (r1, r2)) ∧ Aside0 (kq ≤ kj3) ∧ Aside0 (Kd.R k93 93 w' w.heap.size (fun _ => True) (.slice Ao11 t473.length co11) t473) ∧ Aside0 (w'.heap[gb472]? = some (.cells #[.string a0_0, .string a0_1, .string a0_2, (.slice A0_3 l0_3.length c0_3), .int .i64 a0_4] 25 (0, 0))) ∧ Aside0 (Below w.heap.size w w'))
    case atStart => exact ⟨(0), zf, H', ⟨Nat.le_refl _⟩, ⟨zr HO_6.out⟩, ⟨zl BK472.out⟩, ⟨zb HB.out⟩⟩
    case round =>
     clear H'
     try clear c1
     try clear p2
     try clear c4
     try clear c8
     try clear c10
     try clear hcz6
     try clear p2
     obtain ⟨x24_2, rfl, HA, HK2, HO_22, BK472, HB⟩ := hrel
     cases gk with
     | zero => exact absurd HA.out (by simp [impl_SieveSeek.l0])
     | succ k2 =>
      have H := HA.out; clear HA; simp only [impl_SieveSeek.l0] at H
      by_cases c12 : x24_2 < (t473.length : Int)
      ·rw [if_pos c12] at H; have c12b0 := decide_eq_true c12; clear c12; replace H := zn H; obtain ⟨c13, H⟩ := H; have c13b0 := decide_eq_true c13; clear c13; replace H := zn H; obtain ⟨c14, H⟩ := H; have c14b0 := decide_eq_true c14; clear c14
       by_cases c15 : ((Op.bytesLess (((rd_T93 t473 x24_2).f0).toList) a1.toList) = true)
       ·rw [if_pos c15] at H; have c15b0 : (Op.bytesLess (((rd_T93 t473 x24_2).f0).toList) a1.toList) = true := c15; clear c15; obtain ⟨bq16, hbq16⟩ : ∃ b_ : Bool, b_ = ((rd_T93 t473 x24_2).f1) := ⟨_, rfl⟩
        replace H : (if (bq16 = true) then (impl_SieveSeek.l0 k2 a1 t473 (t473.length : Int) (wrap64 (x24_2 + 1))) else ((impl_KeyBegins.f a1 ((rd_T93 t473 x24_2).f0)).bind fun t480 => (if t480 = true then (some ((rd_T93 t473 x24_2).f0, true)) else (impl_SieveSeek.l0 k2 a1 t473 (t473.length : Int) (wrap64 (x24_2 + 1)))))) = some (r1, r2) := by rw [← hbq16] at H; exact H
        have Nbq16 := z0 hbq16; clear hbq16
        by_cases c17 : (bq16 = true)
        ·subst c17
         have H1 : (impl_SieveSeek.l0 k2 a1 t473 (t473.length : Int) (wrap64 (x24_2 + 1))) = some (r1, r2) := by rw [if_pos rfl] at H; exact H
         clear H; have H := H1; clear H1; have H' := z0 H; clear H; have p478 : 0 ≤ (x24_2 : Int) := zd; have q478 : x24_2 < (t473.length : Int) := zd; obtain ⟨ad478, e478, hx478_0, hx478_1⟩ := at_T93 (Kd.R_reads' HO_22.out).2.2 x24_2 p478 q478; (try rw [← Nbq16.out] at hx478_1); cases e478; replace p478 := eq_true p478; replace q478 := eq_true q478
         go_wp2_with (first | ((with_reducible refine gd 9 ?_); refine zbx 93 #[.string ⟨#[]⟩, .bool false] ?_; intro gb479 hg w18 hbox hb; replace HO_22 := z0 (Kd.R_below (Kd.R_elderB (zr HO_22.out) gb479 (Nat.le_of_eq hg.symm)) hb); have BK479 := z0 (hbox); have GE479 := zG hg HB; replace HB := zH HB hb; have NB472_479 := zLt hg BK472; have NB479_472 := zGt hg BK472; replace BK472 := zK BK472 hb; clear hb hbox hg; have hnb19 := NB479_472.out; have hnc19 := NB472_479.out; have hcz20 := zc2 BK479.out))
         go_roundg k2
         case measure => have := HJ3.out; have := HK2.out; omega
         case rel => exact ⟨(wrap64 (x24_2 + 1)), zf, H', ⟨by have := HJ3.out; have := HK2.out; omega⟩, ⟨Kd.R_mono (zr (Kd.R_far (p := ⟨gb479, 1, none⟩) (Kd.R_far (p := ⟨gb479, 0, none⟩) (Kd.R_mono HO_22.out (fun k_ hk => (⟨hk, hk.2⟩ : _ ∧ k_ ≠ gb479))) (fun _ hk => hk.2) (.string ((rd_T93 t473 x24_2).f0))) (fun _ hk => hk.2) (.bool true))) (fun _ hk => trivial)⟩, ⟨zy BK472.out⟩, ⟨zb HB.out⟩⟩
        ·replace c17 := Bool.eq_false_iff.mpr c17; subst c17
         have H1 : ((impl_KeyBegins.f a1 ((rd_T93 t473 x24_2).f0)).bind fun t480 => (if t480 = true then (some ((rd_T93 t473 x24_2).f0, true)) else (impl_SieveSeek.l0 k2 a1 t473 (t473.length : Int) (wrap64 (x24_2 + 1))))) = some (r1, r2) := by rw [if_neg (show ¬ (false = true) by decide)] at H; exact H
         clear H; have H := H1; clear H1; replace H := zi H; obtain ⟨t480, A21, H⟩ := H
         by_cases c22 : t480 = true
         ·subst c22
          have H1 : (some ((rd_T93 t473 x24_2).f0, true)) = some (r1, r2) := by rw [if_pos rfl] at H; exact H
          clear H; have H := H1; clear H1; simp only [Option.some.injEq, Prod.mk.injEq] at H; obtain ⟨rfl, rfl⟩ := H; have p478 : 0 ≤ (x24_2 : Int) := zd; have q478 : x24_2 < (t473.length : Int) := zd; obtain ⟨ad478, e478, hx478_0, hx478_1⟩ := at_T93 (Kd.R_reads' HO_22.out).2.2 x24_2 p478 q478; (try rw [← Nbq16.out] at hx478_1); cases e478; replace p478 := eq_true p478; replace q478 := eq_true q478
          go_wp2_with (first | ((with_reducible refine gd 9 ?_); refine zbx 93 #[.string ⟨#[]⟩, .bool false] ?_; intro gb479 hg w23 hbox hb; replace HO_22 := z0 (Kd.R_below (Kd.R_elderB (zr HO_22.out) gb479 (Nat.le_of_eq hg.symm)) hb); have BK479 := z0 (hbox); have GE479 := zG hg HB; replace HB := zH HB hb; have NB472_479 := zLt hg BK472; have NB479_472 := zGt hg BK472; replace BK472 := zK BK472 hb; clear hb hbox hg; have hnb24 := NB479_472.out; have hnc24 := NB472_479.out; have hcz25 := zc2 BK479.out) | (go_at_call 42; (with_reducible refine (impl_KeyBegins.calls a1 ((rd_T93 t473 x24_2).f0) true _ A21.out).mono ?_); rintro e w' ⟨rfl, ⟨nd, rfl⟩⟩))
          go_ret2
          exact ⟨ze, zb HB.out⟩
         ·replace c22 := Bool.eq_false_iff.mpr c22; subst c22
          have H1 : (impl_SieveSeek.l0 k2 a1 t473 (t473.length : Int) (wrap64 (x24_2 + 1))) = some (r1, r2) := by rw [if_neg (show ¬ (false = true) by decide)] at H; exact H
          clear H; have H := H1; clear H1; have H' := z0 H; clear H; have p478 : 0 ≤ (x24_2 : Int) := zd; have q478 : x24_2 < (t473.length : Int) := zd; obtain ⟨ad478, e478, hx478_0, hx478_1⟩ := at_T93 (Kd.R_reads' HO_22.out).2.2 x24_2 p478 q478; (try rw [← Nbq16.out] at hx478_1); cases e478; replace p478 := eq_true p478; replace q478 := eq_true q478
          go_wp2_with (first | ((with_reducible refine gd 9 ?_); refine zbx 93 #[.string ⟨#[]⟩, .bool false] ?_; intro gb479 hg w26 hbox hb; replace HO_22 := z0 (Kd.R_below (Kd.R_elderB (zr HO_22.out) gb479 (Nat.le_of_eq hg.symm)) hb); have BK479 := z0 (hbox); have GE479 := zG hg HB; replace HB := zH HB hb; have NB472_479 := zLt hg BK472; have NB479_472 := zGt hg BK472; replace BK472 := zK BK472 hb; clear hb hbox hg; have hnb27 := NB479_472.out; have hnc27 := NB472_479.out; have hcz28 := zc2 BK479.out) | (go_at_call 42; (with_reducible refine (impl_KeyBegins.calls a1 ((rd_T93 t473 x24_2).f0) false _ A21.out).mono ?_); rintro e w' ⟨rfl, ⟨nd, rfl⟩⟩))
          go_roundg k2
          case measure => have := HJ3.out; have := HK2.out; omega
          case rel => exact ⟨(wrap64 (x24_2 + 1)), zf, H', ⟨by have := HJ3.out; have := HK2.out; omega⟩, ⟨Kd.R_mono (zr (Kd.R_far (p := ⟨gb479, 1, none⟩) (Kd.R_far (p := ⟨gb479, 0, none⟩) (Kd.R_mono HO_22.out (fun k_ hk => (⟨hk, hk.2⟩ : _ ∧ k_ ≠ gb479))) (fun _ hk => hk.2) (.string ((rd_T93 t473 x24_2).f0))) (fun _ hk => hk.2) (.bool false))) (fun _ hk => trivial)⟩, ⟨zy BK472.out⟩, ⟨zb HB.out⟩⟩
       ·rw [if_neg c15] at H
        have c15b0 : (Op.bytesLess (((rd_T93 t473 x24_2).f0).toList) a1.toList) = false := by simpa using c15
        clear c15; simp only [Option.some.injEq, Prod.mk.injEq] at H; obtain ⟨rfl, rfl⟩ := H; have p478 : 0 ≤ (x24_2 : Int) := zd; have q478 : x24_2 < (t473.length : Int) := zd; obtain ⟨ad478, e478, hx478_0, hx478_1⟩ := at_T93 (Kd.R_reads' HO_22.out).2.2 x24_2 p478 q478; cases e478; replace p478 := eq_true p478; replace q478 := eq_true q478
        go_wp2_with (first | ((with_reducible refine gd 9 ?_); refine zbx 93 #[.string ⟨#[]⟩, .bool false] ?_; intro gb479 hg w29 hbox hb; replace HO_22 := z0 (Kd.R_below (Kd.R_elderB (zr HO_22.out) gb479 (Nat.le_of_eq hg.symm)) hb); have BK479 := z0 (hbox); have GE479 := zG hg HB; replace HB := zH HB hb; have NB472_479 := zLt hg BK472; have NB479_472 := zGt hg BK472; replace BK472 := zK BK472 hb; clear hb hbox hg; have hnb30 := NB479_472.out; have hnc30 := NB472_479.out; have hcz31 := zc2 BK479.out))
        go_ret2
        exact ⟨ze, zb HB.out⟩
      ·rw [if_neg c12] at H; have c12b0 := decide_eq_false c12; clear c12; simp only [Option.some.injEq, Prod.mk.injEq] at H; obtain ⟨rfl, rfl⟩ := H; go_wp2
       go_ret2
       exact ⟨ze, zb HB.out⟩
theorem impl_SieveMeets.mono : ∀ a0 a1 a2 a3 a4 a5 a6 k, LeO (impl_SieveMeets.f k a0 a1 a2 a3 a4 a5 a6) (impl_SieveMeets.f (k + 1) a0 a1 a2 a3 a4 a5 a6) := by
  intro a0 a1 a2 a3 a4 a5 a6 k
  unfold impl_SieveMeets.f
  repeat' first | (with_reducible first | apply impl_KeyOk.mono | apply impl_SieveSeek.mono | exact LeO.refl _ | exact LeO.none _ | refine LeO.ite ?_ ?_ | refine LeO.bind ?_ (fun _ => ?_)) | exact LeO.none _ | refine LeO.ite ?_ ?_ | refine LeO.bind ?_ (fun _ => ?_)
theorem impl_SieveMeets.calls (k : Nat) (a0_0 a0_1 a0_2 : ByteArray) (A0_3 : Option Addr) (c0_3 : Nat) (l0_3 : List ByteArray) (a0_4 : Int) (a1 a2 : ByteArray) (r : Bool) (w : World) (hr0_3 : Kd.C Kd.string w A0_3 l0_3.length l0_3) (hc0_3 : l0_3.length ≤ c0_3) (h : impl_SieveMeets.f k a0_0 a0_1 a0_2 l0_3 a0_4 a1 a2 = some r) :
    Calls Try.prog 32 #[.agg #[.string a0_0, .string a0_1, .string a0_2, .slice A0_3 l0_3.length c0_3, .int .i64 a0_4], .string a1, .string a2] w fun e w' => e = .returned (.bool r) ∧ Below w.heap.size w w' := by
 have hu25 := Try.underlying25; have HR0_3 := z0 hr0_3; have HC0_3 := z0 hc0_3; clear hr0_3 hc0_3; have HB := z0 (Below.refl w.heap.size w); have H : ((impl_KeyOk.f k a1).bind fun t482 => (if t482 = true then ((impl_KeyOk.f k a2).bind fun t483 => (if t483 = true then (if (Op.bytesLess a2.toList a1.toList) = true then (some false) else ((impl_SieveSeek.f k a0_0 a0_1 a0_2 l0_3 a0_4 a1).bind fun bt484 => (if bt484.2 = true then (some (!(Op.bytesLess a2.toList bt484.1.toList))) else (some false)))) else (some false))) else (some false))) = some r := h; clear h; replace H := zi H; obtain ⟨t482, A4, H⟩ := H
 by_cases c5 : t482 = true
 ·subst c5
  have H1 : ((impl_KeyOk.f k a2).bind fun t483 => (if t483 = true then (if (Op.bytesLess a2.toList a1.toList) = true then (some false) else ((impl_SieveSeek.f k a0_0 a0_1 a0_2 l0_3 a0_4 a1).bind fun bt484 => (if bt484.2 = true then (some (!(Op.bytesLess a2.toList bt484.1.toList))) else (some false)))) else (some false))) = some r := by rw [if_pos rfl] at H; exact H
  clear H; have H := H1; clear H1; replace H := zi H; obtain ⟨t483, A6, H⟩ := H
  by_cases c7 : t483 = true
  ·subst c7
   have H1 : (if (Op.bytesLess a2.toList a1.toList) = true then (some false) else ((impl_SieveSeek.f k a0_0 a0_1 a0_2 l0_3 a0_4 a1).bind fun bt484 => (if bt484.2 = true then (some (!(Op.bytesLess a2.toList bt484.1.toList))) else (some false)))) = some r := by rw [if_pos rfl] at H; exact H
   clear H; have H := H1; clear H1; go_enter Try.func32, Try.ntmps32
   go_upto_if 21 with (first | ((with_reducible refine gd 3 ?_); refine zbx 25 #[.string a0_0, .string a0_1, .string a0_2, .slice A0_3 l0_3.length c0_3, .int .i64 a0_4] ?_; intro gb481 hg w8 hbox hb; have BK481 := z0 (hbox); have GE481 := zG hg HB; replace HB := zH HB hb; clear hb hbox hg) | ((with_reducible refine gc 67 ?_); refine zL (some 10) Try.func67 #[.string a1] ?_; (with_reducible refine (impl_KeyOk.calls k a1 true _ A4.out).mono ?_); rintro e w' ⟨rfl, ⟨nd, rfl⟩⟩; refine ⟨_, rfl, ?_⟩) | (go_at_call 67; (with_reducible refine (impl_KeyOk.calls k a2 true _ A6.out).mono ?_); rintro e w' ⟨rfl, ⟨nd, rfl⟩⟩))
   by_cases c9 : (Op.bytesLess a2.toList a1.toList) = true
   ·rw [if_pos c9] at H; have c9b0 : (Op.bytesLess a2.toList a1.toList) = true := c9; clear c9; (first | rw [c9b0] | (simp only [i64_w, i32_w]; rw [c9b0]) | simp only [*, Bool.not_true, Bool.not_false] | skip); obtain rfl := Option.some.inj H; go_wp2; go_ret; exact ⟨ze, zb HB.out⟩
   ·rw [if_neg c9] at H
    have c9b0 : (Op.bytesLess a2.toList a1.toList) = false := by simpa using c9
    clear c9; (first | rw [c9b0] | (simp only [i64_w, i32_w]; rw [c9b0]) | simp only [*, Bool.not_true, Bool.not_false] | skip); replace H := zi H; obtain ⟨⟨t484, t485⟩, A10, H⟩ := H; (try dsimp only at H)
    by_cases c11 : t485 = true
    ·subst c11
     have H1 : (some (!(Op.bytesLess a2.toList t484.toList))) = some r := by rw [if_pos rfl] at H; exact H
     clear H; have H := H1; clear H1; obtain rfl := Option.some.inj H; have hcz12 := zc5 BK481.out
     go_wp2_with (first | ((with_reducible refine gc 44 ?_); refine zL (some 25) Try.func44 #[.agg #[.string a0_0, .string a0_1, .string a0_2, .slice A0_3 l0_3.length c0_3, .int .i64 a0_4], .string a1] ?_; (with_reducible refine (impl_SieveSeek.calls k a0_0 a0_1 a0_2 _ _ l0_3 a0_4 a1 t484 true _ (zC (Kd.C_below HR0_3.out HB.out)) HC0_3.out A10.out).mono ?_); rintro e w13 ⟨rfl, hb⟩; refine zv ?_; replace BK481 := zK BK481 hb; replace HB := zH HB hb; (try clear hb)))
     go_ret; exact ⟨ze, zb HB.out⟩
    ·replace c11 := Bool.eq_false_iff.mpr c11; subst c11
     have H1 : (some false) = some r := by rw [if_neg (show ¬ (false = true) by decide)] at H; exact H
     clear H; have H := H1; clear H1; obtain rfl := Option.some.inj H; have hcz14 := zc5 BK481.out
     go_wp2_with (first | ((with_reducible refine gc 44 ?_); refine zL (some 25) Try.func44 #[.agg #[.string a0_0, .string a0_1, .string a0_2, .slice A0_3 l0_3.length c0_3, .int .i64 a0_4], .string a1] ?_; (with_reducible refine (impl_SieveSeek.calls k a0_0 a0_1 a0_2 _ _ l0_3 a0_4 a1 t484 false _ (zC (Kd.C_below HR0_3.out HB.out)) HC0_3.out A10.out).mono ?_); rintro e w15 ⟨rfl, hb⟩; refine zv ?_; replace BK481 := zK BK481 hb; replace HB := zH HB hb; (try clear hb)))
     go_ret; exact ⟨ze, zb HB.out⟩
  ·replace c7 := Bool.eq_false_iff.mpr c7; subst c7
   have H1 : (some false) = some r := by rw [if_neg (show ¬ (false = true) by decide)] at H; exact H
   clear H; have H := H1; clear H1; obtain rfl := Option.some.inj H; go_enter Try.func32, Try.ntmps32
   go_wp2_with (first | ((with_reducible refine gd 3 ?_); refine zbx 25 #[.string a0_0, .string a0_1, .string a0_2, .slice A0_3 l0_3.length c0_3, .int .i64 a0_4] ?_; intro gb481 hg w16 hbox hb; have BK481 := z0 (hbox); have GE481 := zG hg HB; replace HB := zH HB hb; clear hb hbox hg) | ((with_reducible refine gc 67 ?_); refine zL (some 10) Try.func67 #[.string a1] ?_; (with_reducible refine (impl_KeyOk.calls k a1 true _ A4.out).mono ?_); rintro e w' ⟨rfl, ⟨nd, rfl⟩⟩; refine ⟨_, rfl, ?_⟩) | (go_at_call 67; (with_reducible refine (impl_KeyOk.calls k a2 false _ A6.out).mono ?_); rintro e w' ⟨rfl, ⟨nd, rfl⟩⟩))
   go_ret; exact ⟨ze, zb HB.out⟩
 ·replace c5 := Bool.eq_false_iff.mpr c5; subst c5
  have H1 : (some false) = some r := by rw [if_neg (show ¬ (false = true) by decide)] at H; exact H
  clear H; have H := H1; clear H1; obtain rfl := Option.some.inj H; go_enter Try.func32, Try.ntmps32
  go_wp2_with (first | ((with_reducible refine gd 3 ?_); refine zbx 25 #[.string a0_0, .string a0_1, .string a0_2, .slice A0_3 l0_3.length c0_3, .int .i64 a0_4] ?_; intro gb481 hg w17 hbox hb; have BK481 := z0 (hbox); have GE481 := zG hg HB; replace HB := zH HB hb; clear hb hbox hg) | ((with_reducible refine gc 67 ?_); refine zL (some 10) Try.func67 #[.string a1] ?_; (with_reducible refine (impl_KeyOk.calls k a1 false _ A4.out).mono ?_); rintro e w' ⟨rfl, ⟨nd, rfl⟩⟩; refine ⟨_, rfl, ?_⟩))
  go_ret; exact ⟨ze, zb HB.out⟩
theorem spec_DrawSieveMeets.mono : ∀ a0 k, LeO (spec_DrawSieveMeets.f k a0) (spec_DrawSieveMeets.f (k + 1) a0) := by
  intro a0 k
  unfold spec_DrawSieveMeets.f
  repeat' first | (with_reducible first | apply spec_l6Rd_pick.mono | apply spec_l71Bent.mono | apply spec_l71Near.mono | exact LeO.refl _ | exact LeO.none _ | refine LeO.ite ?_ ?_ | refine LeO.bind ?_ (fun _ => ?_)) | exact LeO.none _ | refine LeO.ite ?_ ?_ | refine LeO.bind ?_ (fun _ => ?_)
theorem spec_DrawSieveMeets.calls (k : Nat) (A0 : Option Addr) (c0 : Nat) (l0 : List Int) (r1 r2 r3 : ByteArray) (r4 : List ByteArray) (r5 : Int) (r6 r7 : ByteArray) (w : World) (hr0 : Kd.C (Kd.int .u8) w A0 l0.length l0) (hc0 : l0.length ≤ c0) (h : spec_DrawSieveMeets.f k l0 = some (r1, r2, r3, r4, r5, r6, r7)) :
    Calls Try.prog 35 #[.slice A0 l0.length c0] w fun e w' => ∃ v3_ : Value, e = .returned (.tuple #[.agg #[.string r1, .string r2, .string r3, v3_, .int .i64 r5], .string r6, .string r7]) ∧ Kd.R Kd.string 9 w' w.heap.size (fun _ => True) v3_ r4 ∧ Below w.heap.size w w' := by
 have hu25 := Try.underlying25; have HR0 := z0 hr0; have HC0 := z0 hc0; clear hr0 hc0; have HB := z0 (Below.refl w.heap.size w); have H : ((spec_l6Open.f l0).bind fun bt584 => ((spec_l71Bent.f k bt584.1 bt584.2).bind fun bt587 => ((spec_l71Near.f k bt584.1 bt587.2.2.2.2.2.2 bt587.2.2.2.2.2.1).bind fun bt599 => ((spec_l71Near.f k bt584.1 bt599.2 bt587.2.2.2.2.2.1).bind fun bt601 => (if (Op.bytesLess bt601.1.toList bt599.1.toList) = true then ((spec_l6Rd_pick.f k bt584.1 bt601.2 8).bind fun bt603 => (if bt603.1 > 0 then (some (bt587.1, bt587.2.1, bt587.2.2.1, bt587.2.2.2.1, bt587.2.2.2.2.1, bt601.1, bt599.1)) else (some (bt587.1, bt587.2.1, bt587.2.2.1, bt587.2.2.2.1, bt587.2.2.2.2.1, bt599.1, bt601.1)))) else (some (bt587.1, bt587.2.1, bt587.2.2.1, bt587.2.2.2.1, bt587.2.2.2.2.1, bt599.1, bt601.1))))))) = some (r1, r2, r3, r4, r5, r6, r7) := h; clear h; replace H := zi H; obtain ⟨⟨t584, t585⟩, A2, H⟩ := H; (try dsimp only at H); replace H := zi H; obtain ⟨⟨t587, t588, t589, t590, t593, t594, t597⟩, A3, H⟩ := H; (try dsimp only at H); replace H := zi H; obtain ⟨⟨t599, t600⟩, A4, H⟩ := H; (try dsimp only at H); replace H := zi H; obtain ⟨⟨t601, t602⟩, A5, H⟩ := H; (try dsimp only at H)
 by_cases c6 : (Op.bytesLess t601.toList t599.toList) = true
 ·rw [if_pos c6] at H; have c6b0 : (Op.bytesLess t601.toList t599.toList) = true := c6; clear c6; replace H := zi H; obtain ⟨⟨t603, t604⟩, A7, H⟩ := H; (try dsimp only at H); go_enter Try.func35, Try.ntmps35
  go_upto_if 30 with (first | ((with_reducible refine gd 2 ?_); refine zbx 25 #[.string ⟨#[]⟩, .string ⟨#[]⟩, .string ⟨#[]⟩, .slice none 0 0, .int .i64 0] ?_; intro gb583 hg w8 hbox hb; have BK583 := z0 (hbox); have GE583 := zG hg HB; replace HB := zH HB hb; clear hb hbox hg) | ((with_reducible refine gc 64 ?_); refine zL (some 11) Try.func64 #[.slice A0 l0.length c0] ?_; (with_reducible refine (spec_l6Open.calls _ _ l0 t584 t585 w _ (zb HB.out) HR0.out HC0.out A2.out).mono ?_); rintro e w9 ⟨g586, rfl, hi, hb, hb2⟩; refine zv ?_; replace HB := z0 (hb); have HI586 := z0 (hi); have NB586_583 := z0 (IsS98.ne_blk hi (blk_below (zl BK583.out) hb2) (by decide)); have NB583_586 := z0 (Ne.symm (IsS98.ne_blk hi (blk_below (zl BK583.out) hb2) (by decide))); replace BK583 := zK BK583 hb2; (try clear hb hb2 hi)) | ((with_reducible refine gc 65 ?_); refine zL (some 14) Try.func65 #[.pointer (some ⟨g586, 0, none⟩)] ?_; (with_reducible refine (spec_l71Bent.calls k g586 t584 t585 t587 t588 t589 t590 t593 t594 t597 w _ (HI586.out.zI) (HI586.out.zb HB.out) A3.out).mono ?_); rintro e w10 ⟨v591, v595, rfl, ho0, ho1, hi, hb, hk⟩; refine zv ?_; replace BK583 := z0 (KeepBut.blk hk (g' := gb583) (o := .cells #[.string ⟨#[]⟩, .string ⟨#[]⟩, .string ⟨#[]⟩, .slice none 0 0, .int .i64 0] 25 (0, 0)) (zl BK583.out) NB583_586.out (by simp)); have HO592 := z0 (Kd.R_lower ho0 (below_size (HI586.out.zb HB.out))); have HO596 := z0 (Kd.R_lower ho1 (below_size (HI586.out.zb HB.out))); replace HB := z0 (hb); replace HI586 := z0 (hi); (try clear hb hk hi ho0 ho1)) | ((with_reducible refine gd 6 ?_); refine zbx 25 #[.string ⟨#[]⟩, .string ⟨#[]⟩, .string ⟨#[]⟩, .slice none 0 0, .int .i64 0] ?_; intro gb598 hg w11 hbox hb; replace HO592 := zA HO592 hb; replace HO596 := zA HO596 hb; have BK598 := z0 (hbox); have GW598 := z0 ((by rw [hg]; exact (below_size (HI586.out.zb HB.out)) : w.heap.size ≤ gb598)); have GE598 := z0 ((by rw [hg]; exact (below_size (HI586.out.zb HB.out)) : w.heap.size ≤ gb598)); replace HB := z0 (below_step (HI586.out.zb HB.out) hb); have NB583_598 := zLt hg BK583; have NB598_583 := zGt hg BK583; replace BK583 := zK BK583 hb; have NB586_598 := z0 ((by rw [hg]; exact Nat.ne_of_lt (IsS98.lt (show IsS98 w _ g586 t584 t597 from HI586.out.zI)) : g586 ≠ gb598)); have NB598_586 := z0 ((by rw [hg]; exact Nat.ne_of_gt (IsS98.lt (show IsS98 w _ g586 t584 t597 from HI586.out.zI)) : gb598 ≠ g586)); replace HI586 := z0 (IsS98.below (HI586.out.zI) hb); clear hb hbox hg; have hnb12 := NB598_583.out; have hnc12 := NB583_598.out; have hnb13 := NB598_586.out; have hnc13 := NB586_598.out; have hcz14 := zc5 BK598.out; obtain ⟨Ao15, co15, eo15⟩ := Kd.R_slice HO592.out; subst eo15; obtain ⟨Ao16, co16, eo16⟩ := Kd.R_slice HO596.out; subst eo16) | ((with_reducible refine gc 66 ?_); refine zL (some 19) Try.func66 #[.pointer (some ⟨g586, 0, none⟩), .slice Ao16 t594.length co16] ?_; (with_reducible refine (spec_l71Near.calls k g586 t584 t597 _ _ t594 t599 t600 w _ (HI586.out.zI) (HI586.out.zb HB.out) ?side3 ((Kd.R_reads' HO596.out).2.1) (far_slice (IsS98.own_ne HI586.out HO596.out (by decide))) A4.out).mono ?_); (case side3 => refine (Kd.R_reads' (e := 9) (base := w.heap.size) (ok := fun k_ => some k_ ≠ (.slice Ao15 t590.length co15 : Value).ownBlock) (n := t594.length) (c := co16) ?_).2.2; exact (zs HO596.out BK598.out)); rintro e w17 ⟨rfl, hi, hb, hk⟩; refine zv ?_; replace BK583 := z0 (KeepBut.blk hk (g' := gb583) (o := .cells #[.string ⟨#[]⟩, .string ⟨#[]⟩, .string ⟨#[]⟩, .slice none 0 0, .int .i64 0] 25 (0, 0)) (zy BK583.out) NB583_586.out (by simp)); replace HO592 := z0 (Kd.R_mono (Kd.R_keep (IsS98.apart (show IsS98 w _ g586 t584 t597 from HI586.out.zI) (zs HO592.out BK598.out) (by decide)) hk (fun _ h => h.2)) (fun _ h => h.1)); replace HO596 := z0 (Kd.R_mono (Kd.R_keep (IsS98.apart (show IsS98 w _ g586 t584 t597 from HI586.out.zI) (zs HO596.out BK598.out) (by decide)) hk (fun _ h => h.2)) (fun _ h => h.1)); replace BK598 := z0 (KeepBut.blk hk (g' := gb598) (o := .cells #[.string t587, .string t588, .string t589, .slice Ao15 t590.length co15, .int .i64 t593] 25 (0, 0)) (zp BK598.out) NB598_586.out (by simp)); replace HB := z0 (hb); replace HI586 := z0 (hi); (try clear hb hk hi)) | ((with_reducible refine gc 66 ?_); refine zL (some 22) Try.func66 #[.pointer (some ⟨g586, 0, none⟩), .slice Ao16 t594.length co16] ?_; (with_reducible refine (spec_l71Near.calls k g586 t584 t600 _ _ t594 t601 t602 w _ (HI586.out.zI) (HI586.out.zb HB.out) (zC ((Kd.R_reads' HO596.out).2.2)) ((Kd.R_reads' HO596.out).2.1) (far_slice (IsS98.own_ne HI586.out HO596.out (by decide))) A5.out).mono ?_); rintro e w18 ⟨rfl, hi, hb, hk⟩; refine zv ?_; replace BK583 := z0 (KeepBut.blk hk (g' := gb583) (o := .cells #[.string ⟨#[]⟩, .string ⟨#[]⟩, .string ⟨#[]⟩, .slice none 0 0, .int .i64 0] 25 (0, 0)) (zl BK583.out) NB583_586.out (by simp)); replace HO592 := z0 (Kd.R_mono (Kd.R_keep (IsS98.apart (show IsS98 w _ g586 t584 t600 from HI586.out.zI) (zr HO592.out) (by decide)) hk (fun _ h => h.2)) (fun _ h => h.1)); replace HO596 := z0 (Kd.R_mono (Kd.R_keep (IsS98.apart (show IsS98 w _ g586 t584 t600 from HI586.out.zI) (zr HO596.out) (by decide)) hk (fun _ h => h.2)) (fun _ h => h.1)); replace BK598 := z0 (KeepBut.blk hk (g' := gb598) (o := .cells #[.string t587, .string t588, .string t589, .slice Ao15 t590.length co15, .int .i64 t593] 25 (0, 0)) (zl BK598.out) NB598_586.out (by simp)); replace HB := z0 (hb); replace HI586 := z0 (hi); (try clear hb hk hi)) | (go_at_call 78; (with_reducible refine (spec_l6Rd_pick.calls k g586 t584 t602 8 t603 t604 w _ ?side1 ?side2 A7.out).mono ?_); (case side1 => repeat (first | (with_reducible first | exact HI586.out | apply IsS98.alloc | apply IsS98.drewN | apply IsS98.drew | apply IsS98.set_1 | refine IsS98.far ?_ NB586_583.out _ | refine IsS98.far ?_ NB586_598.out _) | exact HI586.out)); (case side2 => repeat (first | (with_reducible first | exact HB.out | apply below_alloc | apply pw_below_drewN | apply below_drew1 | refine below_set ?_ (IsS98.ge HI586.out) | refine below_set ?_ GE583.out | refine below_set ?_ GE598.out) | exact HB.out)); rintro e w19 ⟨rfl, hi, hb, hk⟩; replace BK583 := z0 (KeepBut.blk hk (g' := gb583) (o := .cells #[.string ⟨#[]⟩, .string ⟨#[]⟩, .string ⟨#[]⟩, .slice none 0 0, .int .i64 0] 25 (0, 0)) (zl BK583.out) NB583_586.out (by simp)); replace HO592 := z0 (Kd.R_mono (Kd.R_keep (IsS98.apart (show IsS98 w _ g586 t584 t602 from HI586.out.zI) (zr HO592.out) (by decide)) hk (fun _ h => h.2)) (fun _ h => h.1)); replace HO596 := z0 (Kd.R_mono (Kd.R_keep (IsS98.apart (show IsS98 w _ g586 t584 t602 from HI586.out.zI) (zr HO596.out) (by decide)) hk (fun _ h => h.2)) (fun _ h => h.1)); replace BK598 := z0 (KeepBut.blk hk (g' := gb598) (o := .cells #[.string t587, .string t588, .string t589, .slice Ao15 t590.length co15, .int .i64 t593] 25 (0, 0)) (zl BK598.out) NB598_586.out (by simp)); replace HB := z0 (hb); replace HI586 := z0 (hi); (try clear hb hk hi)))
  by_cases c20 : t603 > 0
  ·rw [if_pos c20] at H; have c20b0 : decide (0 < t603) = true := decide_eq_true c20; clear c20; (first | rw [c20b0] | (simp only [i64_w, i32_w]; rw [c20b0]) | simp only [*, Bool.not_true, Bool.not_false] | skip); simp only [Option.some.injEq, Prod.mk.injEq] at H; obtain ⟨rfl, rfl, rfl, rfl, rfl, rfl, rfl⟩ := H; have hnb21 := NB598_583.out; have hnc21 := NB583_598.out; have hnb22 := NB598_586.out; have hnc22 := NB586_598.out; have hcz23 := zc5 BK598.out; have hnb24 := NB583_586.out; have hnc24 := NB586_583.out; have hcz25 := zc5 BK583.out; go_wp2; refine bodyPost_ret (results_ctt rfl _ _ gb583 25 #[.string t587, .string t588, .string t589, .slice Ao15 t590.length co15, .int .i64 t593] (0, 0) _ rfl (zp BK583.out) Try.underlying25 rfl (by kernel_rfl)) rfl ?_; exact ⟨_, ze, Kd.R_mono (zt HO592.out BK583.out) (fun _ hk => trivial), HI586.out.zb HB.out⟩
  ·rw [if_neg c20] at H; have c20b0 : decide (0 < t603) = false := decide_eq_false c20; clear c20; (first | rw [c20b0] | (simp only [i64_w, i32_w]; rw [c20b0]) | simp only [*, Bool.not_true, Bool.not_false] | skip); simp only [Option.some.injEq, Prod.mk.injEq] at H; obtain ⟨rfl, rfl, rfl, rfl, rfl, rfl, rfl⟩ := H; have hnb26 := NB598_583.out; have hnc26 := NB583_598.out; have hnb27 := NB598_586.out; have hnc27 := NB586_598.out; have hcz28 := zc5 BK598.out; have hnb29 := NB583_586.out; have hnc29 := NB586_583.out; have hcz30 := zc5 BK583.out; go_wp2; refine bodyPost_ret (results_ctt rfl _ _ gb583 25 #[.string t587, .string t588, .string t589, .slice Ao15 t590.length co15, .int .i64 t593] (0, 0) _ rfl (zp BK583.out) Try.underlying25 rfl (by kernel_rfl)) rfl ?_; exact ⟨_, ze, Kd.R_mono (zt HO592.out BK583.out) (fun _ hk => trivial), HI586.out.zb HB.out⟩
 ·rw [if_neg c6] at H
  have c6b0 : (Op.bytesLess t601.toList t599.toList) = false := by simpa using c6
  clear c6; simp only [Option.some.injEq, Prod.mk.injEq] at H; obtain ⟨rfl, rfl, rfl, rfl, rfl, rfl, rfl⟩ := H; go_enter Try.func35, Try.ntmps35
  go_wp2_with (first | ((with_reducible refine gd 2 ?_); refine zbx 25 #[.string ⟨#[]⟩, .string ⟨#[]⟩, .string ⟨#[]⟩, .slice none 0 0, .int .i64 0] ?_; intro gb583 hg w31 hbox hb; have BK583 := z0 (hbox); have GE583 := zG hg HB; replace HB := zH HB hb; clear hb hbox hg) | ((with_reducible refine gc 64 ?_); refine zL (some 11) Try.func64 #[.slice A0 l0.length c0] ?_; (with_reducible refine (spec_l6Open.calls _ _ l0 t584 t585 w _ (zb HB.out) HR0.out HC0.out A2.out).mono ?_); rintro e w32 ⟨g586, rfl, hi, hb, hb2⟩; refine zv ?_; replace HB := z0 (hb); have HI586 := z0 (hi); have NB586_583 := z0 (IsS98.ne_blk hi (blk_below (zl BK583.out) hb2) (by decide)); have NB583_586 := z0 (Ne.symm (IsS98.ne_blk hi (blk_below (zl BK583.out) hb2) (by decide))); replace BK583 := zK BK583 hb2; (try clear hb hb2 hi)) | ((with_reducible refine gc 65 ?_); refine zL (some 14) Try.func65 #[.pointer (some ⟨g586, 0, none⟩)] ?_; (with_reducible refine (spec_l71Bent.calls k g586 t584 t585 t587 t588 t589 t590 t593 t594 t597 w _ (HI586.out.zI) (HI586.out.zb HB.out) A3.out).mono ?_); rintro e w33 ⟨v591, v595, rfl, ho0, ho1, hi, hb, hk⟩; refine zv ?_; replace BK583 := z0 (KeepBut.blk hk (g' := gb583) (o := .cells #[.string ⟨#[]⟩, .string ⟨#[]⟩, .string ⟨#[]⟩, .slice none 0 0, .int .i64 0] 25 (0, 0)) (zl BK583.out) NB583_586.out (by simp)); have HO592 := z0 (Kd.R_lower ho0 (below_size (HI586.out.zb HB.out))); have HO596 := z0 (Kd.R_lower ho1 (below_size (HI586.out.zb HB.out))); replace HB := z0 (hb); replace HI586 := z0 (hi); (try clear hb hk hi ho0 ho1)) | ((with_reducible refine gd 6 ?_); refine zbx 25 #[.string ⟨#[]⟩, .string ⟨#[]⟩, .string ⟨#[]⟩, .slice none 0 0, .int .i64 0] ?_; intro gb598 hg w34 hbox hb; replace HO592 := zA HO592 hb; replace HO596 := zA HO596 hb; have BK598 := z0 (hbox); have GW598 := z0 ((by rw [hg]; exact (below_size (HI586.out.zb HB.out)) : w.heap.size ≤ gb598)); have GE598 := z0 ((by rw [hg]; exact (below_size (HI586.out.zb HB.out)) : w.heap.size ≤ gb598)); replace HB := z0 (below_step (HI586.out.zb HB.out) hb); have NB583_598 := zLt hg BK583; have NB598_583 := zGt hg BK583; replace BK583 := zK BK583 hb; have NB586_598 := z0 ((by rw [hg]; exact Nat.ne_of_lt (IsS98.lt (show IsS98 w _ g586 t584 t597 from HI586.out.zI)) : g586 ≠ gb598)); have NB598_586 := z0 ((by rw [hg]; exact Nat.ne_of_gt (IsS98.lt (show IsS98 w _ g586 t584 t597 from HI586.out.zI)) : gb598 ≠ g586)); replace HI586 := z0 (IsS98.below (HI586.out.zI) hb); clear hb hbox hg; have hnb35 := NB598_583.out; have hnc35 := NB583_598.out; have hnb36 := NB598_586.out; have hnc36 := NB586_598.out; have hcz37 := zc5 BK598.out; obtain ⟨Ao38, co38, eo38⟩ := Kd.R_slice HO592.out; subst eo38; obtain ⟨Ao39, co39, eo39⟩ := Kd.R_slice HO596.out; subst eo39) | ((with_reducible refine gc 66 ?_); refine zL (some 19) Try.func66 #[.pointer (some ⟨g586, 0, none⟩), .slice Ao39 t594.length co39] ?_; (with_reducible refine (spec_l71Near.calls k g586 t584 t597 _ _ t594 t599 t600 w _ (HI586.out.zI) (HI586.out.zb HB.out) ?side3 ((Kd.R_reads' HO596.out).2.1) (far_slice (IsS98.own_ne HI586.out HO596.out (by decide))) A4.out).mono ?_); (case side3 => refine (Kd.R_reads' (e := 9) (base := w.heap.size) (ok := fun k_ => some k_ ≠ (.slice Ao38 t590.length co38 : Value).ownBlock) (n := t594.length) (c := co39) ?_).2.2; exact (zs HO596.out BK598.out)); rintro e w40 ⟨rfl, hi, hb, hk⟩; refine zv ?_; replace BK583 := z0 (KeepBut.blk hk (g' := gb583) (o := .cells #[.string ⟨#[]⟩, .string ⟨#[]⟩, .string ⟨#[]⟩, .slice none 0 0, .int .i64 0] 25 (0, 0)) (zy BK583.out) NB583_586.out (by simp)); replace HO592 := z0 (Kd.R_mono (Kd.R_keep (IsS98.apart (show IsS98 w _ g586 t584 t597 from HI586.out.zI) (zs HO592.out BK598.out) (by decide)) hk (fun _ h => h.2)) (fun _ h => h.1)); replace HO596 := z0 (Kd.R_mono (Kd.R_keep (IsS98.apart (show IsS98 w _ g586 t584 t597 from HI586.out.zI) (zs HO596.out BK598.out) (by decide)) hk (fun _ h => h.2)) (fun _ h => h.1)); replace BK598 := z0 (KeepBut.blk hk (g' := gb598) (o := .cells #[.string t587, .string t588, .string t589, .slice Ao38 t590.length co38, .int .i64 t593] 25 (0, 0)) (zp BK598.out) NB598_586.out (by simp)); replace HB := z0 (hb); replace HI586 := z0 (hi); (try clear hb hk hi)) | ((with_reducible refine gc 66 ?_); refine zL (some 22) Try.func66 #[.pointer (some ⟨g586, 0, none⟩), .slice Ao39 t594.length co39] ?_; (with_reducible refine (spec_l71Near.calls k g586 t584 t600 _ _ t594 t601 t602 w _ (HI586.out.zI) (HI586.out.zb HB.out) (zC ((Kd.R_reads' HO596.out).2.2)) ((Kd.R_reads' HO596.out).2.1) (far_slice (IsS98.own_ne HI586.out HO596.out (by decide))) A5.out).mono ?_); rintro e w41 ⟨rfl, hi, hb, hk⟩; refine zv ?_; replace BK583 := z0 (KeepBut.blk hk (g' := gb583) (o := .cells #[.string ⟨#[]⟩, .string ⟨#[]⟩, .string ⟨#[]⟩, .slice none 0 0, .int .i64 0] 25 (0, 0)) (zl BK583.out) NB583_586.out (by simp)); replace HO592 := z0 (Kd.R_mono (Kd.R_keep (IsS98.apart (show IsS98 w _ g586 t584 t600 from HI586.out.zI) (zr HO592.out) (by decide)) hk (fun _ h => h.2)) (fun _ h => h.1)); replace HO596 := z0 (Kd.R_mono (Kd.R_keep (IsS98.apart (show IsS98 w _ g586 t584 t600 from HI586.out.zI) (zr HO596.out) (by decide)) hk (fun _ h => h.2)) (fun _ h => h.1)); replace BK598 := z0 (KeepBut.blk hk (g' := gb598) (o := .cells #[.string t587, .string t588, .string t589, .slice Ao38 t590.length co38, .int .i64 t593] 25 (0, 0)) (zl BK598.out) NB598_586.out (by simp)); replace HB := z0 (hb); replace HI586 := z0 (hi); (try clear hb hk hi); have hcz42 := zc5 BK598.out; have hnb43 := NB583_586.out; have hnc43 := NB586_583.out; have hcz44 := zc5 BK583.out))
  refine bodyPost_ret (results_ctt rfl _ _ gb583 25 #[.string t587, .string t588, .string t589, .slice Ao38 t590.length co38, .int .i64 t593] (0, 0) _ rfl (zp BK583.out) Try.underlying25 rfl (by kernel_rfl)) rfl ?_; exact ⟨_, ze, Kd.R_mono (zt HO592.out BK583.out) (fun _ hk => trivial), HI586.out.zb HB.out⟩
theorem spec_l3Behind.mono_l : ∀ k, (∀ y0 y1 y2 y3, LeO (spec_l3Behind.l0 k y0 y1 y2 y3) (spec_l3Behind.l0 (k + 1) y0 y1 y2 y3))
  | 0 => fun _ _ _ _ r h => by simp [spec_l3Behind.l0] at h
  | k + 1 => by
    have ih0 := spec_l3Behind.mono_l k
    · intro y0 y1 y2 y3
      unfold spec_l3Behind.l0
      repeat' first | (with_reducible first | apply ih0 | exact LeO.refl _ | exact LeO.none _ | refine LeO.ite ?_ ?_ | refine LeO.bind ?_ (fun _ => ?_)) | exact LeO.none _ | refine LeO.ite ?_ ?_ | refine LeO.bind ?_ (fun _ => ?_)
theorem spec_l3Behind.mono : ∀ a0 a1 a2 k, LeO (spec_l3Behind.f k a0 a1 a2) (spec_l3Behind.f (k + 1) a0 a1 a2) := by
  intro a0 a1 a2 k
  have ih0 := spec_l3Behind.mono_l k
  unfold spec_l3Behind.f
  repeat' first | (with_reducible first | apply ih0 | exact LeO.refl _ | exact LeO.none _ | refine LeO.ite ?_ ?_ | refine LeO.bind ?_ (fun _ => ?_)) | exact LeO.none _ | refine LeO.ite ?_ ?_ | refine LeO.bind ?_ (fun _ => ?_)
theorem spec_l3Behind.calls (k : Nat) (A0 : Option Addr) (c0 : Nat) (l0 : List ByteArray) (A1 : Option Addr) (c1 : Nat) (l1 : List Bool) (a2 : ByteArray) (r : Int) (w : World) (hr0 : Kd.C Kd.string w A0 l0.length l0) (hc0 : l0.length ≤ c0) (hr1 : Kd.C Kd.bool w A1 l1.length l1) (hc1 : l1.length ≤ c1) (h : spec_l3Behind.f k l0 l1 a2 = some r) :
    Calls Try.prog 83 #[.slice A0 l0.length c0, .slice A1 l1.length c1, .string a2] w fun e w' => e = .returned (.int .i64 r) ∧ Drawn0 w w' := by
 have HR0 := z0 hr0; have HC0 := z0 hc0; clear hr0 hc0; have HR1 := z0 hr1; have HC1 := z0 hc1; clear hr1 hc1; have H : (spec_l3Behind.l0 k l0 l1 a2 0) = some r := h; clear h; have H' := z0 H; clear H; go_enter Try.func83, Try.ntmps83; go_wp2
 go_loopg [7] k (fun kq v7 w' => ∃ (x7_1 : Int), v7 = .int .i64 x7_1 ∧ Aside0 (spec_l3Behind.l0 kq l0 l1 a2 x7_1 = some r) ∧ Aside0 (kq ≤ k) ∧ Drawn0 w w')
 case atStart => exact ⟨(0), zf, H', ⟨Nat.le_refl _⟩, by repeat (first | exact Drawn0.refl _ | apply Drawn0.step)⟩
 case round =>
  clear H'
  try clear c1
  try clear p2
  obtain ⟨x7_1, rfl, HA, HK1, ⟨m1, rfl⟩⟩ := hrel
  cases gk with
  | zero => exact absurd HA.out (by simp [spec_l3Behind.l0])
  | succ k1 =>
   have H := HA.out; clear HA; simp only [spec_l3Behind.l0] at H
   by_cases c4 : x7_1 < (l0.length : Int)
   ·rw [if_pos c4] at H; have c4b0 := decide_eq_true c4; clear c4; replace H := zn H; obtain ⟨c5, H⟩ := H; have c5b0 := decide_eq_true c5; clear c5
    by_cases c6 : ((Op.bytesLess ((rdOf ByteArray.empty l0 x7_1).toList) a2.toList) = true)
    ·rw [if_pos c6] at H; have c6b0 : (Op.bytesLess ((rdOf ByteArray.empty l0 x7_1).toList) a2.toList) = true := c6; clear c6; replace H := zn H; obtain ⟨c7, H⟩ := H; have c7b0 := decide_eq_true c7; clear c7; obtain ⟨bq8, hbq8⟩ : ∃ b_ : Bool, b_ = (rdOf false l1 x7_1) := ⟨_, rfl⟩
     replace H : (if bq8 = true then (spec_l3Behind.l0 k1 l0 l1 a2 (wrap64 (x7_1 + 1))) else ((spec_KeyBegins.f a2 (rdOf ByteArray.empty l0 x7_1)).bind fun t613 => (if t613 = true then (some x7_1) else (spec_l3Behind.l0 k1 l0 l1 a2 (wrap64 (x7_1 + 1)))))) = some r := by rw [← hbq8] at H; exact H
     have Nbq8 := z0 hbq8; clear hbq8
     by_cases c9 : bq8 = true
     ·subst c9
      have H1 : (spec_l3Behind.l0 k1 l0 l1 a2 (wrap64 (x7_1 + 1))) = some r := by rw [if_pos rfl] at H; exact H
      clear H; have H := H1; clear H1; have H' := z0 H; clear H; have p610 : 0 ≤ (x7_1 : Int) := zd; have q610 : x7_1 < (l0.length : Int) := zd; obtain ⟨ad610, e610, hx610_0⟩ := Kd.at_string HR0.out x7_1 p610 q610; cases e610; replace p610 := eq_true p610; replace q610 := eq_true q610; have p611 : 0 ≤ (x7_1 : Int) := zd; have q611 : x7_1 < (l1.length : Int) := zd; obtain ⟨ad611, e611, hx611_0⟩ := Kd.at_bool HR1.out x7_1 p611 q611; (try rw [← Nbq8.out] at hx611_0); cases e611; replace p611 := eq_true p611; replace q611 := eq_true q611; go_wp2; go_roundg k1
      case measure => have := HK1.out; omega
      case rel => exact ⟨(wrap64 (x7_1 + 1)), zf, H', ⟨by have := HK1.out; omega⟩, by repeat (first | exact Drawn0.refl _ | apply Drawn0.step)⟩
     ·replace c9 := Bool.eq_false_iff.mpr c9; subst c9
      have H1 : ((spec_KeyBegins.f a2 (rdOf ByteArray.empty l0 x7_1)).bind fun t613 => (if t613 = true then (some x7_1) else (spec_l3Behind.l0 k1 l0 l1 a2 (wrap64 (x7_1 + 1))))) = some r := by rw [if_neg (show ¬ (false = true) by decide)] at H; exact H
      clear H; have H := H1; clear H1; replace H := zi H; obtain ⟨t613, A10, H⟩ := H
      by_cases c11 : t613 = true
      ·subst c11
       have H1 : (some x7_1) = some r := by rw [if_pos rfl] at H; exact H
       clear H; have H := H1; clear H1; obtain rfl := Option.some.inj H; have p610 : 0 ≤ (x7_1 : Int) := zd; have q610 : x7_1 < (l0.length : Int) := zd; obtain ⟨ad610, e610, hx610_0⟩ := Kd.at_string HR0.out x7_1 p610 q610; cases e610; replace p610 := eq_true p610; replace q610 := eq_true q610; have p611 : 0 ≤ (x7_1 : Int) := zd; have q611 : x7_1 < (l1.length : Int) := zd; obtain ⟨ad611, e611, hx611_0⟩ := Kd.at_bool HR1.out x7_1 p611 q611; (try rw [← Nbq8.out] at hx611_0); cases e611; replace p611 := eq_true p611; replace q611 := eq_true q611; have p612 : 0 ≤ (x7_1 : Int) := zd; have q612 : x7_1 < (l0.length : Int) := zd; obtain ⟨ad612, e612, hx612_0⟩ := Kd.at_string HR0.out x7_1 p612 q612; obtain rfl : ad610 = ad612 := (by injection e612); replace p612 := eq_true p612; replace q612 := eq_true q612
       go_wp2_with (first | (go_at_call 72; (with_reducible refine (spec_KeyBegins.calls a2 (rdOf ByteArray.empty l0 x7_1) true _ A10.out).mono ?_); rintro e w' ⟨rfl, ⟨nd, rfl⟩⟩))
       go_ret; exact ⟨zf, by repeat (first | exact Drawn0.refl _ | apply Drawn0.step)⟩
      ·replace c11 := Bool.eq_false_iff.mpr c11; subst c11
       have H1 : (spec_l3Behind.l0 k1 l0 l1 a2 (wrap64 (x7_1 + 1))) = some r := by rw [if_neg (show ¬ (false = true) by decide)] at H; exact H
       clear H; have H := H1; clear H1; have H' := z0 H; clear H; have p610 : 0 ≤ (x7_1 : Int) := zd; have q610 : x7_1 < (l0.length : Int) := zd; obtain ⟨ad610, e610, hx610_0⟩ := Kd.at_string HR0.out x7_1 p610 q610; cases e610; replace p610 := eq_true p610; replace q610 := eq_true q610; have p611 : 0 ≤ (x7_1 : Int) := zd; have q611 : x7_1 < (l1.length : Int) := zd; obtain ⟨ad611, e611, hx611_0⟩ := Kd.at_bool HR1.out x7_1 p611 q611; (try rw [← Nbq8.out] at hx611_0); cases e611; replace p611 := eq_true p611; replace q611 := eq_true q611; have p612 : 0 ≤ (x7_1 : Int) := zd; have q612 : x7_1 < (l0.length : Int) := zd; obtain ⟨ad612, e612, hx612_0⟩ := Kd.at_string HR0.out x7_1 p612 q612; obtain rfl : ad610 = ad612 := (by injection e612); replace p612 := eq_true p612; replace q612 := eq_true q612
       go_wp2_with (first | (go_at_call 72; (with_reducible refine (spec_KeyBegins.calls a2 (rdOf ByteArray.empty l0 x7_1) false _ A10.out).mono ?_); rintro e w' ⟨rfl, ⟨nd, rfl⟩⟩))
       go_roundg k1
       case measure => have := HK1.out; omega
       case rel => exact ⟨(wrap64 (x7_1 + 1)), zf, H', ⟨by have := HK1.out; omega⟩, by repeat (first | exact Drawn0.refl _ | apply Drawn0.step)⟩
    ·rw [if_neg c6] at H
     have c6b0 : (Op.bytesLess ((rdOf ByteArray.empty l0 x7_1).toList) a2.toList) = false := by simpa using c6
     clear c6; obtain rfl := Option.some.inj H; have p610 : 0 ≤ (x7_1 : Int) := zd; have q610 : x7_1 < (l0.length : Int) := zd; obtain ⟨ad610, e610, hx610_0⟩ := Kd.at_string HR0.out x7_1 p610 q610; cases e610; replace p610 := eq_true p610; replace q610 := eq_true q610; go_wp2; go_ret; exact ⟨zf, by repeat (first | exact Drawn0.refl _ | apply Drawn0.step)⟩
   ·rw [if_neg c4] at H; have c4b0 := decide_eq_false c4; clear c4; obtain rfl := Option.some.inj H; go_wp2; go_ret; exact ⟨zf, by repeat (first | exact Drawn0.refl _ | apply Drawn0.step)⟩
theorem spec_l3Wholes.mono_l : ∀ k, (∀ y0 y1 y2 y3 y4 y5 y6 y7, LeO (spec_l3Wholes.f k y0 y1 y2 y3 y4 y5 y6 y7) (spec_l3Wholes.f (k + 1) y0 y1 y2 y3 y4 y5 y6 y7)) ∧ (∀ y0 y1 y2 y3 y4 y5 y6 y7, LeO (spec_l3Wholes.l0 k y0 y1 y2 y3 y4 y5 y6 y7) (spec_l3Wholes.l0 (k + 1) y0 y1 y2 y3 y4 y5 y6 y7)) ∧ (∀ y0 y1 y2 y3 y4 y5 y6 y7 y8, LeO (spec_l3Wholes.j1 k y0 y1 y2 y3 y4 y5 y6 y7 y8) (spec_l3Wholes.j1 (k + 1) y0 y1 y2 y3 y4 y5 y6 y7 y8))
  | 0 => ⟨fun _ _ _ _ _ _ _ _ r h => by simp [spec_l3Wholes.f] at h, fun _ _ _ _ _ _ _ _ r h => by simp [spec_l3Wholes.l0] at h, fun _ _ _ _ _ _ _ _ _ r h => by simp [spec_l3Wholes.j1] at h⟩
  | k + 1 => by
    obtain ⟨ih0, ih1, ih2⟩ := spec_l3Wholes.mono_l k
    refine ⟨?_, ?_, ?_⟩
    · intro y0 y1 y2 y3 y4 y5 y6 y7
      unfold spec_l3Wholes.f
      repeat' first | (with_reducible first | apply ih0 | apply ih1 | apply ih2 | apply spec_l3Kids.mono | apply spec_l3Whole.mono | exact LeO.refl _ | exact LeO.none _ | refine LeO.ite ?_ ?_ | refine LeO.bind ?_ (fun _ => ?_)) | exact LeO.none _ | refine LeO.ite ?_ ?_ | refine LeO.bind ?_ (fun _ => ?_)
    · intro y0 y1 y2 y3 y4 y5 y6 y7
      unfold spec_l3Wholes.l0
      repeat' first | (with_reducible first | apply ih0 | apply ih1 | apply ih2 | apply spec_l3Kids.mono | apply spec_l3Whole.mono | exact LeO.refl _ | exact LeO.none _ | refine LeO.ite ?_ ?_ | refine LeO.bind ?_ (fun _ => ?_)) | exact LeO.none _ | refine LeO.ite ?_ ?_ | refine LeO.bind ?_ (fun _ => ?_)
    · intro y0 y1 y2 y3 y4 y5 y6 y7 y8
      unfold spec_l3Wholes.j1
      repeat' first | (with_reducible first | apply ih0 | apply ih1 | apply ih2 | apply spec_l3Kids.mono | apply spec_l3Whole.mono | exact LeO.refl _ | exact LeO.none _ | refine LeO.ite ?_ ?_ | refine LeO.bind ?_ (fun _ => ?_)) | exact LeO.none _ | refine LeO.ite ?_ ?_ | refine LeO.bind ?_ (fun _ => ?_)
theorem spec_l3Wholes.mono : ∀ a0 a1 a2 a3 a4 a5 a6 a7 k, LeO (spec_l3Wholes.f k a0 a1 a2 a3 a4 a5 a6 a7) (spec_l3Wholes.f (k + 1) a0 a1 a2 a3 a4 a5 a6 a7) := by
  intro a0 a1 a2 a3 a4 a5 a6 a7 k
  obtain ⟨ih0, ih1, ih2⟩ := spec_l3Wholes.mono_l k
  exact ih0 a0 a1 a2 a3 a4 a5 a6 a7
theorem spec_l3Wholes.calls (k : Nat) : ∀ (a0_0 a0_1 a0_2 : ByteArray) (A0_3 : Option Addr) (c0_3 : Nat) (l0_3 : List ByteArray) (a0_4 a1 a2 : Int) (P3_ : Nat → Prop) (u9000_ : Value) (l3 r : List Bool) (w0 w : World) (hB : Below w0.heap.size w0 w) (hr0_3 : ∀ W_, Kept w W_ (fun k_ => P3_ k_) → Kd.C Kd.string W_ A0_3 l0_3.length l0_3) (hc0_3 : l0_3.length ≤ c0_3) (ho3 : Kd.R Kd.bool 4 w w0.heap.size P3_ u9000_ l3) (h : spec_l3Wholes.f k a0_0 a0_1 a0_2 l0_3 a0_4 a1 a2 l3 = some r),
    Calls Try.prog 84 #[.agg #[.string a0_0, .string a0_1, .string a0_2, .slice A0_3 l0_3.length c0_3, .int .i64 a0_4], .int .i64 a1, .int .i64 a2, u9000_] w fun e w' => ∃ v0_ : Value, e = .returned (v0_) ∧ Kd.R Kd.bool 4 w' w0.heap.size (fun k_ => (P3_ k_ ∨ w.heap.size ≤ k_)) v0_ r ∧ Below w0.heap.size w0 w' ∧ Kept w w' (fun k_ => P3_ k_) := by
 induction k using Nat.strongRecOn with
 | _ k ih =>
 intro a0_0 a0_1 a0_2 A0_3 c0_3 l0_3 a0_4 a1 a2 P3_ u9000_ l3 r w0 w hB hr0_3 hc0_3 ho3 h
 cases k with
 | zero => exact absurd h (by simp [spec_l3Wholes.f])
 | succ k =>
 simp only [spec_l3Wholes.f] at h; have hu25 := Try.underlying25; have HR0_3 := z0 hr0_3; have HC0_3 := z0 hc0_3; clear hr0_3 hc0_3; have HO3 := z0 (show Kd.R Kd.bool 4 w w0.heap.size (fun k_ => (P3_ k_ ∨ w.heap.size ≤ k_)) u9000_ l3 from Kd.R_mono ho3 (fun k_ hk => (.inl hk))); have HK := z0 (Kept.refl w (fun k_ => P3_ k_)); have HW0 := z0 hB.size; have HB := z0 hB; clear hB; have H : (spec_l3Wholes.l0 k a2 l3 a1 a0_0 a0_1 a0_2 l0_3 a0_4) = some r := h; clear h; have H' := z0 H; clear H; go_enter Try.func84, Try.ntmps84
 go_wp2_with (first | ((with_reducible refine gd 4 ?_); (try (refine gate_guard (by rfl) ?_; dsimp only)); refine zbx 25 #[.string a0_0, .string a0_1, .string a0_2, .slice A0_3 l0_3.length c0_3, .int .i64 a0_4] ?_; intro gb614 hg w5 hbox hb; replace HO3 := zA HO3 hb; have BK614 := z0 (hbox); have GW614 := z0 ((by rw [hg]; exact (by first | exact HK.out.1 | exact (show Kept w _ (fun k_ => P3_ k_) from zk HK.out).1) : w.heap.size ≤ gb614)); replace HK := z0 (Kept.below (zk HK.out) hb); have GE614 := zG hg HB; replace HB := zH HB hb; clear hb hbox hg))
 go_loopg [3, 9] k (fun kq v3 v9 w' => ∃ (x3_1 : List Bool) (x9_1 : Int), v9 = .int .i64 x9_1 ∧ Aside0 (spec_l3Wholes.l0 kq a2 x3_1 x9_1 a0_0 a0_1 a0_2 l0_3 a0_4 = some r) ∧ Aside0 (kq ≤ k) ∧ Aside0 (Kd.R Kd.bool 4 w' w0.heap.size (fun k_ => (P3_ k_ ∨ w.heap.size ≤ k_)) v3 x3_1) ∧ Aside0 (w'.heap[gb614]? = some (.cells #[.string a0_0, .string a0_1, .string a0_2, (.slice A0_3 l0_3.length c0_3), .int .i64 a0_4] 25 (0, 0))) ∧ Aside0 (Kept w w' (fun k_ => P3_ k_)) ∧ Aside0 (Below w0.heap.size w0 w'))
 case atStart => exact ⟨(l3), (a1), zf, H', ⟨Nat.le_refl _⟩, ⟨zr HO3.out⟩, ⟨zl BK614.out⟩, ⟨zk HK.out⟩, ⟨zb HB.out⟩⟩
 case round =>
  clear H'
  try clear p2
  obtain ⟨x3_1, x9_1, rfl, HA, HK1, HO_3, BK614, HK, HB⟩ := hrel
  cases gk with
  | zero => exact absurd HA.out (by simp [spec_l3Wholes.l0])
  | succ k1 =>
   have H := HA.out; clear HA; simp only [spec_l3Wholes.l0] at H; have HC6 := z0 H; clear H
   go_upto_region 2 with (fail)
   go_cut [22] (fun v22 wc => ∃ (kq : Nat) (x22_5 : Bool), v22 = .bool x22_5 ∧ Aside0 (spec_l3Wholes.j1 kq a2 x3_1 x9_1 x22_5 a0_0 a0_1 a0_2 l0_3 a0_4 = some r) ∧ Aside0 (kq ≤ k1) ∧ Aside0 (Kd.R Kd.bool 4 wc w0.heap.size (fun k_ => (P3_ k_ ∨ w.heap.size ≤ k_)) u3 x3_1) ∧ Aside0 (wc.heap[gb614]? = some (.cells #[.string a0_0, .string a0_1, .string a0_2, (.slice A0_3 l0_3.length c0_3), .int .i64 a0_4] 25 (0, 0))) ∧ Aside0 (Kept w wc (fun k_ => P3_ k_)) ∧ Aside0 (Below w0.heap.size w0 wc))
   case first =>
    have H := HC6.out; clear HC6
    by_cases c7 : x9_1 < a2
    ·rw [if_pos c7] at H; have c7b0 := decide_eq_true c7; clear c7; (first | rw [c7b0] | (simp only [i64_w, i32_w]; rw [c7b0]) | simp only [*, Bool.not_true, Bool.not_false] | skip); have H' := z0 H; clear H; have hcz8 := zc5 BK614.out; go_wp2; go_meet
     case rel => exact ⟨_, (decide (x9_1 < (a0_0.size : Int))), zf, H', ⟨by have := HK1.out; first | omega | exact Nat.le_refl _⟩, ⟨zr HO_3.out⟩, ⟨zl BK614.out⟩, ⟨zk HK.out⟩, ⟨zb HB.out⟩⟩
    ·rw [if_neg c7] at H; have c7b0 := decide_eq_false c7; clear c7; (first | rw [c7b0] | (simp only [i64_w, i32_w]; rw [c7b0]) | simp only [*, Bool.not_true, Bool.not_false] | skip); have H' := z0 H; clear H; go_wp2; go_meet
     case rel => exact ⟨_, (false), zf, H', ⟨by have := HK1.out; first | omega | exact Nat.le_refl _⟩, ⟨zr HO_3.out⟩, ⟨zl BK614.out⟩, ⟨zk HK.out⟩, ⟨zb HB.out⟩⟩
   case rest =>
    clear HC6
    try clear p2
    try clear c7
    try clear c7b0
    try clear c8
    try clear hcz8
    try clear p2
    obtain ⟨kq, x22_5, rfl, HA, HJ5, HO_3, BK614, HK, HB⟩ := hcut
    cases kq with
    | zero => exact absurd HA.out (by simp [spec_l3Wholes.j1])
    | succ kj5 =>
     have H := HA.out; clear HA; simp only [spec_l3Wholes.j1] at H
     by_cases c9 : x22_5 = true
     ·subst c9
      have H1 : (if 0 ≤ x9_1 then (if x9_1 < (a0_1.size : Int) then (if (bt a0_1 x9_1) = 49 then ((spec_l3Kids.f kj5 a0_0 a0_1 a0_2 l0_3 a0_4 x9_1).bind fun bt615 => ((spec_l3Wholes.f kj5 a0_0 a0_1 a0_2 l0_3 a0_4 bt615.1 bt615.2 x3_1).bind fun t617 => (spec_l3Wholes.l0 kj5 a2 t617 (wrap64 (x9_1 + 1)) a0_0 a0_1 a0_2 l0_3 a0_4))) else ((spec_l3Whole.f kj5 a0_0 a0_1 a0_2 l0_3 a0_4 x9_1).bind fun t620 => (if x3_1.length < 140737488355328 then (spec_l3Wholes.l0 kj5 a2 (x3_1 ++ [t620]) (wrap64 (x9_1 + 1)) a0_0 a0_1 a0_2 l0_3 a0_4) else (none)))) else (none)) else (none)) = some r := by rw [if_pos rfl] at H; exact H
      clear H; have H := H1; clear H1; replace H := zn H; obtain ⟨c10, H⟩ := H; have c10b0 := decide_eq_true c10; clear c10; replace H := zn H; obtain ⟨c11, H⟩ := H; have c11b0 := decide_eq_true c11; clear c11
      by_cases c13 : (bt a0_1 x9_1) = 49
      ·rw [if_pos c13] at H; have c13b0 : ((bt a0_1 x9_1) == 49) = true := beq_iff_eq.mpr c13; have c13b1 : ((bt a0_1 x9_1) != 49) = false := bne_eq_false_iff_eq.mpr c13; clear c13; replace H := zi H; obtain ⟨⟨t615, t616⟩, A14, H⟩ := H; (try dsimp only at H); replace H := zi H; obtain ⟨t617, A15, H⟩ := H; have H' := z0 H; clear H; have hcz16 := zc5 BK614.out; have p12 : 0 ≤ (x9_1 : Int) := zd; have q12 : x9_1 < (a0_1.size : Int) := zd; have hx12 := bt_at a0_1 x9_1; replace p12 := eq_true p12; replace q12 := eq_true q12
       go_wp2_with (first | ((with_reducible refine gc 108 ?_); refine zL (some 33) Try.func108 #[.agg #[.string a0_0, .string a0_1, .string a0_2, .slice A0_3 l0_3.length c0_3, .int .i64 a0_4], .int .i64 x9_1] ?_; (with_reducible refine (spec_l3Kids.calls kj5 a0_0 a0_1 a0_2 _ _ l0_3 a0_4 x9_1 t615 t616 _ (Kd.C_kept_now HR0_3.out (zk HK.out)) HC0_3.out A14.out).mono ?_); rintro e w17 ⟨rfl, hb⟩; refine zv ?_; replace HO_3 := zA HO_3 hb; replace BK614 := zK BK614 hb; replace HK := z0 (Kept.below (zk HK.out) hb); replace HB := zH HB hb; (try clear hb); have hcz18 := zc5 BK614.out; obtain ⟨Ao19, co19, eo19⟩ := Kd.R_slice HO_3.out; subst eo19) | ((with_reducible refine gc 84 ?_); refine zL (some 40) Try.func84 #[.agg #[.string a0_0, .string a0_1, .string a0_2, .slice A0_3 l0_3.length c0_3, .int .i64 a0_4], .int .i64 t615, .int .i64 t616, .slice Ao19 x3_1.length co19] ?_; (with_reducible refine (ih kj5 (by have := HK1.out; have := HJ5.out; omega) a0_0 a0_1 a0_2 _ _ l0_3 a0_4 t615 t616 (fun k_ => some k_ = (.slice Ao19 x3_1.length co19 : Value).ownBlock) (.slice Ao19 x3_1.length co19) x3_1 t617 w0 _ ?side1 ?side2 ?side3 ?side4 A15.out).mono ?_); (case side1 => repeat (first | (with_reducible first | exact HB.out | apply below_alloc | apply pw_below_drewN | apply below_drew1 | refine below_set ?_ GE614.out) | exact HB.out)); (case side2 => exact Kd.C_kept_call HR0_3.out (zk HK.out) (fun k_ hs_ => (fun e_ => (HO_3.out.1 k_ e_.symm)) hs_)); (case side3 => exact HC0_3.out); (case side4 => exact Kd.R_tight rfl HO_3.out); rintro e w20 ⟨v618, rfl, ho0, hb, hkp⟩; refine ⟨_, rfl, ?_⟩; replace BK614 := z0 (blk_kept (zl BK614.out) hkp (fun hs_ => (fun e_ => (Kd.R_ne HO_3.out BK614.out (by decide)) e_) hs_)); have HO619 := z0 (Kd.R_mono (ok' := fun k_ => (P3_ k_ ∨ w.heap.size ≤ k_)) ho0 (fun k_ hk_ => Or.elim hk_ (fun hs_ => (HO_3.out.1 k_ (hs_).symm)) (fun hn_ => (.inr (Nat.le_trans (by first | exact HK.out.1 | exact (show Kept w _ (fun k_ => P3_ k_) from zk HK.out).1) hn_))))); replace HK := z0 (Kept.then_ (S := (fun k_ => P3_ k_)) (zk HK.out) hkp (fun k_ hs_ => (fun e_ => (HO_3.out.1 k_ e_.symm)) hs_)); replace HB := z0 (hb); clear HO_3; (try clear hb); (try clear hkp); (try clear ho0)))
       go_roundg kj5
       case measure => have := HK1.out; have := HJ5.out; omega
       case rel => exact ⟨(t617), (wrap64 (x9_1 + 1)), zf, H', ⟨by have := HK1.out; have := HJ5.out; omega⟩, ⟨zr HO619.out⟩, ⟨zl BK614.out⟩, ⟨zk HK.out⟩, ⟨zb HB.out⟩⟩
      ·rw [if_neg c13] at H; have c13b0 : ((bt a0_1 x9_1) == 49) = false := beq_eq_false_iff_ne.mpr c13; have c13b1 : ((bt a0_1 x9_1) != 49) = true := bne_iff_ne.mpr c13; replace H := zi H; obtain ⟨t620, A21, H⟩ := H; replace H := zn H; obtain ⟨c22, H⟩ := H; have LMc22 := z0 c22; clear c22; obtain ⟨y621, hy621⟩ : ∃ y_ : List Bool, y_ = (x3_1 ++ [t620]) := ⟨_, rfl⟩; replace H : (spec_l3Wholes.l0 kj5 a2 y621 (wrap64 (x9_1 + 1)) a0_0 a0_1 a0_2 l0_3 a0_4) = some r := zH2 hy621 H; have Ny621 := z0 hy621; clear hy621; have H' := z0 H; clear H; have hcz23 := zc5 BK614.out; have p12 : 0 ≤ (x9_1 : Int) := zd; have q12 : x9_1 < (a0_1.size : Int) := zd; have hx12 := bt_at a0_1 x9_1; replace p12 := eq_true p12; replace q12 := eq_true q12
       go_wp2_with (first | ((with_reducible refine gc 71 ?_); refine zL (some 44) Try.func71 #[.agg #[.string a0_0, .string a0_1, .string a0_2, .slice A0_3 l0_3.length c0_3, .int .i64 a0_4], .int .i64 x9_1] ?_; (with_reducible refine (spec_l3Whole.calls kj5 a0_0 a0_1 a0_2 _ _ l0_3 a0_4 x9_1 t620 _ (Kd.C_kept_now HR0_3.out (zk HK.out)) HC0_3.out A21.out).mono ?_); rintro e w24 ⟨rfl, hb⟩; refine zv ?_; replace HO_3 := zA HO_3 hb; replace BK614 := zK BK614 hb; replace HK := z0 (Kept.below (zk HK.out) hb); replace HB := zH HB hb; (try clear hb)) | ((with_reducible refine gate_builtin (b := .append) (xs := #[.tmp 41, .tmp 45]) rfl ?_); (try (refine gate_guard (by rfl) ?_; dsimp only)); at_builtin; refine Kd.R_append Kd.bool (w0 := w0) w0.heap.size rfl (.tmp 41) (.tmp 45) 84 4 (.bool false) 1 rfl Try.underlying84 info4 rfl (by decide) (by omega) u3 x3_1 t620 [.bool t620] (fun k_ => (P3_ k_ ∨ w.heap.size ≤ k_)) (fun _ => False) rfl rfl ?aP (fun _ hk => hk.elim) ?aF ?aO ?aB ?aS ?aL ?_; (case aP => exact rfl); (case aB => exact (zb HB.out)); (case aF => exact (fun k_ hk => (.inr (Nat.le_trans (by first | exact HK.out.1 | exact (show Kept w _ (fun k_ => P3_ k_) from zk HK.out).1) hk)))); (case aO => exact (zr HO_3.out)); (case aS => exact (below_size (zb HB.out))); (case aL => have := LMc22.out; omega); intro v622 w25 ho hb hg hat; rw [← Ny621.out] at ho; replace BK614 := z0 (blk_grown (zl BK614.out) hg (Kd.R_ne HO_3.out BK614.out (by decide))); replace HB := z0 (hb); replace HK := z0 (Kept.of_grown (S := (fun k_ => P3_ k_)) hg (zk HK.out) (fun k_ e_ => (HO_3.out.1 k_ e_))); have HO623 := z0 (ho); clear HO_3; clear ho hb hg hat))
       go_roundg kj5
       case measure => have := HK1.out; have := HJ5.out; omega
       case rel => exact ⟨(y621), (wrap64 (x9_1 + 1)), zf, H', ⟨by have := HK1.out; have := HJ5.out; omega⟩, ⟨zr HO623.out⟩, ⟨zl BK614.out⟩, ⟨zk HK.out⟩, ⟨zb HB.out⟩⟩
     ·replace c9 := Bool.eq_false_iff.mpr c9; subst c9
      have H1 : (some x3_1) = some r := by rw [if_neg (show ¬ (false = true) by decide)] at H; exact H
      clear H; have H := H1; clear H1; obtain rfl := Option.some.inj H; go_wp2; go_ret; exact ⟨_, ze, zr HO_3.out, zb HB.out, zk HK.out⟩
theorem spec_SieveMeets.mono_l : ∀ k, (∀ y0 y1 y2 y3 y4 y5 y6 y7, LeO (spec_SieveMeets.j0 k y0 y1 y2 y3 y4 y5 y6 y7) (spec_SieveMeets.j0 (k + 1) y0 y1 y2 y3 y4 y5 y6 y7))
  | 0 => fun _ _ _ _ _ _ _ _ r h => by simp [spec_SieveMeets.j0] at h
  | k + 1 => by
    have ih0 := spec_SieveMeets.mono_l k
    · intro y0 y1 y2 y3 y4 y5 y6 y7
      unfold spec_SieveMeets.j0
      repeat' first | (with_reducible first | apply ih0 | apply spec_KeyOk.mono | apply spec_SieveOk.mono | apply spec_l1One.mono | apply spec_l3Behind.mono | apply spec_l3Heads.mono | apply spec_l3Wholes.mono | exact LeO.refl _ | exact LeO.none _ | refine LeO.ite ?_ ?_ | refine LeO.bind ?_ (fun _ => ?_)) | exact LeO.none _ | refine LeO.ite ?_ ?_ | refine LeO.bind ?_ (fun _ => ?_)
theorem spec_SieveMeets.mono : ∀ a0 a1 a2 a3 a4 a5 a6 k, LeO (spec_SieveMeets.f k a0 a1 a2 a3 a4 a5 a6) (spec_SieveMeets.f (k + 1) a0 a1 a2 a3 a4 a5 a6) := by
  intro a0 a1 a2 a3 a4 a5 a6 k
  have ih0 := spec_SieveMeets.mono_l k
  unfold spec_SieveMeets.f
  repeat' first | (with_reducible first | apply ih0 | apply spec_KeyOk.mono | apply spec_SieveOk.mono | apply spec_l1One.mono | apply spec_l3Behind.mono | apply spec_l3Heads.mono | apply spec_l3Wholes.mono | exact LeO.refl _ | exact LeO.none _ | refine LeO.ite ?_ ?_ | refine LeO.bind ?_ (fun _ => ?_)) | exact LeO.none _ | refine LeO.ite ?_ ?_ | refine LeO.bind ?_ (fun _ => ?_)
def spec_SieveMeets.T4 : Bool × List (List Nat × List Nat) := (true, [([], []), ([], []), ([], []), ([2], [2]), ([3], [3]), ([], []), ([1, 4, 5, 4], [1, 4, 5]), ([], []), ([0, 6, 7, 6], [0, 6, 7]), ([8, 8, 0, 1, 2, 3, 4, 5, 6, 7, 8], [8])])
def spec_SieveMeets.B4 : List Nat := [0, 0, 0, 4, 12, 0, 62, 0, 255, 511]
theorem spec_SieveMeets.tab4 : rtab .any (opsOf Try.f38 4) = spec_SieveMeets.T4 := by kernel_rfl
theorem spec_SieveMeets.bits4 : waitsOk spec_SieveMeets.T4.2 spec_SieveMeets.B4 = true := by kernel_rfl
theorem spec_SieveMeets.calls (k : Nat) (a0_0 a0_1 a0_2 : ByteArray) (A0_3 : Option Addr) (c0_3 : Nat) (l0_3 : List ByteArray) (a0_4 : Int) (a1 a2 : ByteArray) (r : Bool) (w : World) (hr0_3 : Kd.C Kd.string w A0_3 l0_3.length l0_3) (hc0_3 : l0_3.length ≤ c0_3) (h : spec_SieveMeets.f k a0_0 a0_1 a0_2 l0_3 a0_4 a1 a2 = some r) :
    Calls Try.prog 38 #[.agg #[.string a0_0, .string a0_1, .string a0_2, .slice A0_3 l0_3.length c0_3, .int .i64 a0_4], .string a1, .string a2] w fun e w' => e = .returned (.bool r) ∧ Below w.heap.size w w' := by
 have hu25 := Try.underlying25; have HR0_3 := z0 hr0_3; have HC0_3 := z0 hc0_3; clear hr0_3 hc0_3; have HB := z0 (Below.refl w.heap.size w); have H : ((spec_SieveOk.f k a0_0 a0_1 a0_2 l0_3 a0_4).bind fun t625 => (if t625 = true then ((spec_KeyOk.f k a1).bind fun t626 => (if t626 = true then ((spec_KeyOk.f k a2).bind fun t627 => (if t627 = true then (spec_SieveMeets.j0 k a1 a2 (Op.bytesLess a2.toList a1.toList) a0_0 a0_1 a0_2 l0_3 a0_4) else (spec_SieveMeets.j0 k a1 a2 true a0_0 a0_1 a0_2 l0_3 a0_4))) else (spec_SieveMeets.j0 k a1 a2 true a0_0 a0_1 a0_2 l0_3 a0_4))) else (spec_SieveMeets.j0 k a1 a2 true a0_0 a0_1 a0_2 l0_3 a0_4))) = some r := h; clear h; have HC4 := z0 H; clear H; go_enter Try.func38, Try.ntmps38
 go_upto_region 1 with (first | ((with_reducible refine gd 3 ?_); refine zbx 25 #[.string a0_0, .string a0_1, .string a0_2, .slice A0_3 l0_3.length c0_3, .int .i64 a0_4] ?_; intro gb624 hg w5 hbox hb; have BK624 := z0 (hbox); have GE624 := zG hg HB; replace HB := zH HB hb; clear hb hbox hg))
 (try simp only [Act.put, List.setIfInBounds_toArray, List.set_cons_zero, List.set_cons_succ])
 go_cut [26] (fun v26 wc => ∃ (kq : Nat) (x26_3 : Bool), v26 = .bool x26_3 ∧ Aside0 (spec_SieveMeets.j0 kq a1 a2 x26_3 a0_0 a0_1 a0_2 l0_3 a0_4 = some r) ∧ Aside0 (kq ≤ k) ∧ Aside0 (wc.heap[gb624]? = some (.cells #[.string a0_0, .string a0_1, .string a0_2, (.slice A0_3 l0_3.length c0_3), .int .i64 a0_4] 25 (0, 0))) ∧ Aside0 (Below w.heap.size w wc))
 case first =>
  have H := HC4.out; clear HC4; replace H := zi H; obtain ⟨t625, A6, H⟩ := H
  by_cases c7 : t625 = true
  ·subst c7
   have H1 : ((spec_KeyOk.f k a1).bind fun t626 => (if t626 = true then ((spec_KeyOk.f k a2).bind fun t627 => (if t627 = true then (spec_SieveMeets.j0 k a1 a2 (Op.bytesLess a2.toList a1.toList) a0_0 a0_1 a0_2 l0_3 a0_4) else (spec_SieveMeets.j0 k a1 a2 true a0_0 a0_1 a0_2 l0_3 a0_4))) else (spec_SieveMeets.j0 k a1 a2 true a0_0 a0_1 a0_2 l0_3 a0_4))) = some r := by rw [if_pos rfl] at H; exact H
   clear H; have H := H1; clear H1; replace H := zi H; obtain ⟨t626, A8, H⟩ := H
   by_cases c9 : t626 = true
   ·subst c9
    have H1 : ((spec_KeyOk.f k a2).bind fun t627 => (if t627 = true then (spec_SieveMeets.j0 k a1 a2 (Op.bytesLess a2.toList a1.toList) a0_0 a0_1 a0_2 l0_3 a0_4) else (spec_SieveMeets.j0 k a1 a2 true a0_0 a0_1 a0_2 l0_3 a0_4))) = some r := by rw [if_pos rfl] at H; exact H
    clear H; have H := H1; clear H1; replace H := zi H; obtain ⟨t627, A10, H⟩ := H
    by_cases c11 : t627 = true
    ·subst c11
     have H1 : (spec_SieveMeets.j0 k a1 a2 (Op.bytesLess a2.toList a1.toList) a0_0 a0_1 a0_2 l0_3 a0_4) = some r := by rw [if_pos rfl] at H; exact H
     clear H; have H := H1; clear H1; have H' := z0 H; clear H; have hcz12 := zc5 BK624.out
     go_wp2_with (first | ((with_reducible refine gc 46 ?_); refine zL (some 10) Try.func46 #[.agg #[.string a0_0, .string a0_1, .string a0_2, .slice A0_3 l0_3.length c0_3, .int .i64 a0_4]] ?_; (with_reducible refine (spec_SieveOk.calls k a0_0 a0_1 a0_2 _ _ l0_3 a0_4 true _ (zC (Kd.C_below HR0_3.out HB.out)) HC0_3.out A6.out).mono ?_); rintro e w13 ⟨rfl, hb⟩; refine zv ?_; replace BK624 := zK BK624 hb; replace HB := zH HB hb; (try clear hb)) | (go_at_call 31; (with_reducible refine (spec_KeyOk.calls k a1 true _ A8.out).mono ?_); rintro e w' ⟨rfl, ⟨nd, rfl⟩⟩) | (go_at_call 31; (with_reducible refine (spec_KeyOk.calls k a2 true _ A10.out).mono ?_); rintro e w' ⟨rfl, ⟨nd, rfl⟩⟩))
     go_meet
     case rel => exact ⟨_, ((Op.bytesLess a2.toList a1.toList)), zf, H', ⟨by first | omega | exact Nat.le_refl _⟩, ⟨zl BK624.out⟩, ⟨zb HB.out⟩⟩
    ·replace c11 := Bool.eq_false_iff.mpr c11; subst c11
     have H1 : (spec_SieveMeets.j0 k a1 a2 true a0_0 a0_1 a0_2 l0_3 a0_4) = some r := by rw [if_neg (show ¬ (false = true) by decide)] at H; exact H
     clear H; have H := H1; clear H1; have H' := z0 H; clear H; have hcz14 := zc5 BK624.out
     go_wp2_with (first | ((with_reducible refine gc 46 ?_); refine zL (some 10) Try.func46 #[.agg #[.string a0_0, .string a0_1, .string a0_2, .slice A0_3 l0_3.length c0_3, .int .i64 a0_4]] ?_; (with_reducible refine (spec_SieveOk.calls k a0_0 a0_1 a0_2 _ _ l0_3 a0_4 true _ (zC (Kd.C_below HR0_3.out HB.out)) HC0_3.out A6.out).mono ?_); rintro e w15 ⟨rfl, hb⟩; refine zv ?_; replace BK624 := zK BK624 hb; replace HB := zH HB hb; (try clear hb)) | (go_at_call 31; (with_reducible refine (spec_KeyOk.calls k a1 true _ A8.out).mono ?_); rintro e w' ⟨rfl, ⟨nd, rfl⟩⟩) | (go_at_call 31; (with_reducible refine (spec_KeyOk.calls k a2 false _ A10.out).mono ?_); rintro e w' ⟨rfl, ⟨nd, rfl⟩⟩))
     go_meet
     case rel => exact ⟨_, (true), zf, H', ⟨by first | omega | exact Nat.le_refl _⟩, ⟨zl BK624.out⟩, ⟨zb HB.out⟩⟩
   ·replace c9 := Bool.eq_false_iff.mpr c9; subst c9
    have H1 : (spec_SieveMeets.j0 k a1 a2 true a0_0 a0_1 a0_2 l0_3 a0_4) = some r := by rw [if_neg (show ¬ (false = true) by decide)] at H; exact H
    clear H; have H := H1; clear H1; have H' := z0 H; clear H; have hcz16 := zc5 BK624.out
    go_wp2_with (first | ((with_reducible refine gc 46 ?_); refine zL (some 10) Try.func46 #[.agg #[.string a0_0, .string a0_1, .string a0_2, .slice A0_3 l0_3.length c0_3, .int .i64 a0_4]] ?_; (with_reducible refine (spec_SieveOk.calls k a0_0 a0_1 a0_2 _ _ l0_3 a0_4 true _ (zC (Kd.C_below HR0_3.out HB.out)) HC0_3.out A6.out).mono ?_); rintro e w17 ⟨rfl, hb⟩; refine zv ?_; replace BK624 := zK BK624 hb; replace HB := zH HB hb; (try clear hb)) | (go_at_call 31; (with_reducible refine (spec_KeyOk.calls k a1 false _ A8.out).mono ?_); rintro e w' ⟨rfl, ⟨nd, rfl⟩⟩))
    go_meet
    case rel => exact ⟨_, (true), zf, H', ⟨by first | omega | exact Nat.le_refl _⟩, ⟨zl BK624.out⟩, ⟨zb HB.out⟩⟩
  ·replace c7 := Bool.eq_false_iff.mpr c7; subst c7
   have H1 : (spec_SieveMeets.j0 k a1 a2 true a0_0 a0_1 a0_2 l0_3 a0_4) = some r := by rw [if_neg (show ¬ (false = true) by decide)] at H; exact H
   clear H; have H := H1; clear H1; have H' := z0 H; clear H; have hcz18 := zc5 BK624.out
   go_wp2_with (first | ((with_reducible refine gc 46 ?_); refine zL (some 10) Try.func46 #[.agg #[.string a0_0, .string a0_1, .string a0_2, .slice A0_3 l0_3.length c0_3, .int .i64 a0_4]] ?_; (with_reducible refine (spec_SieveOk.calls k a0_0 a0_1 a0_2 _ _ l0_3 a0_4 false _ (zC (Kd.C_below HR0_3.out HB.out)) HC0_3.out A6.out).mono ?_); rintro e w19 ⟨rfl, hb⟩; refine zv ?_; replace BK624 := zK BK624 hb; replace HB := zH HB hb; (try clear hb)))
   go_meet
   case rel => exact ⟨_, (true), zf, H', ⟨by first | omega | exact Nat.le_refl _⟩, ⟨zl BK624.out⟩, ⟨zb HB.out⟩⟩
 case rest =>
  clear HC4
  try clear c1
  try clear p2
  try clear c3
  try clear c4
  try clear c7
  try clear c9
  try clear c11
  try clear hcz12
  try clear hcz14
  try clear hcz16
  try clear hcz18
  obtain ⟨kq, x26_3, rfl, HA, HJ3, BK624, HB⟩ := hcut
  cases kq with
  | zero => exact absurd HA.out (by simp [spec_SieveMeets.j0])
  | succ kj3 =>
   have H := HA.out; clear HA; simp only [spec_SieveMeets.j0] at H
   by_cases c20 : x26_3 = true
   ·subst c20
    have H1 : (some false) = some r := by rw [if_pos rfl] at H; exact H
    clear H; have H := H1; clear H1; obtain rfl := Option.some.inj H; go_wp2; go_ret; exact ⟨ze, zb HB.out⟩
   ·replace c20 := Bool.eq_false_iff.mpr c20; subst c20
    have H1 : ((spec_l3Heads.f kj3 a0_0 a0_1 a0_2 l0_3 a0_4).bind fun t628 => ((spec_l1One.f kj3 a0_2 1).bind fun t631 => ((spec_l3Wholes.f kj3 a0_0 a0_1 a0_2 l0_3 a0_4 0 t631 (([] : List Bool))).bind fun t635 => ((spec_l3Behind.f kj3 t628 t635 a1).bind fun t638 => (if t638 < (t628.length : Int) then (if 0 ≤ t638 then (some (!(Op.bytesLess a2.toList ((rdOf ByteArray.empty t628 t638).toList)))) else (none)) else (some false)))))) = some r := by rw [if_neg (show ¬ (false = true) by decide)] at H; exact H
    clear H; have H := H1; clear H1; replace H := zi H; obtain ⟨t628, A21, H⟩ := H; replace H := zi H; obtain ⟨t631, A22, H⟩ := H; obtain ⟨y632, hy632⟩ : ∃ y_ : List Bool, y_ = (([] : List Bool)) := ⟨_, rfl⟩; replace H : ((spec_l3Wholes.f kj3 a0_0 a0_1 a0_2 l0_3 a0_4 0 t631 y632).bind fun t635 => ((spec_l3Behind.f kj3 t628 t635 a1).bind fun t638 => (if t638 < (t628.length : Int) then (if 0 ≤ t638 then (some (!(Op.bytesLess a2.toList ((rdOf ByteArray.empty t628 t638).toList)))) else (none)) else (some false)))) = some r := zH2 hy632 H; have Ny632 := z0 hy632; clear hy632; replace H := zi H; obtain ⟨t635, A23, H⟩ := H; replace H := zi H; obtain ⟨t638, A24, H⟩ := H
    by_cases c25 : t638 < (t628.length : Int)
    ·rw [if_pos c25] at H; have c25b0 := decide_eq_true c25; clear c25; replace H := zn H; obtain ⟨c26, H⟩ := H; have c26b0 := decide_eq_true c26; clear c26; obtain rfl := Option.some.inj H; have hcz27 := zc5 BK624.out
     try go_wp2_with (first | ((with_reducible refine gc 82 ?_); refine zL (some 28) Try.func82 #[.agg #[.string a0_0, .string a0_1, .string a0_2, .slice A0_3 l0_3.length c0_3, .int .i64 a0_4]] ?_; (with_reducible refine (spec_l3Heads.calls kj3 a0_0 a0_1 a0_2 _ _ l0_3 a0_4 t628 _ (zC (Kd.C_below HR0_3.out HB.out)) HC0_3.out A21.out).mono ?_); rintro e w28 ⟨v629, rfl, ho0, hb⟩; refine zv ?_; have HO630 := z0 (Kd.R_lower ho0 (below_size (zb HB.out))); replace BK624 := zK BK624 hb; replace HB := zH HB hb; (try clear hb ho0); obtain ⟨Ao29, co29, eo29⟩ := Kd.R_slice HO630.out; subst eo29))
     replace HO630 := z0 (Kd.R_drew HO630.out); replace BK624 := z0 (blk_drew BK624.out); replace HB := z0 (below_drew1 HB.out); refine start_ (n := 10) (S := fun w' => w'.cell? ⟨gb624, 0, none⟩ = some (.string a0_0) ∧ w'.cell? ⟨gb624, 1, none⟩ = some (.string a0_1) ∧ w'.cell? ⟨gb624, 2, none⟩ = some (.string a0_2) ∧ w'.cell? ⟨gb624, 3, none⟩ = some (.slice A0_3 l0_3.length c0_3) ∧ w'.cell? ⟨gb624, 4, none⟩ = some (.int .i64 a0_4)) (ds := []) (fb 10 0) (by kernel_rfl) rfl rfl (zb5 BK624.out) (fun hHeld => ?_); refine with_tabW spec_SieveMeets.tab4 spec_SieveMeets.bits4 (fun HT_ HW_ => ?_); generalize w28.drew = w30 at HO630 BK624 HB hHeld ⊢; refine zu 0 1 ?_; refine zu 2 5 ?_; refine zu 7 133 ?_; refine zx 1 135 hHeld ?_; refine zx 3 143 hHeld ?_; refine join_ (σ := Value) 3 (fb 10 191) (fun s_ => [(33, .int .i64 t631), (34, s_)]) (fun s_ w' => (w'.cell? ⟨gb624, 0, none⟩ = some (.string a0_0) ∧ w'.cell? ⟨gb624, 1, none⟩ = some (.string a0_1) ∧ w'.cell? ⟨gb624, 2, none⟩ = some (.string a0_2) ∧ w'.cell? ⟨gb624, 3, none⟩ = some (.slice A0_3 l0_3.length c0_3) ∧ w'.cell? ⟨gb624, 4, none⟩ = some (.int .i64 a0_4)) ∧ (Kd.R Kd.string 9 w' w.heap.size (fun _ => True) (.slice Ao29 t628.length co29) t628) ∧ (Kd.R Kd.bool 4 w' w.heap.size (fun _ => True) s_ y632) ∧ (w'.heap[gb624]? = some (.cells #[.string a0_0, .string a0_1, .string a0_2, .slice A0_3 l0_3.length c0_3, .int .i64 a0_4] 25 (0, 0))) ∧ (Below w.heap.size w w')) ?_ ?_; rotate_left
     ·intro hCont; refine two_ (i := 4) (j := 5) (Ni := some 33) (Nj := some 34) (fb 10 159) (fb 10 175) rfl rfl rfl rfl (two_of HT_.out (by kernel_rfl)) (by decide) (by decide) (fun K hK => ?_) (fun K hK => ?_)
      ·skip
       refine zG2 Try.func85 #[.string a0_2, .int .i64 1] ?_
       with_reducible refine (spec_l1One.calls kj3 a0_2 1 t631 _ A22.out).mono ?_
       rintro e w' ⟨rfl, ⟨nd, rfl⟩⟩; refine ⟨_, rfl, ?_⟩; refine hK.out _ _ (zb5 BK624.out) (fun hHeld => ?_); clear hK K; refine znm ?_; refine zone 5 191 (fun K hK => ?_); refine Kd.R_lit_step Kd.bool _ 4 ?hg (N := 34) ?hd (xs := ([] : List Bool)) (inner := []) (ok := fun _ => True) (okp := fun _ => True) ?hr ?hp (fun _ hk => hk) trivial (Below.refl _ _) (Nat.le_refl _) (by simp) ?_; (case hd => rfl); (case hg => rfl); (case hr => first | (go_simp; done) | (go_simp; rfl)); (case hp => exact (Reps.none _ _)); intro v633 w31 ho32 hb hg_ hnew_; clear hg_ hnew_; (first | rw [← Ny632.out] at ho32 | (simp only [Int.reduceToNat] at ho32; rw [← Ny632.out] at ho32)); replace HO630 := zA HO630 hb; have HO634 := z0 (Kd.R_lower ho32 (below_size (zb HB.out))); replace BK624 := zK BK624 hb; replace HB := zH HB hb; clear hb ho32; refine hK.out _ _ (zb5 BK624.out) (fun hHeld => ?_); clear hK K; refine znm ?_; exact norm_ (by simp only [putAll, Act.put, List.setIfInBounds_toArray, List.set_cons_zero, List.set_cons_succ]) (hCont (v633) _ ⟨hHeld, (zr HO630.out), (zr HO634.out), (zl BK624.out), (zb HB.out)⟩)
      ·skip
       refine Kd.R_lit_step Kd.bool _ 4 ?hg (N := 34) ?hd (xs := ([] : List Bool)) (inner := []) (ok := fun _ => True) (okp := fun _ => True) ?hr ?hp (fun _ hk => hk) trivial (Below.refl _ _) (Nat.le_refl _) (by simp) ?_; (case hd => rfl); (case hg => rfl); (case hr => first | (go_simp; done) | (go_simp; rfl)); (case hp => exact (Reps.none _ _)); intro v633 w31 ho32 hb hg_ hnew_; clear hg_ hnew_; (first | rw [← Ny632.out] at ho32 | (simp only [Int.reduceToNat] at ho32; rw [← Ny632.out] at ho32)); replace HO630 := zA HO630 hb; have HO634 := z0 (Kd.R_lower ho32 (below_size (zb HB.out))); replace BK624 := zK BK624 hb; replace HB := zH HB hb; clear hb ho32; refine hK.out _ _ (zb5 BK624.out) (fun hHeld => ?_); clear hK K; refine znm ?_; refine zone 4 191 (fun K hK => ?_); refine zG2 Try.func85 #[.string a0_2, .int .i64 1] ?_
       with_reducible refine (spec_l1One.calls kj3 a0_2 1 t631 _ A22.out).mono ?_
       rintro e w' ⟨rfl, ⟨nd, rfl⟩⟩; refine ⟨_, rfl, ?_⟩; refine hK.out _ _ (zb5 BK624.out) (fun hHeld => ?_); clear hK K; refine znm ?_; exact norm_ (by simp only [putAll, Act.put, List.setIfInBounds_toArray, List.set_cons_zero, List.set_cons_succ]) (hCont (v633) _ ⟨hHeld, (zr HO630.out), (zr HO634.out), (zl BK624.out), (zb HB.out)⟩)
     rintro v633 w33 ⟨hS_, h0_, h1_, h2_, h3_⟩; have n0_ : Aside0 (Kd.R Kd.string 9 w33 w.heap.size (fun _ => True) (.slice Ao29 t628.length co29) t628) := ⟨h0_⟩; have n1_ : Aside0 (Kd.R Kd.bool 4 w33 w.heap.size (fun _ => True) v633 y632) := ⟨h1_⟩; have n2_ : Aside0 (w33.heap[gb624]? = some (.cells #[.string a0_0, .string a0_1, .string a0_2, .slice A0_3 l0_3.length c0_3, .int .i64 a0_4] 25 (0, 0))) := ⟨h2_⟩; have n3_ : Aside0 (Below w.heap.size w w33) := ⟨h3_⟩; clear HO630; clear BK624; clear HB; clear h0_ h1_ h2_ h3_; have HO630 := n0_; have HO634 := n1_; have BK624 := n2_; have HB := n3_; clear n0_ n1_ n2_ n3_; have hHeld : w33.cell? ⟨gb624, 0, none⟩ = some (.string a0_0) ∧ w33.cell? ⟨gb624, 1, none⟩ = some (.string a0_1) ∧ w33.cell? ⟨gb624, 2, none⟩ = some (.string a0_2) ∧ w33.cell? ⟨gb624, 3, none⟩ = some (.slice A0_3 l0_3.length c0_3) ∧ w33.cell? ⟨gb624, 4, none⟩ = some (.int .i64 a0_4) := hS_; obtain ⟨Ao34, co34, eo34⟩ := Kd.R_slice HO634.out; (first | subst eo34 | (injection eo34 with f1_ f2_ f3_; have f4_ := f1_.symm; have f5_ := f3_.symm; clear f1_ f2_ f3_; subst f4_; subst f5_)); refine norm_ (a' := ?_) ?_ ?_; rotate_left
     ·simp only [putAll, Act.put, List.setIfInBounds_toArray, List.set_cons_zero, List.set_cons_succ]
      rfl
     refine zone 6 255 (fun K hK => ?_); refine zG2 Try.func84 #[.agg #[.string a0_0, .string a0_1, .string a0_2, .slice A0_3 l0_3.length c0_3, .int .i64 a0_4], .int .i64 0, .int .i64 t631, .slice Ao34 y632.length co34] ?_
     with_reducible refine (spec_l3Wholes.calls kj3 a0_0 a0_1 a0_2 _ _ l0_3 a0_4 0 t631 (fun k_ => some k_ = (.slice Ao34 y632.length co34 : Value).ownBlock) (.slice Ao34 y632.length co34) y632 t635 w _ ?side1 ?side2 ?side3 ?side4 A23.out).mono ?_
     (case side1 => repeat (first | (with_reducible first | exact HB.out | apply below_alloc | apply pw_below_drewN | apply below_drew1 | refine below_set ?_ GE624.out) | exact HB.out)); (case side2 => exact Kd.C_kept_came Kd.heap_string HR0_3.out (zb HB.out) (fun k_ hs_ => (fun e_ => Kd.R_base HO634.out k_ e_.symm) hs_)); (case side3 => exact HC0_3.out); (case side4 => exact Kd.R_tight rfl HO634.out); rintro e w35 ⟨v636, rfl, ho0, hb, hkp⟩; refine ⟨_, rfl, ?_⟩; replace BK624 := z0 (blk_kept (zl BK624.out) hkp (fun hs_ => (fun e_ => (Kd.R_ne HO634.out BK624.out (by decide)) e_) hs_)); replace HO630 := z0 (Kd.R_mono (ok' := fun k_ => True) (Kd.R_keptB ((Kd.R_apart' HO630.out (Kd.R_typed HO634.out) (by decide))) hkp (fun k_ hk_ hs_ => (hk_.2) hs_)) (fun k_ hk_ => trivial)); have HO637 := z0 (Kd.R_mono (ok' := fun k_ => True) ho0 (fun k_ hk_ => trivial)); replace HB := z0 (hb); clear HO634; (try clear hb); (try clear hkp); (try clear ho0); obtain ⟨Ao36, co36, eo36⟩ := Kd.R_slice HO637.out; (first | subst eo36 | (injection eo36 with f1_ f2_ f3_; have f4_ := f1_.symm; have f5_ := f3_.symm; clear f1_ f2_ f3_; subst f4_; subst f5_)); refine hK.out _ _ (zb5 BK624.out) (fun hHeld => ?_); clear hK K; refine znm ?_; refine zone 8 511 (fun K hK => ?_); refine zG2 Try.func83 #[.slice Ao29 t628.length co29, .slice Ao36 t635.length co36, .string a1] ?_
     with_reducible refine (spec_l3Behind.calls kj3 _ _ t628 _ _ t635 a1 t638 _ ?side1 ?side2 ?side3 ?side4 A24.out).mono ?_
     (case side1 => repeat (first | exact (Kd.R_reads' HO630.out).2.2 | (with_reducible refine Kd.C_alloc ?_ _) | (with_reducible refine Kd.C_drewN ?_ _) | (with_reducible refine Kd.C_drew ?_))); (case side2 => exact (Kd.R_reads' HO630.out).2.1); (case side3 => repeat (first | exact (Kd.R_reads' HO637.out).2.2 | (with_reducible refine Kd.C_alloc ?_ _) | (with_reducible refine Kd.C_drewN ?_ _) | (with_reducible refine Kd.C_drew ?_))); (case side4 => exact (Kd.R_reads' HO637.out).2.1); rintro e w' ⟨rfl, ⟨nd, rfl⟩⟩; refine ⟨_, rfl, ?_⟩; refine hK.out _ _ (zb5 BK624.out) (fun hHeld => ?_); clear hK K; refine znm ?_; refine zu 9 1023 ?_; refine done_ (done_of HT_.out (by kernel_rfl)) ?_; have p639 : 0 ≤ (t638 : Int) := zd; have q639 : t638 < (t628.length : Int) := zd; obtain ⟨ad639, e639, hx639_0⟩ := Kd.at_string (Kd.R_reads' HO630.out).2.2 t638 p639 q639; cases e639; replace p639 := eq_true p639; replace q639 := eq_true q639
     try go_wp2
     go_ret; exact ⟨ze, zb HB.out⟩
    ·rw [if_neg c25] at H; have c25b0 := decide_eq_false c25; clear c25; obtain rfl := Option.some.inj H; have hcz37 := zc5 BK624.out
     try go_wp2_with (first | ((with_reducible refine gc 82 ?_); refine zL (some 28) Try.func82 #[.agg #[.string a0_0, .string a0_1, .string a0_2, .slice A0_3 l0_3.length c0_3, .int .i64 a0_4]] ?_; (with_reducible refine (spec_l3Heads.calls kj3 a0_0 a0_1 a0_2 _ _ l0_3 a0_4 t628 _ (zC (Kd.C_below HR0_3.out HB.out)) HC0_3.out A21.out).mono ?_); rintro e w38 ⟨v629, rfl, ho0, hb⟩; refine zv ?_; have HO630 := z0 (Kd.R_lower ho0 (below_size (zb HB.out))); replace BK624 := zK BK624 hb; replace HB := zH HB hb; (try clear hb ho0); obtain ⟨Ao39, co39, eo39⟩ := Kd.R_slice HO630.out; subst eo39))
     replace HO630 := z0 (Kd.R_drew HO630.out); replace BK624 := z0 (blk_drew BK624.out); replace HB := z0 (below_drew1 HB.out); refine start_ (n := 10) (S := fun w' => w'.cell? ⟨gb624, 0, none⟩ = some (.string a0_0) ∧ w'.cell? ⟨gb624, 1, none⟩ = some (.string a0_1) ∧ w'.cell? ⟨gb624, 2, none⟩ = some (.string a0_2) ∧ w'.cell? ⟨gb624, 3, none⟩ = some (.slice A0_3 l0_3.length c0_3) ∧ w'.cell? ⟨gb624, 4, none⟩ = some (.int .i64 a0_4)) (ds := []) (fb 10 0) (by kernel_rfl) rfl rfl (zb5 BK624.out) (fun hHeld => ?_); refine with_tabW spec_SieveMeets.tab4 spec_SieveMeets.bits4 (fun HT_ HW_ => ?_); generalize w38.drew = w40 at HO630 BK624 HB hHeld ⊢; refine zu 0 1 ?_; refine zu 2 5 ?_; refine zu 7 133 ?_; refine zx 1 135 hHeld ?_; refine zx 3 143 hHeld ?_; refine join_ (σ := Value) 3 (fb 10 191) (fun s_ => [(33, .int .i64 t631), (34, s_)]) (fun s_ w' => (w'.cell? ⟨gb624, 0, none⟩ = some (.string a0_0) ∧ w'.cell? ⟨gb624, 1, none⟩ = some (.string a0_1) ∧ w'.cell? ⟨gb624, 2, none⟩ = some (.string a0_2) ∧ w'.cell? ⟨gb624, 3, none⟩ = some (.slice A0_3 l0_3.length c0_3) ∧ w'.cell? ⟨gb624, 4, none⟩ = some (.int .i64 a0_4)) ∧ (Kd.R Kd.string 9 w' w.heap.size (fun _ => True) (.slice Ao39 t628.length co39) t628) ∧ (Kd.R Kd.bool 4 w' w.heap.size (fun _ => True) s_ y632) ∧ (w'.heap[gb624]? = some (.cells #[.string a0_0, .string a0_1, .string a0_2, .slice A0_3 l0_3.length c0_3, .int .i64 a0_4] 25 (0, 0))) ∧ (Below w.heap.size w w')) ?_ ?_; rotate_left
     ·intro hCont; refine two_ (i := 4) (j := 5) (Ni := some 33) (Nj := some 34) (fb 10 159) (fb 10 175) rfl rfl rfl rfl (two_of HT_.out (by kernel_rfl)) (by decide) (by decide) (fun K hK => ?_) (fun K hK => ?_)
      ·skip
       refine zG2 Try.func85 #[.string a0_2, .int .i64 1] ?_
       with_reducible refine (spec_l1One.calls kj3 a0_2 1 t631 _ A22.out).mono ?_
       rintro e w' ⟨rfl, ⟨nd, rfl⟩⟩; refine ⟨_, rfl, ?_⟩; refine hK.out _ _ (zb5 BK624.out) (fun hHeld => ?_); clear hK K; refine znm ?_; refine zone 5 191 (fun K hK => ?_); refine Kd.R_lit_step Kd.bool _ 4 ?hg (N := 34) ?hd (xs := ([] : List Bool)) (inner := []) (ok := fun _ => True) (okp := fun _ => True) ?hr ?hp (fun _ hk => hk) trivial (Below.refl _ _) (Nat.le_refl _) (by simp) ?_; (case hd => rfl); (case hg => rfl); (case hr => first | (go_simp; done) | (go_simp; rfl)); (case hp => exact (Reps.none _ _)); intro v633 w41 ho42 hb hg_ hnew_; clear hg_ hnew_; (first | rw [← Ny632.out] at ho42 | (simp only [Int.reduceToNat] at ho42; rw [← Ny632.out] at ho42)); replace HO630 := zA HO630 hb; have HO634 := z0 (Kd.R_lower ho42 (below_size (zb HB.out))); replace BK624 := zK BK624 hb; replace HB := zH HB hb; clear hb ho42; refine hK.out _ _ (zb5 BK624.out) (fun hHeld => ?_); clear hK K; refine znm ?_; exact norm_ (by simp only [putAll, Act.put, List.setIfInBounds_toArray, List.set_cons_zero, List.set_cons_succ]) (hCont (v633) _ ⟨hHeld, (zr HO630.out), (zr HO634.out), (zl BK624.out), (zb HB.out)⟩)
      ·skip
       refine Kd.R_lit_step Kd.bool _ 4 ?hg (N := 34) ?hd (xs := ([] : List Bool)) (inner := []) (ok := fun _ => True) (okp := fun _ => True) ?hr ?hp (fun _ hk => hk) trivial (Below.refl _ _) (Nat.le_refl _) (by simp) ?_; (case hd => rfl); (case hg => rfl); (case hr => first | (go_simp; done) | (go_simp; rfl)); (case hp => exact (Reps.none _ _)); intro v633 w41 ho42 hb hg_ hnew_; clear hg_ hnew_; (first | rw [← Ny632.out] at ho42 | (simp only [Int.reduceToNat] at ho42; rw [← Ny632.out] at ho42)); replace HO630 := zA HO630 hb; have HO634 := z0 (Kd.R_lower ho42 (below_size (zb HB.out))); replace BK624 := zK BK624 hb; replace HB := zH HB hb; clear hb ho42; refine hK.out _ _ (zb5 BK624.out) (fun hHeld => ?_); clear hK K; refine znm ?_; refine zone 4 191 (fun K hK => ?_); refine zG2 Try.func85 #[.string a0_2, .int .i64 1] ?_
       with_reducible refine (spec_l1One.calls kj3 a0_2 1 t631 _ A22.out).mono ?_
       rintro e w' ⟨rfl, ⟨nd, rfl⟩⟩; refine ⟨_, rfl, ?_⟩; refine hK.out _ _ (zb5 BK624.out) (fun hHeld => ?_); clear hK K; refine znm ?_; exact norm_ (by simp only [putAll, Act.put, List.setIfInBounds_toArray, List.set_cons_zero, List.set_cons_succ]) (hCont (v633) _ ⟨hHeld, (zr HO630.out), (zr HO634.out), (zl BK624.out), (zb HB.out)⟩)
     rintro v633 w43 ⟨hS_, h0_, h1_, h2_, h3_⟩; have n0_ : Aside0 (Kd.R Kd.string 9 w43 w.heap.size (fun _ => True) (.slice Ao39 t628.length co39) t628) := ⟨h0_⟩; have n1_ : Aside0 (Kd.R Kd.bool 4 w43 w.heap.size (fun _ => True) v633 y632) := ⟨h1_⟩; have n2_ : Aside0 (w43.heap[gb624]? = some (.cells #[.string a0_0, .string a0_1, .string a0_2, .slice A0_3 l0_3.length c0_3, .int .i64 a0_4] 25 (0, 0))) := ⟨h2_⟩; have n3_ : Aside0 (Below w.heap.size w w43) := ⟨h3_⟩; clear HO630; clear BK624; clear HB; clear h0_ h1_ h2_ h3_; have HO630 := n0_; have HO634 := n1_; have BK624 := n2_; have HB := n3_; clear n0_ n1_ n2_ n3_; have hHeld : w43.cell? ⟨gb624, 0, none⟩ = some (.string a0_0) ∧ w43.cell? ⟨gb624, 1, none⟩ = some (.string a0_1) ∧ w43.cell? ⟨gb624, 2, none⟩ = some (.string a0_2) ∧ w43.cell? ⟨gb624, 3, none⟩ = some (.slice A0_3 l0_3.length c0_3) ∧ w43.cell? ⟨gb624, 4, none⟩ = some (.int .i64 a0_4) := hS_; obtain ⟨Ao44, co44, eo44⟩ := Kd.R_slice HO634.out; (first | subst eo44 | (injection eo44 with f1_ f2_ f3_; have f4_ := f1_.symm; have f5_ := f3_.symm; clear f1_ f2_ f3_; subst f4_; subst f5_)); refine norm_ (a' := ?_) ?_ ?_; rotate_left
     ·simp only [putAll, Act.put, List.setIfInBounds_toArray, List.set_cons_zero, List.set_cons_succ]
      rfl
     refine zone 6 255 (fun K hK => ?_); refine zG2 Try.func84 #[.agg #[.string a0_0, .string a0_1, .string a0_2, .slice A0_3 l0_3.length c0_3, .int .i64 a0_4], .int .i64 0, .int .i64 t631, .slice Ao44 y632.length co44] ?_
     with_reducible refine (spec_l3Wholes.calls kj3 a0_0 a0_1 a0_2 _ _ l0_3 a0_4 0 t631 (fun k_ => some k_ = (.slice Ao44 y632.length co44 : Value).ownBlock) (.slice Ao44 y632.length co44) y632 t635 w _ ?side1 ?side2 ?side3 ?side4 A23.out).mono ?_
     (case side1 => repeat (first | (with_reducible first | exact HB.out | apply below_alloc | apply pw_below_drewN | apply below_drew1 | refine below_set ?_ GE624.out) | exact HB.out)); (case side2 => exact Kd.C_kept_came Kd.heap_string HR0_3.out (zb HB.out) (fun k_ hs_ => (fun e_ => Kd.R_base HO634.out k_ e_.symm) hs_)); (case side3 => exact HC0_3.out); (case side4 => exact Kd.R_tight rfl HO634.out); rintro e w45 ⟨v636, rfl, ho0, hb, hkp⟩; refine ⟨_, rfl, ?_⟩; replace BK624 := z0 (blk_kept (zl BK624.out) hkp (fun hs_ => (fun e_ => (Kd.R_ne HO634.out BK624.out (by decide)) e_) hs_)); replace HO630 := z0 (Kd.R_mono (ok' := fun k_ => True) (Kd.R_keptB ((Kd.R_apart' HO630.out (Kd.R_typed HO634.out) (by decide))) hkp (fun k_ hk_ hs_ => (hk_.2) hs_)) (fun k_ hk_ => trivial)); have HO637 := z0 (Kd.R_mono (ok' := fun k_ => True) ho0 (fun k_ hk_ => trivial)); replace HB := z0 (hb); clear HO634; (try clear hb); (try clear hkp); (try clear ho0); obtain ⟨Ao46, co46, eo46⟩ := Kd.R_slice HO637.out; (first | subst eo46 | (injection eo46 with f1_ f2_ f3_; have f4_ := f1_.symm; have f5_ := f3_.symm; clear f1_ f2_ f3_; subst f4_; subst f5_)); refine hK.out _ _ (zb5 BK624.out) (fun hHeld => ?_); clear hK K; refine znm ?_; refine zone 8 511 (fun K hK => ?_); refine zG2 Try.func83 #[.slice Ao39 t628.length co39, .slice Ao46 t635.length co46, .string a1] ?_
     with_reducible refine (spec_l3Behind.calls kj3 _ _ t628 _ _ t635 a1 t638 _ ?side1 ?side2 ?side3 ?side4 A24.out).mono ?_
     (case side1 => repeat (first | exact (Kd.R_reads' HO630.out).2.2 | (with_reducible refine Kd.C_alloc ?_ _) | (with_reducible refine Kd.C_drewN ?_ _) | (with_reducible refine Kd.C_drew ?_))); (case side2 => exact (Kd.R_reads' HO630.out).2.1); (case side3 => repeat (first | exact (Kd.R_reads' HO637.out).2.2 | (with_reducible refine Kd.C_alloc ?_ _) | (with_reducible refine Kd.C_drewN ?_ _) | (with_reducible refine Kd.C_drew ?_))); (case side4 => exact (Kd.R_reads' HO637.out).2.1); rintro e w' ⟨rfl, ⟨nd, rfl⟩⟩; refine ⟨_, rfl, ?_⟩; refine hK.out _ _ (zb5 BK624.out) (fun hHeld => ?_); clear hK K; refine znm ?_; refine zu 9 1023 ?_; refine done_ (done_of HT_.out (by kernel_rfl)) ?_
     try go_wp2
     go_ret; exact ⟨ze, zb HB.out⟩
theorem laws_FnSieveMeetsHas.mono_l : ∀ k, (∀ y0 y1 y2 y3 y4 y5 y6 y7 y8, LeO (laws_FnSieveMeetsHas.j0 k y0 y1 y2 y3 y4 y5 y6 y7 y8) (laws_FnSieveMeetsHas.j0 (k + 1) y0 y1 y2 y3 y4 y5 y6 y7 y8))
  | 0 => fun _ _ _ _ _ _ _ _ _ r h => by simp [laws_FnSieveMeetsHas.j0] at h
  | k + 1 => by
    have ih0 := laws_FnSieveMeetsHas.mono_l k
    · intro y0 y1 y2 y3 y4 y5 y6 y7 y8
      unfold laws_FnSieveMeetsHas.j0
      repeat' first | (with_reducible first | apply ih0 | apply impl_SieveHas.mono | apply impl_SieveMeets.mono | apply spec_DrawSieveMeets.mono | apply spec_KeyOk.mono | apply spec_SieveMeets.mono | apply spec_SieveOk.mono | exact LeO.refl _ | exact LeO.none _ | refine LeO.ite ?_ ?_ | refine LeO.bind ?_ (fun _ => ?_)) | exact LeO.none _ | refine LeO.ite ?_ ?_ | refine LeO.bind ?_ (fun _ => ?_)
theorem laws_FnSieveMeetsHas.mono : ∀ a0 k, LeO (laws_FnSieveMeetsHas.f k a0) (laws_FnSieveMeetsHas.f (k + 1) a0) := by
  intro a0 k
  have ih0 := laws_FnSieveMeetsHas.mono_l k
  unfold laws_FnSieveMeetsHas.f
  repeat' first | (with_reducible first | apply ih0 | apply impl_SieveHas.mono | apply impl_SieveMeets.mono | apply spec_DrawSieveMeets.mono | apply spec_KeyOk.mono | apply spec_SieveMeets.mono | apply spec_SieveOk.mono | exact LeO.refl _ | exact LeO.none _ | refine LeO.ite ?_ ?_ | refine LeO.bind ?_ (fun _ => ?_)) | exact LeO.none _ | refine LeO.ite ?_ ?_ | refine LeO.bind ?_ (fun _ => ?_)
theorem laws_FnSieveMeetsHas.calls (k : Nat) (A0 : Option Addr) (c0 : Nat) (l0 : List Int) (r : Bool) (w : World) (hr0 : Kd.C (Kd.int .u8) w A0 l0.length l0) (hc0 : l0.length ≤ c0) (h : laws_FnSieveMeetsHas.f k l0 = some r) :
    Calls Try.prog 25 #[.slice A0 l0.length c0] w fun e w' => e = .returned (.bool r) ∧ Below w.heap.size w w' := by
 have hu25 := Try.underlying25; have HR0 := z0 hr0; have HC0 := z0 hc0; clear hr0 hc0; have HB := z0 (Below.refl w.heap.size w); have H : (if (l0.length : Int) > 1048576 then (some true) else ((spec_DrawSieveMeets.f k l0).bind fun bt1548 => ((impl_SieveMeets.f k bt1548.1 bt1548.2.1 bt1548.2.2.1 bt1548.2.2.2.1 bt1548.2.2.2.2.1 bt1548.2.2.2.2.2.1 bt1548.2.2.2.2.2.2).bind fun t1558 => ((spec_SieveMeets.f k bt1548.1 bt1548.2.1 bt1548.2.2.1 bt1548.2.2.2.1 bt1548.2.2.2.2.1 bt1548.2.2.2.2.2.1 bt1548.2.2.2.2.2.2).bind fun t1559 => (if (t1558 != t1559) = true then (laws_FnSieveMeetsHas.j0 k bt1548.2.2.2.2.2.1 bt1548.2.2.2.2.2.2 t1558 true bt1548.1 bt1548.2.1 bt1548.2.2.1 bt1548.2.2.2.1 bt1548.2.2.2.2.1) else ((spec_SieveOk.f k bt1548.1 bt1548.2.1 bt1548.2.2.1 bt1548.2.2.2.1 bt1548.2.2.2.2.1).bind fun t1560 => (if t1560 = true then ((spec_KeyOk.f k bt1548.2.2.2.2.2.1).bind fun t1561 => (if t1561 = true then ((spec_KeyOk.f k bt1548.2.2.2.2.2.2).bind fun t1562 => (laws_FnSieveMeetsHas.j0 k bt1548.2.2.2.2.2.1 bt1548.2.2.2.2.2.2 t1558 (!t1562) bt1548.1 bt1548.2.1 bt1548.2.2.1 bt1548.2.2.2.1 bt1548.2.2.2.2.1)) else (laws_FnSieveMeetsHas.j0 k bt1548.2.2.2.2.2.1 bt1548.2.2.2.2.2.2 t1558 true bt1548.1 bt1548.2.1 bt1548.2.2.1 bt1548.2.2.2.1 bt1548.2.2.2.2.1))) else (laws_FnSieveMeetsHas.j0 k bt1548.2.2.2.2.2.1 bt1548.2.2.2.2.2.2 t1558 true bt1548.1 bt1548.2.1 bt1548.2.2.1 bt1548.2.2.2.1 bt1548.2.2.2.2.1)))))))) = some r := h; clear h
 by_cases c2 : (l0.length : Int) > 1048576
 ·rw [if_pos c2] at H; have c2b0 : decide (1048576 < (l0.length : Int)) = true := decide_eq_true c2; have c2b1 : decide (1048576 < l0.length) = true := decide_eq_true (by omega); clear c2; obtain rfl := Option.some.inj H; go_enter Try.func25, Try.ntmps25; go_wp2; go_ret; exact ⟨ze, zb HB.out⟩
 ·rw [if_neg c2] at H; have c2b0 : decide (1048576 < (l0.length : Int)) = false := decide_eq_false c2; have c2b1 : decide (1048576 < l0.length) = false := decide_eq_false (by omega); clear c2; replace H := zi H; obtain ⟨⟨t1548, t1549, t1550, t1551, t1554, t1555, t1556⟩, A3, H⟩ := H; (try dsimp only at H); replace H := zi H; obtain ⟨t1558, A4, H⟩ := H; have HC5 := z0 H; clear H; go_enter Try.func25, Try.ntmps25
  go_upto_region 5 with (first | ((with_reducible refine gc 35 ?_); refine zL (some 12) Try.func35 #[.slice A0 l0.length c0] ?_; (with_reducible refine (spec_DrawSieveMeets.calls k _ _ l0 t1548 t1549 t1550 t1551 t1554 t1555 t1556 _ (zC HR0.out) HC0.out A3.out).mono ?_); rintro e w6 ⟨v1552, rfl, ho0, hb⟩; refine zv ?_; have HO1553 := z0 (Kd.R_lower ho0 (below_size (zb HB.out))); replace HB := zH HB hb; (try clear hb ho0)) | ((with_reducible refine gd 3 ?_); refine zbx 25 #[.string ⟨#[]⟩, .string ⟨#[]⟩, .string ⟨#[]⟩, .slice none 0 0, .int .i64 0] ?_; intro gb1557 hg w7 hbox hb; replace HO1553 := zA HO1553 hb; have BK1557 := z0 (hbox); have GE1557 := zG hg HB; replace HB := zH HB hb; clear hb hbox hg; have hcz8 := zc5 BK1557.out; obtain ⟨Ao9, co9, eo9⟩ := Kd.R_slice HO1553.out; subst eo9) | ((with_reducible refine gc 32 ?_); refine zL (some 19) Try.func32 #[.agg #[.string t1548, .string t1549, .string t1550, .slice Ao9 t1551.length co9, .int .i64 t1554], .string t1555, .string t1556] ?_; (with_reducible refine (impl_SieveMeets.calls k t1548 t1549 t1550 _ _ t1551 t1554 t1555 t1556 t1558 _ ?side1 ((Kd.R_reads' HO1553.out).2.1) A4.out).mono ?_); (case side1 => refine (Kd.R_reads' (e := 9) (base := w.heap.size) (ok := fun k_ => True) (n := t1551.length) (c := co9) ?_).2.2; exact (zs HO1553.out BK1557.out)); rintro e w10 ⟨rfl, hb⟩; refine zv ?_; replace HO1553 := zAs HO1553 BK1557 hb; replace BK1557 := z0 (blk_below (zpc BK1557.out #[.string t1548, .string t1549, .string t1550, .slice Ao9 t1551.length co9, .int .i64 t1554]) hb); replace HB := zH HB hb; (try clear hb)))
  (try simp only [Act.put, List.setIfInBounds_toArray, List.set_cons_zero, List.set_cons_succ])
  go_cut [40] (fun v40 wc => ∃ (kq : Nat) (x40_4 : Bool), v40 = .bool x40_4 ∧ Aside0 (laws_FnSieveMeetsHas.j0 kq t1555 t1556 t1558 x40_4 t1548 t1549 t1550 t1551 t1554 = some r) ∧ Aside0 (kq ≤ k) ∧ Aside0 (Kd.R Kd.string 9 wc w.heap.size (fun _ => True) (.slice Ao9 t1551.length co9) t1551) ∧ Aside0 (wc.heap[gb1557]? = some (.cells #[.string t1548, .string t1549, .string t1550, (.slice Ao9 t1551.length co9), .int .i64 t1554] 25 (0, 0))) ∧ Aside0 (Below w.heap.size w wc))
  case first =>
   have H := HC5.out; clear HC5; replace H := zi H; obtain ⟨t1559, A11, H⟩ := H
   by_cases c12 : (t1558 != t1559) = true
   ·rw [if_pos c12] at H; have c12b0 : (t1558 != t1559) = true := c12; (try (have c12b1 : decide (t1558 = t1559) = false := by simpa using c12)); (try (have c12b2 : (t1558 == t1559) = false := by simpa using c12)); (try (have c12b3 : ¬ (t1558 = t1559) := by simpa using c12)); clear c12; (first | rw [c12b0] | (simp only [i64_w, i32_w]; rw [c12b0]) | simp only [*, Bool.not_true, Bool.not_false] | skip); have H' := z0 H; clear H; have hcz13 := zc5 BK1557.out
    go_wp2_with (first | ((with_reducible refine gc 38 ?_); refine zL (some 24) Try.func38 #[.agg #[.string t1548, .string t1549, .string t1550, .slice Ao9 t1551.length co9, .int .i64 t1554], .string t1555, .string t1556] ?_; (with_reducible refine (spec_SieveMeets.calls k t1548 t1549 t1550 _ _ t1551 t1554 t1555 t1556 t1559 _ (zC ((Kd.R_reads' HO1553.out).2.2)) ((Kd.R_reads' HO1553.out).2.1) A11.out).mono ?_); rintro e w14 ⟨rfl, hb⟩; refine zv ?_; replace HO1553 := zA HO1553 hb; replace BK1557 := zK BK1557 hb; replace HB := zH HB hb; (try clear hb)))
    go_meet
    case rel => exact ⟨_, (true), zf, H', ⟨by first | omega | exact Nat.le_refl _⟩, ⟨zr HO1553.out⟩, ⟨zl BK1557.out⟩, ⟨zb HB.out⟩⟩
   ·rw [if_neg c12] at H
    have c12b0 : (t1558 != t1559) = false := by simpa using c12
    (try (have c12b1 : decide (t1558 = t1559) = true := by simpa using c12)); (try (have c12b2 : (t1558 == t1559) = true := by simpa using c12)); clear c12; (first | rw [c12b0] | (simp only [i64_w, i32_w]; rw [c12b0]) | simp only [*, Bool.not_true, Bool.not_false] | skip); replace H := zi H; obtain ⟨t1560, A15, H⟩ := H
    by_cases c16 : t1560 = true
    ·subst c16
     have H1 : ((spec_KeyOk.f k t1555).bind fun t1561 => (if t1561 = true then ((spec_KeyOk.f k t1556).bind fun t1562 => (laws_FnSieveMeetsHas.j0 k t1555 t1556 t1558 (!t1562) t1548 t1549 t1550 t1551 t1554)) else (laws_FnSieveMeetsHas.j0 k t1555 t1556 t1558 true t1548 t1549 t1550 t1551 t1554))) = some r := by rw [if_pos rfl] at H; exact H
     clear H; have H := H1; clear H1; replace H := zi H; obtain ⟨t1561, A17, H⟩ := H
     by_cases c18 : t1561 = true
     ·subst c18
      have H1 : ((spec_KeyOk.f k t1556).bind fun t1562 => (laws_FnSieveMeetsHas.j0 k t1555 t1556 t1558 (!t1562) t1548 t1549 t1550 t1551 t1554)) = some r := by rw [if_pos rfl] at H; exact H
      clear H; have H := H1; clear H1; replace H := zi H; obtain ⟨t1562, A19, H⟩ := H; have H' := z0 H; clear H; have hcz20 := zc5 BK1557.out
      go_wp2_with (first | ((with_reducible refine gc 38 ?_); refine zL (some 24) Try.func38 #[.agg #[.string t1548, .string t1549, .string t1550, .slice Ao9 t1551.length co9, .int .i64 t1554], .string t1555, .string t1556] ?_; (with_reducible refine (spec_SieveMeets.calls k t1548 t1549 t1550 _ _ t1551 t1554 t1555 t1556 t1559 _ (zC ((Kd.R_reads' HO1553.out).2.2)) ((Kd.R_reads' HO1553.out).2.1) A11.out).mono ?_); rintro e w21 ⟨rfl, hb⟩; refine zv ?_; replace HO1553 := zA HO1553 hb; replace BK1557 := zK BK1557 hb; replace HB := zH HB hb; (try clear hb); have hcz22 := zc5 BK1557.out) | (go_at_call 46; (with_reducible refine (spec_SieveOk.calls k t1548 t1549 t1550 _ _ t1551 t1554 true _ ?side1 ?side2 A15.out).mono ?_); (case side1 => repeat (first | exact (Kd.R_reads' HO1553.out).2.2 | (with_reducible refine Kd.C_alloc ?_ _) | (with_reducible refine Kd.C_drewN ?_ _) | (with_reducible refine Kd.C_drew ?_))); (case side2 => exact (Kd.R_reads' HO1553.out).2.1); rintro e w23 ⟨rfl, hb⟩; replace HO1553 := zA HO1553 hb; replace BK1557 := zK BK1557 hb; replace HB := zH HB hb; (try clear hb)) | (go_at_call 31; (with_reducible refine (spec_KeyOk.calls k t1555 true _ A17.out).mono ?_); rintro e w' ⟨rfl, ⟨nd, rfl⟩⟩) | (go_at_call 31; (with_reducible refine (spec_KeyOk.calls k t1556 t1562 _ A19.out).mono ?_); rintro e w' ⟨rfl, ⟨nd, rfl⟩⟩))
      go_meet
      case rel => exact ⟨_, (!t1562), zf, H', ⟨by first | omega | exact Nat.le_refl _⟩, ⟨zr HO1553.out⟩, ⟨zl BK1557.out⟩, ⟨zb HB.out⟩⟩
     ·replace c18 := Bool.eq_false_iff.mpr c18; subst c18
      have H1 : (laws_FnSieveMeetsHas.j0 k t1555 t1556 t1558 true t1548 t1549 t1550 t1551 t1554) = some r := by rw [if_neg (show ¬ (false = true) by decide)] at H; exact H
      clear H; have H := H1; clear H1; have H' := z0 H; clear H; have hcz24 := zc5 BK1557.out
      go_wp2_with (first | ((with_reducible refine gc 38 ?_); refine zL (some 24) Try.func38 #[.agg #[.string t1548, .string t1549, .string t1550, .slice Ao9 t1551.length co9, .int .i64 t1554], .string t1555, .string t1556] ?_; (with_reducible refine (spec_SieveMeets.calls k t1548 t1549 t1550 _ _ t1551 t1554 t1555 t1556 t1559 _ (zC ((Kd.R_reads' HO1553.out).2.2)) ((Kd.R_reads' HO1553.out).2.1) A11.out).mono ?_); rintro e w25 ⟨rfl, hb⟩; refine zv ?_; replace HO1553 := zA HO1553 hb; replace BK1557 := zK BK1557 hb; replace HB := zH HB hb; (try clear hb); have hcz26 := zc5 BK1557.out) | (go_at_call 46; (with_reducible refine (spec_SieveOk.calls k t1548 t1549 t1550 _ _ t1551 t1554 true _ ?side1 ?side2 A15.out).mono ?_); (case side1 => repeat (first | exact (Kd.R_reads' HO1553.out).2.2 | (with_reducible refine Kd.C_alloc ?_ _) | (with_reducible refine Kd.C_drewN ?_ _) | (with_reducible refine Kd.C_drew ?_))); (case side2 => exact (Kd.R_reads' HO1553.out).2.1); rintro e w27 ⟨rfl, hb⟩; replace HO1553 := zA HO1553 hb; replace BK1557 := zK BK1557 hb; replace HB := zH HB hb; (try clear hb)) | (go_at_call 31; (with_reducible refine (spec_KeyOk.calls k t1555 false _ A17.out).mono ?_); rintro e w' ⟨rfl, ⟨nd, rfl⟩⟩))
      go_meet
      case rel => exact ⟨_, (true), zf, H', ⟨by first | omega | exact Nat.le_refl _⟩, ⟨zr HO1553.out⟩, ⟨zl BK1557.out⟩, ⟨zb HB.out⟩⟩
    ·replace c16 := Bool.eq_false_iff.mpr c16; subst c16
     have H1 : (laws_FnSieveMeetsHas.j0 k t1555 t1556 t1558 true t1548 t1549 t1550 t1551 t1554) = some r := by rw [if_neg (show ¬ (false = true) by decide)] at H; exact H
     clear H; have H := H1; clear H1; have H' := z0 H; clear H; have hcz28 := zc5 BK1557.out
     go_wp2_with (first | ((with_reducible refine gc 38 ?_); refine zL (some 24) Try.func38 #[.agg #[.string t1548, .string t1549, .string t1550, .slice Ao9 t1551.length co9, .int .i64 t1554], .string t1555, .string t1556] ?_; (with_reducible refine (spec_SieveMeets.calls k t1548 t1549 t1550 _ _ t1551 t1554 t1555 t1556 t1559 _ (zC ((Kd.R_reads' HO1553.out).2.2)) ((Kd.R_reads' HO1553.out).2.1) A11.out).mono ?_); rintro e w29 ⟨rfl, hb⟩; refine zv ?_; replace HO1553 := zA HO1553 hb; replace BK1557 := zK BK1557 hb; replace HB := zH HB hb; (try clear hb); have hcz30 := zc5 BK1557.out) | (go_at_call 46; (with_reducible refine (spec_SieveOk.calls k t1548 t1549 t1550 _ _ t1551 t1554 false _ ?side1 ?side2 A15.out).mono ?_); (case side1 => repeat (first | exact (Kd.R_reads' HO1553.out).2.2 | (with_reducible refine Kd.C_alloc ?_ _) | (with_reducible refine Kd.C_drewN ?_ _) | (with_reducible refine Kd.C_drew ?_))); (case side2 => exact (Kd.R_reads' HO1553.out).2.1); rintro e w31 ⟨rfl, hb⟩; replace HO1553 := zA HO1553 hb; replace BK1557 := zK BK1557 hb; replace HB := zH HB hb; (try clear hb)))
     go_meet
     case rel => exact ⟨_, (true), zf, H', ⟨by first | omega | exact Nat.le_refl _⟩, ⟨zr HO1553.out⟩, ⟨zl BK1557.out⟩, ⟨zb HB.out⟩⟩
  case rest =>
   clear HC5
   try clear c1
   try clear c2
   try clear c2b0
   try clear c2b1
   try clear p2
   try clear c3
   try clear c12
   try clear c12b0
   try clear c12b1
   try clear c12b2
   try clear c16
   try clear c18
   try clear c25
   try clear hcz13
   try clear hcz20
   try clear hcz22
   try clear hcz24
   try clear hcz26
   try clear hcz28
   try clear hcz30
   try clear hcz8
   obtain ⟨kq, x40_4, rfl, HA, HJ4, HO_1558003, BK1557, HB⟩ := hcut
   cases kq with
   | zero => exact absurd HA.out (by simp [laws_FnSieveMeetsHas.j0])
   | succ kj4 =>
    have H := HA.out; clear HA; simp only [laws_FnSieveMeetsHas.j0] at H
    by_cases c32 : x40_4 = true
    ·subst c32
     have H1 : ((spec_SieveMeets.f kj4 t1548 t1549 t1550 t1551 t1554 t1555 t1556).bind fun t1563 => (some (t1558 == t1563))) = some r := by rw [if_pos rfl] at H; exact H
     clear H; have H := H1; clear H1; replace H := zi H; obtain ⟨t1563, A33, H⟩ := H; obtain rfl := Option.some.inj H; have hcz34 := zc5 BK1557.out
     go_wp2_with (first | ((with_reducible refine gc 38 ?_); refine zL (some 45) Try.func38 #[.agg #[.string t1548, .string t1549, .string t1550, .slice Ao9 t1551.length co9, .int .i64 t1554], .string t1555, .string t1556] ?_; (with_reducible refine (spec_SieveMeets.calls kj4 t1548 t1549 t1550 _ _ t1551 t1554 t1555 t1556 t1563 _ (zC ((Kd.R_reads' HO_1558003.out).2.2)) ((Kd.R_reads' HO_1558003.out).2.1) A33.out).mono ?_); rintro e w35 ⟨rfl, hb⟩; refine zv ?_; replace HO_1558003 := zA HO_1558003 hb; replace BK1557 := zK BK1557 hb; replace HB := zH HB hb; (try clear hb)))
     go_ret; exact ⟨ze, zb HB.out⟩
    ·replace c32 := Bool.eq_false_iff.mpr c32; subst c32
     have H1 : (if (Op.bytesLess t1556.toList t1555.toList) = true then (if ((Op.bytesLess t1556.toList t1555.toList) = true) then (some (!t1558)) else (some true)) else (if t1558 = true then (if ((Op.bytesLess t1556.toList t1555.toList) = true) then (some (!t1558)) else (some true)) else ((impl_SieveHas.f kj4 t1548 t1549 t1550 t1551 t1554 t1555).bind fun t1564 => (if t1564 = true then (some false) else ((impl_SieveHas.f kj4 t1548 t1549 t1550 t1551 t1554 t1556).bind fun t1565 => (if t1565 = true then (some false) else (if ((Op.bytesLess t1556.toList t1555.toList) = true) then (some (!t1558)) else (some true)))))))) = some r := by rw [if_neg (show ¬ (false = true) by decide)] at H; exact H
     clear H; have H := H1; clear H1
     by_cases c36 : (Op.bytesLess t1556.toList t1555.toList) = true
     ·rw [if_pos c36] at H; have c36b0 : (Op.bytesLess t1556.toList t1555.toList) = true := c36; clear c36
      by_cases c37 : ((Op.bytesLess t1556.toList t1555.toList) = true)
      ·rw [if_pos c37] at H; have c37b0 : (Op.bytesLess t1556.toList t1555.toList) = true := c37; clear c37; obtain rfl := Option.some.inj H; go_wp2; go_ret; exact ⟨ze, zb HB.out⟩
      ·rw [if_neg c37] at H
       have c37b0 : (Op.bytesLess t1556.toList t1555.toList) = false := by simpa using c37
       exact absurd (c36b0.symm.trans c37b0) (by decide)
     ·rw [if_neg c36] at H
      have c36b0 : (Op.bytesLess t1556.toList t1555.toList) = false := by simpa using c36
      clear c36
      by_cases c38 : t1558 = true
      ·subst c38
       have H1 : (if ((Op.bytesLess t1556.toList t1555.toList) = true) then (some (!true)) else (some true)) = some r := by rw [if_pos rfl] at H; exact H
       clear H; have H := H1; clear H1
       by_cases c39 : ((Op.bytesLess t1556.toList t1555.toList) = true)
       ·rw [if_pos c39] at H; have c39b0 : (Op.bytesLess t1556.toList t1555.toList) = true := c39; exact absurd (c36b0.symm.trans c39b0) (by decide)
       ·rw [if_neg c39] at H
        have c39b0 : (Op.bytesLess t1556.toList t1555.toList) = false := by simpa using c39
        clear c39; obtain rfl := Option.some.inj H; go_wp2; go_ret; exact ⟨ze, zb HB.out⟩
      ·replace c38 := Bool.eq_false_iff.mpr c38; subst c38
       have H1 : ((impl_SieveHas.f kj4 t1548 t1549 t1550 t1551 t1554 t1555).bind fun t1564 => (if t1564 = true then (some false) else ((impl_SieveHas.f kj4 t1548 t1549 t1550 t1551 t1554 t1556).bind fun t1565 => (if t1565 = true then (some false) else (if ((Op.bytesLess t1556.toList t1555.toList) = true) then (some (!false)) else (some true)))))) = some r := by rw [if_neg (show ¬ (false = true) by decide)] at H; exact H
       clear H; have H := H1; clear H1; replace H := zi H; obtain ⟨t1564, A40, H⟩ := H
       by_cases c41 : t1564 = true
       ·subst c41
        have H1 : (some false) = some r := by rw [if_pos rfl] at H; exact H
        clear H; have H := H1; clear H1; obtain rfl := Option.some.inj H; have hcz42 := zc5 BK1557.out
        go_wp2_with (first | (go_at_call 28; (with_reducible refine (impl_SieveHas.calls kj4 t1548 t1549 t1550 _ _ t1551 t1554 t1555 true _ ?side1 ?side2 A40.out).mono ?_); (case side1 => repeat (first | exact (Kd.R_reads' HO_1558003.out).2.2 | (with_reducible refine Kd.C_alloc ?_ _) | (with_reducible refine Kd.C_drewN ?_ _) | (with_reducible refine Kd.C_drew ?_))); (case side2 => exact (Kd.R_reads' HO_1558003.out).2.1); rintro e w43 ⟨rfl, hb⟩; replace HO_1558003 := zA HO_1558003 hb; replace BK1557 := zK BK1557 hb; replace HB := zH HB hb; (try clear hb)))
        go_ret; exact ⟨ze, zb HB.out⟩
       ·replace c41 := Bool.eq_false_iff.mpr c41; subst c41
        have H1 : ((impl_SieveHas.f kj4 t1548 t1549 t1550 t1551 t1554 t1556).bind fun t1565 => (if t1565 = true then (some false) else (if ((Op.bytesLess t1556.toList t1555.toList) = true) then (some (!false)) else (some true)))) = some r := by rw [if_neg (show ¬ (false = true) by decide)] at H; exact H
        clear H; have H := H1; clear H1; replace H := zi H; obtain ⟨t1565, A44, H⟩ := H
        by_cases c45 : t1565 = true
        ·subst c45
         have H1 : (some false) = some r := by rw [if_pos rfl] at H; exact H
         clear H; have H := H1; clear H1; obtain rfl := Option.some.inj H; have hcz46 := zc5 BK1557.out
         go_wp2_with (first | (go_at_call 28; (with_reducible refine (impl_SieveHas.calls kj4 t1548 t1549 t1550 _ _ t1551 t1554 t1555 false _ ?side1 ?side2 A40.out).mono ?_); (case side1 => repeat (first | exact (Kd.R_reads' HO_1558003.out).2.2 | (with_reducible refine Kd.C_alloc ?_ _) | (with_reducible refine Kd.C_drewN ?_ _) | (with_reducible refine Kd.C_drew ?_))); (case side2 => exact (Kd.R_reads' HO_1558003.out).2.1); rintro e w47 ⟨rfl, hb⟩; replace HO_1558003 := zA HO_1558003 hb; replace BK1557 := zK BK1557 hb; replace HB := zH HB hb; (try clear hb); have hcz48 := zc5 BK1557.out) | (go_at_call 28; (with_reducible refine (impl_SieveHas.calls kj4 t1548 t1549 t1550 _ _ t1551 t1554 t1556 true _ ?side1 ?side2 A44.out).mono ?_); (case side1 => repeat (first | exact (Kd.R_reads' HO_1558003.out).2.2 | (with_reducible refine Kd.C_alloc ?_ _) | (with_reducible refine Kd.C_drewN ?_ _) | (with_reducible refine Kd.C_drew ?_))); (case side2 => exact (Kd.R_reads' HO_1558003.out).2.1); rintro e w49 ⟨rfl, hb⟩; replace HO_1558003 := zA HO_1558003 hb; replace BK1557 := zK BK1557 hb; replace HB := zH HB hb; (try clear hb)))
         go_ret; exact ⟨ze, zb HB.out⟩
        ·replace c45 := Bool.eq_false_iff.mpr c45; subst c45
         have H1 : (if ((Op.bytesLess t1556.toList t1555.toList) = true) then (some (!false)) else (some true)) = some r := by rw [if_neg (show ¬ (false = true) by decide)] at H; exact H
         clear H; have H := H1; clear H1
         by_cases c50 : ((Op.bytesLess t1556.toList t1555.toList) = true)
         ·rw [if_pos c50] at H; have c50b0 : (Op.bytesLess t1556.toList t1555.toList) = true := c50; exact absurd (c36b0.symm.trans c50b0) (by decide)
         ·rw [if_neg c50] at H
          have c50b0 : (Op.bytesLess t1556.toList t1555.toList) = false := by simpa using c50
          clear c50; obtain rfl := Option.some.inj H; have hcz55 := zc5 BK1557.out
          go_wp2_with (first | (go_at_call 28; (with_reducible refine (impl_SieveHas.calls kj4 t1548 t1549 t1550 _ _ t1551 t1554 t1555 false _ ?side1 ?side2 A40.out).mono ?_); (case side1 => repeat (first | exact (Kd.R_reads' HO_1558003.out).2.2 | (with_reducible refine Kd.C_alloc ?_ _) | (with_reducible refine Kd.C_drewN ?_ _) | (with_reducible refine Kd.C_drew ?_))); (case side2 => exact (Kd.R_reads' HO_1558003.out).2.1); rintro e w56 ⟨rfl, hb⟩; replace HO_1558003 := zA HO_1558003 hb; replace BK1557 := zK BK1557 hb; replace HB := zH HB hb; (try clear hb); have hcz57 := zc5 BK1557.out) | (go_at_call 28; (with_reducible refine (impl_SieveHas.calls kj4 t1548 t1549 t1550 _ _ t1551 t1554 t1556 false _ ?side1 ?side2 A44.out).mono ?_); (case side1 => repeat (first | exact (Kd.R_reads' HO_1558003.out).2.2 | (with_reducible refine Kd.C_alloc ?_ _) | (with_reducible refine Kd.C_drewN ?_ _) | (with_reducible refine Kd.C_drew ?_))); (case side2 => exact (Kd.R_reads' HO_1558003.out).2.1); rintro e w58 ⟨rfl, hb⟩; replace HO_1558003 := zA HO_1558003 hb; replace BK1557 := zK BK1557 hb; replace HB := zH HB hb; (try clear hb)))
          go_ret; exact ⟨ze, zb HB.out⟩
theorem laws_FnSieveMeetsHas.walk (P : laws_FnSieveMeetsHas.Pure) (a0 : Option Addr) (len0 cap0 : Nat) (z0 : List Int) (w : World) (w0 : (a0 = none ∧ len0 = 0 ∧ cap0 = 0 ∧ z0 = []) ∨ ∃ x, a0 = some x ∧ len0 ≤ cap0 ∧ cap0 ≤ maxLen ∧ z0.length = cap0 ∧ (∀ i, i < z0.length → w.cell? (x.add i) = some (.int .u8 (z0.getD i 0))) ∧ ∀ n ∈ z0, (Lit.int .u8 n).wf = true) (y0 : len0 * 1 ≤ 140737488351232) :
    Calls Try.prog 25 #[.slice a0 len0 cap0] w fun e w' => e = .returned (.bool true) ∧ Below w.heap.size w w' := by
  obtain ⟨l0, rfl, hr0, hm0, hw0, hc0⟩ := ReadsInt.ofRowC w0
  obtain ⟨k, h⟩ := P l0 hm0 y0 hw0
  refine (laws_FnSieveMeetsHas.calls k _ _ l0 true w (Kd.C_of_reads (d := (0 : Int)) (h1 := fun _ => rfl) hr0) hc0 h).mono ?_
  rintro e w' ⟨rfl, hd⟩
  exact ⟨rfl, hd⟩
end Go.Proofs.Ytifgcajpkgamgaa.Q
end
section
set_option linter.unusedVariables false
set_option linter.unusedSimpArgs false
namespace Go.Proofs.Ytifgcajpkgamgaa.Pure
open Go Go.RowKit Go.Proofs.YtifgcajpkgamgaaW.PrintWords Go.Proofs.YtifgcajpkgamgaaW.PrintLast Go.Proofs.YtifgcajpkgamgaaW.PrintMore Go.Proofs.Ytifgcajpkgamgaa.Trie Go.Proofs.Ytifgcajpkgamgaa.Q Go.Proofs.Ytifgcajpkgamgaa.Pb
theorem FnSieveMeetsHas : laws_FnSieveMeetsHas.Pure := by
 intro l0 hl _ hw
 refine Ev.rounds ?_
 unfold laws_FnSieveMeetsHas.f
 by_cases c : (l0.length : Int) > 1048576
 ·exact ev_pos c (ev_some rfl)
 ·obtain ⟨Lt, Mo, Fi, Rs, a, x, y, hd, hz, kx, ky⟩ := DrawSieveMeets_ev l0 hl hw
  have sx := kok_size kx
  have sy := kok_size ky
  have g := less_iff y x
  rcases both hz.sz a with ⟨K, keep, rfl, hI, hh, hok, _⟩ | ⟨_, hh, hok⟩
  ·have m1 := impl_meets_yes hI hh x y sx sy
   have m2 := spec_meets_yes hI hok x y sx sy
   have k1 := spec_KeyOk_ev x sx
   have k2 := spec_KeyOk_ev y sy
   rw [kokB_iff.2 kx] at k1
   rw [kokB_iff.2 ky] at k2
   refine ev_neg c (Ev.bind hd (Ev.bind m1 (Ev.bind m2 (ev_neg (by simp) (Ev.bind hok (ev_pos rfl (Ev.bind k1 (ev_pos rfl (Ev.bind k2 (ev_succ ?_))))))))))
   simp only [laws_FnSieveMeetsHas.j0, Bool.not_true]
   refine ev_neg (by simp) ?_
   by_cases c1 : L y < L x
   ·refine ev_pos (g.2 c1) (ev_pos (g.2 c1) (ev_some ?_))
    cases hm : meetsW K keep (L x) (L y) with
    | false => rfl
    | true => exact absurd c1 (meets_le hI.ok hm)
   ·refine ev_neg (fun q => c1 (g.1 q)) ?_
    cases hm : meetsW K keep (L x) (L y) with
    | true => exact ev_pos rfl (ev_neg (fun q => c1 (g.1 q)) (ev_some rfl))
    | false =>
     have no : ∀ {p : Bool}, (p = true → meetsW K keep (L x) (L y) = true) → p = false := fun {p} q => by
      cases p with
      | false => rfl
      | true => rw [q rfl] at hm; cases hm
     have q1 := impl_has_yes hI hh x sx
     have q2 := impl_has_yes hI hh y sy
     rw [no (fun q => meets_of_has hI.ok q kx ky (key_irrefl _) c1)] at q1
     rw [no (fun q => meets_of_has hI.ok q kx ky c1 (key_irrefl _))] at q2
     exact ev_neg (by simp) (Ev.bind q1 (ev_neg (by simp) (Ev.bind q2 (ev_neg (by simp) (ev_neg (fun q => c1 (g.1 q)) (ev_some rfl))))))
  ·have m1 := impl_meets_no hh x y sx sy
   have m2 := spec_meets_no hok x y
   refine ev_neg c (Ev.bind hd (Ev.bind m1 (Ev.bind m2 (ev_neg (by simp) (Ev.bind hok (ev_neg (by simp) (ev_succ ?_)))))))
   simp only [laws_FnSieveMeetsHas.j0]
   exact ev_pos (by simp) (Ev.bind m2 (ev_some rfl))
end Go.Proofs.Ytifgcajpkgamgaa.Pure
end
