/- What the law FnSieveApart needs, part 5: the kit's printed words, the printed functions with their proofs, and plain facts on them. -/
import Derived.Shelf.Slices.CompactS
import Derived.Test.YtifgcajpkgamgaaProg
import Derived.Shelf.Sort.Plain
import Derived.Shelf.Slices.In.SortNone
import Derived.Sort.OwnSorted
import Derived.Test.YtifgcajpkgamgaaBFnSieveApartd
section
namespace Go.Proofs.Ytifgcajpkgamgaa.Q
open Go.RowKit Go.Proofs.YtifgcajpkgamgaaW.PrintWords Go.Proofs.YtifgcajpkgamgaaW.PrintLast Go.Proofs.YtifgcajpkgamgaaW.PrintMore
attribute [local go_sem] max2_int min2_int max_two min_two max_three min_three max_four min_four   
set_option linter.unusedVariables false
set_option linter.unusedSimpArgs false
theorem impl_Sieve_parts.mono_l : ∀ k, (∀ y0 y1 y2 y3 y4 y5 y6 y7, LeO (impl_Sieve_parts.f k y0 y1 y2 y3 y4 y5 y6 y7) (impl_Sieve_parts.f (k + 1) y0 y1 y2 y3 y4 y5 y6 y7)) ∧ (∀ y0 y1 y2 y3 y4 y5 y6 y7 y8, LeO (impl_Sieve_parts.l0 k y0 y1 y2 y3 y4 y5 y6 y7 y8) (impl_Sieve_parts.l0 (k + 1) y0 y1 y2 y3 y4 y5 y6 y7 y8)) ∧ (∀ y0 y1 y2 y3 y4 y5 y6 y7 y8 y9, LeO (impl_Sieve_parts.j1 k y0 y1 y2 y3 y4 y5 y6 y7 y8 y9) (impl_Sieve_parts.j1 (k + 1) y0 y1 y2 y3 y4 y5 y6 y7 y8 y9)) ∧ (∀ y0 y1 y2 y3 y4 y5 y6 y7 y8 y9 y10, LeO (impl_Sieve_parts.j2 k y0 y1 y2 y3 y4 y5 y6 y7 y8 y9 y10) (impl_Sieve_parts.j2 (k + 1) y0 y1 y2 y3 y4 y5 y6 y7 y8 y9 y10))
  | 0 => ⟨fun _ _ _ _ _ _ _ _ r h => by simp [impl_Sieve_parts.f] at h, fun _ _ _ _ _ _ _ _ _ r h => by simp [impl_Sieve_parts.l0] at h, fun _ _ _ _ _ _ _ _ _ _ r h => by simp [impl_Sieve_parts.j1] at h, fun _ _ _ _ _ _ _ _ _ _ _ r h => by simp [impl_Sieve_parts.j2] at h⟩
  | k + 1 => by
    obtain ⟨ih0, ih1, ih2, ih3⟩ := impl_Sieve_parts.mono_l k
    refine ⟨?_, ?_, ?_, ?_⟩
    · intro y0 y1 y2 y3 y4 y5 y6 y7
      unfold impl_Sieve_parts.f
      repeat' first
      | (with_reducible exact ih0 _ _ _ _ _ _ _ _)
      | (with_reducible exact ih1 _ _ _ _ _ _ _ _ _)
      | (with_reducible exact ih2 _ _ _ _ _ _ _ _ _ _)
      | (with_reducible exact ih3 _ _ _ _ _ _ _ _ _ _ _)
      | (with_reducible exact impl_Sieve_branches.mono _ _ _ _ _ _ _)
      | (with_reducible exact LeO.refl _)
      | (with_reducible exact LeO.none _)
      | (with_reducible refine LeO.ite ?_ ?_)
      | (with_reducible refine LeO.bind ?_ (fun _ => ?_))
      | exact ih0 _ _ _ _ _ _ _ _
      | exact ih1 _ _ _ _ _ _ _ _ _
      | exact ih2 _ _ _ _ _ _ _ _ _ _
      | exact ih3 _ _ _ _ _ _ _ _ _ _ _
      | exact impl_Sieve_branches.mono _ _ _ _ _ _ _
      | exact LeO.none _
      | refine LeO.ite ?_ ?_
      | refine LeO.bind ?_ (fun _ => ?_)
    · intro y0 y1 y2 y3 y4 y5 y6 y7 y8
      unfold impl_Sieve_parts.l0
      repeat' first
      | (with_reducible exact ih0 _ _ _ _ _ _ _ _)
      | (with_reducible exact ih1 _ _ _ _ _ _ _ _ _)
      | (with_reducible exact ih2 _ _ _ _ _ _ _ _ _ _)
      | (with_reducible exact ih3 _ _ _ _ _ _ _ _ _ _ _)
      | (with_reducible exact impl_Sieve_branches.mono _ _ _ _ _ _ _)
      | (with_reducible exact LeO.refl _)
      | (with_reducible exact LeO.none _)
      | (with_reducible refine LeO.ite ?_ ?_)
      | (with_reducible refine LeO.bind ?_ (fun _ => ?_))
      | exact ih0 _ _ _ _ _ _ _ _
      | exact ih1 _ _ _ _ _ _ _ _ _
      | exact ih2 _ _ _ _ _ _ _ _ _ _
      | exact ih3 _ _ _ _ _ _ _ _ _ _ _
      | exact impl_Sieve_branches.mono _ _ _ _ _ _ _
      | exact LeO.none _
      | refine LeO.ite ?_ ?_
      | refine LeO.bind ?_ (fun _ => ?_)
    · intro y0 y1 y2 y3 y4 y5 y6 y7 y8 y9
      unfold impl_Sieve_parts.j1
      repeat' first
      | (with_reducible exact ih0 _ _ _ _ _ _ _ _)
      | (with_reducible exact ih1 _ _ _ _ _ _ _ _ _)
      | (with_reducible exact ih2 _ _ _ _ _ _ _ _ _ _)
      | (with_reducible exact ih3 _ _ _ _ _ _ _ _ _ _ _)
      | (with_reducible exact impl_Sieve_branches.mono _ _ _ _ _ _ _)
      | (with_reducible exact LeO.refl _)
      | (with_reducible exact LeO.none _)
      | (with_reducible refine LeO.ite ?_ ?_)
      | (with_reducible refine LeO.bind ?_ (fun _ => ?_))
      | exact ih0 _ _ _ _ _ _ _ _
      | exact ih1 _ _ _ _ _ _ _ _ _
      | exact ih2 _ _ _ _ _ _ _ _ _ _
      | exact ih3 _ _ _ _ _ _ _ _ _ _ _
      | exact impl_Sieve_branches.mono _ _ _ _ _ _ _
      | exact LeO.none _
      | refine LeO.ite ?_ ?_
      | refine LeO.bind ?_ (fun _ => ?_)
    · intro y0 y1 y2 y3 y4 y5 y6 y7 y8 y9 y10
      unfold impl_Sieve_parts.j2
      repeat' first
      | (with_reducible exact ih0 _ _ _ _ _ _ _ _)
      | (with_reducible exact ih1 _ _ _ _ _ _ _ _ _)
      | (with_reducible exact ih2 _ _ _ _ _ _ _ _ _ _)
      | (with_reducible exact ih3 _ _ _ _ _ _ _ _ _ _ _)
      | (with_reducible exact impl_Sieve_branches.mono _ _ _ _ _ _ _)
      | (with_reducible exact LeO.refl _)
      | (with_reducible exact LeO.none _)
      | (with_reducible refine LeO.ite ?_ ?_)
      | (with_reducible refine LeO.bind ?_ (fun _ => ?_))
      | exact ih0 _ _ _ _ _ _ _ _
      | exact ih1 _ _ _ _ _ _ _ _ _
      | exact ih2 _ _ _ _ _ _ _ _ _ _
      | exact ih3 _ _ _ _ _ _ _ _ _ _ _
      | exact impl_Sieve_branches.mono _ _ _ _ _ _ _
      | exact LeO.none _
      | refine LeO.ite ?_ ?_
      | refine LeO.bind ?_ (fun _ => ?_)
theorem impl_Sieve_parts.mono : ∀ a0 a1 a2 a3 a4 a5 a6 a7 k, LeO (impl_Sieve_parts.f k a0 a1 a2 a3 a4 a5 a6 a7) (impl_Sieve_parts.f (k + 1) a0 a1 a2 a3 a4 a5 a6 a7) := by
  intro a0 a1 a2 a3 a4 a5 a6 a7 k
  obtain ⟨ih0, ih1, ih2, ih3⟩ := impl_Sieve_parts.mono_l k
  exact ih0 a0 a1 a2 a3 a4 a5 a6 a7
def impl_Sieve_parts.T11 : Bool × List (List Nat × List Nat) := (true, [([], []), ([], []), ([], []), ([], []), ([2, 3], [2, 3]), ([1, 4], [1, 4]), ([], []), ([], []), ([6, 7, 4], [6, 7]), ([5, 8], [5, 8]), ([9], [9]), ([0, 10, 8], [0, 10]), ([11, 11, 0, 1, 2, 3, 4, 5, 6, 7, 8, 9, 10, 11], [0, 11])])
def impl_Sieve_parts.B11 : List Nat := [0, 0, 0, 0, 12, 30, 0, 0, 220, 510, 1022, 2047, 4095]
theorem impl_Sieve_parts.tab11 : rtab .any (opsOf Try.f118 11) = impl_Sieve_parts.T11 := by kernel_rfl
theorem impl_Sieve_parts.bits11 : waitsOk impl_Sieve_parts.T11.2 impl_Sieve_parts.B11 = true := by kernel_rfl
def impl_Sieve_parts.T12 : Bool × List (List Nat × List Nat) := (true, [([], []), ([], []), ([], []), ([1, 2], [1, 2]), ([0, 3, 3], [0, 3]), ([4], [4]), ([5], [5]), ([5], [5]), ([6, 4, 0, 1, 2, 3, 4, 5, 6], [6]), ([7, 8, 0, 1, 2, 3, 4, 5, 6, 7, 8], [7])])
def impl_Sieve_parts.B12 : List Nat := [0, 0, 0, 6, 15, 31, 63, 63, 127, 511]
theorem impl_Sieve_parts.tab12 : rtab .any (opsOf Try.f118 12) = impl_Sieve_parts.T12 := by kernel_rfl
theorem impl_Sieve_parts.bits12 : waitsOk impl_Sieve_parts.T12.2 impl_Sieve_parts.B12 = true := by kernel_rfl
def impl_Sieve_parts.T15 : Bool × List (List Nat × List Nat) := (true, [([], []), ([], []), ([], []), ([1, 2], [1, 2]), ([], []), ([], []), ([0, 3, 4, 5, 3], [0, 3, 4, 5]), ([6], [6]), ([7], [7]), ([7], [7]), ([8, 6, 0, 1, 2, 3, 4, 5, 6, 7, 8], [8]), ([9, 10, 0, 1, 2, 3, 4, 5, 6, 7, 8, 9, 10], [9])])
def impl_Sieve_parts.B15 : List Nat := [0, 0, 0, 6, 0, 0, 63, 127, 255, 255, 511, 2047]
theorem impl_Sieve_parts.tab15 : rtab .any (opsOf Try.f118 15) = impl_Sieve_parts.T15 := by kernel_rfl
theorem impl_Sieve_parts.bits15 : waitsOk impl_Sieve_parts.T15.2 impl_Sieve_parts.B15 = true := by kernel_rfl
set_option maxHeartbeats 8000000 in
set_option maxRecDepth 100000 in
theorem impl_Sieve_parts.calls (k : Nat) : ∀ (a0_0 : ByteArray) (a0_1 : ByteArray) (a0_2 : ByteArray) (A0_3 : Option Addr) (c0_3 : Nat) (l0_3 : List ByteArray) (a0_4 : Int) (a1 : Int) (a2 : ByteArray) (P3_ : Nat → Prop) (u9000_ : Value) (l3 : List (S93)) (r1 : List (S93)) (r2 : Bool) (w0 w : World) (hB : Below w0.heap.size w0 w) (hr0_3 : ∀ W_, Kept w W_ (fun k_ => P3_ k_) → Kd.C Kd.string W_ A0_3 l0_3.length l0_3) (hc0_3 : l0_3.length ≤ c0_3) (ho3 : Kd.R k93 93 w w0.heap.size P3_ u9000_ l3) (h : impl_Sieve_parts.f k a0_0 a0_1 a0_2 l0_3 a0_4 a1 a2 l3 = some (r1, r2)),
    Calls Try.prog 118 #[.agg #[.string a0_0, .string a0_1, .string a0_2, .slice A0_3 l0_3.length c0_3, .int .i64 a0_4], .int .i64 a1, .string a2, u9000_] w fun e w' => ∃ v0_ : Value, e = .returned (.tuple #[v0_, .bool r2]) ∧ Kd.R k93 93 w' w0.heap.size (fun k_ => (P3_ k_ ∨ w.heap.size ≤ k_)) v0_ r1 ∧ Below w0.heap.size w0 w' ∧ Kept w w' (fun k_ => P3_ k_) := by
 induction k using Nat.strongRecOn with
 | _ k ih =>
 intro a0_0 a0_1 a0_2 A0_3 c0_3 l0_3 a0_4 a1 a2 P3_ u9000_ l3 r1 r2 w0 w hB hr0_3 hc0_3 ho3 h
 cases k with
 | zero => exact absurd h (by simp [impl_Sieve_parts.f])
 | succ k =>
 simp only [impl_Sieve_parts.f] at h; have hu25 := Try.underlying25; have hu93 := Try.underlying93; have HR0_3 := Aside0.mk hr0_3; have HC0_3 := Aside0.mk hc0_3; clear hr0_3 hc0_3; have HO3 := z0 (show Kd.R k93 93 w w0.heap.size (fun k_ => (P3_ k_ ∨ w.heap.size ≤ k_)) u9000_ l3 from Kd.R_mono ho3 (fun k_ hk => (.inl hk))); have HK := z0 (Kept.refl w (fun k_ => P3_ k_)); have HW0 := Aside0.mk hB.size; have HB := Aside0.mk hB; clear hB; have H : (if (a2.size : Int) > 5 then (some (([] : List (S93)), false)) else ((impl_Sieve_branches.f k a0_0 a0_1 a0_2 l0_3 a0_4 a1).bind fun bt347 => (impl_Sieve_parts.l0 k a2 l3 bt347.2 bt347.1 a0_0 a0_1 a0_2 l0_3 a0_4))) = some (r1, r2) := h; clear h
 by_cases c5 : (a2.size : Int) > 5
 ·rw [if_pos c5] at H; have c5b0 : decide (5 < (a2.size : Int)) = true := decide_eq_true c5; have c5b1 : decide (5 < a2.size) = true := decide_eq_true (by omega); clear c5; simp only [Option.some.injEq, Prod.mk.injEq] at H; obtain ⟨rfl, rfl⟩ := H; go_enter Try.func118, Try.ntmps118
  go_wp2_with (first | ((with_reducible refine gd 4 ?_); refine box_event zh (N := 4) zh (cs := #[.string a0_0, .string a0_1, .string a0_2, .slice A0_3 l0_3.length c0_3, .int .i64 a0_4]) (t := 25) zg ?_; intro gb346 hg w6 hbox hb; replace HO3 := zA HO3 hb; have BK346 := z0 (hbox); have GW346 := z0 ((by rw [hg]; exact (by first | exact HK.out.1 | exact (show Kept w _ (fun k_ => P3_ k_) from zk HK.out).1) : w.heap.size ≤ gb346)); replace HK := z0 (Kept.below (zk HK.out) hb); have GE346 := zG hg HB; replace HB := zH HB hb; clear hb hbox hg))
  go_ret2
  exact ⟨_, ze, by first | exact Kd.R_nil _ _ _ _ _ | exact Kd.N_nil _ _ _ _ _ | exact Kd.V_nil _ _ _ _ _ | exact Kd.Q_nil _ _ _ _ _ | exact Kd.S_nil _ _ _ _ _, zb HB.out, zk HK.out⟩
 ·rw [if_neg c5] at H; have c5b0 : decide (5 < (a2.size : Int)) = false := decide_eq_false c5; have c5b1 : decide (5 < a2.size) = false := decide_eq_false (by omega); clear c5; replace H := zi H; obtain ⟨⟨t347, t348⟩, A7, H⟩ := H; (try dsimp only at H); have H' := Aside0.mk H; clear H; go_enter Try.func118, Try.ntmps118
  go_wp2_with (first | ((with_reducible refine gd 4 ?_); refine box_event zh (N := 4) zh (cs := #[.string a0_0, .string a0_1, .string a0_2, .slice A0_3 l0_3.length c0_3, .int .i64 a0_4]) (t := 25) zg ?_; intro gb346 hg w8 hbox hb; replace HO3 := zA HO3 hb; have BK346 := z0 (hbox); have GW346 := z0 ((by rw [hg]; exact (by first | exact HK.out.1 | exact (show Kept w _ (fun k_ => P3_ k_) from zk HK.out).1) : w.heap.size ≤ gb346)); replace HK := z0 (Kept.below (zk HK.out) hb); have GE346 := zG hg HB; replace HB := zH HB hb; clear hb hbox hg; have hcz9 := zc5 BK346.out) | ((with_reducible refine gc 102 ?_); refine zL (some 24) Try.func102 #[.agg #[.string a0_0, .string a0_1, .string a0_2, .slice A0_3 l0_3.length c0_3, .int .i64 a0_4], .int .i64 a1] ?_; (with_reducible refine (impl_Sieve_branches.calls k a0_0 a0_1 a0_2 _ _ l0_3 a0_4 a1 t347 t348 _ (Kd.C_kept_now HR0_3.out (zk HK.out)) HC0_3.out A7.out).mono ?_); rintro e w10 ⟨rfl, hb⟩; refine zv ?_; replace HO3 := zA HO3 hb; replace BK346 := zK BK346 hb; replace HK := z0 (Kept.below (zk HK.out) hb); replace HB := zH HB hb; (try clear hb)))
  go_loopg [3, 12] k (fun kq v3 v12 w' => ∃ (x3_1 : List (S93)) (x12_1 : Int), v12 = .int .i64 x12_1 ∧ Aside0 (impl_Sieve_parts.l0 kq a2 x3_1 t348 x12_1 a0_0 a0_1 a0_2 l0_3 a0_4 = some (r1, r2)) ∧ Aside0 (kq ≤ k) ∧ Aside0 (Kd.R k93 93 w' w0.heap.size (fun k_ => (P3_ k_ ∨ w.heap.size ≤ k_)) v3 x3_1) ∧ Aside0 (w'.heap[gb346]? = some (.cells #[.string a0_0, .string a0_1, .string a0_2, (.slice A0_3 l0_3.length c0_3), .int .i64 a0_4] 25 (0, 0))) ∧ Aside0 (Kept w w' (fun k_ => P3_ k_)) ∧ Aside0 (Below w0.heap.size w0 w'))
  case atStart => exact ⟨(l3), (t347), zf, H', ⟨Nat.le_refl _⟩, ⟨zr HO3.out⟩, ⟨zl BK346.out⟩, ⟨zk HK.out⟩, ⟨zb HB.out⟩⟩
  case round =>
   clear H'
   try clear c1
   try clear p2
   try clear c5
   try clear c5b0
   try clear c5b1
   try clear c10
   try clear hcz9
   obtain ⟨x3_1, x12_1, rfl, HA, HK1, HO_3, BK346, HK, HB⟩ := hrel
   cases gk with
   | zero => exact absurd HA.out (by simp [impl_Sieve_parts.l0])
   | succ k1 =>
    have H := HA.out; clear HA; simp only [impl_Sieve_parts.l0] at H
    by_cases c11 : x12_1 < t348
    ·rw [if_pos c11] at H; have c11b0 : decide (x12_1 < t348) = true := decide_eq_true c11; clear c11; replace H := zn H; obtain ⟨c12, H⟩ := H; have c12b0 : decide (0 ≤ x12_1) = true := decide_eq_true c12; clear c12; replace H := zn H; obtain ⟨c13, H⟩ := H; have c13b0 : decide (x12_1 < (a0_0.size : Int)) = true := decide_eq_true c13; clear c13; have HC15 := Aside0.mk H; clear H; have hcz16 := zc5 BK346.out; have p14 : 0 ≤ (x12_1 : Int) := zd; have q14 : x12_1 < (a0_0.size : Int) := zd; have hx14 := bt_at a0_0 x12_1; replace p14 := eq_true p14; replace q14 := eq_true q14
     go_upto_if 38 with (fail)
     go_cut [13] (fun v13 wc => ∃ (kq : Nat) (x13_14 : ByteArray), v13 = .string x13_14 ∧ Aside0 (impl_Sieve_parts.j1 kq a2 x3_1 t348 x12_1 x13_14 a0_0 a0_1 a0_2 l0_3 a0_4 = some (r1, r2)) ∧ Aside0 (kq ≤ k1) ∧ Aside0 (Kd.R k93 93 wc w0.heap.size (fun k_ => (P3_ k_ ∨ w.heap.size ≤ k_)) u3 x3_1) ∧ Aside0 (wc.heap[gb346]? = some (.cells #[.string a0_0, .string a0_1, .string a0_2, (.slice A0_3 l0_3.length c0_3), .int .i64 a0_4] 25 (0, 0))) ∧ Aside0 (Kept w wc (fun k_ => P3_ k_)) ∧ Aside0 (Below w0.heap.size w0 wc))
     case first =>
      have H := HC15.out; clear HC15
      by_cases c17 : (bt a0_0 x12_1) = 45
      ·rw [if_pos c17] at H; have c17b0 : ((bt a0_0 x12_1) == 45) = true := beq_iff_eq.mpr c17; have c17b1 : ((bt a0_0 x12_1) != 45) = false := bne_eq_false_iff_eq.mpr c17; clear c17; (first | rw [c17b0] | (simp only [i64_w, i32_w]; rw [c17b0]) | simp only [*, Bool.not_true, Bool.not_false] | skip); have H' := Aside0.mk H; clear H; go_wp2; go_meet
       case rel => exact ⟨_, (a2), zf, H', ⟨by have := HK1.out; first | omega | exact Nat.le_refl _⟩, ⟨zr HO_3.out⟩, ⟨zl BK346.out⟩, ⟨zk HK.out⟩, ⟨zb HB.out⟩⟩
      ·rw [if_neg c17] at H; have c17b0 : ((bt a0_0 x12_1) == 45) = false := beq_eq_false_iff_ne.mpr c17; have c17b1 : ((bt a0_0 x12_1) != 45) = true := bne_iff_ne.mpr c17; (first | rw [c17b0] | (simp only [i64_w, i32_w]; rw [c17b0]) | simp only [*, Bool.not_true, Bool.not_false] | skip); have c18b0 := eq_true (zd : 0 ≤ x12_1); replace H := zn H; obtain ⟨c19, H⟩ := H; have c19b0 := eq_true c19; have c19b1 : decide (x12_1 ≤ (wrap64 (x12_1 + 1))) = true := decide_eq_true c19; replace H := zn H; obtain ⟨c20, H⟩ := H; have c20b0 := eq_true c20; have c20b1 : decide ((wrap64 (x12_1 + 1)) ≤ (a0_0.size : Int)) = true := decide_eq_true c20; replace H := zn H; obtain ⟨c21, H⟩ := H; have c21b0 := eq_true c21; have c21b1 : decide (a2.size + (a0_0.extract (x12_1 : Int).toNat ((wrap64 (x12_1 + 1)) : Int).toNat).size ≤ 9223372036854775807) = true := decide_eq_true c21
       try have c21b2 : (9223372036854775807 < a2.size + (a0_0.extract (x12_1 : Int).toNat ((wrap64 (x12_1 + 1)) : Int).toNat).size) = False := eq_false (Nat.not_lt.2 c21)
       have H' := Aside0.mk H; clear H; have hcz22 := zc5 BK346.out; go_wp2; go_meet
       case rel => exact ⟨_, (a2 ++ (a0_0.extract (x12_1 : Int).toNat ((wrap64 (x12_1 + 1)) : Int).toNat)), zf, H', ⟨by have := HK1.out; first | omega | exact Nat.le_refl _⟩, ⟨zr HO_3.out⟩, ⟨zl BK346.out⟩, ⟨zk HK.out⟩, ⟨zb HB.out⟩⟩
     case rest =>
      clear HC15
      try clear c1
      try clear p1
      try clear q1
      try clear hx1
      try clear c2
      try clear p2
      try clear c5
      try clear c5b0
      try clear c5b1
      try clear p6
      try clear c10
      try clear c11
      try clear c11b0
      try clear c12
      try clear c12b0
      try clear c13
      try clear c13b0
      try clear p14
      try clear q14
      try clear hx14
      try clear c17
      try clear c17b0
      try clear c17b1
      try clear c18
      try clear c18b0
      try clear c19
      try clear c19b0
      try clear c19b1
      try clear c20
      try clear c20b0
      try clear c20b1
      try clear c21
      try clear c21b0
      try clear c21b1
      try clear c21b2
      try clear hcz16
      try clear hcz22
      try clear hcz9
      try clear p14
      try clear p2
      try clear q14
      obtain ⟨kq, x13_14, rfl, HA, HJ14, HO_3, BK346, HK, HB⟩ := hcut
      cases kq with
      | zero => exact absurd HA.out (by simp [impl_Sieve_parts.j1])
      | succ kj14 =>
       have H := HA.out; clear HA; simp only [impl_Sieve_parts.j1] at H; replace H := zn H; obtain ⟨c23, H⟩ := H; have c23b0 : decide (0 ≤ x12_1) = true := decide_eq_true c23; clear c23; replace H := zn H; obtain ⟨c24, H⟩ := H; have c24b0 : decide (x12_1 < (a0_1.size : Int)) = true := decide_eq_true c24; clear c24
       by_cases c26 : (bt a0_1 x12_1) = 48
       ·rw [if_pos c26] at H; have c26b0 : ((bt a0_1 x12_1) == 48) = true := beq_iff_eq.mpr c26; have c26b1 : ((bt a0_1 x12_1) != 48) = false := bne_eq_false_iff_eq.mpr c26; clear c26; replace H := zi H; obtain ⟨t349, A27, H⟩ := H; replace H := zn H; obtain ⟨c28, H⟩ := H; have c28b0 := eq_true c28; have c28b1 : decide (x13_14.size + t349.size ≤ 9223372036854775807) = true := decide_eq_true c28
        try have c28b2 : (9223372036854775807 < x13_14.size + t349.size) = False := eq_false (Nat.not_lt.2 c28)
        replace H := zi H; obtain ⟨t350, A29, H⟩ := H; replace H := zn H; obtain ⟨c30, H⟩ := H; have LMc30 := Aside0.mk c30; clear c30; obtain ⟨y351, hy351⟩ : ∃ y_ : List (S93), y_ = (x3_1 ++ [(⟨x13_14 ++ t349, t350⟩ : S93)]) := ⟨_, rfl⟩; replace H : (impl_Sieve_parts.l0 kj14 a2 y351 t348 (wrap64 (x12_1 + 1)) a0_0 a0_1 a0_2 l0_3 a0_4) = some (r1, r2) := zH2 hy351 H; have Ny351 := Aside0.mk hy351; clear hy351; have H' := Aside0.mk H; clear H; have hcz31 := zc5 BK346.out; have p25 : 0 ≤ (x12_1 : Int) := zd; have q25 : x12_1 < (a0_1.size : Int) := zd; have hx25 := bt_at a0_1 x12_1; replace p25 := eq_true p25; replace q25 := eq_true q25
        try go_wp2
        replace HO_3 := z0 (Kd.R_drew HO_3.out); replace BK346 := z0 (blk_drew BK346.out); replace HK := z0 (Kept.drew HK.out); replace HB := z0 (below_drew1 HB.out); refine start_ (n := 13) (S := fun w' => w'.cell? ⟨gb346, 0, none⟩ = some (.string a0_0) ∧ w'.cell? ⟨gb346, 1, none⟩ = some (.string a0_1) ∧ w'.cell? ⟨gb346, 2, none⟩ = some (.string a0_2) ∧ w'.cell? ⟨gb346, 3, none⟩ = some (.slice A0_3 l0_3.length c0_3) ∧ w'.cell? ⟨gb346, 4, none⟩ = some (.int .i64 a0_4)) (ds := []) (fb 13 0) (by kernel_rfl) rfl rfl (zb5 BK346.out) (fun hHeld => ?_); refine with_tabW impl_Sieve_parts.tab11 impl_Sieve_parts.bits11 (fun HT_ HW_ => ?_); generalize wc.drew = w32 at HO_3 BK346 HK HB hHeld ⊢; refine zu 0 1 ?_; refine zu 1 3 ?_; refine zu 3 11 ?_; refine zu 7 139 ?_; refine zx 2 143 hHeld ?_; refine zx 6 207 hHeld ?_; refine zone 4 223 (fun K hK => ?_); refine zG2 Try.func106 #[.agg #[.string a0_0, .string a0_1, .string a0_2, .slice A0_3 l0_3.length c0_3, .int .i64 a0_4], .int .i64 x12_1] ?_
        with_reducible refine (impl_Sieve_rest.calls a0_0 a0_1 a0_2 _ _ l0_3 a0_4 x12_1 t349 _ ?side1 ?side2 A27.out).mono ?_
        (case side1 => exact Kd.C_kept_now HR0_3.out (zk HK.out)); (case side2 => exact HC0_3.out); rintro e w33 ⟨rfl, hb⟩; refine ⟨_, rfl, ?_⟩; replace HO_3 := zA HO_3 hb; replace BK346 := zK BK346 hb; replace HK := z0 (Kept.below (zk HK.out) hb); replace HB := zH HB hb; (try clear hb); refine hK.out _ _ (zb5 BK346.out) (fun hHeld => ?_); clear hK K; refine znm ?_; refine zu 5 255 ?_; refine zone 8 511 (fun K hK => ?_); refine zG2 Try.func105 #[.agg #[.string a0_0, .string a0_1, .string a0_2, .slice A0_3 l0_3.length c0_3, .int .i64 a0_4], .int .i64 x12_1] ?_
        with_reducible refine (impl_Sieve_complete.calls a0_0 a0_1 a0_2 _ _ l0_3 a0_4 x12_1 t350 _ ?side1 ?side2 A29.out).mono ?_
        (case side1 => exact Kd.C_kept_now HR0_3.out (zk HK.out)); (case side2 => exact HC0_3.out); rintro e w34 ⟨rfl, hb⟩; refine ⟨_, rfl, ?_⟩; replace HO_3 := zA HO_3 hb; replace BK346 := zK BK346 hb; replace HK := z0 (Kept.below (zk HK.out) hb); replace HB := zH HB hb; (try clear hb); refine hK.out _ _ (zb5 BK346.out) (fun hHeld => ?_); clear hK K; refine znm ?_; refine zu 9 1023 ?_; refine zone 10 2047 (fun K hK => ?_); refine value_ (w1 := ?_) (v := ?_) (by rfl) rfl ?_ ?_; rotate_left 2
        ·go_simp
         constructor
         ·rfl
         ·rfl
        refine hK.out _ _ ⟨(blk_cell (blk_alloc BK346.out _) 0).trans rfl, (blk_cell (blk_alloc BK346.out _) 1).trans rfl, (blk_cell (blk_alloc BK346.out _) 2).trans rfl, (blk_cell (blk_alloc BK346.out _) 3).trans rfl, (blk_cell (blk_alloc BK346.out _) 4).trans rfl⟩ (fun hHeld => ?_); clear hK K; refine znm ?_; refine zone 11 4095 (fun K hK => ?_); refine Kd.R_append_step k93 (w0 := w0) w0.heap.size (by rfl) (.tmp 52) (.tmp 62) 88 93 (.agg #[(.string ⟨#[]⟩), (.bool false)]) 24 rfl Try.underlying88 info93 rfl (by decide) (by omega) u3 x3_1 (⟨x13_14 ++ t349, t350⟩ : S93) [.string (x13_14 ++ t349), .bool t350] (fun k_ => (P3_ k_ ∨ w.heap.size ≤ k_)) (fun _ => False) rfl rfl ?aP (fun _ hk => hk.elim) ?aF ?aO ?aB ?aS ?aL ?_; (case aP => exact k93_mkM _ _ _ (⟨x13_14 ++ t349, t350⟩ : S93)); (case aB => exact (zb HB.out)); (case aF => exact (fun k_ hk => (.inr (Nat.le_trans (by first | exact HK.out.1 | exact (show Kept w _ (fun k_ => P3_ k_) from zk HK.out).1) hk)))); (case aO => exact (zr HO_3.out)); (case aS => exact (below_size (zb HB.out))); (case aL => have := LMc30.out; omega); intro v352 w35 ho hb hg hat; rw [← Ny351.out] at ho; replace BK346 := z0 (blk_grown (zl BK346.out) hg (Kd.R_ne HO_3.out BK346.out (by decide))); replace HB := z0 (hb); replace HK := z0 (Kept.of_grown (S := (fun k_ => P3_ k_)) hg (zk HK.out) (fun k_ e_ => (HO_3.out.1 k_ e_))); have HO353 := z0 (ho); clear HO_3; clear ho hb hg hat; refine hK.out _ _ (zb5 BK346.out) (fun hHeld => ?_); clear hK K; refine znm ?_; refine zu 12 8191 ?_; refine done_ (done_of HT_.out (by kernel_rfl)) ?_
        try go_wp2
        go_roundg kj14
        case measure => have := HK1.out; have := HJ14.out; omega
        case rel => exact ⟨(y351), (wrap64 (x12_1 + 1)), zf, H', ⟨by have := HK1.out; have := HJ14.out; omega⟩, ⟨zr HO353.out⟩, ⟨zl BK346.out⟩, ⟨zk HK.out⟩, ⟨zb HB.out⟩⟩
       ·rw [if_neg c26] at H; have c26b0 : ((bt a0_1 x12_1) == 48) = false := beq_eq_false_iff_ne.mpr c26; have c26b1 : ((bt a0_1 x12_1) != 48) = true := bne_iff_ne.mpr c26; replace H := zi H; obtain ⟨t354, A36, H⟩ := H; replace H := zi H; obtain ⟨⟨t355, t356⟩, A37, H⟩ := H; (try dsimp only at H); have HC38 := Aside0.mk H; clear H; have hcz39 := zc5 BK346.out; have p25 : 0 ≤ (x12_1 : Int) := zd; have q25 : x12_1 < (a0_1.size : Int) := zd; have hx25 := bt_at a0_1 x12_1; replace p25 := eq_true p25; replace q25 := eq_true q25
        try go_wp2
        replace HO_3 := z0 (Kd.R_drew HO_3.out); replace BK346 := z0 (blk_drew BK346.out); replace HK := z0 (Kept.drew HK.out); replace HB := z0 (below_drew1 HB.out); refine start_ (n := 10) (S := fun w' => w'.cell? ⟨gb346, 0, none⟩ = some (.string a0_0) ∧ w'.cell? ⟨gb346, 1, none⟩ = some (.string a0_1) ∧ w'.cell? ⟨gb346, 2, none⟩ = some (.string a0_2) ∧ w'.cell? ⟨gb346, 3, none⟩ = some (.slice A0_3 l0_3.length c0_3) ∧ w'.cell? ⟨gb346, 4, none⟩ = some (.int .i64 a0_4)) (ds := []) (fb 10 0) (by kernel_rfl) rfl rfl (zb5 BK346.out) (fun hHeld => ?_); refine with_tabW impl_Sieve_parts.tab12 impl_Sieve_parts.bits12 (fun HT_ HW_ => ?_); generalize wc.drew = w40 at HO_3 BK346 HK HB hHeld ⊢; refine zu 2 4 ?_; refine zx 0 5 hHeld ?_; refine zx 1 7 hHeld ?_; refine zone 3 15 (fun K hK => ?_); refine zG2 Try.func104 #[.agg #[.string a0_0, .string a0_1, .string a0_2, .slice A0_3 l0_3.length c0_3, .int .i64 a0_4], .int .i64 x12_1] ?_
        with_reducible refine (impl_Sieve_node.calls a0_0 a0_1 a0_2 _ _ l0_3 a0_4 x12_1 t354 _ ?side1 ?side2 A36.out).mono ?_
        (case side1 => exact Kd.C_kept_now HR0_3.out (zk HK.out)); (case side2 => exact HC0_3.out); rintro e w41 ⟨rfl, hb⟩; refine ⟨_, rfl, ?_⟩; replace HO_3 := zA HO_3 hb; replace BK346 := zK BK346 hb; replace HK := z0 (Kept.below (zk HK.out) hb); replace HB := zH HB hb; (try clear hb); refine hK.out _ _ (zb5 BK346.out) (fun hHeld => ?_); clear hK K; refine znm ?_; refine zone 4 31 (fun K hK => ?_); refine zG2 Try.func102 #[.agg #[.string a0_0, .string a0_1, .string a0_2, .slice A0_3 l0_3.length c0_3, .int .i64 a0_4], .int .i64 t354] ?_
        with_reducible refine (impl_Sieve_branches.calls kj14 a0_0 a0_1 a0_2 _ _ l0_3 a0_4 t354 t355 t356 _ ?side1 ?side2 A37.out).mono ?_
        (case side1 => exact Kd.C_kept_now HR0_3.out (zk HK.out)); (case side2 => exact HC0_3.out); rintro e w42 ⟨rfl, hb⟩; refine ⟨_, rfl, ?_⟩; replace HO_3 := zA HO_3 hb; replace BK346 := zK BK346 hb; replace HK := z0 (Kept.below (zk HK.out) hb); replace HB := zH HB hb; (try clear hb); refine hK.out _ _ (zb5 BK346.out) (fun hHeld => ?_); clear hK K; refine znm ?_; refine zu 5 63 ?_; refine zu 6 127 ?_; refine zu 7 255 ?_; refine zu 8 511 ?_; refine zu 9 1023 ?_; refine done_ (done_of HT_.out (by kernel_rfl)) ?_
        go_upto_region 13 with (fail)
        go_cut [81] (fun v81 wc => ∃ (kq : Nat) (x81_37 : Bool), v81 = .bool x81_37 ∧ Aside0 (impl_Sieve_parts.j2 kq a2 x3_1 t348 x12_1 x13_14 x81_37 a0_0 a0_1 a0_2 l0_3 a0_4 = some (r1, r2)) ∧ Aside0 (kq ≤ kj14) ∧ Aside0 (Kd.R k93 93 wc w0.heap.size (fun k_ => (P3_ k_ ∨ w.heap.size ≤ k_)) u3 x3_1) ∧ Aside0 (wc.heap[gb346]? = some (.cells #[.string a0_0, .string a0_1, .string a0_2, (.slice A0_3 l0_3.length c0_3), .int .i64 a0_4] 25 (0, 0))) ∧ Aside0 (Kept w wc (fun k_ => P3_ k_)) ∧ Aside0 (Below w0.heap.size w0 wc))
        case first =>
         have H := HC38.out; clear HC38
         by_cases c43 : t355 ≤ x12_1
         ·rw [if_pos c43] at H; have c43b0 : decide (t355 ≤ x12_1) = true := decide_eq_true c43; clear c43; (first | rw [c43b0] | (simp only [i64_w, i32_w]; rw [c43b0]) | simp only [*, Bool.not_true, Bool.not_false] | skip); have H' := Aside0.mk H; clear H; go_wp2; go_meet
          case rel => exact ⟨_, (true), zf, H', ⟨by have := HK1.out; have := HJ14.out; first | omega | exact Nat.le_refl _⟩, ⟨zr HO_3.out⟩, ⟨zl BK346.out⟩, ⟨zk HK.out⟩, ⟨zb HB.out⟩⟩
         ·rw [if_neg c43] at H; have c43b0 : decide (t355 ≤ x12_1) = false := decide_eq_false c43; clear c43; (first | rw [c43b0] | (simp only [i64_w, i32_w]; rw [c43b0]) | simp only [*, Bool.not_true, Bool.not_false] | skip); replace H := zn H; obtain ⟨c44, H⟩ := H; have c44b0 : decide (x12_1 < (a0_0.size : Int)) = true := decide_eq_true c44; clear c44; have H' := Aside0.mk H; clear H; have hcz46 := zc5 BK346.out; have p45 : 0 ≤ (x12_1 : Int) := zd; have q45 : x12_1 < (a0_0.size : Int) := zd; have hx45 := bt_at a0_0 x12_1; replace p45 := eq_true p45; replace q45 := eq_true q45; go_wp2; go_meet
          case rel => exact ⟨_, (((bt a0_0 x12_1) == 45)), zf, H', ⟨by have := HK1.out; have := HJ14.out; first | omega | exact Nat.le_refl _⟩, ⟨zr HO_3.out⟩, ⟨zl BK346.out⟩, ⟨zk HK.out⟩, ⟨zb HB.out⟩⟩
        case rest =>
         clear HC38
         try clear c1
         try clear p1
         try clear q1
         try clear hx1
         try clear c2
         try clear p2
         try clear q2
         try clear hx2
         try clear c3
         try clear c4
         try clear p4
         try clear q4
         try clear hx4
         try clear c5
         try clear c5b0
         try clear c5b1
         try clear p6
         try clear c10
         try clear c11
         try clear c11b0
         try clear c12
         try clear c12b0
         try clear c13
         try clear c13b0
         try clear p14
         try clear q14
         try clear hx14
         try clear c17
         try clear c17b0
         try clear c17b1
         try clear c18
         try clear c18b0
         try clear c19
         try clear c19b0
         try clear c19b1
         try clear c20
         try clear c20b0
         try clear c20b1
         try clear c21
         try clear c21b0
         try clear c21b1
         try clear c21b2
         try clear c23
         try clear c23b0
         try clear c24
         try clear c24b0
         try clear p25
         try clear q25
         try clear hx25
         try clear c26
         try clear c26b0
         try clear c26b1
         try clear c28
         try clear c28b0
         try clear c28b1
         try clear c28b2
         try clear c30
         try clear c43
         try clear c43b0
         try clear c44
         try clear c44b0
         try clear p45
         try clear q45
         try clear hx45
         try clear hcz16
         try clear hcz22
         try clear hcz31
         try clear hcz39
         try clear hcz46
         try clear hcz9
         try clear p1
         try clear p14
         try clear p2
         try clear p25
         try clear p45
         try clear p6
         try clear q1
         try clear q14
         try clear q25
         try clear q45
         obtain ⟨kq, x81_37, rfl, HA, HJ37, HO_3, BK346, HK, HB⟩ := hcut
         cases kq with
         | zero => exact absurd HA.out (by simp [impl_Sieve_parts.j2])
         | succ kj37 =>
          have H := HA.out; clear HA; simp only [impl_Sieve_parts.j2] at H
          by_cases c47 : x81_37 = true
          ·subst c47
           have H1 : (some (([] : List (S93)), false)) = some (r1, r2) := by rw [if_pos rfl] at H; exact H
           clear H; have H := H1; clear H1; simp only [Option.some.injEq, Prod.mk.injEq] at H; obtain ⟨rfl, rfl⟩ := H; go_wp2
           go_ret2
           exact ⟨_, ze, by first | exact Kd.R_nil _ _ _ _ _ | exact Kd.N_nil _ _ _ _ _ | exact Kd.V_nil _ _ _ _ _ | exact Kd.Q_nil _ _ _ _ _ | exact Kd.S_nil _ _ _ _ _, zb HB.out, zk HK.out⟩
          ·replace c47 := Bool.eq_false_iff.mpr c47; subst c47
           have H1 : ((impl_Sieve_node.f a0_0 a0_1 a0_2 l0_3 a0_4 x12_1).bind fun t357 => ((impl_Sieve_parts.f kj37 a0_0 a0_1 a0_2 l0_3 a0_4 t357 x13_14 x3_1).bind fun bt358 => (if bt358.2 = true then (impl_Sieve_parts.l0 kj37 a2 bt358.1 t348 (wrap64 (x12_1 + 1)) a0_0 a0_1 a0_2 l0_3 a0_4) else (some (([] : List (S93)), false))))) = some (r1, r2) := by rw [if_neg (show ¬ (false = true) by decide)] at H; exact H
           clear H; have H := H1; clear H1; replace H := zi H; obtain ⟨t357, A48, H⟩ := H; replace H := zi H; obtain ⟨⟨t358, t361⟩, A49, H⟩ := H; (try dsimp only at H)
           by_cases c50 : t361 = true
           ·subst c50
            have H1 : (impl_Sieve_parts.l0 kj37 a2 t358 t348 (wrap64 (x12_1 + 1)) a0_0 a0_1 a0_2 l0_3 a0_4) = some (r1, r2) := by rw [if_pos rfl] at H; exact H
            clear H; have H := H1; clear H1; have H' := Aside0.mk H; clear H
            try go_wp2
            replace HO_3 := z0 (Kd.R_drew HO_3.out); replace BK346 := z0 (blk_drew BK346.out); replace HK := z0 (Kept.drew HK.out); replace HB := z0 (below_drew1 HB.out); refine start_ (n := 12) (S := fun w' => w'.cell? ⟨gb346, 0, none⟩ = some (.string a0_0) ∧ w'.cell? ⟨gb346, 1, none⟩ = some (.string a0_1) ∧ w'.cell? ⟨gb346, 2, none⟩ = some (.string a0_2) ∧ w'.cell? ⟨gb346, 3, none⟩ = some (.slice A0_3 l0_3.length c0_3) ∧ w'.cell? ⟨gb346, 4, none⟩ = some (.int .i64 a0_4)) (ds := []) (fb 12 0) (by kernel_rfl) rfl rfl (zb5 BK346.out) (fun hHeld => ?_); refine with_tabW impl_Sieve_parts.tab15 impl_Sieve_parts.bits15 (fun HT_ HW_ => ?_); generalize wc.drew = w51 at HO_3 BK346 HK HB hHeld ⊢; refine zu 2 4 ?_; refine zu 4 20 ?_; refine zu 5 52 ?_; refine zx 0 53 hHeld ?_; refine zx 1 55 hHeld ?_; refine zone 3 63 (fun K hK => ?_); refine zG2 Try.func104 #[.agg #[.string a0_0, .string a0_1, .string a0_2, .slice A0_3 l0_3.length c0_3, .int .i64 a0_4], .int .i64 x12_1] ?_
            with_reducible refine (impl_Sieve_node.calls a0_0 a0_1 a0_2 _ _ l0_3 a0_4 x12_1 t357 _ ?side1 ?side2 A48.out).mono ?_
            (case side1 => exact Kd.C_kept_now HR0_3.out (zk HK.out)); (case side2 => exact HC0_3.out); rintro e w52 ⟨rfl, hb⟩; refine ⟨_, rfl, ?_⟩; replace HO_3 := zA HO_3 hb; replace BK346 := zK BK346 hb; replace HK := z0 (Kept.below (zk HK.out) hb); replace HB := zH HB hb; (try clear hb); obtain ⟨Ao53, co53, eo53⟩ := Kd.R_slice HO_3.out; (first | subst eo53 | (injection eo53 with f1_ f2_ f3_; have f4_ := f1_.symm; have f5_ := f3_.symm; clear f1_ f2_ f3_; subst f4_; subst f5_)); refine hK.out _ _ (zb5 BK346.out) (fun hHeld => ?_); clear hK K; refine znm ?_; refine zone 6 127 (fun K hK => ?_); refine zG2 Try.func118 #[.agg #[.string a0_0, .string a0_1, .string a0_2, .slice A0_3 l0_3.length c0_3, .int .i64 a0_4], .int .i64 t357, .string x13_14, .slice Ao53 x3_1.length co53] ?_
            with_reducible refine (ih kj37 (by have := HK1.out; have := HJ14.out; have := HJ37.out; omega) a0_0 a0_1 a0_2 _ _ l0_3 a0_4 t357 x13_14 (fun k_ => some k_ = (.slice Ao53 x3_1.length co53 : Value).ownBlock) (.slice Ao53 x3_1.length co53) x3_1 t358 true w0 _ ?side1 ?side2 ?side3 ?side4 A49.out).mono ?_
            (case side1 => repeat (first | (with_reducible first | exact HB.out | apply below_alloc | apply pw_below_drewN | apply below_drew1 | refine below_set ?_ GE346.out) | exact HB.out)); (case side2 => exact Kd.C_kept_call HR0_3.out (zk HK.out) (fun k_ hs_ => (fun e_ => (HO_3.out.1 k_ e_.symm)) hs_)); (case side3 => exact HC0_3.out); (case side4 => exact Kd.R_tight rfl HO_3.out); rintro e w54 ⟨v359, rfl, ho0, hb, hkp⟩; refine ⟨_, rfl, ?_⟩; replace BK346 := z0 (blk_kept (zl BK346.out) hkp (fun hs_ => (fun e_ => (Kd.R_ne HO_3.out BK346.out (by decide)) e_) hs_)); have HO360 := z0 (Kd.R_mono (ok' := fun k_ => (P3_ k_ ∨ w.heap.size ≤ k_)) ho0 (fun k_ hk_ => Or.elim hk_ (fun hs_ => (HO_3.out.1 k_ (hs_).symm)) (fun hn_ => (.inr (Nat.le_trans (by first | exact HK.out.1 | exact (show Kept w _ (fun k_ => P3_ k_) from zk HK.out).1) hn_))))); replace HK := z0 (Kept.then_ (S := (fun k_ => P3_ k_)) (zk HK.out) hkp (fun k_ hs_ => (fun e_ => (HO_3.out.1 k_ e_.symm)) hs_)); replace HB := z0 (hb); clear HO_3; (try clear hb); (try clear hkp); (try clear ho0); refine hK.out _ _ (zb5 BK346.out) (fun hHeld => ?_); clear hK K; refine znm ?_; refine zu 7 255 ?_; refine zu 8 511 ?_; refine zu 9 1023 ?_; refine zu 10 2047 ?_; refine zu 11 4095 ?_; refine done_ (done_of HT_.out (by kernel_rfl)) ?_
            try go_wp2
            go_roundg kj37
            case measure => have := HK1.out; have := HJ14.out; have := HJ37.out; omega
            case rel => exact ⟨(t358), (wrap64 (x12_1 + 1)), zf, H', ⟨by have := HK1.out; have := HJ14.out; have := HJ37.out; omega⟩, ⟨zr HO360.out⟩, ⟨zl BK346.out⟩, ⟨zk HK.out⟩, ⟨zb HB.out⟩⟩
           ·replace c50 := Bool.eq_false_iff.mpr c50; subst c50
            have H1 : (some (([] : List (S93)), false)) = some (r1, r2) := by rw [if_neg (show ¬ (false = true) by decide)] at H; exact H
            clear H; have H := H1; clear H1; simp only [Option.some.injEq, Prod.mk.injEq] at H; obtain ⟨rfl, rfl⟩ := H
            try go_wp2
            replace HO_3 := z0 (Kd.R_drew HO_3.out); replace BK346 := z0 (blk_drew BK346.out); replace HK := z0 (Kept.drew HK.out); replace HB := z0 (below_drew1 HB.out); refine start_ (n := 12) (S := fun w' => w'.cell? ⟨gb346, 0, none⟩ = some (.string a0_0) ∧ w'.cell? ⟨gb346, 1, none⟩ = some (.string a0_1) ∧ w'.cell? ⟨gb346, 2, none⟩ = some (.string a0_2) ∧ w'.cell? ⟨gb346, 3, none⟩ = some (.slice A0_3 l0_3.length c0_3) ∧ w'.cell? ⟨gb346, 4, none⟩ = some (.int .i64 a0_4)) (ds := []) (fb 12 0) (by kernel_rfl) rfl rfl (zb5 BK346.out) (fun hHeld => ?_); refine with_tabW impl_Sieve_parts.tab15 impl_Sieve_parts.bits15 (fun HT_ HW_ => ?_); generalize wc.drew = w55 at HO_3 BK346 HK HB hHeld ⊢; refine zu 2 4 ?_; refine zu 4 20 ?_; refine zu 5 52 ?_; refine zx 0 53 hHeld ?_; refine zx 1 55 hHeld ?_; refine zone 3 63 (fun K hK => ?_); refine zG2 Try.func104 #[.agg #[.string a0_0, .string a0_1, .string a0_2, .slice A0_3 l0_3.length c0_3, .int .i64 a0_4], .int .i64 x12_1] ?_
            with_reducible refine (impl_Sieve_node.calls a0_0 a0_1 a0_2 _ _ l0_3 a0_4 x12_1 t357 _ ?side1 ?side2 A48.out).mono ?_
            (case side1 => exact Kd.C_kept_now HR0_3.out (zk HK.out)); (case side2 => exact HC0_3.out); rintro e w56 ⟨rfl, hb⟩; refine ⟨_, rfl, ?_⟩; replace HO_3 := zA HO_3 hb; replace BK346 := zK BK346 hb; replace HK := z0 (Kept.below (zk HK.out) hb); replace HB := zH HB hb; (try clear hb); obtain ⟨Ao57, co57, eo57⟩ := Kd.R_slice HO_3.out; (first | subst eo57 | (injection eo57 with f1_ f2_ f3_; have f4_ := f1_.symm; have f5_ := f3_.symm; clear f1_ f2_ f3_; subst f4_; subst f5_)); refine hK.out _ _ (zb5 BK346.out) (fun hHeld => ?_); clear hK K; refine znm ?_; refine zone 6 127 (fun K hK => ?_); refine zG2 Try.func118 #[.agg #[.string a0_0, .string a0_1, .string a0_2, .slice A0_3 l0_3.length c0_3, .int .i64 a0_4], .int .i64 t357, .string x13_14, .slice Ao57 x3_1.length co57] ?_
            with_reducible refine (ih kj37 (by have := HK1.out; have := HJ14.out; have := HJ37.out; omega) a0_0 a0_1 a0_2 _ _ l0_3 a0_4 t357 x13_14 (fun k_ => some k_ = (.slice Ao57 x3_1.length co57 : Value).ownBlock) (.slice Ao57 x3_1.length co57) x3_1 t358 false w0 _ ?side1 ?side2 ?side3 ?side4 A49.out).mono ?_
            (case side1 => repeat (first | (with_reducible first | exact HB.out | apply below_alloc | apply pw_below_drewN | apply below_drew1 | refine below_set ?_ GE346.out) | exact HB.out)); (case side2 => exact Kd.C_kept_call HR0_3.out (zk HK.out) (fun k_ hs_ => (fun e_ => (HO_3.out.1 k_ e_.symm)) hs_)); (case side3 => exact HC0_3.out); (case side4 => exact Kd.R_tight rfl HO_3.out); rintro e w58 ⟨v359, rfl, ho0, hb, hkp⟩; refine ⟨_, rfl, ?_⟩; replace BK346 := z0 (blk_kept (zl BK346.out) hkp (fun hs_ => (fun e_ => (Kd.R_ne HO_3.out BK346.out (by decide)) e_) hs_)); have HO360 := z0 (Kd.R_mono (ok' := fun k_ => (P3_ k_ ∨ w.heap.size ≤ k_)) ho0 (fun k_ hk_ => Or.elim hk_ (fun hs_ => (HO_3.out.1 k_ (hs_).symm)) (fun hn_ => (.inr (Nat.le_trans (by first | exact HK.out.1 | exact (show Kept w _ (fun k_ => P3_ k_) from zk HK.out).1) hn_))))); replace HK := z0 (Kept.then_ (S := (fun k_ => P3_ k_)) (zk HK.out) hkp (fun k_ hs_ => (fun e_ => (HO_3.out.1 k_ e_.symm)) hs_)); replace HB := z0 (hb); clear HO_3; (try clear hb); (try clear hkp); (try clear ho0); refine hK.out _ _ (zb5 BK346.out) (fun hHeld => ?_); clear hK K; refine znm ?_; refine zu 7 255 ?_; refine zu 8 511 ?_; refine zu 9 1023 ?_; refine zu 10 2047 ?_; refine zu 11 4095 ?_; refine done_ (done_of HT_.out (by kernel_rfl)) ?_
            try go_wp2
            go_ret2
            exact ⟨_, ze, by first | exact Kd.R_nil _ _ _ _ _ | exact Kd.N_nil _ _ _ _ _ | exact Kd.V_nil _ _ _ _ _ | exact Kd.Q_nil _ _ _ _ _ | exact Kd.S_nil _ _ _ _ _, zb HB.out, zk HK.out⟩
    ·rw [if_neg c11] at H; have c11b0 : decide (x12_1 < t348) = false := decide_eq_false c11; clear c11; simp only [Option.some.injEq, Prod.mk.injEq] at H; obtain ⟨rfl, rfl⟩ := H; go_wp2
     go_ret2
     exact ⟨_, ze, zr HO_3.out, zb HB.out, zk HK.out⟩
end Go.Proofs.Ytifgcajpkgamgaa.Q
end
section
namespace Go.Proofs.Ytifgcajpkgamgaa.Q
open Go.RowKit Go.Proofs.YtifgcajpkgamgaaW.PrintWords Go.Proofs.YtifgcajpkgamgaaW.PrintLast Go.Proofs.YtifgcajpkgamgaaW.PrintMore
attribute [local go_sem] max2_int min2_int max_two min_two max_three min_three max_four min_four   
set_option linter.unusedVariables false
set_option linter.unusedSimpArgs false
theorem slices_Equal_string_string.mono_l : ∀ k, (∀ y0 y1 y2 y3, LeO (slices_Equal_string_string.l0 k y0 y1 y2 y3) (slices_Equal_string_string.l0 (k + 1) y0 y1 y2 y3))
  | 0 => fun _ _ _ _ r h => by simp [slices_Equal_string_string.l0] at h
  | k + 1 => by
    have ih0 := slices_Equal_string_string.mono_l k
    · intro y0 y1 y2 y3
      unfold slices_Equal_string_string.l0
      repeat' first
      | (with_reducible exact ih0 _ _ _ _)
      | (with_reducible exact LeO.refl _)
      | (with_reducible exact LeO.none _)
      | (with_reducible refine LeO.ite ?_ ?_)
      | (with_reducible refine LeO.bind ?_ (fun _ => ?_))
      | exact ih0 _ _ _ _
      | exact LeO.none _
      | refine LeO.ite ?_ ?_
      | refine LeO.bind ?_ (fun _ => ?_)
theorem slices_Equal_string_string.mono : ∀ a0 a1 k, LeO (slices_Equal_string_string.f k a0 a1) (slices_Equal_string_string.f (k + 1) a0 a1) := by
  intro a0 a1 k
  have ih0 := slices_Equal_string_string.mono_l k
  unfold slices_Equal_string_string.f
  repeat' first
      | (with_reducible exact ih0 _ _ _ _)
      | (with_reducible exact LeO.refl _)
      | (with_reducible exact LeO.none _)
      | (with_reducible refine LeO.ite ?_ ?_)
      | (with_reducible refine LeO.bind ?_ (fun _ => ?_))
      | exact ih0 _ _ _ _
      | exact LeO.none _
      | refine LeO.ite ?_ ?_
      | refine LeO.bind ?_ (fun _ => ?_)
set_option maxHeartbeats 8000000 in
set_option maxRecDepth 100000 in
theorem slices_Equal_string_string.calls (k : Nat) (A0 : Option Addr) (c0 : Nat) (l0 : List ByteArray) (A1 : Option Addr) (c1 : Nat) (l1 : List ByteArray) (r : Bool) (w : World) (hr0 : Kd.C Kd.string w A0 l0.length l0) (hc0 : l0.length ≤ c0) (hr1 : Kd.C Kd.string w A1 l1.length l1) (hc1 : l1.length ≤ c1) (h : slices_Equal_string_string.f k l0 l1 = some r) :
    Calls Try.prog 138 #[.slice A0 l0.length c0, .slice A1 l1.length c1] w fun e w' => e = .returned (.bool r) ∧ Drawn0 w w' := by
 have HR0 := Aside0.mk hr0; have HC0 := Aside0.mk hc0; clear hr0 hc0; have HR1 := Aside0.mk hr1; have HC1 := Aside0.mk hc1; clear hr1 hc1; have H : (if (l0.length : Int) = (l1.length : Int) then (slices_Equal_string_string.l0 k l0 l1 (l0.length : Int) 0) else (some false)) = some r := h; clear h
 by_cases c3 : (l0.length : Int) = (l1.length : Int)
 ·rw [if_pos c3] at H; have c3b0 : ((l0.length : Int) == (l1.length : Int)) = true := beq_iff_eq.mpr c3; have c3b1 : ((l0.length : Int) != (l1.length : Int)) = false := bne_eq_false_iff_eq.mpr c3
  have c3b2 : (l0.length == l1.length) = true := by first | simpa using c3 | (simp at c3 ⊢; omega)
  clear c3; have H' := Aside0.mk H; clear H; go_enter Try.func138, Try.ntmps138; go_wp2
  repeat (go_quiet (fail); try go_wp2)
  go_loopg [13] k (fun kq v13 w' => ∃ (x13_1 : Int), v13 = .int .i64 x13_1 ∧ Aside0 (slices_Equal_string_string.l0 kq l0 l1 (l0.length : Int) x13_1 = some r) ∧ Aside0 (kq ≤ k) ∧ Drawn0 w w')
  case atStart => exact ⟨(0), zf, H', ⟨Nat.le_refl _⟩, by repeat (first | exact Drawn0.refl _ | apply Drawn0.step)⟩
  case round =>
   clear H'
   try clear c1
   try clear p2
   try clear c3
   try clear c3b0
   try clear c3b1
   try clear c3b2
   obtain ⟨x13_1, rfl, HA, HK1, ⟨m1, rfl⟩⟩ := hrel
   cases gk with
   | zero => exact absurd HA.out (by simp [slices_Equal_string_string.l0])
   | succ k1 =>
    have H := HA.out; clear HA; simp only [slices_Equal_string_string.l0] at H
    by_cases c4 : x13_1 < (l0.length : Int)
    ·rw [if_pos c4] at H; have c4b0 : decide (x13_1 < (l0.length : Int)) = true := decide_eq_true c4; clear c4; replace H := zn H; obtain ⟨c5, H⟩ := H; have c5b0 : decide (0 ≤ x13_1) = true := decide_eq_true c5; clear c5; replace H := zn H; obtain ⟨c6, H⟩ := H; have c6b0 : decide (x13_1 < (l0.length : Int)) = true := decide_eq_true c6; clear c6; replace H := zn H; obtain ⟨c7, H⟩ := H; have c7b0 : decide (x13_1 < (l1.length : Int)) = true := decide_eq_true c7; clear c7
     by_cases c8 : (rdOf ByteArray.empty l0 x13_1).toList = (rdOf ByteArray.empty l1 x13_1).toList
     ·rw [if_pos c8] at H; have c8b0 : ((rdOf ByteArray.empty l0 x13_1).toList == (rdOf ByteArray.empty l1 x13_1).toList) = true := beq_iff_eq.mpr c8; have c8b1 : ((rdOf ByteArray.empty l0 x13_1).toList != (rdOf ByteArray.empty l1 x13_1).toList) = false := bne_eq_false_iff_eq.mpr c8; clear c8; have H' := Aside0.mk H; clear H; have p362 : 0 ≤ (x13_1 : Int) := zd; have q362 : x13_1 < (l0.length : Int) := zd; obtain ⟨ad362, e362, hx362_0⟩ := Kd.at_string HR0.out x13_1 p362 q362; cases e362; replace p362 := eq_true p362; replace q362 := eq_true q362; have p363 : 0 ≤ (x13_1 : Int) := zd; have q363 : x13_1 < (l1.length : Int) := zd; obtain ⟨ad363, e363, hx363_0⟩ := Kd.at_string HR1.out x13_1 p363 q363; cases e363; replace p363 := eq_true p363; replace q363 := eq_true q363; go_wp2
      repeat (go_quiet (fail); try go_wp2)
      go_roundg k1
      case measure => have := HK1.out; omega
      case rel => exact ⟨(wrap64 (x13_1 + 1)), zf, H', ⟨by have := HK1.out; omega⟩, by repeat (first | exact Drawn0.refl _ | apply Drawn0.step)⟩
     ·rw [if_neg c8] at H; have c8b0 : ((rdOf ByteArray.empty l0 x13_1).toList == (rdOf ByteArray.empty l1 x13_1).toList) = false := beq_eq_false_iff_ne.mpr c8; have c8b1 : ((rdOf ByteArray.empty l0 x13_1).toList != (rdOf ByteArray.empty l1 x13_1).toList) = true := bne_iff_ne.mpr c8; obtain rfl := Option.some.inj H; have p362 : 0 ≤ (x13_1 : Int) := zd; have q362 : x13_1 < (l0.length : Int) := zd; obtain ⟨ad362, e362, hx362_0⟩ := Kd.at_string HR0.out x13_1 p362 q362; cases e362; replace p362 := eq_true p362; replace q362 := eq_true q362; have p363 : 0 ≤ (x13_1 : Int) := zd; have q363 : x13_1 < (l1.length : Int) := zd; obtain ⟨ad363, e363, hx363_0⟩ := Kd.at_string HR1.out x13_1 p363 q363; cases e363; replace p363 := eq_true p363; replace q363 := eq_true q363; go_wp2
      repeat (go_quiet (fail); try go_wp2)
      go_ret; exact ⟨zf, by repeat (first | exact Drawn0.refl _ | apply Drawn0.step)⟩
    ·rw [if_neg c4] at H; have c4b0 : decide (x13_1 < (l0.length : Int)) = false := decide_eq_false c4; clear c4; obtain rfl := Option.some.inj H; go_wp2
     repeat (go_quiet (fail); try go_wp2)
     go_ret; exact ⟨zf, by repeat (first | exact Drawn0.refl _ | apply Drawn0.step)⟩
 ·rw [if_neg c3] at H; have c3b0 : ((l0.length : Int) == (l1.length : Int)) = false := beq_eq_false_iff_ne.mpr c3; have c3b1 : ((l0.length : Int) != (l1.length : Int)) = true := bne_iff_ne.mpr c3
  have c3b2 : (l0.length == l1.length) = false := by first | simpa using c3 | (simp at c3 ⊢; omega)
  obtain rfl := Option.some.inj H; go_enter Try.func138, Try.ntmps138; go_wp2
  repeat (go_quiet (fail); try go_wp2)
  go_ret; exact ⟨zf, by repeat (first | exact Drawn0.refl _ | apply Drawn0.step)⟩
end Go.Proofs.Ytifgcajpkgamgaa.Q
end
section
namespace Go.Proofs.Ytifgcajpkgamgaa.Q
open Go.RowKit Go.Proofs.YtifgcajpkgamgaaW.PrintWords Go.Proofs.YtifgcajpkgamgaaW.PrintLast Go.Proofs.YtifgcajpkgamgaaW.PrintMore
attribute [local go_sem] max2_int min2_int max_two min_two max_three min_three max_four min_four   
set_option linter.unusedVariables false
set_option linter.unusedSimpArgs false
theorem impl_Sieve_same.mono : ∀ a0 a1 a2 a3 a4 a5 a6 a7 a8 a9 k, LeO (impl_Sieve_same.f k a0 a1 a2 a3 a4 a5 a6 a7 a8 a9) (impl_Sieve_same.f (k + 1) a0 a1 a2 a3 a4 a5 a6 a7 a8 a9) := by
  intro a0 a1 a2 a3 a4 a5 a6 a7 a8 a9 k
  unfold impl_Sieve_same.f
  repeat' first
      | (with_reducible exact slices_Equal_string_string.mono _ _ _)
      | (with_reducible exact LeO.refl _)
      | (with_reducible exact LeO.none _)
      | (with_reducible refine LeO.ite ?_ ?_)
      | (with_reducible refine LeO.bind ?_ (fun _ => ?_))
      | exact slices_Equal_string_string.mono _ _ _
      | exact LeO.none _
      | refine LeO.ite ?_ ?_
      | refine LeO.bind ?_ (fun _ => ?_)
set_option maxHeartbeats 8000000 in
set_option maxRecDepth 100000 in
theorem impl_Sieve_same.calls (k : Nat) (a0_0 : ByteArray) (a0_1 : ByteArray) (a0_2 : ByteArray) (A0_3 : Option Addr) (c0_3 : Nat) (l0_3 : List ByteArray) (a0_4 : Int) (a1_0 : ByteArray) (a1_1 : ByteArray) (a1_2 : ByteArray) (A1_3 : Option Addr) (c1_3 : Nat) (l1_3 : List ByteArray) (a1_4 : Int) (r : Bool) (w : World) (hr0_3 : Kd.C Kd.string w A0_3 l0_3.length l0_3) (hc0_3 : l0_3.length ≤ c0_3) (hr1_3 : Kd.C Kd.string w A1_3 l1_3.length l1_3) (hc1_3 : l1_3.length ≤ c1_3) (h : impl_Sieve_same.f k a0_0 a0_1 a0_2 l0_3 a0_4 a1_0 a1_1 a1_2 l1_3 a1_4 = some r) :
    Calls Try.prog 119 #[.agg #[.string a0_0, .string a0_1, .string a0_2, .slice A0_3 l0_3.length c0_3, .int .i64 a0_4], .agg #[.string a1_0, .string a1_1, .string a1_2, .slice A1_3 l1_3.length c1_3, .int .i64 a1_4]] w fun e w' => e = .returned (.bool r) ∧ Below w.heap.size w w' := by
 have hu25 := Try.underlying25; have HR0_3 := Aside0.mk hr0_3; have HC0_3 := Aside0.mk hc0_3; clear hr0_3 hc0_3; have HR1_3 := Aside0.mk hr1_3; have HC1_3 := Aside0.mk hc1_3; clear hr1_3 hc1_3; have HB := z0 (Below.refl w.heap.size w); have H : (if a0_0.toList = a1_0.toList then (if a0_1.toList = a1_1.toList then (if a0_2.toList = a1_2.toList then (if a0_4 = a1_4 then ((slices_Equal_string_string.f k l0_3 l1_3).bind fun t366 => (some t366)) else (some false)) else (some false)) else (some false)) else (some false)) = some r := h; clear h
 by_cases c3 : a0_0.toList = a1_0.toList
 ·rw [if_pos c3] at H; have c3b0 : (a0_0.toList == a1_0.toList) = true := beq_iff_eq.mpr c3; have c3b1 : (a0_0.toList != a1_0.toList) = false := bne_eq_false_iff_eq.mpr c3; clear c3
  by_cases c4 : a0_1.toList = a1_1.toList
  ·rw [if_pos c4] at H; have c4b0 : (a0_1.toList == a1_1.toList) = true := beq_iff_eq.mpr c4; have c4b1 : (a0_1.toList != a1_1.toList) = false := bne_eq_false_iff_eq.mpr c4; clear c4
   by_cases c5 : a0_2.toList = a1_2.toList
   ·rw [if_pos c5] at H; have c5b0 : (a0_2.toList == a1_2.toList) = true := beq_iff_eq.mpr c5; have c5b1 : (a0_2.toList != a1_2.toList) = false := bne_eq_false_iff_eq.mpr c5; clear c5
    by_cases c6 : a0_4 = a1_4
    ·rw [if_pos c6] at H; have c6b0 : (a0_4 == a1_4) = true := beq_iff_eq.mpr c6; have c6b1 : (a0_4 != a1_4) = false := bne_eq_false_iff_eq.mpr c6; clear c6; replace H := zi H; obtain ⟨t366, A7, H⟩ := H; obtain rfl := Option.some.inj H; go_enter Try.func119, Try.ntmps119
     go_wp2_with (first | ((with_reducible refine gd 2 ?_); refine box_event zh (N := 2) zh (cs := #[.string a0_0, .string a0_1, .string a0_2, .slice A0_3 l0_3.length c0_3, .int .i64 a0_4]) (t := 25) zg ?_; intro gb364 hg w8 hbox hb; have BK364 := z0 (hbox); have GE364 := zG hg HB; replace HB := zH HB hb; clear hb hbox hg) | ((with_reducible refine gd 3 ?_); refine box_event zh (N := 3) zh (cs := #[.string a1_0, .string a1_1, .string a1_2, .slice A1_3 l1_3.length c1_3, .int .i64 a1_4]) (t := 25) zg ?_; intro gb365 hg w9 hbox hb; have BK365 := z0 (hbox); have GE365 := zG hg HB; replace HB := zH HB hb; have NB364_365 := zLt hg BK364; have NB365_364 := zGt hg BK364; replace BK364 := zK BK364 hb; clear hb hbox hg; have hnb10 := NB364_365.out; have hnc10 := NB365_364.out; have hcz11 := zc5 BK364.out; have hcz12 := zc5 BK365.out) | (go_at_call 138; (with_reducible refine (slices_Equal_string_string.calls k _ _ l0_3 _ _ l1_3 t366 _ ?side1 ?side2 ?side3 ?side4 A7.out).mono ?_); (case side1 => repeat (first | exact (Kd.C_below HR0_3.out HB.out) | (with_reducible refine Kd.C_alloc ?_ _) | (with_reducible refine Kd.C_drewN ?_ _) | (with_reducible refine Kd.C_drew ?_))); (case side2 => exact HC0_3.out); (case side3 => repeat (first | exact (Kd.C_below HR1_3.out HB.out) | (with_reducible refine Kd.C_alloc ?_ _) | (with_reducible refine Kd.C_drewN ?_ _) | (with_reducible refine Kd.C_drew ?_))); (case side4 => exact HC1_3.out); rintro e w' ⟨rfl, ⟨nd, rfl⟩⟩))
     go_ret; exact ⟨ze, zb HB.out⟩
    ·rw [if_neg c6] at H; have c6b0 : (a0_4 == a1_4) = false := beq_eq_false_iff_ne.mpr c6; have c6b1 : (a0_4 != a1_4) = true := bne_iff_ne.mpr c6; obtain rfl := Option.some.inj H; go_enter Try.func119, Try.ntmps119
     go_wp2_with (first | ((with_reducible refine gd 2 ?_); refine box_event zh (N := 2) zh (cs := #[.string a0_0, .string a0_1, .string a0_2, .slice A0_3 l0_3.length c0_3, .int .i64 a0_4]) (t := 25) zg ?_; intro gb364 hg w13 hbox hb; have BK364 := z0 (hbox); have GE364 := zG hg HB; replace HB := zH HB hb; clear hb hbox hg) | ((with_reducible refine gd 3 ?_); refine box_event zh (N := 3) zh (cs := #[.string a1_0, .string a1_1, .string a1_2, .slice A1_3 l1_3.length c1_3, .int .i64 a1_4]) (t := 25) zg ?_; intro gb365 hg w14 hbox hb; have BK365 := z0 (hbox); have GE365 := zG hg HB; replace HB := zH HB hb; have NB364_365 := zLt hg BK364; have NB365_364 := zGt hg BK364; replace BK364 := zK BK364 hb; clear hb hbox hg; have hnb15 := NB364_365.out; have hnc15 := NB365_364.out; have hcz16 := zc5 BK364.out; have hcz17 := zc5 BK365.out))
     go_ret; exact ⟨ze, zb HB.out⟩
   ·rw [if_neg c5] at H; have c5b0 : (a0_2.toList == a1_2.toList) = false := beq_eq_false_iff_ne.mpr c5; have c5b1 : (a0_2.toList != a1_2.toList) = true := bne_iff_ne.mpr c5; obtain rfl := Option.some.inj H; go_enter Try.func119, Try.ntmps119
    go_wp2_with (first | ((with_reducible refine gd 2 ?_); refine box_event zh (N := 2) zh (cs := #[.string a0_0, .string a0_1, .string a0_2, .slice A0_3 l0_3.length c0_3, .int .i64 a0_4]) (t := 25) zg ?_; intro gb364 hg w18 hbox hb; have BK364 := z0 (hbox); have GE364 := zG hg HB; replace HB := zH HB hb; clear hb hbox hg) | ((with_reducible refine gd 3 ?_); refine box_event zh (N := 3) zh (cs := #[.string a1_0, .string a1_1, .string a1_2, .slice A1_3 l1_3.length c1_3, .int .i64 a1_4]) (t := 25) zg ?_; intro gb365 hg w19 hbox hb; have BK365 := z0 (hbox); have GE365 := zG hg HB; replace HB := zH HB hb; have NB364_365 := zLt hg BK364; have NB365_364 := zGt hg BK364; replace BK364 := zK BK364 hb; clear hb hbox hg; have hnb20 := NB364_365.out; have hnc20 := NB365_364.out; have hcz21 := zc5 BK364.out; have hcz22 := zc5 BK365.out))
    go_ret; exact ⟨ze, zb HB.out⟩
  ·rw [if_neg c4] at H; have c4b0 : (a0_1.toList == a1_1.toList) = false := beq_eq_false_iff_ne.mpr c4; have c4b1 : (a0_1.toList != a1_1.toList) = true := bne_iff_ne.mpr c4; obtain rfl := Option.some.inj H; go_enter Try.func119, Try.ntmps119
   go_wp2_with (first | ((with_reducible refine gd 2 ?_); refine box_event zh (N := 2) zh (cs := #[.string a0_0, .string a0_1, .string a0_2, .slice A0_3 l0_3.length c0_3, .int .i64 a0_4]) (t := 25) zg ?_; intro gb364 hg w23 hbox hb; have BK364 := z0 (hbox); have GE364 := zG hg HB; replace HB := zH HB hb; clear hb hbox hg) | ((with_reducible refine gd 3 ?_); refine box_event zh (N := 3) zh (cs := #[.string a1_0, .string a1_1, .string a1_2, .slice A1_3 l1_3.length c1_3, .int .i64 a1_4]) (t := 25) zg ?_; intro gb365 hg w24 hbox hb; have BK365 := z0 (hbox); have GE365 := zG hg HB; replace HB := zH HB hb; have NB364_365 := zLt hg BK364; have NB365_364 := zGt hg BK364; replace BK364 := zK BK364 hb; clear hb hbox hg; have hnb25 := NB364_365.out; have hnc25 := NB365_364.out; have hcz26 := zc5 BK364.out; have hcz27 := zc5 BK365.out))
   go_ret; exact ⟨ze, zb HB.out⟩
 ·rw [if_neg c3] at H; have c3b0 : (a0_0.toList == a1_0.toList) = false := beq_eq_false_iff_ne.mpr c3; have c3b1 : (a0_0.toList != a1_0.toList) = true := bne_iff_ne.mpr c3; obtain rfl := Option.some.inj H; go_enter Try.func119, Try.ntmps119
  go_wp2_with (first | ((with_reducible refine gd 2 ?_); refine box_event zh (N := 2) zh (cs := #[.string a0_0, .string a0_1, .string a0_2, .slice A0_3 l0_3.length c0_3, .int .i64 a0_4]) (t := 25) zg ?_; intro gb364 hg w28 hbox hb; have BK364 := z0 (hbox); have GE364 := zG hg HB; replace HB := zH HB hb; clear hb hbox hg) | ((with_reducible refine gd 3 ?_); refine box_event zh (N := 3) zh (cs := #[.string a1_0, .string a1_1, .string a1_2, .slice A1_3 l1_3.length c1_3, .int .i64 a1_4]) (t := 25) zg ?_; intro gb365 hg w29 hbox hb; have BK365 := z0 (hbox); have GE365 := zG hg HB; replace HB := zH HB hb; have NB364_365 := zLt hg BK364; have NB365_364 := zGt hg BK364; replace BK364 := zK BK364 hb; clear hb hbox hg; have hnb30 := NB364_365.out; have hnc30 := NB365_364.out; have hcz31 := zc5 BK364.out; have hcz32 := zc5 BK365.out))
  go_ret; exact ⟨ze, zb HB.out⟩
end Go.Proofs.Ytifgcajpkgamgaa.Q
end
section
namespace Go.Proofs.Ytifgcajpkgamgaa.Q
open Go.RowKit Go.Proofs.YtifgcajpkgamgaaW.PrintWords Go.Proofs.YtifgcajpkgamgaaW.PrintLast Go.Proofs.YtifgcajpkgamgaaW.PrintMore
attribute [local go_sem] max2_int min2_int max_two min_two max_three min_three max_four min_four   
set_option linter.unusedVariables false
set_option linter.unusedSimpArgs false
theorem impl_Sieve_heads.mono_l : ∀ k, (∀ y0 y1 y2 y3 y4 y5, LeO (impl_Sieve_heads.j0 k y0 y1 y2 y3 y4 y5) (impl_Sieve_heads.j0 (k + 1) y0 y1 y2 y3 y4 y5))
  | 0 => fun _ _ _ _ _ _ r h => by simp [impl_Sieve_heads.j0] at h
  | k + 1 => by
    have ih0 := impl_Sieve_heads.mono_l k
    · intro y0 y1 y2 y3 y4 y5
      unfold impl_Sieve_heads.j0
      repeat' first
      | (with_reducible exact ih0 _ _ _ _ _ _)
      | (with_reducible exact impl_BitsOk.mono _ _)
      | (with_reducible exact impl_SieveOf.mono _ _ _)
      | (with_reducible exact impl_Sieve_parts.mono _ _ _ _ _ _ _ _ _)
      | (with_reducible exact impl_Sieve_same.mono _ _ _ _ _ _ _ _ _ _ _)
      | (with_reducible exact impl_texts.mono _ _)
      | (with_reducible exact LeO.refl _)
      | (with_reducible exact LeO.none _)
      | (with_reducible refine LeO.ite ?_ ?_)
      | (with_reducible refine LeO.bind ?_ (fun _ => ?_))
      | exact ih0 _ _ _ _ _ _
      | exact impl_BitsOk.mono _ _
      | exact impl_SieveOf.mono _ _ _
      | exact impl_Sieve_parts.mono _ _ _ _ _ _ _ _ _
      | exact impl_Sieve_same.mono _ _ _ _ _ _ _ _ _ _ _
      | exact impl_texts.mono _ _
      | exact LeO.none _
      | refine LeO.ite ?_ ?_
      | refine LeO.bind ?_ (fun _ => ?_)
theorem impl_Sieve_heads.mono : ∀ a0 a1 a2 a3 a4 k, LeO (impl_Sieve_heads.f k a0 a1 a2 a3 a4) (impl_Sieve_heads.f (k + 1) a0 a1 a2 a3 a4) := by
  intro a0 a1 a2 a3 a4 k
  have ih0 := impl_Sieve_heads.mono_l k
  unfold impl_Sieve_heads.f
  repeat' first
      | (with_reducible exact ih0 _ _ _ _ _ _)
      | (with_reducible exact impl_BitsOk.mono _ _)
      | (with_reducible exact impl_SieveOf.mono _ _ _)
      | (with_reducible exact impl_Sieve_parts.mono _ _ _ _ _ _ _ _ _)
      | (with_reducible exact impl_Sieve_same.mono _ _ _ _ _ _ _ _ _ _ _)
      | (with_reducible exact impl_texts.mono _ _)
      | (with_reducible exact LeO.refl _)
      | (with_reducible exact LeO.none _)
      | (with_reducible refine LeO.ite ?_ ?_)
      | (with_reducible refine LeO.bind ?_ (fun _ => ?_))
      | exact ih0 _ _ _ _ _ _
      | exact impl_BitsOk.mono _ _
      | exact impl_SieveOf.mono _ _ _
      | exact impl_Sieve_parts.mono _ _ _ _ _ _ _ _ _
      | exact impl_Sieve_same.mono _ _ _ _ _ _ _ _ _ _ _
      | exact impl_texts.mono _ _
      | exact LeO.none _
      | refine LeO.ite ?_ ?_
      | refine LeO.bind ?_ (fun _ => ?_)
def impl_Sieve_heads.T2 : Bool × List (List Nat × List Nat) := (true, [([], []), ([0], [0]), ([1], [1]), ([2], [2]), ([3, 2], [3]), ([4], [4]), ([5, 4], [4, 5]), ([6, 4, 4], [4, 6]), ([7, 4], [4, 7]), ([4, 8], [4, 8]), ([9, 7], [9]), ([10], [10]), ([11, 10], [10, 11]), ([12, 10], [10, 12]), ([10], [10]), ([13, 14, 10], [10, 13, 14]), ([10, 15], [10, 15]), ([16, 10], [16]), ([17], [17]), ([18, 17], [17, 18]), ([19, 17], [17, 19]), ([17], [17]), ([20, 21, 17], [17, 20, 21]), ([17, 22], [17, 22]), ([23, 17], [23]), ([24], [24]), ([25, 24], [24, 25]), ([26, 24, 24], [24, 26]), ([27, 24], [24, 27]), ([24, 28], [24, 28]), ([29, 27], [29]), ([30], [30]), ([31, 30], [30, 31]), ([32, 30], [30, 32]), ([30], [30]), ([34, 30], [30, 34]), ([35, 30, 30], [30, 35]), ([33, 36, 30], [30, 33, 36]), ([30, 37], [30, 37])])
def impl_Sieve_heads.B2 : List Nat := [0, 1, 3, 7, 15, 31, 63, 127, 255, 511, 1023, 2047, 4095, 8191, 2047, 32767, 65535, 131071, 262143, 524287, 1048575, 262143, 4194303, 8388607, 16777215, 33554431, 67108863, 134217727, 268435455, 536870911, 1073741823, 2147483647, 4294967295, 8589934591, 2147483647, 19327352831, 53687091199, 137438953471, 274877906943]
theorem impl_Sieve_heads.tab2 : rtab .any (opsOf Try.f89 2) = impl_Sieve_heads.T2 := by kernel_rfl
theorem impl_Sieve_heads.bits2 : waitsOk impl_Sieve_heads.T2.2 impl_Sieve_heads.B2 = true := by kernel_rfl
def impl_Sieve_heads.T7 : Bool × List (List Nat × List Nat) := (true, [([], []), ([0], [0]), ([], []), ([2], [2]), ([1, 3, 1], [1, 3]), ([4], [4]), ([5], [5]), ([5], [5]), ([], []), ([8, 6, 4, 0, 1, 2, 3, 4, 5, 6, 8], [6, 8]), ([7, 9, 0, 1, 2, 3, 4, 5, 6, 7, 8, 9], [7])])
def impl_Sieve_heads.B7 : List Nat := [0, 1, 0, 4, 15, 31, 63, 63, 0, 383, 1023]
theorem impl_Sieve_heads.tab7 : rtab .any (opsOf Try.f89 7) = impl_Sieve_heads.T7 := by kernel_rfl
theorem impl_Sieve_heads.bits7 : waitsOk impl_Sieve_heads.T7.2 impl_Sieve_heads.B7 = true := by kernel_rfl
set_option maxHeartbeats 8000000 in
set_option maxRecDepth 100000 in
theorem impl_Sieve_heads.calls (k : Nat) (a0_0 : ByteArray) (a0_1 : ByteArray) (a0_2 : ByteArray) (A0_3 : Option Addr) (c0_3 : Nat) (l0_3 : List ByteArray) (a0_4 : Int) (r1 : List (S93)) (r2 : Bool) (w : World) (hr0_3 : Kd.C Kd.string w A0_3 l0_3.length l0_3) (hc0_3 : l0_3.length ≤ c0_3) (h : impl_Sieve_heads.f k a0_0 a0_1 a0_2 l0_3 a0_4 = some (r1, r2)) :
    Calls Try.prog 89 #[.agg #[.string a0_0, .string a0_1, .string a0_2, .slice A0_3 l0_3.length c0_3, .int .i64 a0_4]] w fun e w' => ∃ v0_ : Value, e = .returned (.tuple #[v0_, .bool r2]) ∧ Kd.R k93 93 w' w.heap.size (fun _ => True) v0_ r1 ∧ Below w.heap.size w w' := by
 have hu25 := Try.underlying25; have HR0_3 := Aside0.mk hr0_3; have HC0_3 := Aside0.mk hc0_3; clear hr0_3 hc0_3; have HB := z0 (Below.refl w.heap.size w); have H : ((impl_BitsOk.f k a0_1).bind fun t368 => (if t368 = true then ((impl_BitsOk.f k a0_2).bind fun t369 => (if t369 = true then (if (a0_1.size : Int) = (a0_0.size : Int) then (if (a0_2.size : Int) = (a0_0.size : Int) then ((impl_isKeep.f a0_4).bind fun t370 => (if t370 = true then ((strings_Count.f a0_1 (⟨#[48]⟩ : ByteArray)).bind fun t371 => (impl_Sieve_heads.j0 k ((l0_3.length : Int) != t371) a0_0 a0_1 a0_2 l0_3 a0_4)) else (impl_Sieve_heads.j0 k true a0_0 a0_1 a0_2 l0_3 a0_4))) else (impl_Sieve_heads.j0 k true a0_0 a0_1 a0_2 l0_3 a0_4)) else (impl_Sieve_heads.j0 k true a0_0 a0_1 a0_2 l0_3 a0_4)) else (impl_Sieve_heads.j0 k true a0_0 a0_1 a0_2 l0_3 a0_4))) else (impl_Sieve_heads.j0 k true a0_0 a0_1 a0_2 l0_3 a0_4))) = some (r1, r2) := h; clear h; have HC2 := Aside0.mk H; clear H; go_enter Try.func89, Try.ntmps89
 go_upto_region 2 with (first | ((with_reducible refine gd 1 ?_); (try (refine gate_guard (by rfl) ?_; dsimp only)); refine box_event zh (N := 1) zh (cs := #[.string a0_0, .string a0_1, .string a0_2, .slice A0_3 l0_3.length c0_3, .int .i64 a0_4]) (t := 25) zg ?_; intro gb367 hg w3 hbox hb; have BK367 := z0 (hbox); have GE367 := zG hg HB; replace HB := zH HB hb; clear hb hbox hg; have hcz4 := zc5 BK367.out))
 (try simp only [Act.put, List.setIfInBounds_toArray, List.set_cons_zero, List.set_cons_succ])
 go_cut [49] (fun v49 wc => ∃ (kq : Nat) (x49_1 : Bool), v49 = .bool x49_1 ∧ Aside0 (impl_Sieve_heads.j0 kq x49_1 a0_0 a0_1 a0_2 l0_3 a0_4 = some (r1, r2)) ∧ Aside0 (kq ≤ k) ∧ Aside0 (wc.heap[gb367]? = some (.cells #[.string a0_0, .string a0_1, .string a0_2, (.slice A0_3 l0_3.length c0_3), .int .i64 a0_4] 25 (0, 0))) ∧ Aside0 (Below w.heap.size w wc))
 case first =>
  have H := HC2.out; clear HC2; replace H := zi H; obtain ⟨t368, A5, H⟩ := H
  by_cases c6 : t368 = true
  ·subst c6
   have H1 : ((impl_BitsOk.f k a0_2).bind fun t369 => (if t369 = true then (if (a0_1.size : Int) = (a0_0.size : Int) then (if (a0_2.size : Int) = (a0_0.size : Int) then ((impl_isKeep.f a0_4).bind fun t370 => (if t370 = true then ((strings_Count.f a0_1 (⟨#[48]⟩ : ByteArray)).bind fun t371 => (impl_Sieve_heads.j0 k ((l0_3.length : Int) != t371) a0_0 a0_1 a0_2 l0_3 a0_4)) else (impl_Sieve_heads.j0 k true a0_0 a0_1 a0_2 l0_3 a0_4))) else (impl_Sieve_heads.j0 k true a0_0 a0_1 a0_2 l0_3 a0_4)) else (impl_Sieve_heads.j0 k true a0_0 a0_1 a0_2 l0_3 a0_4)) else (impl_Sieve_heads.j0 k true a0_0 a0_1 a0_2 l0_3 a0_4))) = some (r1, r2) := by rw [if_pos rfl] at H; exact H
   clear H; have H := H1; clear H1; replace H := zi H; obtain ⟨t369, A7, H⟩ := H
   by_cases c8 : t369 = true
   ·subst c8
    have H1 : (if (a0_1.size : Int) = (a0_0.size : Int) then (if (a0_2.size : Int) = (a0_0.size : Int) then ((impl_isKeep.f a0_4).bind fun t370 => (if t370 = true then ((strings_Count.f a0_1 (⟨#[48]⟩ : ByteArray)).bind fun t371 => (impl_Sieve_heads.j0 k ((l0_3.length : Int) != t371) a0_0 a0_1 a0_2 l0_3 a0_4)) else (impl_Sieve_heads.j0 k true a0_0 a0_1 a0_2 l0_3 a0_4))) else (impl_Sieve_heads.j0 k true a0_0 a0_1 a0_2 l0_3 a0_4)) else (impl_Sieve_heads.j0 k true a0_0 a0_1 a0_2 l0_3 a0_4)) = some (r1, r2) := by rw [if_pos rfl] at H; exact H
    clear H; have H := H1; clear H1
    by_cases c9 : (a0_1.size : Int) = (a0_0.size : Int)
    ·rw [if_pos c9] at H; have c9b0 : ((a0_1.size : Int) == (a0_0.size : Int)) = true := beq_iff_eq.mpr c9; have c9b1 : ((a0_1.size : Int) != (a0_0.size : Int)) = false := bne_eq_false_iff_eq.mpr c9
     have c9b2 : (a0_1.size == a0_0.size) = true := by first | simpa using c9 | (simp at c9 ⊢; omega)
     clear c9; (first | rw [c9b0] | (simp only [i64_w, i32_w]; rw [c9b0]) | simp only [*, Bool.not_true, Bool.not_false] | skip)
     by_cases c10 : (a0_2.size : Int) = (a0_0.size : Int)
     ·rw [if_pos c10] at H; have c10b0 : ((a0_2.size : Int) == (a0_0.size : Int)) = true := beq_iff_eq.mpr c10; have c10b1 : ((a0_2.size : Int) != (a0_0.size : Int)) = false := bne_eq_false_iff_eq.mpr c10
      have c10b2 : (a0_2.size == a0_0.size) = true := by first | simpa using c10 | (simp at c10 ⊢; omega)
      clear c10; replace H := zi H; obtain ⟨t370, A11, H⟩ := H
      by_cases c12 : t370 = true
      ·subst c12
       have H1 : ((strings_Count.f a0_1 (⟨#[48]⟩ : ByteArray)).bind fun t371 => (impl_Sieve_heads.j0 k ((l0_3.length : Int) != t371) a0_0 a0_1 a0_2 l0_3 a0_4)) = some (r1, r2) := by rw [if_pos rfl] at H; exact H
       clear H; have H := H1; clear H1; replace H := zi H; obtain ⟨t371, A13, H⟩ := H; have H' := Aside0.mk H; clear H
       try go_wp2
       replace BK367 := z0 (blk_drew BK367.out); replace HB := z0 (below_drew1 HB.out); refine start_ (n := 39) (S := fun w' => w'.cell? ⟨gb367, 0, none⟩ = some (.string a0_0) ∧ w'.cell? ⟨gb367, 1, none⟩ = some (.string a0_1) ∧ w'.cell? ⟨gb367, 2, none⟩ = some (.string a0_2) ∧ w'.cell? ⟨gb367, 3, none⟩ = some (.slice A0_3 l0_3.length c0_3) ∧ w'.cell? ⟨gb367, 4, none⟩ = some (.int .i64 a0_4)) (ds := []) (fb 39 0) (by kernel_rfl) rfl rfl (zb5 BK367.out) (fun hHeld => ?_); refine with_tabW impl_Sieve_heads.tab2 impl_Sieve_heads.bits2 (fun HT_ HW_ => ?_); generalize w3.drew = w14 at BK367 HB hHeld ⊢; refine zu 0 1 ?_; refine zx 1 3 hHeld ?_; refine zone 2 7 (fun K hK => ?_); refine zG2 Try.func98 #[.string a0_1] ?_
       with_reducible refine (impl_BitsOk.calls k a0_1 true _ A5.out).mono ?_
       rintro e w' ⟨rfl, ⟨nd, rfl⟩⟩; refine ⟨_, rfl, ?_⟩; refine hK.out _ _ (zb5 BK367.out) (fun hHeld => ?_); clear hK K; refine znm ?_; refine zu 3 15 ?_; refine zu 4 31 ?_; refine zu 5 63 ?_; refine zx 6 127 hHeld ?_; refine zone 7 255 (fun K hK => ?_); refine zG2 Try.func98 #[.string a0_2] ?_
       with_reducible refine (impl_BitsOk.calls k a0_2 true _ A7.out).mono ?_
       rintro e w' ⟨rfl, ⟨nd, rfl⟩⟩; refine ⟨_, rfl, ?_⟩; refine hK.out _ _ (zb5 BK367.out) (fun hHeld => ?_); clear hK K; refine znm ?_; refine zu 8 511 ?_; refine zu 9 1023 ?_; refine zu 10 2047 ?_; refine zu 11 4095 ?_; refine zu 14 20479 ?_; refine zx 12 24575 hHeld ?_; refine zu 13 32767 ?_; refine zu 15 65535 ?_; refine zu 16 131071 ?_; refine zu 17 262143 ?_; refine zu 18 524287 ?_; refine zu 21 2621439 ?_; refine zx 19 3145727 hHeld ?_; refine zu 20 4194303 ?_; refine zu 22 8388607 ?_; refine zu 23 16777215 ?_; refine zu 24 33554431 ?_; refine zu 25 67108863 ?_; refine zx 26 134217727 hHeld ?_; refine zone 27 268435455 (fun K hK => ?_); refine zG2 Try.func74 #[.int .i64 a0_4] ?_
       with_reducible refine (impl_isKeep.calls a0_4 true _ A11.out).mono ?_
       rintro e w' ⟨rfl, ⟨nd, rfl⟩⟩; refine ⟨_, rfl, ?_⟩; refine hK.out _ _ (zb5 BK367.out) (fun hHeld => ?_); clear hK K; refine znm ?_; refine zu 28 536870911 ?_; refine zu 29 1073741823 ?_; refine zu 30 2147483647 ?_; refine zu 31 4294967295 ?_; refine zu 34 21474836479 ?_; refine zx 32 25769803775 hHeld ?_; refine zu 33 34359738367 ?_; refine zx 35 68719476735 hHeld ?_; refine zone 36 137438953471 (fun K hK => ?_); refine zG2 Try.func100 #[.string a0_1, .string (⟨#[48]⟩ : ByteArray)] ?_
       with_reducible refine (strings_Count.calls a0_1 (⟨#[48]⟩ : ByteArray) t371 _ A13.out).mono ?_
       rintro e w' ⟨rfl, ⟨nd, rfl⟩⟩; refine ⟨_, rfl, ?_⟩; refine hK.out _ _ (zb5 BK367.out) (fun hHeld => ?_); clear hK K; refine znm ?_; refine zu 37 274877906943 ?_; refine zu 38 549755813887 ?_; refine done_ (done_of HT_.out (by kernel_rfl)) ?_
       try go_wp2
       go_meet
       case rel => exact ⟨_, (((l0_3.length : Int) != t371)), zf, H', ⟨by first | omega | exact Nat.le_refl _⟩, ⟨zl BK367.out⟩, ⟨zb HB.out⟩⟩
      ·replace c12 := Bool.eq_false_iff.mpr c12; subst c12
       have H1 : (impl_Sieve_heads.j0 k true a0_0 a0_1 a0_2 l0_3 a0_4) = some (r1, r2) := by rw [if_neg (show ¬ (false = true) by decide)] at H; exact H
       clear H; have H := H1; clear H1; have H' := Aside0.mk H; clear H
       try go_wp2
       replace BK367 := z0 (blk_drew BK367.out); replace HB := z0 (below_drew1 HB.out); refine start_ (n := 39) (S := fun w' => w'.cell? ⟨gb367, 0, none⟩ = some (.string a0_0) ∧ w'.cell? ⟨gb367, 1, none⟩ = some (.string a0_1) ∧ w'.cell? ⟨gb367, 2, none⟩ = some (.string a0_2) ∧ w'.cell? ⟨gb367, 3, none⟩ = some (.slice A0_3 l0_3.length c0_3) ∧ w'.cell? ⟨gb367, 4, none⟩ = some (.int .i64 a0_4)) (ds := []) (fb 39 0) (by kernel_rfl) rfl rfl (zb5 BK367.out) (fun hHeld => ?_); refine with_tabW impl_Sieve_heads.tab2 impl_Sieve_heads.bits2 (fun HT_ HW_ => ?_); generalize w3.drew = w15 at BK367 HB hHeld ⊢; refine zu 0 1 ?_; refine zx 1 3 hHeld ?_; refine zone 2 7 (fun K hK => ?_); refine zG2 Try.func98 #[.string a0_1] ?_
       with_reducible refine (impl_BitsOk.calls k a0_1 true _ A5.out).mono ?_
       rintro e w' ⟨rfl, ⟨nd, rfl⟩⟩; refine ⟨_, rfl, ?_⟩; refine hK.out _ _ (zb5 BK367.out) (fun hHeld => ?_); clear hK K; refine znm ?_; refine zu 3 15 ?_; refine zu 4 31 ?_; refine zu 5 63 ?_; refine zx 6 127 hHeld ?_; refine zone 7 255 (fun K hK => ?_); refine zG2 Try.func98 #[.string a0_2] ?_
       with_reducible refine (impl_BitsOk.calls k a0_2 true _ A7.out).mono ?_
       rintro e w' ⟨rfl, ⟨nd, rfl⟩⟩; refine ⟨_, rfl, ?_⟩; refine hK.out _ _ (zb5 BK367.out) (fun hHeld => ?_); clear hK K; refine znm ?_; refine zu 8 511 ?_; refine zu 9 1023 ?_; refine zu 10 2047 ?_; refine zu 11 4095 ?_; refine zu 14 20479 ?_; refine zx 12 24575 hHeld ?_; refine zu 13 32767 ?_; refine zu 15 65535 ?_; refine zu 16 131071 ?_; refine zu 17 262143 ?_; refine zu 18 524287 ?_; refine zu 21 2621439 ?_; refine zx 19 3145727 hHeld ?_; refine zu 20 4194303 ?_; refine zu 22 8388607 ?_; refine zu 23 16777215 ?_; refine zu 24 33554431 ?_; refine zu 25 67108863 ?_; refine zx 26 134217727 hHeld ?_; refine zone 27 268435455 (fun K hK => ?_); refine zG2 Try.func74 #[.int .i64 a0_4] ?_
       with_reducible refine (impl_isKeep.calls a0_4 false _ A11.out).mono ?_
       rintro e w' ⟨rfl, ⟨nd, rfl⟩⟩; refine ⟨_, rfl, ?_⟩; refine hK.out _ _ (zb5 BK367.out) (fun hHeld => ?_); clear hK K; refine znm ?_; refine zu 28 536870911 ?_; refine zu 29 1073741823 ?_; refine zu 30 2147483647 ?_; refine zw 31 4294967295 ?_; refine zw 32 8589934591 ?_; refine zw 33 17179869183 ?_; refine zw 34 34359738367 ?_; refine zw 35 68719476735 ?_; refine zw 36 137438953471 ?_; refine zw 37 274877906943 ?_; refine zu 38 549755813887 ?_; refine done_ (done_of HT_.out (by kernel_rfl)) ?_
       try go_wp2
       go_meet
       case rel => exact ⟨_, (true), zf, H', ⟨by first | omega | exact Nat.le_refl _⟩, ⟨zl BK367.out⟩, ⟨zb HB.out⟩⟩
     ·rw [if_neg c10] at H; have c10b0 : ((a0_2.size : Int) == (a0_0.size : Int)) = false := beq_eq_false_iff_ne.mpr c10; have c10b1 : ((a0_2.size : Int) != (a0_0.size : Int)) = true := bne_iff_ne.mpr c10
      have c10b2 : (a0_2.size == a0_0.size) = false := by first | simpa using c10 | (simp at c10 ⊢; omega)
      have H' := Aside0.mk H; clear H
      try go_wp2
      replace BK367 := z0 (blk_drew BK367.out); replace HB := z0 (below_drew1 HB.out); refine start_ (n := 39) (S := fun w' => w'.cell? ⟨gb367, 0, none⟩ = some (.string a0_0) ∧ w'.cell? ⟨gb367, 1, none⟩ = some (.string a0_1) ∧ w'.cell? ⟨gb367, 2, none⟩ = some (.string a0_2) ∧ w'.cell? ⟨gb367, 3, none⟩ = some (.slice A0_3 l0_3.length c0_3) ∧ w'.cell? ⟨gb367, 4, none⟩ = some (.int .i64 a0_4)) (ds := []) (fb 39 0) (by kernel_rfl) rfl rfl (zb5 BK367.out) (fun hHeld => ?_); refine with_tabW impl_Sieve_heads.tab2 impl_Sieve_heads.bits2 (fun HT_ HW_ => ?_); generalize w3.drew = w16 at BK367 HB hHeld ⊢; refine zu 0 1 ?_; refine zx 1 3 hHeld ?_; refine zone 2 7 (fun K hK => ?_); refine zG2 Try.func98 #[.string a0_1] ?_
      with_reducible refine (impl_BitsOk.calls k a0_1 true _ A5.out).mono ?_
      rintro e w' ⟨rfl, ⟨nd, rfl⟩⟩; refine ⟨_, rfl, ?_⟩; refine hK.out _ _ (zb5 BK367.out) (fun hHeld => ?_); clear hK K; refine znm ?_; refine zu 3 15 ?_; refine zu 4 31 ?_; refine zu 5 63 ?_; refine zx 6 127 hHeld ?_; refine zone 7 255 (fun K hK => ?_); refine zG2 Try.func98 #[.string a0_2] ?_
      with_reducible refine (impl_BitsOk.calls k a0_2 true _ A7.out).mono ?_
      rintro e w' ⟨rfl, ⟨nd, rfl⟩⟩; refine ⟨_, rfl, ?_⟩; refine hK.out _ _ (zb5 BK367.out) (fun hHeld => ?_); clear hK K; refine znm ?_; refine zu 8 511 ?_; refine zu 9 1023 ?_; refine zu 10 2047 ?_; refine zu 11 4095 ?_; refine zu 14 20479 ?_; refine zx 12 24575 hHeld ?_; refine zu 13 32767 ?_; refine zu 15 65535 ?_; refine zu 16 131071 ?_; refine zu 17 262143 ?_; refine zu 18 524287 ?_; refine zu 21 2621439 ?_; refine zx 19 3145727 hHeld ?_; refine zu 20 4194303 ?_; refine zu 22 8388607 ?_; refine zu 23 16777215 ?_; refine zu 24 33554431 ?_; refine zw 25 67108863 ?_; refine zw 26 134217727 ?_; refine zw 27 268435455 ?_; refine zw 28 536870911 ?_; refine zu 29 1073741823 ?_; refine zu 30 2147483647 ?_; refine zw 31 4294967295 ?_; refine zw 32 8589934591 ?_; refine zw 33 17179869183 ?_; refine zw 34 34359738367 ?_; refine zw 35 68719476735 ?_; refine zw 36 137438953471 ?_; refine zw 37 274877906943 ?_; refine zu 38 549755813887 ?_; refine done_ (done_of HT_.out (by kernel_rfl)) ?_
      try go_wp2
      go_meet
      case rel => exact ⟨_, (true), zf, H', ⟨by first | omega | exact Nat.le_refl _⟩, ⟨zl BK367.out⟩, ⟨zb HB.out⟩⟩
    ·rw [if_neg c9] at H; have c9b0 : ((a0_1.size : Int) == (a0_0.size : Int)) = false := beq_eq_false_iff_ne.mpr c9; have c9b1 : ((a0_1.size : Int) != (a0_0.size : Int)) = true := bne_iff_ne.mpr c9
     have c9b2 : (a0_1.size == a0_0.size) = false := by first | simpa using c9 | (simp at c9 ⊢; omega)
     (first | rw [c9b0] | (simp only [i64_w, i32_w]; rw [c9b0]) | simp only [*, Bool.not_true, Bool.not_false] | skip); have H' := Aside0.mk H; clear H
     try go_wp2
     replace BK367 := z0 (blk_drew BK367.out); replace HB := z0 (below_drew1 HB.out); refine start_ (n := 39) (S := fun w' => w'.cell? ⟨gb367, 0, none⟩ = some (.string a0_0) ∧ w'.cell? ⟨gb367, 1, none⟩ = some (.string a0_1) ∧ w'.cell? ⟨gb367, 2, none⟩ = some (.string a0_2) ∧ w'.cell? ⟨gb367, 3, none⟩ = some (.slice A0_3 l0_3.length c0_3) ∧ w'.cell? ⟨gb367, 4, none⟩ = some (.int .i64 a0_4)) (ds := []) (fb 39 0) (by kernel_rfl) rfl rfl (zb5 BK367.out) (fun hHeld => ?_); refine with_tabW impl_Sieve_heads.tab2 impl_Sieve_heads.bits2 (fun HT_ HW_ => ?_); generalize w3.drew = w17 at BK367 HB hHeld ⊢; refine zu 0 1 ?_; refine zx 1 3 hHeld ?_; refine zone 2 7 (fun K hK => ?_); refine zG2 Try.func98 #[.string a0_1] ?_
     with_reducible refine (impl_BitsOk.calls k a0_1 true _ A5.out).mono ?_
     rintro e w' ⟨rfl, ⟨nd, rfl⟩⟩; refine ⟨_, rfl, ?_⟩; refine hK.out _ _ (zb5 BK367.out) (fun hHeld => ?_); clear hK K; refine znm ?_; refine zu 3 15 ?_; refine zu 4 31 ?_; refine zu 5 63 ?_; refine zx 6 127 hHeld ?_; refine zone 7 255 (fun K hK => ?_); refine zG2 Try.func98 #[.string a0_2] ?_
     with_reducible refine (impl_BitsOk.calls k a0_2 true _ A7.out).mono ?_
     rintro e w' ⟨rfl, ⟨nd, rfl⟩⟩; refine ⟨_, rfl, ?_⟩; refine hK.out _ _ (zb5 BK367.out) (fun hHeld => ?_); clear hK K; refine znm ?_; refine zu 8 511 ?_; refine zu 9 1023 ?_; refine zu 10 2047 ?_; refine zu 11 4095 ?_; refine zu 14 20479 ?_; refine zx 12 24575 hHeld ?_; refine zu 13 32767 ?_; refine zu 15 65535 ?_; refine zu 16 131071 ?_; refine zu 17 262143 ?_; refine zw 18 524287 ?_; refine zw 19 1048575 ?_; refine zw 20 2097151 ?_; refine zw 21 4194303 ?_; refine zw 22 8388607 ?_; refine zu 23 16777215 ?_; refine zu 24 33554431 ?_; refine zw 25 67108863 ?_; refine zw 26 134217727 ?_; refine zw 27 268435455 ?_; refine zw 28 536870911 ?_; refine zu 29 1073741823 ?_; refine zu 30 2147483647 ?_; refine zw 31 4294967295 ?_; refine zw 32 8589934591 ?_; refine zw 33 17179869183 ?_; refine zw 34 34359738367 ?_; refine zw 35 68719476735 ?_; refine zw 36 137438953471 ?_; refine zw 37 274877906943 ?_; refine zu 38 549755813887 ?_; refine done_ (done_of HT_.out (by kernel_rfl)) ?_
     try go_wp2
     go_meet
     case rel => exact ⟨_, (true), zf, H', ⟨by first | omega | exact Nat.le_refl _⟩, ⟨zl BK367.out⟩, ⟨zb HB.out⟩⟩
   ·replace c8 := Bool.eq_false_iff.mpr c8; subst c8
    have H1 : (impl_Sieve_heads.j0 k true a0_0 a0_1 a0_2 l0_3 a0_4) = some (r1, r2) := by rw [if_neg (show ¬ (false = true) by decide)] at H; exact H
    clear H; have H := H1; clear H1; have H' := Aside0.mk H; clear H
    try go_wp2
    replace BK367 := z0 (blk_drew BK367.out); replace HB := z0 (below_drew1 HB.out); refine start_ (n := 39) (S := fun w' => w'.cell? ⟨gb367, 0, none⟩ = some (.string a0_0) ∧ w'.cell? ⟨gb367, 1, none⟩ = some (.string a0_1) ∧ w'.cell? ⟨gb367, 2, none⟩ = some (.string a0_2) ∧ w'.cell? ⟨gb367, 3, none⟩ = some (.slice A0_3 l0_3.length c0_3) ∧ w'.cell? ⟨gb367, 4, none⟩ = some (.int .i64 a0_4)) (ds := []) (fb 39 0) (by kernel_rfl) rfl rfl (zb5 BK367.out) (fun hHeld => ?_); refine with_tabW impl_Sieve_heads.tab2 impl_Sieve_heads.bits2 (fun HT_ HW_ => ?_); generalize w3.drew = w18 at BK367 HB hHeld ⊢; refine zu 0 1 ?_; refine zx 1 3 hHeld ?_; refine zone 2 7 (fun K hK => ?_); refine zG2 Try.func98 #[.string a0_1] ?_
    with_reducible refine (impl_BitsOk.calls k a0_1 true _ A5.out).mono ?_
    rintro e w' ⟨rfl, ⟨nd, rfl⟩⟩; refine ⟨_, rfl, ?_⟩; refine hK.out _ _ (zb5 BK367.out) (fun hHeld => ?_); clear hK K; refine znm ?_; refine zu 3 15 ?_; refine zu 4 31 ?_; refine zu 5 63 ?_; refine zx 6 127 hHeld ?_; refine zone 7 255 (fun K hK => ?_); refine zG2 Try.func98 #[.string a0_2] ?_
    with_reducible refine (impl_BitsOk.calls k a0_2 false _ A7.out).mono ?_
    rintro e w' ⟨rfl, ⟨nd, rfl⟩⟩; refine ⟨_, rfl, ?_⟩; refine hK.out _ _ (zb5 BK367.out) (fun hHeld => ?_); clear hK K; refine znm ?_; refine zu 8 511 ?_; refine zu 9 1023 ?_; refine zu 10 2047 ?_; refine zw 11 4095 ?_; refine zw 12 8191 ?_; refine zw 13 16383 ?_; refine zw 14 32767 ?_; refine zw 15 65535 ?_; refine zu 16 131071 ?_; refine zu 17 262143 ?_; refine zw 18 524287 ?_; refine zw 19 1048575 ?_; refine zw 20 2097151 ?_; refine zw 21 4194303 ?_; refine zw 22 8388607 ?_; refine zu 23 16777215 ?_; refine zu 24 33554431 ?_; refine zw 25 67108863 ?_; refine zw 26 134217727 ?_; refine zw 27 268435455 ?_; refine zw 28 536870911 ?_; refine zu 29 1073741823 ?_; refine zu 30 2147483647 ?_; refine zw 31 4294967295 ?_; refine zw 32 8589934591 ?_; refine zw 33 17179869183 ?_; refine zw 34 34359738367 ?_; refine zw 35 68719476735 ?_; refine zw 36 137438953471 ?_; refine zw 37 274877906943 ?_; refine zu 38 549755813887 ?_; refine done_ (done_of HT_.out (by kernel_rfl)) ?_
    try go_wp2
    go_meet
    case rel => exact ⟨_, (true), zf, H', ⟨by first | omega | exact Nat.le_refl _⟩, ⟨zl BK367.out⟩, ⟨zb HB.out⟩⟩
  ·replace c6 := Bool.eq_false_iff.mpr c6; subst c6
   have H1 : (impl_Sieve_heads.j0 k true a0_0 a0_1 a0_2 l0_3 a0_4) = some (r1, r2) := by rw [if_neg (show ¬ (false = true) by decide)] at H; exact H
   clear H; have H := H1; clear H1; have H' := Aside0.mk H; clear H
   try go_wp2
   replace BK367 := z0 (blk_drew BK367.out); replace HB := z0 (below_drew1 HB.out); refine start_ (n := 39) (S := fun w' => w'.cell? ⟨gb367, 0, none⟩ = some (.string a0_0) ∧ w'.cell? ⟨gb367, 1, none⟩ = some (.string a0_1) ∧ w'.cell? ⟨gb367, 2, none⟩ = some (.string a0_2) ∧ w'.cell? ⟨gb367, 3, none⟩ = some (.slice A0_3 l0_3.length c0_3) ∧ w'.cell? ⟨gb367, 4, none⟩ = some (.int .i64 a0_4)) (ds := []) (fb 39 0) (by kernel_rfl) rfl rfl (zb5 BK367.out) (fun hHeld => ?_); refine with_tabW impl_Sieve_heads.tab2 impl_Sieve_heads.bits2 (fun HT_ HW_ => ?_); generalize w3.drew = w19 at BK367 HB hHeld ⊢; refine zu 0 1 ?_; refine zx 1 3 hHeld ?_; refine zone 2 7 (fun K hK => ?_); refine zG2 Try.func98 #[.string a0_1] ?_
   with_reducible refine (impl_BitsOk.calls k a0_1 false _ A5.out).mono ?_
   rintro e w' ⟨rfl, ⟨nd, rfl⟩⟩; refine ⟨_, rfl, ?_⟩; refine hK.out _ _ (zb5 BK367.out) (fun hHeld => ?_); clear hK K; refine znm ?_; refine zu 3 15 ?_; refine zu 4 31 ?_; refine zw 5 63 ?_; refine zw 6 127 ?_; refine zw 7 255 ?_; refine zw 8 511 ?_; refine zu 9 1023 ?_; refine zu 10 2047 ?_; refine zw 11 4095 ?_; refine zw 12 8191 ?_; refine zw 13 16383 ?_; refine zw 14 32767 ?_; refine zw 15 65535 ?_; refine zu 16 131071 ?_; refine zu 17 262143 ?_; refine zw 18 524287 ?_; refine zw 19 1048575 ?_; refine zw 20 2097151 ?_; refine zw 21 4194303 ?_; refine zw 22 8388607 ?_; refine zu 23 16777215 ?_; refine zu 24 33554431 ?_; refine zw 25 67108863 ?_; refine zw 26 134217727 ?_; refine zw 27 268435455 ?_; refine zw 28 536870911 ?_; refine zu 29 1073741823 ?_; refine zu 30 2147483647 ?_; refine zw 31 4294967295 ?_; refine zw 32 8589934591 ?_; refine zw 33 17179869183 ?_; refine zw 34 34359738367 ?_; refine zw 35 68719476735 ?_; refine zw 36 137438953471 ?_; refine zw 37 274877906943 ?_; refine zu 38 549755813887 ?_; refine done_ (done_of HT_.out (by kernel_rfl)) ?_
   try go_wp2
   go_meet
   case rel => exact ⟨_, (true), zf, H', ⟨by first | omega | exact Nat.le_refl _⟩, ⟨zl BK367.out⟩, ⟨zb HB.out⟩⟩
 case rest =>
  clear HC2
  try clear p2
  try clear c6
  try clear c8
  try clear c9
  obtain ⟨kq, x49_1, rfl, HA, HJ1, BK367, HB⟩ := hcut
  cases kq with
  | zero => exact absurd HA.out (by simp [impl_Sieve_heads.j0])
  | succ kj1 =>
   have H := HA.out; clear HA; simp only [impl_Sieve_heads.j0] at H
   by_cases c20 : x49_1 = true
   ·subst c20
    have H1 : (some (([] : List (S93)), false)) = some (r1, r2) := by rw [if_pos rfl] at H; exact H
    clear H; have H := H1; clear H1; simp only [Option.some.injEq, Prod.mk.injEq] at H; obtain ⟨rfl, rfl⟩ := H; go_wp2
    go_ret2
    exact ⟨_, ze, by first | exact Kd.R_nil _ _ _ _ _ | exact Kd.N_nil _ _ _ _ _ | exact Kd.V_nil _ _ _ _ _ | exact Kd.Q_nil _ _ _ _ _ | exact Kd.S_nil _ _ _ _ _, zb HB.out⟩
   ·replace c20 := Bool.eq_false_iff.mpr c20; subst c20
    have H1 : ((impl_Sieve_parts.f kj1 a0_0 a0_1 a0_2 l0_3 a0_4 0 (⟨#[]⟩ : ByteArray) ([] : List (S93))).bind fun bt372 => (if bt372.2 = true then ((impl_texts.f kj1 bt372.1).bind fun t376 => ((impl_SieveOf.f kj1 t376 a0_4).bind fun bt379 => (if bt379.2.2.2.2.2 = true then ((impl_Sieve_same.f kj1 bt379.1 bt379.2.1 bt379.2.2.1 bt379.2.2.2.1 bt379.2.2.2.2.1 a0_0 a0_1 a0_2 l0_3 a0_4).bind fun t388 => (if t388 = true then (some (bt372.1, true)) else (some (([] : List (S93)), false)))) else (some (([] : List (S93)), false))))) else (some (([] : List (S93)), false)))) = some (r1, r2) := by rw [if_neg (show ¬ (false = true) by decide)] at H; exact H
    clear H; have H := H1; clear H1; replace H := zi H; obtain ⟨⟨t372, t375⟩, A21, H⟩ := H; (try dsimp only at H)
    by_cases c22 : t375 = true
    ·subst c22
     have H1 : ((impl_texts.f kj1 t372).bind fun t376 => ((impl_SieveOf.f kj1 t376 a0_4).bind fun bt379 => (if bt379.2.2.2.2.2 = true then ((impl_Sieve_same.f kj1 bt379.1 bt379.2.1 bt379.2.2.1 bt379.2.2.2.1 bt379.2.2.2.2.1 a0_0 a0_1 a0_2 l0_3 a0_4).bind fun t388 => (if t388 = true then (some (t372, true)) else (some (([] : List (S93)), false)))) else (some (([] : List (S93)), false))))) = some (r1, r2) := by rw [if_pos rfl] at H; exact H
     clear H; have H := H1; clear H1; replace H := zi H; obtain ⟨t376, A23, H⟩ := H; replace H := zi H; obtain ⟨⟨t379, t380, t381, t382, t385, t386⟩, A24, H⟩ := H; (try dsimp only at H)
     by_cases c25 : t386 = true
     ·subst c25
      have H1 : ((impl_Sieve_same.f kj1 t379 t380 t381 t382 t385 a0_0 a0_1 a0_2 l0_3 a0_4).bind fun t388 => (if t388 = true then (some (t372, true)) else (some (([] : List (S93)), false)))) = some (r1, r2) := by rw [if_pos rfl] at H; exact H
      clear H; have H := H1; clear H1; replace H := zi H; obtain ⟨t388, A26, H⟩ := H
      by_cases c27 : t388 = true
      ·subst c27
       have H1 : (some (t372, true)) = some (r1, r2) := by rw [if_pos rfl] at H; exact H
       clear H; have H := H1; clear H1; simp only [Option.some.injEq, Prod.mk.injEq] at H; obtain ⟨rfl, rfl⟩ := H; have hcz28 := zc5 BK367.out
       try go_wp2_with (first | ((with_reducible refine gc 118 ?_); refine zL (some 52) Try.func118 #[.agg #[.string a0_0, .string a0_1, .string a0_2, .slice A0_3 l0_3.length c0_3, .int .i64 a0_4], .int .i64 0, .string (⟨#[]⟩ : ByteArray), .slice none 0 0] ?_; (refine (impl_Sieve_parts.calls kj1 a0_0 a0_1 a0_2 _ _ l0_3 a0_4 0 (⟨#[]⟩ : ByteArray) (fun k_ => some k_ = (.slice none 0 0 : Value).ownBlock) (.slice none 0 0) ([] : List (S93)) t372 true w _ ?side1 ?side2 ?side3 ?side4 A21.out).mono ?_); (case side1 => repeat (first | (with_reducible first | exact HB.out | apply below_alloc | apply pw_below_drewN | apply below_drew1 | refine below_set ?_ GE367.out) | exact HB.out)); (case side2 => exact Kd.C_kept_came Kd.heap_string HR0_3.out (zb HB.out) (fun k_ hs_ => (fun e_ => by simp [Value.ownBlock] at e_) hs_)); (case side3 => exact HC0_3.out); (case side4 => exact Kd.R_nil _ _ _ _ _); rintro e w29 ⟨v373, rfl, ho0, hb, hkp⟩; refine ⟨_, rfl, ?_⟩; replace BK367 := z0 (blk_kept (zl BK367.out) hkp (fun hs_ => (fun e_ => by simp [Value.ownBlock] at e_) hs_)); have HO374 := z0 (Kd.R_mono (ok' := fun k_ => True) ho0 (fun k_ hk_ => trivial)); replace HB := z0 (hb); (try clear hb); (try clear hkp); (try clear ho0); obtain ⟨Ao30, co30, eo30⟩ := Kd.R_slice HO374.out; subst eo30))
       replace HO374 := z0 (Kd.R_drew HO374.out); replace BK367 := z0 (blk_drew BK367.out); replace HB := z0 (below_drew1 HB.out); refine start_ (n := 11) (S := fun w' => w'.cell? ⟨gb367, 0, none⟩ = some (.string a0_0) ∧ w'.cell? ⟨gb367, 1, none⟩ = some (.string a0_1) ∧ w'.cell? ⟨gb367, 2, none⟩ = some (.string a0_2) ∧ w'.cell? ⟨gb367, 3, none⟩ = some (.slice A0_3 l0_3.length c0_3) ∧ w'.cell? ⟨gb367, 4, none⟩ = some (.int .i64 a0_4)) (ds := []) (fb 11 0) (by kernel_rfl) rfl rfl (zb5 BK367.out) (fun hHeld => ?_); refine with_tabW impl_Sieve_heads.tab7 impl_Sieve_heads.bits7 (fun HT_ HW_ => ?_); generalize w29.drew = w31 at HO374 BK367 HB hHeld ⊢; refine zu 0 1 ?_; refine zu 2 5 ?_; refine zx 3 13 hHeld ?_; refine join_ (σ := Value × Value × Nat) 2 (fb 11 511) (fun s_ => [(59, s_.1), (62, .tuple #[.agg #[.string t379, .string t380, .string t381, s_.2.1, .int .i64 t385], .bool true]), (7, .pointer (some ⟨s_.2.2, 0, none⟩)), (57, .tuple #[.agg #[.string t379, .string t380, .string t381, s_.2.1, .int .i64 t385], .bool true]), (63, .agg #[.string t379, .string t380, .string t381, s_.2.1, .int .i64 t385]), (64, .bool true)]) (fun s_ w' => (w'.cell? ⟨gb367, 0, none⟩ = some (.string a0_0) ∧ w'.cell? ⟨gb367, 1, none⟩ = some (.string a0_1) ∧ w'.cell? ⟨gb367, 2, none⟩ = some (.string a0_2) ∧ w'.cell? ⟨gb367, 3, none⟩ = some (.slice A0_3 l0_3.length c0_3) ∧ w'.cell? ⟨gb367, 4, none⟩ = some (.int .i64 a0_4)) ∧ (Kd.R k93 93 w' w.heap.size (fun _ => True) (.slice Ao30 t372.length co30) t372) ∧ (Kd.R Kd.string 9 w' w.heap.size (fun k_ => some k_ ≠ (s_.2.1 : Value).ownBlock) s_.1 t376) ∧ (Kd.R Kd.string 9 w' w.heap.size (fun k_ => some k_ ≠ (s_.1 : Value).ownBlock) s_.2.1 t382) ∧ (w'.heap[gb367]? = some (.cells #[.string a0_0, .string a0_1, .string a0_2, .slice A0_3 l0_3.length c0_3, .int .i64 a0_4] 25 (0, 0))) ∧ (w'.heap[s_.2.2]? = some (.cells #[.string (⟨#[]⟩ : ByteArray), .string (⟨#[]⟩ : ByteArray), .string (⟨#[]⟩ : ByteArray), .slice none 0 0, .int .i64 0] 25 (0, 0))) ∧ (w.heap.size ≤ s_.2.2) ∧ (w.heap.size ≤ s_.2.2) ∧ (gb367 ≠ s_.2.2) ∧ (s_.2.2 ≠ gb367) ∧ (Below w.heap.size w w')) ?_ ?_; rotate_left
       ·intro hCont; refine two_ (i := 1) (j := 8) (Ni := some 59) (Nj := some 7) (fb 11 15) (fb 11 269) rfl rfl rfl rfl (two_of HT_.out (by kernel_rfl)) (by decide) (by decide) (fun K hK => ?_) (fun K hK => ?_)
        ·skip
         refine zG2 Try.func90 #[.slice Ao30 t372.length co30] ?_
         with_reducible refine (impl_texts.calls kj1 _ _ t372 t376 _ ?side1 ?side2 A23.out).mono ?_
         (case side1 => repeat (first | exact (Kd.R_reads' HO374.out).2.2 | (with_reducible refine Kd.C_alloc ?_ _) | (with_reducible refine Kd.C_drewN ?_ _) | (with_reducible refine Kd.C_drew ?_))); (case side2 => exact (Kd.R_reads' HO374.out).2.1); rintro e w32 ⟨v377, rfl, ho0, hb⟩; refine ⟨_, rfl, ?_⟩; replace HO374 := zA HO374 hb; have HO378 := z0 (Kd.R_lower ho0 (below_size (zb HB.out))); replace BK367 := zK BK367 hb; replace HB := zH HB hb; (try clear hb ho0); obtain ⟨Ao33, co33, eo33⟩ := Kd.R_slice HO378.out; (first | subst eo33 | (injection eo33 with f1_ f2_ f3_; have f4_ := f1_.symm; have f5_ := f3_.symm; clear f1_ f2_ f3_; subst f4_; subst f5_)); refine hK.out _ _ (zb5 BK367.out) (fun hHeld => ?_); clear hK K; refine znm ?_; refine two_ (i := 4) (j := 8) (Ni := some 62) (Nj := some 7) (fb 11 31) (fb 11 271) rfl rfl rfl rfl (two_of HT_.out (by kernel_rfl)) (by decide) (by decide) (fun K hK => ?_) (fun K hK => ?_)
         ·skip
          refine zG2 Try.func30 #[.slice Ao33 t376.length co33, .int .i64 a0_4] ?_
          with_reducible refine (impl_SieveOf.calls kj1 _ _ t376 a0_4 t379 t380 t381 t382 t385 true _ ?side1 ?side2 A24.out).mono ?_
          (case side1 => repeat (first | exact (Kd.R_reads' HO378.out).2.2 | (with_reducible refine Kd.C_alloc ?_ _) | (with_reducible refine Kd.C_drewN ?_ _) | (with_reducible refine Kd.C_drew ?_))); (case side2 => exact (Kd.R_reads' HO378.out).2.1); rintro e w34 ⟨v383, rfl, ho0, hb⟩; refine ⟨_, rfl, ?_⟩; replace HO374 := zA HO374 hb; have HO384 := z0 (Kd.R_lower (Kd.R_new' ho0 (Kd.R_lt (zr HO378.out))) (below_size (zb HB.out))); replace HO378 := z0 (Kd.R_elder' (zr HO378.out) (Kd.R_base ho0) hb); replace BK367 := zK BK367 hb; replace HB := zH HB hb; (try clear hb ho0); refine hK.out _ _ (zb5 BK367.out) (fun hHeld => ?_); clear hK K; refine znm ?_; refine zu 5 63 ?_; refine zu 6 127 ?_; refine zu 7 255 ?_; refine zone 8 511 (fun K hK => ?_); refine box_step ?hg (N := 7) ?hd (cs := #[.string (⟨#[]⟩ : ByteArray), .string (⟨#[]⟩ : ByteArray), .string (⟨#[]⟩ : ByteArray), .slice none 0 0, .int .i64 0]) (t := 25) ?hr ?_; (case hd => rfl); (case hg => rfl); (case hr => first | (go_simp; done) | (go_simp; rfl)); intro gb387 hg w35 hbox hb; replace HO374 := zA HO374 hb; replace HO378 := zA HO378 hb; replace HO384 := zA HO384 hb; have BK387 := z0 (hbox); have GE387 := zG hg HB; replace HB := zH HB hb; have NB367_387 := zLt hg BK367; have NB387_367 := zGt hg BK367; replace BK367 := zK BK367 hb; clear hb hbox hg; refine hK.out _ _ (zb5 BK367.out) (fun hHeld => ?_); clear hK K; refine znm ?_; exact norm_ (by simp only [putAll, Act.put, List.setIfInBounds_toArray, List.set_cons_zero, List.set_cons_succ]) (hCont (.slice Ao33 t376.length co33, v383, gb387) _ ⟨hHeld, (zr HO374.out), (Kd.R_mono (zr HO378.out) (fun _ hk => hk.2)), (Kd.R_mono (zr HO384.out) (fun _ hk => hk.2)), (zl BK367.out), (zl BK387.out), GE387.out, GE387.out, NB367_387.out, NB387_367.out, (zb HB.out)⟩)
         ·skip
          refine box_step ?hg (N := 7) ?hd (cs := #[.string (⟨#[]⟩ : ByteArray), .string (⟨#[]⟩ : ByteArray), .string (⟨#[]⟩ : ByteArray), .slice none 0 0, .int .i64 0]) (t := 25) ?hr ?_; (case hd => rfl); (case hg => rfl); (case hr => first | (go_simp; done) | (go_simp; rfl)); intro gb387 hg w33 hbox hb; replace HO374 := zA HO374 hb; replace HO378 := zA HO378 hb; have BK387 := z0 (hbox); have GE387 := zG hg HB; replace HB := zH HB hb; have NB367_387 := zLt hg BK367; have NB387_367 := zGt hg BK367; replace BK367 := zK BK367 hb; clear hb hbox hg; obtain ⟨Ao34, co34, eo34⟩ := Kd.R_slice HO378.out; (first | subst eo34 | (injection eo34 with f1_ f2_ f3_; have f4_ := f1_.symm; have f5_ := f3_.symm; clear f1_ f2_ f3_; subst f4_; subst f5_)); refine hK.out _ _ (zb5 BK367.out) (fun hHeld => ?_); clear hK K; refine znm ?_; refine zone 4 287 (fun K hK => ?_); refine zG2 Try.func30 #[.slice Ao34 t376.length co34, .int .i64 a0_4] ?_
          with_reducible refine (impl_SieveOf.calls kj1 _ _ t376 a0_4 t379 t380 t381 t382 t385 true _ ?side1 ?side2 A24.out).mono ?_
          (case side1 => repeat (first | exact (Kd.R_reads' HO378.out).2.2 | (with_reducible refine Kd.C_alloc ?_ _) | (with_reducible refine Kd.C_drewN ?_ _) | (with_reducible refine Kd.C_drew ?_))); (case side2 => exact (Kd.R_reads' HO378.out).2.1); rintro e w35 ⟨v383, rfl, ho0, hb⟩; refine ⟨_, rfl, ?_⟩; replace HO374 := zA HO374 hb; have HO384 := z0 (Kd.R_lower (Kd.R_new' ho0 (Kd.R_lt (zr HO378.out))) (below_size (zb HB.out))); replace HO378 := z0 (Kd.R_elder' (zr HO378.out) (Kd.R_base ho0) hb); replace BK367 := zK BK367 hb; replace BK387 := zK BK387 hb; replace HB := zH HB hb; (try clear hb ho0); refine hK.out _ _ (zb5 BK367.out) (fun hHeld => ?_); clear hK K; refine znm ?_; refine zu 5 319 ?_; refine zu 6 383 ?_; refine zu 7 511 ?_; exact norm_ (by simp only [putAll, Act.put, List.setIfInBounds_toArray, List.set_cons_zero, List.set_cons_succ]) (hCont (.slice Ao34 t376.length co34, v383, gb387) _ ⟨hHeld, (zr HO374.out), (Kd.R_mono (zr HO378.out) (fun _ hk => hk.2)), (Kd.R_mono (zr HO384.out) (fun _ hk => hk.2)), (zl BK367.out), (zl BK387.out), GE387.out, GE387.out, NB367_387.out, NB387_367.out, (zb HB.out)⟩)
        ·skip
         refine box_step ?hg (N := 7) ?hd (cs := #[.string (⟨#[]⟩ : ByteArray), .string (⟨#[]⟩ : ByteArray), .string (⟨#[]⟩ : ByteArray), .slice none 0 0, .int .i64 0]) (t := 25) ?hr ?_; (case hd => rfl); (case hg => rfl); (case hr => first | (go_simp; done) | (go_simp; rfl)); intro gb387 hg w32 hbox hb; replace HO374 := zA HO374 hb; have BK387 := z0 (hbox); have GE387 := zG hg HB; replace HB := zH HB hb; have NB367_387 := zLt hg BK367; have NB387_367 := zGt hg BK367; replace BK367 := zK BK367 hb; clear hb hbox hg; refine hK.out _ _ (zb5 BK367.out) (fun hHeld => ?_); clear hK K; refine znm ?_; refine zone 1 271 (fun K hK => ?_); refine zG2 Try.func90 #[.slice Ao30 t372.length co30] ?_
         with_reducible refine (impl_texts.calls kj1 _ _ t372 t376 _ ?side1 ?side2 A23.out).mono ?_
         (case side1 => repeat (first | exact (Kd.R_reads' HO374.out).2.2 | (with_reducible refine Kd.C_alloc ?_ _) | (with_reducible refine Kd.C_drewN ?_ _) | (with_reducible refine Kd.C_drew ?_))); (case side2 => exact (Kd.R_reads' HO374.out).2.1); rintro e w33 ⟨v377, rfl, ho0, hb⟩; refine ⟨_, rfl, ?_⟩; replace HO374 := zA HO374 hb; have HO378 := z0 (Kd.R_lower ho0 (below_size (zb HB.out))); replace BK367 := zK BK367 hb; replace BK387 := zK BK387 hb; replace HB := zH HB hb; (try clear hb ho0); obtain ⟨Ao34, co34, eo34⟩ := Kd.R_slice HO378.out; (first | subst eo34 | (injection eo34 with f1_ f2_ f3_; have f4_ := f1_.symm; have f5_ := f3_.symm; clear f1_ f2_ f3_; subst f4_; subst f5_)); refine hK.out _ _ (zb5 BK367.out) (fun hHeld => ?_); clear hK K; refine znm ?_; refine zone 4 287 (fun K hK => ?_); refine zG2 Try.func30 #[.slice Ao34 t376.length co34, .int .i64 a0_4] ?_
         with_reducible refine (impl_SieveOf.calls kj1 _ _ t376 a0_4 t379 t380 t381 t382 t385 true _ ?side1 ?side2 A24.out).mono ?_
         (case side1 => repeat (first | exact (Kd.R_reads' HO378.out).2.2 | (with_reducible refine Kd.C_alloc ?_ _) | (with_reducible refine Kd.C_drewN ?_ _) | (with_reducible refine Kd.C_drew ?_))); (case side2 => exact (Kd.R_reads' HO378.out).2.1); rintro e w35 ⟨v383, rfl, ho0, hb⟩; refine ⟨_, rfl, ?_⟩; replace HO374 := zA HO374 hb; have HO384 := z0 (Kd.R_lower (Kd.R_new' ho0 (Kd.R_lt (zr HO378.out))) (below_size (zb HB.out))); replace HO378 := z0 (Kd.R_elder' (zr HO378.out) (Kd.R_base ho0) hb); replace BK367 := zK BK367 hb; replace BK387 := zK BK387 hb; replace HB := zH HB hb; (try clear hb ho0); refine hK.out _ _ (zb5 BK367.out) (fun hHeld => ?_); clear hK K; refine znm ?_; refine zu 5 319 ?_; refine zu 6 383 ?_; refine zu 7 511 ?_; exact norm_ (by simp only [putAll, Act.put, List.setIfInBounds_toArray, List.set_cons_zero, List.set_cons_succ]) (hCont (.slice Ao34 t376.length co34, v383, gb387) _ ⟨hHeld, (zr HO374.out), (Kd.R_mono (zr HO378.out) (fun _ hk => hk.2)), (Kd.R_mono (zr HO384.out) (fun _ hk => hk.2)), (zl BK367.out), (zl BK387.out), GE387.out, GE387.out, NB367_387.out, NB387_367.out, (zb HB.out)⟩)
       rintro ⟨v377, v383, gb387⟩ w36 ⟨hS_, h0_, h1_, h2_, h3_, h4_, h5_, h6_, h7_, h8_, h9_⟩; have n0_ : Aside0 (Kd.R k93 93 w36 w.heap.size (fun _ => True) (.slice Ao30 t372.length co30) t372) := ⟨h0_⟩; have n1_ : Aside0 (Kd.R Kd.string 9 w36 w.heap.size (fun k_ => some k_ ≠ (v383 : Value).ownBlock) v377 t376) := ⟨h1_⟩; have n2_ : Aside0 (Kd.R Kd.string 9 w36 w.heap.size (fun k_ => some k_ ≠ (v377 : Value).ownBlock) v383 t382) := ⟨h2_⟩; have n3_ : Aside0 (w36.heap[gb367]? = some (.cells #[.string a0_0, .string a0_1, .string a0_2, .slice A0_3 l0_3.length c0_3, .int .i64 a0_4] 25 (0, 0))) := ⟨h3_⟩; have n4_ : Aside0 (w36.heap[gb387]? = some (.cells #[.string (⟨#[]⟩ : ByteArray), .string (⟨#[]⟩ : ByteArray), .string (⟨#[]⟩ : ByteArray), .slice none 0 0, .int .i64 0] 25 (0, 0))) := ⟨h4_⟩; have n5_ : Aside0 (w.heap.size ≤ gb387) := ⟨h5_⟩; have n6_ : Aside0 (w.heap.size ≤ gb387) := ⟨h6_⟩; have n7_ : Aside0 (gb367 ≠ gb387) := ⟨h7_⟩; have n8_ : Aside0 (gb387 ≠ gb367) := ⟨h8_⟩; have n9_ : Aside0 (Below w.heap.size w w36) := ⟨h9_⟩; clear HO374; clear BK367; clear HB; clear h0_ h1_ h2_ h3_ h4_ h5_ h6_ h7_ h8_ h9_; have HO374 := n0_; have HO378 := n1_; have HO384 := n2_; have BK367 := n3_; have BK387 := n4_; have GE387 := n5_; have GE387 := n6_; have NB367_387 := n7_; have NB387_367 := n8_; have HB := n9_; clear n0_ n1_ n2_ n3_ n4_ n5_ n6_ n7_ n8_ n9_; have hHeld : w36.cell? ⟨gb367, 0, none⟩ = some (.string a0_0) ∧ w36.cell? ⟨gb367, 1, none⟩ = some (.string a0_1) ∧ w36.cell? ⟨gb367, 2, none⟩ = some (.string a0_2) ∧ w36.cell? ⟨gb367, 3, none⟩ = some (.slice A0_3 l0_3.length c0_3) ∧ w36.cell? ⟨gb367, 4, none⟩ = some (.int .i64 a0_4) := hS_; obtain ⟨Ao40, co40, eo40⟩ := Kd.R_slice HO384.out; (first | subst eo40 | (injection eo40 with f1_ f2_ f3_; have f4_ := f1_.symm; have f5_ := f3_.symm; clear f1_ f2_ f3_; subst f4_; subst f5_)); refine norm_ (a' := ?_) ?_ ?_; rotate_left
       ·simp only [putAll, Act.put, List.setIfInBounds_toArray, List.set_cons_zero, List.set_cons_succ]
        rfl
       refine zone 9 1023 (fun K hK => ?_); have hs37 : w36.cell? ⟨gb387, 0, none⟩ = some (.string (⟨#[]⟩ : ByteArray)) := (blk_cell BK387.out 0).trans rfl; have hfs37 := blk_frozen BK387.out 0; have hns37_0 := NB367_387.out; have hms37_0 := NB387_367.out; have hs38 : w36.cell? ⟨gb387, 1, none⟩ = some (.string (⟨#[]⟩ : ByteArray)) := (blk_cell BK387.out 1).trans rfl; have hfs38 := blk_frozen BK387.out 1; have hns38_0 := NB367_387.out; have hms38_0 := NB387_367.out; have hs39 : w36.cell? ⟨gb387, 2, none⟩ = some (.string (⟨#[]⟩ : ByteArray)) := (blk_cell BK387.out 2).trans rfl; have hfs39 := blk_frozen BK387.out 2; have hns39_0 := NB367_387.out; have hms39_0 := NB387_367.out; have hs41 : w36.cell? ⟨gb387, 3, none⟩ = some (.slice none 0 0) := (blk_cell BK387.out 3).trans rfl; have hfs41 := blk_frozen BK387.out 3; have hns41_0 := NB367_387.out; have hms41_0 := NB387_367.out; have hs42 : w36.cell? ⟨gb387, 4, none⟩ = some (.int .i64 0) := (blk_cell BK387.out 4).trans rfl; have hfs42 := blk_frozen BK387.out 4; have hns42_0 := NB367_387.out; have hms42_0 := NB387_367.out; refine skip_ (w1 := ?_) (by rfl) rfl ?_ ?_; rotate_left
       ·go_simp
        rfl
       refine hK.out _ _ ⟨((cell_far (p := ⟨gb387, _, none⟩) NB367_387.out _).trans (((cell_far (p := ⟨gb387, _, none⟩) NB367_387.out _).trans (((cell_far (p := ⟨gb387, _, none⟩) NB367_387.out _).trans (((cell_far (p := ⟨gb387, _, none⟩) NB367_387.out _).trans (((cell_far (p := ⟨gb387, _, none⟩) NB367_387.out _).trans (hHeld.1)))))))))), ((cell_far (p := ⟨gb387, _, none⟩) NB367_387.out _).trans (((cell_far (p := ⟨gb387, _, none⟩) NB367_387.out _).trans (((cell_far (p := ⟨gb387, _, none⟩) NB367_387.out _).trans (((cell_far (p := ⟨gb387, _, none⟩) NB367_387.out _).trans (((cell_far (p := ⟨gb387, _, none⟩) NB367_387.out _).trans (hHeld.2.1)))))))))), ((cell_far (p := ⟨gb387, _, none⟩) NB367_387.out _).trans (((cell_far (p := ⟨gb387, _, none⟩) NB367_387.out _).trans (((cell_far (p := ⟨gb387, _, none⟩) NB367_387.out _).trans (((cell_far (p := ⟨gb387, _, none⟩) NB367_387.out _).trans (((cell_far (p := ⟨gb387, _, none⟩) NB367_387.out _).trans (hHeld.2.2.1)))))))))), ((cell_far (p := ⟨gb387, _, none⟩) NB367_387.out _).trans (((cell_far (p := ⟨gb387, _, none⟩) NB367_387.out _).trans (((cell_far (p := ⟨gb387, _, none⟩) NB367_387.out _).trans (((cell_far (p := ⟨gb387, _, none⟩) NB367_387.out _).trans (((cell_far (p := ⟨gb387, _, none⟩) NB367_387.out _).trans (hHeld.2.2.2.1)))))))))), ((cell_far (p := ⟨gb387, _, none⟩) NB367_387.out _).trans (((cell_far (p := ⟨gb387, _, none⟩) NB367_387.out _).trans (((cell_far (p := ⟨gb387, _, none⟩) NB367_387.out _).trans (((cell_far (p := ⟨gb387, _, none⟩) NB367_387.out _).trans (((cell_far (p := ⟨gb387, _, none⟩) NB367_387.out _).trans (hHeld.2.2.2.2))))))))))⟩ (fun hHeld => ?_); clear hK K; refine zu 10 2047 ?_; refine done_ (done_of HT_.out (by kernel_rfl)) ?_; have hnb43 := NB387_367.out; have hnc43 := NB367_387.out; have hcz44 := zc5 BK387.out; have hcz45 := zc5 BK367.out
       try go_wp2_with (first | (go_at_call 119; (with_reducible refine (impl_Sieve_same.calls kj1 t379 t380 t381 _ _ t382 t385 a0_0 a0_1 a0_2 _ _ l0_3 a0_4 true _ ?side1 ?side2 ?side3 ?side4 A26.out).mono ?_); (case side1 => refine (Kd.R_reads' (e := 9) (base := w.heap.size) (ok := fun k_ => some k_ ≠ (v377 : Value).ownBlock) (n := t382.length) (c := co40) ?_).2.2; exact (zs HO384.out BK387.out)); (case side2 => exact (Kd.R_reads' HO384.out).2.1); (case side3 => exact Kd.C_below HR0_3.out (zb HB.out)); (case side4 => exact HC0_3.out); rintro e w46 ⟨rfl, hb⟩; replace HO374 := zAs HO374 BK387 hb; replace HO378 := zAs HO378 BK387 hb; replace HO384 := zAs HO384 BK387 hb; replace BK367 := zKy BK367 hb; replace BK387 := z0 (blk_below (zpc BK387.out #[.string t379, .string t380, .string t381, .slice Ao40 t382.length co40, .int .i64 t385]) hb); replace HB := zH HB hb; (try clear hb)))
       go_ret2
       exact ⟨_, ze, zr HO374.out, zb HB.out⟩
      ·replace c27 := Bool.eq_false_iff.mpr c27; subst c27
       have H1 : (some (([] : List (S93)), false)) = some (r1, r2) := by rw [if_neg (show ¬ (false = true) by decide)] at H; exact H
       clear H; have H := H1; clear H1; simp only [Option.some.injEq, Prod.mk.injEq] at H; obtain ⟨rfl, rfl⟩ := H; have hcz47 := zc5 BK367.out
       try go_wp2_with (first | ((with_reducible refine gc 118 ?_); refine zL (some 52) Try.func118 #[.agg #[.string a0_0, .string a0_1, .string a0_2, .slice A0_3 l0_3.length c0_3, .int .i64 a0_4], .int .i64 0, .string (⟨#[]⟩ : ByteArray), .slice none 0 0] ?_; (refine (impl_Sieve_parts.calls kj1 a0_0 a0_1 a0_2 _ _ l0_3 a0_4 0 (⟨#[]⟩ : ByteArray) (fun k_ => some k_ = (.slice none 0 0 : Value).ownBlock) (.slice none 0 0) ([] : List (S93)) t372 true w _ ?side1 ?side2 ?side3 ?side4 A21.out).mono ?_); (case side1 => repeat (first | (with_reducible first | exact HB.out | apply below_alloc | apply pw_below_drewN | apply below_drew1 | refine below_set ?_ GE367.out) | exact HB.out)); (case side2 => exact Kd.C_kept_came Kd.heap_string HR0_3.out (zb HB.out) (fun k_ hs_ => (fun e_ => by simp [Value.ownBlock] at e_) hs_)); (case side3 => exact HC0_3.out); (case side4 => exact Kd.R_nil _ _ _ _ _); rintro e w48 ⟨v373, rfl, ho0, hb, hkp⟩; refine ⟨_, rfl, ?_⟩; replace BK367 := z0 (blk_kept (zl BK367.out) hkp (fun hs_ => (fun e_ => by simp [Value.ownBlock] at e_) hs_)); have HO374 := z0 (Kd.R_mono (ok' := fun k_ => True) ho0 (fun k_ hk_ => trivial)); replace HB := z0 (hb); (try clear hb); (try clear hkp); (try clear ho0); obtain ⟨Ao49, co49, eo49⟩ := Kd.R_slice HO374.out; subst eo49))
       replace HO374 := z0 (Kd.R_drew HO374.out); replace BK367 := z0 (blk_drew BK367.out); replace HB := z0 (below_drew1 HB.out); refine start_ (n := 11) (S := fun w' => w'.cell? ⟨gb367, 0, none⟩ = some (.string a0_0) ∧ w'.cell? ⟨gb367, 1, none⟩ = some (.string a0_1) ∧ w'.cell? ⟨gb367, 2, none⟩ = some (.string a0_2) ∧ w'.cell? ⟨gb367, 3, none⟩ = some (.slice A0_3 l0_3.length c0_3) ∧ w'.cell? ⟨gb367, 4, none⟩ = some (.int .i64 a0_4)) (ds := []) (fb 11 0) (by kernel_rfl) rfl rfl (zb5 BK367.out) (fun hHeld => ?_); refine with_tabW impl_Sieve_heads.tab7 impl_Sieve_heads.bits7 (fun HT_ HW_ => ?_); generalize w48.drew = w50 at HO374 BK367 HB hHeld ⊢; refine zu 0 1 ?_; refine zu 2 5 ?_; refine zx 3 13 hHeld ?_; refine join_ (σ := Value × Value × Nat) 2 (fb 11 511) (fun s_ => [(59, s_.1), (62, .tuple #[.agg #[.string t379, .string t380, .string t381, s_.2.1, .int .i64 t385], .bool true]), (7, .pointer (some ⟨s_.2.2, 0, none⟩)), (57, .tuple #[.agg #[.string t379, .string t380, .string t381, s_.2.1, .int .i64 t385], .bool true]), (63, .agg #[.string t379, .string t380, .string t381, s_.2.1, .int .i64 t385]), (64, .bool true)]) (fun s_ w' => (w'.cell? ⟨gb367, 0, none⟩ = some (.string a0_0) ∧ w'.cell? ⟨gb367, 1, none⟩ = some (.string a0_1) ∧ w'.cell? ⟨gb367, 2, none⟩ = some (.string a0_2) ∧ w'.cell? ⟨gb367, 3, none⟩ = some (.slice A0_3 l0_3.length c0_3) ∧ w'.cell? ⟨gb367, 4, none⟩ = some (.int .i64 a0_4)) ∧ (Kd.R k93 93 w' w.heap.size (fun _ => True) (.slice Ao49 t372.length co49) t372) ∧ (Kd.R Kd.string 9 w' w.heap.size (fun k_ => some k_ ≠ (s_.2.1 : Value).ownBlock) s_.1 t376) ∧ (Kd.R Kd.string 9 w' w.heap.size (fun k_ => some k_ ≠ (s_.1 : Value).ownBlock) s_.2.1 t382) ∧ (w'.heap[gb367]? = some (.cells #[.string a0_0, .string a0_1, .string a0_2, .slice A0_3 l0_3.length c0_3, .int .i64 a0_4] 25 (0, 0))) ∧ (w'.heap[s_.2.2]? = some (.cells #[.string (⟨#[]⟩ : ByteArray), .string (⟨#[]⟩ : ByteArray), .string (⟨#[]⟩ : ByteArray), .slice none 0 0, .int .i64 0] 25 (0, 0))) ∧ (w.heap.size ≤ s_.2.2) ∧ (w.heap.size ≤ s_.2.2) ∧ (gb367 ≠ s_.2.2) ∧ (s_.2.2 ≠ gb367) ∧ (Below w.heap.size w w')) ?_ ?_; rotate_left
       ·intro hCont; refine two_ (i := 1) (j := 8) (Ni := some 59) (Nj := some 7) (fb 11 15) (fb 11 269) rfl rfl rfl rfl (two_of HT_.out (by kernel_rfl)) (by decide) (by decide) (fun K hK => ?_) (fun K hK => ?_)
        ·skip
         refine zG2 Try.func90 #[.slice Ao49 t372.length co49] ?_
         with_reducible refine (impl_texts.calls kj1 _ _ t372 t376 _ ?side1 ?side2 A23.out).mono ?_
         (case side1 => repeat (first | exact (Kd.R_reads' HO374.out).2.2 | (with_reducible refine Kd.C_alloc ?_ _) | (with_reducible refine Kd.C_drewN ?_ _) | (with_reducible refine Kd.C_drew ?_))); (case side2 => exact (Kd.R_reads' HO374.out).2.1); rintro e w51 ⟨v377, rfl, ho0, hb⟩; refine ⟨_, rfl, ?_⟩; replace HO374 := zA HO374 hb; have HO378 := z0 (Kd.R_lower ho0 (below_size (zb HB.out))); replace BK367 := zK BK367 hb; replace HB := zH HB hb; (try clear hb ho0); obtain ⟨Ao52, co52, eo52⟩ := Kd.R_slice HO378.out; (first | subst eo52 | (injection eo52 with f1_ f2_ f3_; have f4_ := f1_.symm; have f5_ := f3_.symm; clear f1_ f2_ f3_; subst f4_; subst f5_)); refine hK.out _ _ (zb5 BK367.out) (fun hHeld => ?_); clear hK K; refine znm ?_; refine two_ (i := 4) (j := 8) (Ni := some 62) (Nj := some 7) (fb 11 31) (fb 11 271) rfl rfl rfl rfl (two_of HT_.out (by kernel_rfl)) (by decide) (by decide) (fun K hK => ?_) (fun K hK => ?_)
         ·skip
          refine zG2 Try.func30 #[.slice Ao52 t376.length co52, .int .i64 a0_4] ?_
          with_reducible refine (impl_SieveOf.calls kj1 _ _ t376 a0_4 t379 t380 t381 t382 t385 true _ ?side1 ?side2 A24.out).mono ?_
          (case side1 => repeat (first | exact (Kd.R_reads' HO378.out).2.2 | (with_reducible refine Kd.C_alloc ?_ _) | (with_reducible refine Kd.C_drewN ?_ _) | (with_reducible refine Kd.C_drew ?_))); (case side2 => exact (Kd.R_reads' HO378.out).2.1); rintro e w53 ⟨v383, rfl, ho0, hb⟩; refine ⟨_, rfl, ?_⟩; replace HO374 := zA HO374 hb; have HO384 := z0 (Kd.R_lower (Kd.R_new' ho0 (Kd.R_lt (zr HO378.out))) (below_size (zb HB.out))); replace HO378 := z0 (Kd.R_elder' (zr HO378.out) (Kd.R_base ho0) hb); replace BK367 := zK BK367 hb; replace HB := zH HB hb; (try clear hb ho0); refine hK.out _ _ (zb5 BK367.out) (fun hHeld => ?_); clear hK K; refine znm ?_; refine zu 5 63 ?_; refine zu 6 127 ?_; refine zu 7 255 ?_; refine zone 8 511 (fun K hK => ?_); refine box_step ?hg (N := 7) ?hd (cs := #[.string (⟨#[]⟩ : ByteArray), .string (⟨#[]⟩ : ByteArray), .string (⟨#[]⟩ : ByteArray), .slice none 0 0, .int .i64 0]) (t := 25) ?hr ?_; (case hd => rfl); (case hg => rfl); (case hr => first | (go_simp; done) | (go_simp; rfl)); intro gb387 hg w54 hbox hb; replace HO374 := zA HO374 hb; replace HO378 := zA HO378 hb; replace HO384 := zA HO384 hb; have BK387 := z0 (hbox); have GE387 := zG hg HB; replace HB := zH HB hb; have NB367_387 := zLt hg BK367; have NB387_367 := zGt hg BK367; replace BK367 := zK BK367 hb; clear hb hbox hg; refine hK.out _ _ (zb5 BK367.out) (fun hHeld => ?_); clear hK K; refine znm ?_; exact norm_ (by simp only [putAll, Act.put, List.setIfInBounds_toArray, List.set_cons_zero, List.set_cons_succ]) (hCont (.slice Ao52 t376.length co52, v383, gb387) _ ⟨hHeld, (zr HO374.out), (Kd.R_mono (zr HO378.out) (fun _ hk => hk.2)), (Kd.R_mono (zr HO384.out) (fun _ hk => hk.2)), (zl BK367.out), (zl BK387.out), GE387.out, GE387.out, NB367_387.out, NB387_367.out, (zb HB.out)⟩)
         ·skip
          refine box_step ?hg (N := 7) ?hd (cs := #[.string (⟨#[]⟩ : ByteArray), .string (⟨#[]⟩ : ByteArray), .string (⟨#[]⟩ : ByteArray), .slice none 0 0, .int .i64 0]) (t := 25) ?hr ?_; (case hd => rfl); (case hg => rfl); (case hr => first | (go_simp; done) | (go_simp; rfl)); intro gb387 hg w52 hbox hb; replace HO374 := zA HO374 hb; replace HO378 := zA HO378 hb; have BK387 := z0 (hbox); have GE387 := zG hg HB; replace HB := zH HB hb; have NB367_387 := zLt hg BK367; have NB387_367 := zGt hg BK367; replace BK367 := zK BK367 hb; clear hb hbox hg; obtain ⟨Ao53, co53, eo53⟩ := Kd.R_slice HO378.out; (first | subst eo53 | (injection eo53 with f1_ f2_ f3_; have f4_ := f1_.symm; have f5_ := f3_.symm; clear f1_ f2_ f3_; subst f4_; subst f5_)); refine hK.out _ _ (zb5 BK367.out) (fun hHeld => ?_); clear hK K; refine znm ?_; refine zone 4 287 (fun K hK => ?_); refine zG2 Try.func30 #[.slice Ao53 t376.length co53, .int .i64 a0_4] ?_
          with_reducible refine (impl_SieveOf.calls kj1 _ _ t376 a0_4 t379 t380 t381 t382 t385 true _ ?side1 ?side2 A24.out).mono ?_
          (case side1 => repeat (first | exact (Kd.R_reads' HO378.out).2.2 | (with_reducible refine Kd.C_alloc ?_ _) | (with_reducible refine Kd.C_drewN ?_ _) | (with_reducible refine Kd.C_drew ?_))); (case side2 => exact (Kd.R_reads' HO378.out).2.1); rintro e w54 ⟨v383, rfl, ho0, hb⟩; refine ⟨_, rfl, ?_⟩; replace HO374 := zA HO374 hb; have HO384 := z0 (Kd.R_lower (Kd.R_new' ho0 (Kd.R_lt (zr HO378.out))) (below_size (zb HB.out))); replace HO378 := z0 (Kd.R_elder' (zr HO378.out) (Kd.R_base ho0) hb); replace BK367 := zK BK367 hb; replace BK387 := zK BK387 hb; replace HB := zH HB hb; (try clear hb ho0); refine hK.out _ _ (zb5 BK367.out) (fun hHeld => ?_); clear hK K; refine znm ?_; refine zu 5 319 ?_; refine zu 6 383 ?_; refine zu 7 511 ?_; exact norm_ (by simp only [putAll, Act.put, List.setIfInBounds_toArray, List.set_cons_zero, List.set_cons_succ]) (hCont (.slice Ao53 t376.length co53, v383, gb387) _ ⟨hHeld, (zr HO374.out), (Kd.R_mono (zr HO378.out) (fun _ hk => hk.2)), (Kd.R_mono (zr HO384.out) (fun _ hk => hk.2)), (zl BK367.out), (zl BK387.out), GE387.out, GE387.out, NB367_387.out, NB387_367.out, (zb HB.out)⟩)
        ·skip
         refine box_step ?hg (N := 7) ?hd (cs := #[.string (⟨#[]⟩ : ByteArray), .string (⟨#[]⟩ : ByteArray), .string (⟨#[]⟩ : ByteArray), .slice none 0 0, .int .i64 0]) (t := 25) ?hr ?_; (case hd => rfl); (case hg => rfl); (case hr => first | (go_simp; done) | (go_simp; rfl)); intro gb387 hg w51 hbox hb; replace HO374 := zA HO374 hb; have BK387 := z0 (hbox); have GE387 := zG hg HB; replace HB := zH HB hb; have NB367_387 := zLt hg BK367; have NB387_367 := zGt hg BK367; replace BK367 := zK BK367 hb; clear hb hbox hg; refine hK.out _ _ (zb5 BK367.out) (fun hHeld => ?_); clear hK K; refine znm ?_; refine zone 1 271 (fun K hK => ?_); refine zG2 Try.func90 #[.slice Ao49 t372.length co49] ?_
         with_reducible refine (impl_texts.calls kj1 _ _ t372 t376 _ ?side1 ?side2 A23.out).mono ?_
         (case side1 => repeat (first | exact (Kd.R_reads' HO374.out).2.2 | (with_reducible refine Kd.C_alloc ?_ _) | (with_reducible refine Kd.C_drewN ?_ _) | (with_reducible refine Kd.C_drew ?_))); (case side2 => exact (Kd.R_reads' HO374.out).2.1); rintro e w52 ⟨v377, rfl, ho0, hb⟩; refine ⟨_, rfl, ?_⟩; replace HO374 := zA HO374 hb; have HO378 := z0 (Kd.R_lower ho0 (below_size (zb HB.out))); replace BK367 := zK BK367 hb; replace BK387 := zK BK387 hb; replace HB := zH HB hb; (try clear hb ho0); obtain ⟨Ao53, co53, eo53⟩ := Kd.R_slice HO378.out; (first | subst eo53 | (injection eo53 with f1_ f2_ f3_; have f4_ := f1_.symm; have f5_ := f3_.symm; clear f1_ f2_ f3_; subst f4_; subst f5_)); refine hK.out _ _ (zb5 BK367.out) (fun hHeld => ?_); clear hK K; refine znm ?_; refine zone 4 287 (fun K hK => ?_); refine zG2 Try.func30 #[.slice Ao53 t376.length co53, .int .i64 a0_4] ?_
         with_reducible refine (impl_SieveOf.calls kj1 _ _ t376 a0_4 t379 t380 t381 t382 t385 true _ ?side1 ?side2 A24.out).mono ?_
         (case side1 => repeat (first | exact (Kd.R_reads' HO378.out).2.2 | (with_reducible refine Kd.C_alloc ?_ _) | (with_reducible refine Kd.C_drewN ?_ _) | (with_reducible refine Kd.C_drew ?_))); (case side2 => exact (Kd.R_reads' HO378.out).2.1); rintro e w54 ⟨v383, rfl, ho0, hb⟩; refine ⟨_, rfl, ?_⟩; replace HO374 := zA HO374 hb; have HO384 := z0 (Kd.R_lower (Kd.R_new' ho0 (Kd.R_lt (zr HO378.out))) (below_size (zb HB.out))); replace HO378 := z0 (Kd.R_elder' (zr HO378.out) (Kd.R_base ho0) hb); replace BK367 := zK BK367 hb; replace BK387 := zK BK387 hb; replace HB := zH HB hb; (try clear hb ho0); refine hK.out _ _ (zb5 BK367.out) (fun hHeld => ?_); clear hK K; refine znm ?_; refine zu 5 319 ?_; refine zu 6 383 ?_; refine zu 7 511 ?_; exact norm_ (by simp only [putAll, Act.put, List.setIfInBounds_toArray, List.set_cons_zero, List.set_cons_succ]) (hCont (.slice Ao53 t376.length co53, v383, gb387) _ ⟨hHeld, (zr HO374.out), (Kd.R_mono (zr HO378.out) (fun _ hk => hk.2)), (Kd.R_mono (zr HO384.out) (fun _ hk => hk.2)), (zl BK367.out), (zl BK387.out), GE387.out, GE387.out, NB367_387.out, NB387_367.out, (zb HB.out)⟩)
       rintro ⟨v377, v383, gb387⟩ w55 ⟨hS_, h0_, h1_, h2_, h3_, h4_, h5_, h6_, h7_, h8_, h9_⟩; have n0_ : Aside0 (Kd.R k93 93 w55 w.heap.size (fun _ => True) (.slice Ao49 t372.length co49) t372) := ⟨h0_⟩; have n1_ : Aside0 (Kd.R Kd.string 9 w55 w.heap.size (fun k_ => some k_ ≠ (v383 : Value).ownBlock) v377 t376) := ⟨h1_⟩; have n2_ : Aside0 (Kd.R Kd.string 9 w55 w.heap.size (fun k_ => some k_ ≠ (v377 : Value).ownBlock) v383 t382) := ⟨h2_⟩; have n3_ : Aside0 (w55.heap[gb367]? = some (.cells #[.string a0_0, .string a0_1, .string a0_2, .slice A0_3 l0_3.length c0_3, .int .i64 a0_4] 25 (0, 0))) := ⟨h3_⟩; have n4_ : Aside0 (w55.heap[gb387]? = some (.cells #[.string (⟨#[]⟩ : ByteArray), .string (⟨#[]⟩ : ByteArray), .string (⟨#[]⟩ : ByteArray), .slice none 0 0, .int .i64 0] 25 (0, 0))) := ⟨h4_⟩; have n5_ : Aside0 (w.heap.size ≤ gb387) := ⟨h5_⟩; have n6_ : Aside0 (w.heap.size ≤ gb387) := ⟨h6_⟩; have n7_ : Aside0 (gb367 ≠ gb387) := ⟨h7_⟩; have n8_ : Aside0 (gb387 ≠ gb367) := ⟨h8_⟩; have n9_ : Aside0 (Below w.heap.size w w55) := ⟨h9_⟩; clear HO374; clear BK367; clear HB; clear h0_ h1_ h2_ h3_ h4_ h5_ h6_ h7_ h8_ h9_; have HO374 := n0_; have HO378 := n1_; have HO384 := n2_; have BK367 := n3_; have BK387 := n4_; have GE387 := n5_; have GE387 := n6_; have NB367_387 := n7_; have NB387_367 := n8_; have HB := n9_; clear n0_ n1_ n2_ n3_ n4_ n5_ n6_ n7_ n8_ n9_; have hHeld : w55.cell? ⟨gb367, 0, none⟩ = some (.string a0_0) ∧ w55.cell? ⟨gb367, 1, none⟩ = some (.string a0_1) ∧ w55.cell? ⟨gb367, 2, none⟩ = some (.string a0_2) ∧ w55.cell? ⟨gb367, 3, none⟩ = some (.slice A0_3 l0_3.length c0_3) ∧ w55.cell? ⟨gb367, 4, none⟩ = some (.int .i64 a0_4) := hS_; obtain ⟨Ao59, co59, eo59⟩ := Kd.R_slice HO384.out; (first | subst eo59 | (injection eo59 with f1_ f2_ f3_; have f4_ := f1_.symm; have f5_ := f3_.symm; clear f1_ f2_ f3_; subst f4_; subst f5_)); refine norm_ (a' := ?_) ?_ ?_; rotate_left
       ·simp only [putAll, Act.put, List.setIfInBounds_toArray, List.set_cons_zero, List.set_cons_succ]
        rfl
       refine zone 9 1023 (fun K hK => ?_); have hs56 : w55.cell? ⟨gb387, 0, none⟩ = some (.string (⟨#[]⟩ : ByteArray)) := (blk_cell BK387.out 0).trans rfl; have hfs56 := blk_frozen BK387.out 0; have hns56_0 := NB367_387.out; have hms56_0 := NB387_367.out; have hs57 : w55.cell? ⟨gb387, 1, none⟩ = some (.string (⟨#[]⟩ : ByteArray)) := (blk_cell BK387.out 1).trans rfl; have hfs57 := blk_frozen BK387.out 1; have hns57_0 := NB367_387.out; have hms57_0 := NB387_367.out; have hs58 : w55.cell? ⟨gb387, 2, none⟩ = some (.string (⟨#[]⟩ : ByteArray)) := (blk_cell BK387.out 2).trans rfl; have hfs58 := blk_frozen BK387.out 2; have hns58_0 := NB367_387.out; have hms58_0 := NB387_367.out; have hs60 : w55.cell? ⟨gb387, 3, none⟩ = some (.slice none 0 0) := (blk_cell BK387.out 3).trans rfl; have hfs60 := blk_frozen BK387.out 3; have hns60_0 := NB367_387.out; have hms60_0 := NB387_367.out; have hs61 : w55.cell? ⟨gb387, 4, none⟩ = some (.int .i64 0) := (blk_cell BK387.out 4).trans rfl; have hfs61 := blk_frozen BK387.out 4; have hns61_0 := NB367_387.out; have hms61_0 := NB387_367.out; refine skip_ (w1 := ?_) (by rfl) rfl ?_ ?_; rotate_left
       ·go_simp
        rfl
       refine hK.out _ _ ⟨((cell_far (p := ⟨gb387, _, none⟩) NB367_387.out _).trans (((cell_far (p := ⟨gb387, _, none⟩) NB367_387.out _).trans (((cell_far (p := ⟨gb387, _, none⟩) NB367_387.out _).trans (((cell_far (p := ⟨gb387, _, none⟩) NB367_387.out _).trans (((cell_far (p := ⟨gb387, _, none⟩) NB367_387.out _).trans (hHeld.1)))))))))), ((cell_far (p := ⟨gb387, _, none⟩) NB367_387.out _).trans (((cell_far (p := ⟨gb387, _, none⟩) NB367_387.out _).trans (((cell_far (p := ⟨gb387, _, none⟩) NB367_387.out _).trans (((cell_far (p := ⟨gb387, _, none⟩) NB367_387.out _).trans (((cell_far (p := ⟨gb387, _, none⟩) NB367_387.out _).trans (hHeld.2.1)))))))))), ((cell_far (p := ⟨gb387, _, none⟩) NB367_387.out _).trans (((cell_far (p := ⟨gb387, _, none⟩) NB367_387.out _).trans (((cell_far (p := ⟨gb387, _, none⟩) NB367_387.out _).trans (((cell_far (p := ⟨gb387, _, none⟩) NB367_387.out _).trans (((cell_far (p := ⟨gb387, _, none⟩) NB367_387.out _).trans (hHeld.2.2.1)))))))))), ((cell_far (p := ⟨gb387, _, none⟩) NB367_387.out _).trans (((cell_far (p := ⟨gb387, _, none⟩) NB367_387.out _).trans (((cell_far (p := ⟨gb387, _, none⟩) NB367_387.out _).trans (((cell_far (p := ⟨gb387, _, none⟩) NB367_387.out _).trans (((cell_far (p := ⟨gb387, _, none⟩) NB367_387.out _).trans (hHeld.2.2.2.1)))))))))), ((cell_far (p := ⟨gb387, _, none⟩) NB367_387.out _).trans (((cell_far (p := ⟨gb387, _, none⟩) NB367_387.out _).trans (((cell_far (p := ⟨gb387, _, none⟩) NB367_387.out _).trans (((cell_far (p := ⟨gb387, _, none⟩) NB367_387.out _).trans (((cell_far (p := ⟨gb387, _, none⟩) NB367_387.out _).trans (hHeld.2.2.2.2))))))))))⟩ (fun hHeld => ?_); clear hK K; refine zu 10 2047 ?_; refine done_ (done_of HT_.out (by kernel_rfl)) ?_; have hnb62 := NB387_367.out; have hnc62 := NB367_387.out; have hcz63 := zc5 BK387.out; have hcz64 := zc5 BK367.out
       try go_wp2_with (first | (go_at_call 119; (with_reducible refine (impl_Sieve_same.calls kj1 t379 t380 t381 _ _ t382 t385 a0_0 a0_1 a0_2 _ _ l0_3 a0_4 false _ ?side1 ?side2 ?side3 ?side4 A26.out).mono ?_); (case side1 => refine (Kd.R_reads' (e := 9) (base := w.heap.size) (ok := fun k_ => some k_ ≠ (v377 : Value).ownBlock) (n := t382.length) (c := co59) ?_).2.2; exact (zs HO384.out BK387.out)); (case side2 => exact (Kd.R_reads' HO384.out).2.1); (case side3 => exact Kd.C_below HR0_3.out (zb HB.out)); (case side4 => exact HC0_3.out); rintro e w65 ⟨rfl, hb⟩; replace HO374 := zAs HO374 BK387 hb; replace HO378 := zAs HO378 BK387 hb; replace HO384 := zAs HO384 BK387 hb; replace BK367 := zKy BK367 hb; replace BK387 := z0 (blk_below (zpc BK387.out #[.string t379, .string t380, .string t381, .slice Ao59 t382.length co59, .int .i64 t385]) hb); replace HB := zH HB hb; (try clear hb)))
       go_ret2
       exact ⟨_, ze, by first | exact Kd.R_nil _ _ _ _ _ | exact Kd.N_nil _ _ _ _ _ | exact Kd.V_nil _ _ _ _ _ | exact Kd.Q_nil _ _ _ _ _ | exact Kd.S_nil _ _ _ _ _, zb HB.out⟩
     ·replace c25 := Bool.eq_false_iff.mpr c25; subst c25
      have H1 : (some (([] : List (S93)), false)) = some (r1, r2) := by rw [if_neg (show ¬ (false = true) by decide)] at H; exact H
      clear H; have H := H1; clear H1; simp only [Option.some.injEq, Prod.mk.injEq] at H; obtain ⟨rfl, rfl⟩ := H; have hcz66 := zc5 BK367.out
      try go_wp2_with (first | ((with_reducible refine gc 118 ?_); refine zL (some 52) Try.func118 #[.agg #[.string a0_0, .string a0_1, .string a0_2, .slice A0_3 l0_3.length c0_3, .int .i64 a0_4], .int .i64 0, .string (⟨#[]⟩ : ByteArray), .slice none 0 0] ?_; (refine (impl_Sieve_parts.calls kj1 a0_0 a0_1 a0_2 _ _ l0_3 a0_4 0 (⟨#[]⟩ : ByteArray) (fun k_ => some k_ = (.slice none 0 0 : Value).ownBlock) (.slice none 0 0) ([] : List (S93)) t372 true w _ ?side1 ?side2 ?side3 ?side4 A21.out).mono ?_); (case side1 => repeat (first | (with_reducible first | exact HB.out | apply below_alloc | apply pw_below_drewN | apply below_drew1 | refine below_set ?_ GE367.out) | exact HB.out)); (case side2 => exact Kd.C_kept_came Kd.heap_string HR0_3.out (zb HB.out) (fun k_ hs_ => (fun e_ => by simp [Value.ownBlock] at e_) hs_)); (case side3 => exact HC0_3.out); (case side4 => exact Kd.R_nil _ _ _ _ _); rintro e w67 ⟨v373, rfl, ho0, hb, hkp⟩; refine ⟨_, rfl, ?_⟩; replace BK367 := z0 (blk_kept (zl BK367.out) hkp (fun hs_ => (fun e_ => by simp [Value.ownBlock] at e_) hs_)); have HO374 := z0 (Kd.R_mono (ok' := fun k_ => True) ho0 (fun k_ hk_ => trivial)); replace HB := z0 (hb); (try clear hb); (try clear hkp); (try clear ho0); obtain ⟨Ao68, co68, eo68⟩ := Kd.R_slice HO374.out; subst eo68))
      replace HO374 := z0 (Kd.R_drew HO374.out); replace BK367 := z0 (blk_drew BK367.out); replace HB := z0 (below_drew1 HB.out); refine start_ (n := 11) (S := fun w' => w'.cell? ⟨gb367, 0, none⟩ = some (.string a0_0) ∧ w'.cell? ⟨gb367, 1, none⟩ = some (.string a0_1) ∧ w'.cell? ⟨gb367, 2, none⟩ = some (.string a0_2) ∧ w'.cell? ⟨gb367, 3, none⟩ = some (.slice A0_3 l0_3.length c0_3) ∧ w'.cell? ⟨gb367, 4, none⟩ = some (.int .i64 a0_4)) (ds := []) (fb 11 0) (by kernel_rfl) rfl rfl (zb5 BK367.out) (fun hHeld => ?_); refine with_tabW impl_Sieve_heads.tab7 impl_Sieve_heads.bits7 (fun HT_ HW_ => ?_); generalize w67.drew = w69 at HO374 BK367 HB hHeld ⊢; refine zu 0 1 ?_; refine zu 2 5 ?_; refine zx 3 13 hHeld ?_; refine join_ (σ := Value × Value × Nat) 2 (fb 11 511) (fun s_ => [(59, s_.1), (62, .tuple #[.agg #[.string t379, .string t380, .string t381, s_.2.1, .int .i64 t385], .bool false]), (7, .pointer (some ⟨s_.2.2, 0, none⟩)), (57, .tuple #[.agg #[.string t379, .string t380, .string t381, s_.2.1, .int .i64 t385], .bool false]), (63, .agg #[.string t379, .string t380, .string t381, s_.2.1, .int .i64 t385]), (64, .bool false)]) (fun s_ w' => (w'.cell? ⟨gb367, 0, none⟩ = some (.string a0_0) ∧ w'.cell? ⟨gb367, 1, none⟩ = some (.string a0_1) ∧ w'.cell? ⟨gb367, 2, none⟩ = some (.string a0_2) ∧ w'.cell? ⟨gb367, 3, none⟩ = some (.slice A0_3 l0_3.length c0_3) ∧ w'.cell? ⟨gb367, 4, none⟩ = some (.int .i64 a0_4)) ∧ (Kd.R k93 93 w' w.heap.size (fun _ => True) (.slice Ao68 t372.length co68) t372) ∧ (Kd.R Kd.string 9 w' w.heap.size (fun k_ => some k_ ≠ (s_.2.1 : Value).ownBlock) s_.1 t376) ∧ (Kd.R Kd.string 9 w' w.heap.size (fun k_ => some k_ ≠ (s_.1 : Value).ownBlock) s_.2.1 t382) ∧ (w'.heap[gb367]? = some (.cells #[.string a0_0, .string a0_1, .string a0_2, .slice A0_3 l0_3.length c0_3, .int .i64 a0_4] 25 (0, 0))) ∧ (w'.heap[s_.2.2]? = some (.cells #[.string (⟨#[]⟩ : ByteArray), .string (⟨#[]⟩ : ByteArray), .string (⟨#[]⟩ : ByteArray), .slice none 0 0, .int .i64 0] 25 (0, 0))) ∧ (w.heap.size ≤ s_.2.2) ∧ (w.heap.size ≤ s_.2.2) ∧ (gb367 ≠ s_.2.2) ∧ (s_.2.2 ≠ gb367) ∧ (Below w.heap.size w w')) ?_ ?_; rotate_left
      ·intro hCont; refine two_ (i := 1) (j := 8) (Ni := some 59) (Nj := some 7) (fb 11 15) (fb 11 269) rfl rfl rfl rfl (two_of HT_.out (by kernel_rfl)) (by decide) (by decide) (fun K hK => ?_) (fun K hK => ?_)
       ·skip
        refine zG2 Try.func90 #[.slice Ao68 t372.length co68] ?_
        with_reducible refine (impl_texts.calls kj1 _ _ t372 t376 _ ?side1 ?side2 A23.out).mono ?_
        (case side1 => repeat (first | exact (Kd.R_reads' HO374.out).2.2 | (with_reducible refine Kd.C_alloc ?_ _) | (with_reducible refine Kd.C_drewN ?_ _) | (with_reducible refine Kd.C_drew ?_))); (case side2 => exact (Kd.R_reads' HO374.out).2.1); rintro e w70 ⟨v377, rfl, ho0, hb⟩; refine ⟨_, rfl, ?_⟩; replace HO374 := zA HO374 hb; have HO378 := z0 (Kd.R_lower ho0 (below_size (zb HB.out))); replace BK367 := zK BK367 hb; replace HB := zH HB hb; (try clear hb ho0); obtain ⟨Ao71, co71, eo71⟩ := Kd.R_slice HO378.out; (first | subst eo71 | (injection eo71 with f1_ f2_ f3_; have f4_ := f1_.symm; have f5_ := f3_.symm; clear f1_ f2_ f3_; subst f4_; subst f5_)); refine hK.out _ _ (zb5 BK367.out) (fun hHeld => ?_); clear hK K; refine znm ?_; refine two_ (i := 4) (j := 8) (Ni := some 62) (Nj := some 7) (fb 11 31) (fb 11 271) rfl rfl rfl rfl (two_of HT_.out (by kernel_rfl)) (by decide) (by decide) (fun K hK => ?_) (fun K hK => ?_)
        ·skip
         refine zG2 Try.func30 #[.slice Ao71 t376.length co71, .int .i64 a0_4] ?_
         with_reducible refine (impl_SieveOf.calls kj1 _ _ t376 a0_4 t379 t380 t381 t382 t385 false _ ?side1 ?side2 A24.out).mono ?_
         (case side1 => repeat (first | exact (Kd.R_reads' HO378.out).2.2 | (with_reducible refine Kd.C_alloc ?_ _) | (with_reducible refine Kd.C_drewN ?_ _) | (with_reducible refine Kd.C_drew ?_))); (case side2 => exact (Kd.R_reads' HO378.out).2.1); rintro e w72 ⟨v383, rfl, ho0, hb⟩; refine ⟨_, rfl, ?_⟩; replace HO374 := zA HO374 hb; have HO384 := z0 (Kd.R_lower (Kd.R_new' ho0 (Kd.R_lt (zr HO378.out))) (below_size (zb HB.out))); replace HO378 := z0 (Kd.R_elder' (zr HO378.out) (Kd.R_base ho0) hb); replace BK367 := zK BK367 hb; replace HB := zH HB hb; (try clear hb ho0); refine hK.out _ _ (zb5 BK367.out) (fun hHeld => ?_); clear hK K; refine znm ?_; refine zu 5 63 ?_; refine zu 6 127 ?_; refine zu 7 255 ?_; refine zone 8 511 (fun K hK => ?_); refine box_step ?hg (N := 7) ?hd (cs := #[.string (⟨#[]⟩ : ByteArray), .string (⟨#[]⟩ : ByteArray), .string (⟨#[]⟩ : ByteArray), .slice none 0 0, .int .i64 0]) (t := 25) ?hr ?_; (case hd => rfl); (case hg => rfl); (case hr => first | (go_simp; done) | (go_simp; rfl)); intro gb387 hg w73 hbox hb; replace HO374 := zA HO374 hb; replace HO378 := zA HO378 hb; replace HO384 := zA HO384 hb; have BK387 := z0 (hbox); have GE387 := zG hg HB; replace HB := zH HB hb; have NB367_387 := zLt hg BK367; have NB387_367 := zGt hg BK367; replace BK367 := zK BK367 hb; clear hb hbox hg; refine hK.out _ _ (zb5 BK367.out) (fun hHeld => ?_); clear hK K; refine znm ?_; exact norm_ (by simp only [putAll, Act.put, List.setIfInBounds_toArray, List.set_cons_zero, List.set_cons_succ]) (hCont (.slice Ao71 t376.length co71, v383, gb387) _ ⟨hHeld, (zr HO374.out), (Kd.R_mono (zr HO378.out) (fun _ hk => hk.2)), (Kd.R_mono (zr HO384.out) (fun _ hk => hk.2)), (zl BK367.out), (zl BK387.out), GE387.out, GE387.out, NB367_387.out, NB387_367.out, (zb HB.out)⟩)
        ·skip
         refine box_step ?hg (N := 7) ?hd (cs := #[.string (⟨#[]⟩ : ByteArray), .string (⟨#[]⟩ : ByteArray), .string (⟨#[]⟩ : ByteArray), .slice none 0 0, .int .i64 0]) (t := 25) ?hr ?_; (case hd => rfl); (case hg => rfl); (case hr => first | (go_simp; done) | (go_simp; rfl)); intro gb387 hg w71 hbox hb; replace HO374 := zA HO374 hb; replace HO378 := zA HO378 hb; have BK387 := z0 (hbox); have GE387 := zG hg HB; replace HB := zH HB hb; have NB367_387 := zLt hg BK367; have NB387_367 := zGt hg BK367; replace BK367 := zK BK367 hb; clear hb hbox hg; obtain ⟨Ao72, co72, eo72⟩ := Kd.R_slice HO378.out; (first | subst eo72 | (injection eo72 with f1_ f2_ f3_; have f4_ := f1_.symm; have f5_ := f3_.symm; clear f1_ f2_ f3_; subst f4_; subst f5_)); refine hK.out _ _ (zb5 BK367.out) (fun hHeld => ?_); clear hK K; refine znm ?_; refine zone 4 287 (fun K hK => ?_); refine zG2 Try.func30 #[.slice Ao72 t376.length co72, .int .i64 a0_4] ?_
         with_reducible refine (impl_SieveOf.calls kj1 _ _ t376 a0_4 t379 t380 t381 t382 t385 false _ ?side1 ?side2 A24.out).mono ?_
         (case side1 => repeat (first | exact (Kd.R_reads' HO378.out).2.2 | (with_reducible refine Kd.C_alloc ?_ _) | (with_reducible refine Kd.C_drewN ?_ _) | (with_reducible refine Kd.C_drew ?_))); (case side2 => exact (Kd.R_reads' HO378.out).2.1); rintro e w73 ⟨v383, rfl, ho0, hb⟩; refine ⟨_, rfl, ?_⟩; replace HO374 := zA HO374 hb; have HO384 := z0 (Kd.R_lower (Kd.R_new' ho0 (Kd.R_lt (zr HO378.out))) (below_size (zb HB.out))); replace HO378 := z0 (Kd.R_elder' (zr HO378.out) (Kd.R_base ho0) hb); replace BK367 := zK BK367 hb; replace BK387 := zK BK387 hb; replace HB := zH HB hb; (try clear hb ho0); refine hK.out _ _ (zb5 BK367.out) (fun hHeld => ?_); clear hK K; refine znm ?_; refine zu 5 319 ?_; refine zu 6 383 ?_; refine zu 7 511 ?_; exact norm_ (by simp only [putAll, Act.put, List.setIfInBounds_toArray, List.set_cons_zero, List.set_cons_succ]) (hCont (.slice Ao72 t376.length co72, v383, gb387) _ ⟨hHeld, (zr HO374.out), (Kd.R_mono (zr HO378.out) (fun _ hk => hk.2)), (Kd.R_mono (zr HO384.out) (fun _ hk => hk.2)), (zl BK367.out), (zl BK387.out), GE387.out, GE387.out, NB367_387.out, NB387_367.out, (zb HB.out)⟩)
       ·skip
        refine box_step ?hg (N := 7) ?hd (cs := #[.string (⟨#[]⟩ : ByteArray), .string (⟨#[]⟩ : ByteArray), .string (⟨#[]⟩ : ByteArray), .slice none 0 0, .int .i64 0]) (t := 25) ?hr ?_; (case hd => rfl); (case hg => rfl); (case hr => first | (go_simp; done) | (go_simp; rfl)); intro gb387 hg w70 hbox hb; replace HO374 := zA HO374 hb; have BK387 := z0 (hbox); have GE387 := zG hg HB; replace HB := zH HB hb; have NB367_387 := zLt hg BK367; have NB387_367 := zGt hg BK367; replace BK367 := zK BK367 hb; clear hb hbox hg; refine hK.out _ _ (zb5 BK367.out) (fun hHeld => ?_); clear hK K; refine znm ?_; refine zone 1 271 (fun K hK => ?_); refine zG2 Try.func90 #[.slice Ao68 t372.length co68] ?_
        with_reducible refine (impl_texts.calls kj1 _ _ t372 t376 _ ?side1 ?side2 A23.out).mono ?_
        (case side1 => repeat (first | exact (Kd.R_reads' HO374.out).2.2 | (with_reducible refine Kd.C_alloc ?_ _) | (with_reducible refine Kd.C_drewN ?_ _) | (with_reducible refine Kd.C_drew ?_))); (case side2 => exact (Kd.R_reads' HO374.out).2.1); rintro e w71 ⟨v377, rfl, ho0, hb⟩; refine ⟨_, rfl, ?_⟩; replace HO374 := zA HO374 hb; have HO378 := z0 (Kd.R_lower ho0 (below_size (zb HB.out))); replace BK367 := zK BK367 hb; replace BK387 := zK BK387 hb; replace HB := zH HB hb; (try clear hb ho0); obtain ⟨Ao72, co72, eo72⟩ := Kd.R_slice HO378.out; (first | subst eo72 | (injection eo72 with f1_ f2_ f3_; have f4_ := f1_.symm; have f5_ := f3_.symm; clear f1_ f2_ f3_; subst f4_; subst f5_)); refine hK.out _ _ (zb5 BK367.out) (fun hHeld => ?_); clear hK K; refine znm ?_; refine zone 4 287 (fun K hK => ?_); refine zG2 Try.func30 #[.slice Ao72 t376.length co72, .int .i64 a0_4] ?_
        with_reducible refine (impl_SieveOf.calls kj1 _ _ t376 a0_4 t379 t380 t381 t382 t385 false _ ?side1 ?side2 A24.out).mono ?_
        (case side1 => repeat (first | exact (Kd.R_reads' HO378.out).2.2 | (with_reducible refine Kd.C_alloc ?_ _) | (with_reducible refine Kd.C_drewN ?_ _) | (with_reducible refine Kd.C_drew ?_))); (case side2 => exact (Kd.R_reads' HO378.out).2.1); rintro e w73 ⟨v383, rfl, ho0, hb⟩; refine ⟨_, rfl, ?_⟩; replace HO374 := zA HO374 hb; have HO384 := z0 (Kd.R_lower (Kd.R_new' ho0 (Kd.R_lt (zr HO378.out))) (below_size (zb HB.out))); replace HO378 := z0 (Kd.R_elder' (zr HO378.out) (Kd.R_base ho0) hb); replace BK367 := zK BK367 hb; replace BK387 := zK BK387 hb; replace HB := zH HB hb; (try clear hb ho0); refine hK.out _ _ (zb5 BK367.out) (fun hHeld => ?_); clear hK K; refine znm ?_; refine zu 5 319 ?_; refine zu 6 383 ?_; refine zu 7 511 ?_; exact norm_ (by simp only [putAll, Act.put, List.setIfInBounds_toArray, List.set_cons_zero, List.set_cons_succ]) (hCont (.slice Ao72 t376.length co72, v383, gb387) _ ⟨hHeld, (zr HO374.out), (Kd.R_mono (zr HO378.out) (fun _ hk => hk.2)), (Kd.R_mono (zr HO384.out) (fun _ hk => hk.2)), (zl BK367.out), (zl BK387.out), GE387.out, GE387.out, NB367_387.out, NB387_367.out, (zb HB.out)⟩)
      rintro ⟨v377, v383, gb387⟩ w74 ⟨hS_, h0_, h1_, h2_, h3_, h4_, h5_, h6_, h7_, h8_, h9_⟩; have n0_ : Aside0 (Kd.R k93 93 w74 w.heap.size (fun _ => True) (.slice Ao68 t372.length co68) t372) := ⟨h0_⟩; have n1_ : Aside0 (Kd.R Kd.string 9 w74 w.heap.size (fun k_ => some k_ ≠ (v383 : Value).ownBlock) v377 t376) := ⟨h1_⟩; have n2_ : Aside0 (Kd.R Kd.string 9 w74 w.heap.size (fun k_ => some k_ ≠ (v377 : Value).ownBlock) v383 t382) := ⟨h2_⟩; have n3_ : Aside0 (w74.heap[gb367]? = some (.cells #[.string a0_0, .string a0_1, .string a0_2, .slice A0_3 l0_3.length c0_3, .int .i64 a0_4] 25 (0, 0))) := ⟨h3_⟩; have n4_ : Aside0 (w74.heap[gb387]? = some (.cells #[.string (⟨#[]⟩ : ByteArray), .string (⟨#[]⟩ : ByteArray), .string (⟨#[]⟩ : ByteArray), .slice none 0 0, .int .i64 0] 25 (0, 0))) := ⟨h4_⟩; have n5_ : Aside0 (w.heap.size ≤ gb387) := ⟨h5_⟩; have n6_ : Aside0 (w.heap.size ≤ gb387) := ⟨h6_⟩; have n7_ : Aside0 (gb367 ≠ gb387) := ⟨h7_⟩; have n8_ : Aside0 (gb387 ≠ gb367) := ⟨h8_⟩; have n9_ : Aside0 (Below w.heap.size w w74) := ⟨h9_⟩; clear HO374; clear BK367; clear HB; clear h0_ h1_ h2_ h3_ h4_ h5_ h6_ h7_ h8_ h9_; have HO374 := n0_; have HO378 := n1_; have HO384 := n2_; have BK367 := n3_; have BK387 := n4_; have GE387 := n5_; have GE387 := n6_; have NB367_387 := n7_; have NB387_367 := n8_; have HB := n9_; clear n0_ n1_ n2_ n3_ n4_ n5_ n6_ n7_ n8_ n9_; have hHeld : w74.cell? ⟨gb367, 0, none⟩ = some (.string a0_0) ∧ w74.cell? ⟨gb367, 1, none⟩ = some (.string a0_1) ∧ w74.cell? ⟨gb367, 2, none⟩ = some (.string a0_2) ∧ w74.cell? ⟨gb367, 3, none⟩ = some (.slice A0_3 l0_3.length c0_3) ∧ w74.cell? ⟨gb367, 4, none⟩ = some (.int .i64 a0_4) := hS_; obtain ⟨Ao78, co78, eo78⟩ := Kd.R_slice HO384.out; (first | subst eo78 | (injection eo78 with f1_ f2_ f3_; have f4_ := f1_.symm; have f5_ := f3_.symm; clear f1_ f2_ f3_; subst f4_; subst f5_)); refine norm_ (a' := ?_) ?_ ?_; rotate_left
      ·simp only [putAll, Act.put, List.setIfInBounds_toArray, List.set_cons_zero, List.set_cons_succ]
       rfl
      refine zone 9 1023 (fun K hK => ?_); have hs75 : w74.cell? ⟨gb387, 0, none⟩ = some (.string (⟨#[]⟩ : ByteArray)) := (blk_cell BK387.out 0).trans rfl; have hfs75 := blk_frozen BK387.out 0; have hns75_0 := NB367_387.out; have hms75_0 := NB387_367.out; have hs76 : w74.cell? ⟨gb387, 1, none⟩ = some (.string (⟨#[]⟩ : ByteArray)) := (blk_cell BK387.out 1).trans rfl; have hfs76 := blk_frozen BK387.out 1; have hns76_0 := NB367_387.out; have hms76_0 := NB387_367.out; have hs77 : w74.cell? ⟨gb387, 2, none⟩ = some (.string (⟨#[]⟩ : ByteArray)) := (blk_cell BK387.out 2).trans rfl; have hfs77 := blk_frozen BK387.out 2; have hns77_0 := NB367_387.out; have hms77_0 := NB387_367.out; have hs79 : w74.cell? ⟨gb387, 3, none⟩ = some (.slice none 0 0) := (blk_cell BK387.out 3).trans rfl; have hfs79 := blk_frozen BK387.out 3; have hns79_0 := NB367_387.out; have hms79_0 := NB387_367.out; have hs80 : w74.cell? ⟨gb387, 4, none⟩ = some (.int .i64 0) := (blk_cell BK387.out 4).trans rfl; have hfs80 := blk_frozen BK387.out 4; have hns80_0 := NB367_387.out; have hms80_0 := NB387_367.out; refine skip_ (w1 := ?_) (by rfl) rfl ?_ ?_; rotate_left
      ·go_simp
       rfl
      refine hK.out _ _ ⟨((cell_far (p := ⟨gb387, _, none⟩) NB367_387.out _).trans (((cell_far (p := ⟨gb387, _, none⟩) NB367_387.out _).trans (((cell_far (p := ⟨gb387, _, none⟩) NB367_387.out _).trans (((cell_far (p := ⟨gb387, _, none⟩) NB367_387.out _).trans (((cell_far (p := ⟨gb387, _, none⟩) NB367_387.out _).trans (hHeld.1)))))))))), ((cell_far (p := ⟨gb387, _, none⟩) NB367_387.out _).trans (((cell_far (p := ⟨gb387, _, none⟩) NB367_387.out _).trans (((cell_far (p := ⟨gb387, _, none⟩) NB367_387.out _).trans (((cell_far (p := ⟨gb387, _, none⟩) NB367_387.out _).trans (((cell_far (p := ⟨gb387, _, none⟩) NB367_387.out _).trans (hHeld.2.1)))))))))), ((cell_far (p := ⟨gb387, _, none⟩) NB367_387.out _).trans (((cell_far (p := ⟨gb387, _, none⟩) NB367_387.out _).trans (((cell_far (p := ⟨gb387, _, none⟩) NB367_387.out _).trans (((cell_far (p := ⟨gb387, _, none⟩) NB367_387.out _).trans (((cell_far (p := ⟨gb387, _, none⟩) NB367_387.out _).trans (hHeld.2.2.1)))))))))), ((cell_far (p := ⟨gb387, _, none⟩) NB367_387.out _).trans (((cell_far (p := ⟨gb387, _, none⟩) NB367_387.out _).trans (((cell_far (p := ⟨gb387, _, none⟩) NB367_387.out _).trans (((cell_far (p := ⟨gb387, _, none⟩) NB367_387.out _).trans (((cell_far (p := ⟨gb387, _, none⟩) NB367_387.out _).trans (hHeld.2.2.2.1)))))))))), ((cell_far (p := ⟨gb387, _, none⟩) NB367_387.out _).trans (((cell_far (p := ⟨gb387, _, none⟩) NB367_387.out _).trans (((cell_far (p := ⟨gb387, _, none⟩) NB367_387.out _).trans (((cell_far (p := ⟨gb387, _, none⟩) NB367_387.out _).trans (((cell_far (p := ⟨gb387, _, none⟩) NB367_387.out _).trans (hHeld.2.2.2.2))))))))))⟩ (fun hHeld => ?_); clear hK K; refine zu 10 2047 ?_; refine done_ (done_of HT_.out (by kernel_rfl)) ?_
      try go_wp2
      go_ret2
      exact ⟨_, ze, by first | exact Kd.R_nil _ _ _ _ _ | exact Kd.N_nil _ _ _ _ _ | exact Kd.V_nil _ _ _ _ _ | exact Kd.Q_nil _ _ _ _ _ | exact Kd.S_nil _ _ _ _ _, zb HB.out⟩
    ·replace c22 := Bool.eq_false_iff.mpr c22; subst c22
     have H1 : (some (([] : List (S93)), false)) = some (r1, r2) := by rw [if_neg (show ¬ (false = true) by decide)] at H; exact H
     clear H; have H := H1; clear H1; simp only [Option.some.injEq, Prod.mk.injEq] at H; obtain ⟨rfl, rfl⟩ := H; have hcz81 := zc5 BK367.out
     go_wp2_with (first | ((with_reducible refine gc 118 ?_); refine zL (some 52) Try.func118 #[.agg #[.string a0_0, .string a0_1, .string a0_2, .slice A0_3 l0_3.length c0_3, .int .i64 a0_4], .int .i64 0, .string (⟨#[]⟩ : ByteArray), .slice none 0 0] ?_; (refine (impl_Sieve_parts.calls kj1 a0_0 a0_1 a0_2 _ _ l0_3 a0_4 0 (⟨#[]⟩ : ByteArray) (fun k_ => some k_ = (.slice none 0 0 : Value).ownBlock) (.slice none 0 0) ([] : List (S93)) t372 false w _ ?side1 ?side2 ?side3 ?side4 A21.out).mono ?_); (case side1 => repeat (first | (with_reducible first | exact HB.out | apply below_alloc | apply pw_below_drewN | apply below_drew1 | refine below_set ?_ GE367.out) | exact HB.out)); (case side2 => exact Kd.C_kept_came Kd.heap_string HR0_3.out (zb HB.out) (fun k_ hs_ => (fun e_ => by simp [Value.ownBlock] at e_) hs_)); (case side3 => exact HC0_3.out); (case side4 => exact Kd.R_nil _ _ _ _ _); rintro e w82 ⟨v373, rfl, ho0, hb, hkp⟩; refine ⟨_, rfl, ?_⟩; replace BK367 := z0 (blk_kept (zl BK367.out) hkp (fun hs_ => (fun e_ => by simp [Value.ownBlock] at e_) hs_)); have HO374 := z0 (Kd.R_mono (ok' := fun k_ => True) ho0 (fun k_ hk_ => trivial)); replace HB := z0 (hb); (try clear hb); (try clear hkp); (try clear ho0)))
     go_ret2
     exact ⟨_, ze, by first | exact Kd.R_nil _ _ _ _ _ | exact Kd.N_nil _ _ _ _ _ | exact Kd.V_nil _ _ _ _ _ | exact Kd.Q_nil _ _ _ _ _ | exact Kd.S_nil _ _ _ _ _, zb HB.out⟩
end Go.Proofs.Ytifgcajpkgamgaa.Q
end
section
namespace Go.Proofs.Ytifgcajpkgamgaa.Q
open Go.RowKit Go.Proofs.YtifgcajpkgamgaaW.PrintWords Go.Proofs.YtifgcajpkgamgaaW.PrintLast Go.Proofs.YtifgcajpkgamgaaW.PrintMore
attribute [local go_sem] max2_int min2_int max_two min_two max_three min_three max_four min_four   
set_option linter.unusedVariables false
set_option linter.unusedSimpArgs false
theorem impl_SieveHeads.mono : ∀ a0 a1 a2 a3 a4 k, LeO (impl_SieveHeads.f k a0 a1 a2 a3 a4) (impl_SieveHeads.f (k + 1) a0 a1 a2 a3 a4) := by
  intro a0 a1 a2 a3 a4 k
  unfold impl_SieveHeads.f
  repeat' first
      | (with_reducible exact impl_Sieve_heads.mono _ _ _ _ _ _)
      | (with_reducible exact impl_texts.mono _ _)
      | (with_reducible exact LeO.refl _)
      | (with_reducible exact LeO.none _)
      | (with_reducible refine LeO.ite ?_ ?_)
      | (with_reducible refine LeO.bind ?_ (fun _ => ?_))
      | exact impl_Sieve_heads.mono _ _ _ _ _ _
      | exact impl_texts.mono _ _
      | exact LeO.none _
      | refine LeO.ite ?_ ?_
      | refine LeO.bind ?_ (fun _ => ?_)
set_option maxHeartbeats 8000000 in
set_option maxRecDepth 100000 in
theorem impl_SieveHeads.calls (k : Nat) (a0_0 : ByteArray) (a0_1 : ByteArray) (a0_2 : ByteArray) (A0_3 : Option Addr) (c0_3 : Nat) (l0_3 : List ByteArray) (a0_4 : Int) (r : List ByteArray) (w : World) (hr0_3 : Kd.C Kd.string w A0_3 l0_3.length l0_3) (hc0_3 : l0_3.length ≤ c0_3) (h : impl_SieveHeads.f k a0_0 a0_1 a0_2 l0_3 a0_4 = some r) :
    Calls Try.prog 41 #[.agg #[.string a0_0, .string a0_1, .string a0_2, .slice A0_3 l0_3.length c0_3, .int .i64 a0_4]] w fun e w' => ∃ v0_ : Value, e = .returned (v0_) ∧ Kd.R Kd.string 9 w' w.heap.size (fun _ => True) v0_ r ∧ Below w.heap.size w w' := by
 have hu25 := Try.underlying25; have HR0_3 := Aside0.mk hr0_3; have HC0_3 := Aside0.mk hc0_3; clear hr0_3 hc0_3; have HB := z0 (Below.refl w.heap.size w); have H : ((impl_Sieve_heads.f k a0_0 a0_1 a0_2 l0_3 a0_4).bind fun bt870 => ((impl_texts.f k bt870.1).bind fun t874 => (some t874))) = some r := h; clear h; replace H := zi H; obtain ⟨⟨t870, t873⟩, A2, H⟩ := H; (try dsimp only at H); replace H := zi H; obtain ⟨t874, A3, H⟩ := H; obtain rfl := Option.some.inj H; go_enter Try.func41, Try.ntmps41
 go_wp2_with (first | ((with_reducible refine gd 1 ?_); refine box_event zh (N := 1) zh (cs := #[.string a0_0, .string a0_1, .string a0_2, .slice A0_3 l0_3.length c0_3, .int .i64 a0_4]) (t := 25) zg ?_; intro gb869 hg w4 hbox hb; have BK869 := z0 (hbox); have GE869 := zG hg HB; replace HB := zH HB hb; clear hb hbox hg; have hcz5 := zc5 BK869.out) | ((with_reducible refine gc 89 ?_); refine zL (some 7) Try.func89 #[.agg #[.string a0_0, .string a0_1, .string a0_2, .slice A0_3 l0_3.length c0_3, .int .i64 a0_4]] ?_; (with_reducible refine (impl_Sieve_heads.calls k a0_0 a0_1 a0_2 _ _ l0_3 a0_4 t870 t873 _ (zC (Kd.C_below HR0_3.out HB.out)) HC0_3.out A2.out).mono ?_); rintro e w6 ⟨v871, rfl, ho0, hb⟩; refine zv ?_; have HO872 := z0 (Kd.R_lower ho0 (below_size (zb HB.out))); replace BK869 := zK BK869 hb; replace HB := zH HB hb; (try clear hb ho0); obtain ⟨Ao7, co7, eo7⟩ := Kd.R_slice HO872.out; subst eo7) | ((with_reducible refine gc 90 ?_); refine zL (some 11) Try.func90 #[.slice Ao7 t870.length co7] ?_; (with_reducible refine (impl_texts.calls k _ _ t870 t874 _ (zC ((Kd.R_reads' HO872.out).2.2)) ((Kd.R_reads' HO872.out).2.1) A3.out).mono ?_); rintro e w8 ⟨v875, rfl, ho0, hb⟩; refine zv ?_; replace HO872 := zA HO872 hb; have HO876 := z0 (Kd.R_lower ho0 (below_size (zb HB.out))); replace BK869 := zK BK869 hb; replace HB := zH HB hb; (try clear hb ho0)))
 go_ret; exact ⟨_, ze, zr HO876.out, zb HB.out⟩
end Go.Proofs.Ytifgcajpkgamgaa.Q
end
section
namespace Go.Proofs.Ytifgcajpkgamgaa.Q
open Go.RowKit Go.Proofs.YtifgcajpkgamgaaW.PrintWords Go.Proofs.YtifgcajpkgamgaaW.PrintLast Go.Proofs.YtifgcajpkgamgaaW.PrintMore
attribute [local go_sem] max2_int min2_int max_two min_two max_three min_three max_four min_four   
set_option linter.unusedVariables false
set_option linter.unusedSimpArgs false
theorem laws_FnSieveApart.mono_l : ∀ k, (∀ y0 y1 y2 y3 y4 y5 y6 y7 y8 y9 y10 y11 y12 y13, LeO (laws_FnSieveApart.j0 k y0 y1 y2 y3 y4 y5 y6 y7 y8 y9 y10 y11 y12 y13) (laws_FnSieveApart.j0 (k + 1) y0 y1 y2 y3 y4 y5 y6 y7 y8 y9 y10 y11 y12 y13)) ∧ (∀ y0 y1 y2, LeO (laws_FnSieveApart.l0 k y0 y1 y2) (laws_FnSieveApart.l0 (k + 1) y0 y1 y2)) ∧ (∀ y0 y1 y2 y3, LeO (laws_FnSieveApart.l1 k y0 y1 y2 y3) (laws_FnSieveApart.l1 (k + 1) y0 y1 y2 y3))
  | 0 => ⟨fun _ _ _ _ _ _ _ _ _ _ _ _ _ _ r h => by simp [laws_FnSieveApart.j0] at h, fun _ _ _ r h => by simp [laws_FnSieveApart.l0] at h, fun _ _ _ _ r h => by simp [laws_FnSieveApart.l1] at h⟩
  | k + 1 => by
    obtain ⟨ih0, ih1, ih2⟩ := laws_FnSieveApart.mono_l k
    refine ⟨?_, ?_, ?_⟩
    · intro y0 y1 y2 y3 y4 y5 y6 y7 y8 y9 y10 y11 y12 y13
      unfold laws_FnSieveApart.j0
      repeat' first
      | (with_reducible exact ih0 _ _ _ _ _ _ _ _ _ _ _ _ _ _)
      | (with_reducible exact ih1 _ _ _)
      | (with_reducible exact ih2 _ _ _ _)
      | (with_reducible exact impl_SieveHeads.mono _ _ _ _ _ _)
      | (with_reducible exact impl_SieveOf.mono _ _ _)
      | (with_reducible exact laws_ltSieve.mono _ _ _ _ _ _ _ _ _ _ _)
      | (with_reducible exact spec_DrawSieveOf.mono _ _)
      | (with_reducible exact spec_SieveOf.mono _ _ _)
      | (with_reducible exact LeO.refl _)
      | (with_reducible exact LeO.none _)
      | (with_reducible refine LeO.ite ?_ ?_)
      | (with_reducible refine LeO.bind ?_ (fun _ => ?_))
      | exact ih0 _ _ _ _ _ _ _ _ _ _ _ _ _ _
      | exact ih1 _ _ _
      | exact ih2 _ _ _ _
      | exact impl_SieveHeads.mono _ _ _ _ _ _
      | exact impl_SieveOf.mono _ _ _
      | exact laws_ltSieve.mono _ _ _ _ _ _ _ _ _ _ _
      | exact spec_DrawSieveOf.mono _ _
      | exact spec_SieveOf.mono _ _ _
      | exact LeO.none _
      | refine LeO.ite ?_ ?_
      | refine LeO.bind ?_ (fun _ => ?_)
    · intro y0 y1 y2
      unfold laws_FnSieveApart.l0
      repeat' first
      | (with_reducible exact ih0 _ _ _ _ _ _ _ _ _ _ _ _ _ _)
      | (with_reducible exact ih1 _ _ _)
      | (with_reducible exact ih2 _ _ _ _)
      | (with_reducible exact impl_SieveHeads.mono _ _ _ _ _ _)
      | (with_reducible exact impl_SieveOf.mono _ _ _)
      | (with_reducible exact laws_ltSieve.mono _ _ _ _ _ _ _ _ _ _ _)
      | (with_reducible exact spec_DrawSieveOf.mono _ _)
      | (with_reducible exact spec_SieveOf.mono _ _ _)
      | (with_reducible exact LeO.refl _)
      | (with_reducible exact LeO.none _)
      | (with_reducible refine LeO.ite ?_ ?_)
      | (with_reducible refine LeO.bind ?_ (fun _ => ?_))
      | exact ih0 _ _ _ _ _ _ _ _ _ _ _ _ _ _
      | exact ih1 _ _ _
      | exact ih2 _ _ _ _
      | exact impl_SieveHeads.mono _ _ _ _ _ _
      | exact impl_SieveOf.mono _ _ _
      | exact laws_ltSieve.mono _ _ _ _ _ _ _ _ _ _ _
      | exact spec_DrawSieveOf.mono _ _
      | exact spec_SieveOf.mono _ _ _
      | exact LeO.none _
      | refine LeO.ite ?_ ?_
      | refine LeO.bind ?_ (fun _ => ?_)
    · intro y0 y1 y2 y3
      unfold laws_FnSieveApart.l1
      repeat' first
      | (with_reducible exact ih0 _ _ _ _ _ _ _ _ _ _ _ _ _ _)
      | (with_reducible exact ih1 _ _ _)
      | (with_reducible exact ih2 _ _ _ _)
      | (with_reducible exact impl_SieveHeads.mono _ _ _ _ _ _)
      | (with_reducible exact impl_SieveOf.mono _ _ _)
      | (with_reducible exact laws_ltSieve.mono _ _ _ _ _ _ _ _ _ _ _)
      | (with_reducible exact spec_DrawSieveOf.mono _ _)
      | (with_reducible exact spec_SieveOf.mono _ _ _)
      | (with_reducible exact LeO.refl _)
      | (with_reducible exact LeO.none _)
      | (with_reducible refine LeO.ite ?_ ?_)
      | (with_reducible refine LeO.bind ?_ (fun _ => ?_))
      | exact ih0 _ _ _ _ _ _ _ _ _ _ _ _ _ _
      | exact ih1 _ _ _
      | exact ih2 _ _ _ _
      | exact impl_SieveHeads.mono _ _ _ _ _ _
      | exact impl_SieveOf.mono _ _ _
      | exact laws_ltSieve.mono _ _ _ _ _ _ _ _ _ _ _
      | exact spec_DrawSieveOf.mono _ _
      | exact spec_SieveOf.mono _ _ _
      | exact LeO.none _
      | refine LeO.ite ?_ ?_
      | refine LeO.bind ?_ (fun _ => ?_)
theorem laws_FnSieveApart.mono : ∀ a0 k, LeO (laws_FnSieveApart.f k a0) (laws_FnSieveApart.f (k + 1) a0) := by
  intro a0 k
  obtain ⟨ih0, ih1, ih2⟩ := laws_FnSieveApart.mono_l k
  unfold laws_FnSieveApart.f
  repeat' first
      | (with_reducible exact ih0 _ _ _ _ _ _ _ _ _ _ _ _ _ _)
      | (with_reducible exact ih1 _ _ _)
      | (with_reducible exact ih2 _ _ _ _)
      | (with_reducible exact impl_SieveHeads.mono _ _ _ _ _ _)
      | (with_reducible exact impl_SieveOf.mono _ _ _)
      | (with_reducible exact laws_ltSieve.mono _ _ _ _ _ _ _ _ _ _ _)
      | (with_reducible exact spec_DrawSieveOf.mono _ _)
      | (with_reducible exact spec_SieveOf.mono _ _ _)
      | (with_reducible exact LeO.refl _)
      | (with_reducible exact LeO.none _)
      | (with_reducible refine LeO.ite ?_ ?_)
      | (with_reducible refine LeO.bind ?_ (fun _ => ?_))
      | exact ih0 _ _ _ _ _ _ _ _ _ _ _ _ _ _
      | exact ih1 _ _ _
      | exact ih2 _ _ _ _
      | exact impl_SieveHeads.mono _ _ _ _ _ _
      | exact impl_SieveOf.mono _ _ _
      | exact laws_ltSieve.mono _ _ _ _ _ _ _ _ _ _ _
      | exact spec_DrawSieveOf.mono _ _
      | exact spec_SieveOf.mono _ _ _
      | exact LeO.none _
      | refine LeO.ite ?_ ?_
      | refine LeO.bind ?_ (fun _ => ?_)
set_option maxHeartbeats 8000000 in
set_option maxRecDepth 100000 in
theorem laws_FnSieveApart.calls (k : Nat) (A0 : Option Addr) (c0 : Nat) (l0 : List Int) (r : Bool) (w : World) (hr0 : Kd.C (Kd.int .u8) w A0 l0.length l0) (hc0 : l0.length ≤ c0) (h : laws_FnSieveApart.f k l0 = some r) :
    Calls Try.prog 6 #[.slice A0 l0.length c0] w fun e w' => e = .returned (.bool r) ∧ Below w.heap.size w w' := by
 have hu25 := Try.underlying25; have HR0 := Aside0.mk hr0; have HC0 := Aside0.mk hc0; clear hr0 hc0; have HB := z0 (Below.refl w.heap.size w); have H : (if (l0.length : Int) > 1048576 then (some true) else ((spec_DrawSieveOf.f k l0).bind fun bt877 => ((spec_SieveOf.f k bt877.1 bt877.2).bind fun bt881 => ((impl_SieveOf.f k bt877.1 bt877.2).bind fun bt890 => (if (bt890.2.2.2.2.2 != bt881.2.2.2.2.2) = true then (laws_FnSieveApart.j0 k bt877.1 bt881.2.2.2.2.2 bt890.2.2.2.2.2 true bt881.1 bt881.2.1 bt881.2.2.1 bt881.2.2.2.1 bt881.2.2.2.2.1 bt890.1 bt890.2.1 bt890.2.2.1 bt890.2.2.2.1 bt890.2.2.2.2.1) else ((laws_ltSieve.f k bt890.1 bt890.2.1 bt890.2.2.1 bt890.2.2.2.1 bt890.2.2.2.2.1 bt881.1 bt881.2.1 bt881.2.2.1 bt881.2.2.2.1 bt881.2.2.2.2.1).bind fun t899 => (if t899 = true then (laws_FnSieveApart.j0 k bt877.1 bt881.2.2.2.2.2 bt890.2.2.2.2.2 (!bt890.2.2.2.2.2) bt881.1 bt881.2.1 bt881.2.2.1 bt881.2.2.2.1 bt881.2.2.2.2.1 bt890.1 bt890.2.1 bt890.2.2.1 bt890.2.2.2.1 bt890.2.2.2.2.1) else (laws_FnSieveApart.j0 k bt877.1 bt881.2.2.2.2.2 bt890.2.2.2.2.2 true bt881.1 bt881.2.1 bt881.2.2.1 bt881.2.2.2.1 bt881.2.2.2.2.1 bt890.1 bt890.2.1 bt890.2.2.1 bt890.2.2.2.1 bt890.2.2.2.2.1)))))))) = some r := h; clear h
 by_cases c2 : (l0.length : Int) > 1048576
 ·rw [if_pos c2] at H; have c2b0 : decide (1048576 < (l0.length : Int)) = true := decide_eq_true c2; have c2b1 : decide (1048576 < l0.length) = true := decide_eq_true (by omega); clear c2; obtain rfl := Option.some.inj H; go_enter Try.func6, Try.ntmps6; go_wp2
  repeat (go_quiet (fail); try go_wp2)
  go_ret; exact ⟨ze, zb HB.out⟩
 ·rw [if_neg c2] at H; have c2b0 : decide (1048576 < (l0.length : Int)) = false := decide_eq_false c2; have c2b1 : decide (1048576 < l0.length) = false := decide_eq_false (by omega); clear c2; replace H := zi H; obtain ⟨⟨t877, t878⟩, A3, H⟩ := H; (try dsimp only at H); replace H := zi H; obtain ⟨⟨t881, t882, t883, t884, t887, t888⟩, A4, H⟩ := H; (try dsimp only at H); replace H := zi H; obtain ⟨⟨t890, t891, t892, t893, t896, t897⟩, A5, H⟩ := H; (try dsimp only at H); have HC6 := Aside0.mk H; clear H; go_enter Try.func6, Try.ntmps6
  go_upto_region 6 with (first | (go_at_call 34; (with_reducible refine (spec_DrawSieveOf.calls k _ _ l0 t877 t878 _ ?side1 ?side2 A3.out).mono ?_); (case side1 => repeat (first | exact HR0.out | (with_reducible refine Kd.C_alloc ?_ _) | (with_reducible refine Kd.C_drewN ?_ _) | (with_reducible refine Kd.C_drew ?_))); (case side2 => exact HC0.out); rintro e w7 ⟨v879, rfl, ho0, hb⟩; have HO880 := z0 (Kd.R_lower ho0 (below_size (zb HB.out))); replace HB := zH HB hb; (try clear hb ho0); obtain ⟨Ao8, co8, eo8⟩ := Kd.R_slice HO880.out; subst eo8) | (go_at_call 36; (with_reducible refine (spec_SieveOf.calls k (fun k_ => some k_ = (.slice Ao8 t877.length co8 : Value).ownBlock) _ _ t877 t878 t881 t882 t883 t884 t887 t888 _ ?side1 A4.out).mono ?_); (case side1 => exact Kd.R_V (Kd.R_tight rfl (HO880.out))); rintro e w9 ⟨v885, rfl, ho0, hb⟩; have HO886 := z0 (Kd.R_lower (Kd.R_new' (Kd.R_mono (ok' := fun k_ => True) ho0 (fun _ hk_ => trivial)) (Kd.R_lt (zr HO880.out))) (below_size (zb HB.out))); replace HO880 := z0 (Kd.R_elder' (zr HO880.out) (Kd.R_base ho0) hb); replace HB := zH HB hb; (try clear hb ho0)) | ((with_reducible refine gd 5 ?_); refine box_event zh (N := 5) zh (cs := #[.string (⟨#[]⟩ : ByteArray), .string (⟨#[]⟩ : ByteArray), .string (⟨#[]⟩ : ByteArray), .slice none 0 0, .int .i64 0]) (t := 25) zg ?_; intro gb889 hg w10 hbox hb; replace HO880 := zA HO880 hb; replace HO886 := zA HO886 hb; have BK889 := z0 (hbox); have GE889 := zG hg HB; replace HB := zH HB hb; clear hb hbox hg; have hcz11 := zc5 BK889.out; obtain ⟨Ao12, co12, eo12⟩ := Kd.R_slice HO886.out; subst eo12) | (go_at_call 30; (with_reducible refine (impl_SieveOf.calls k _ _ t877 t878 t890 t891 t892 t893 t896 t897 _ ?side1 ?side2 A5.out).mono ?_); (case side1 => refine (Kd.R_reads' (e := 9) (base := w.heap.size) (ok := fun k_ => (True ∧ some k_ ≠ (.slice Ao12 t884.length co12 : Value).ownBlock)) (n := t877.length) (c := co8) ?_).2.2; exact (zs HO880.out BK889.out)); (case side2 => exact (Kd.R_reads' HO880.out).2.1); rintro e w13 ⟨v894, rfl, ho0, hb⟩; have HO895 := z0 (Kd.R_lower (Kd.R_new' (Kd.R_new' ho0 (Kd.R_lt (zs HO880.out BK889.out))) (Kd.R_lt (zs HO886.out BK889.out))) (below_size (zb HB.out))); replace HO880 := z0 (Kd.R_elder' (zs HO880.out BK889.out) (Kd.R_base ho0) hb); replace HO886 := z0 (Kd.R_elder' (zs HO886.out BK889.out) (Kd.R_base ho0) hb); replace BK889 := z0 (blk_below (zpc BK889.out #[.string t881, .string t882, .string t883, .slice Ao12 t884.length co12, .int .i64 t887]) hb); replace HB := zH HB hb; (try clear hb ho0)) | ((with_reducible refine gd 7 ?_); refine box_event zh (N := 7) zh (cs := #[.string (⟨#[]⟩ : ByteArray), .string (⟨#[]⟩ : ByteArray), .string (⟨#[]⟩ : ByteArray), .slice none 0 0, .int .i64 0]) (t := 25) zg ?_; intro gb898 hg w14 hbox hb; replace HO880 := zA HO880 hb; replace HO886 := zA HO886 hb; replace HO895 := zA HO895 hb; have BK898 := z0 (hbox); have GE898 := zG hg HB; replace HB := zH HB hb; have NB889_898 := zLt hg BK889; have NB898_889 := zGt hg BK889; replace BK889 := zK BK889 hb; clear hb hbox hg; have hnb15 := NB898_889.out; have hnc15 := NB889_898.out; have hcz16 := zc5 BK898.out; obtain ⟨Ao17, co17, eo17⟩ := Kd.R_slice HO895.out; subst eo17))
  repeat (go_quiet (first | (go_at_call 34; (with_reducible refine (spec_DrawSieveOf.calls k _ _ l0 t877 t878 _ ?side1 ?side2 A3.out).mono ?_); (case side1 => repeat (first | exact HR0.out | (with_reducible refine Kd.C_alloc ?_ _) | (with_reducible refine Kd.C_drewN ?_ _) | (with_reducible refine Kd.C_drew ?_))); (case side2 => exact HC0.out); rintro e w7 ⟨v879, rfl, ho0, hb⟩; have HO880 := z0 (Kd.R_lower ho0 (below_size (zb HB.out))); replace HB := zH HB hb; (try clear hb ho0); obtain ⟨Ao8, co8, eo8⟩ := Kd.R_slice HO880.out; subst eo8) | (go_at_call 36; (with_reducible refine (spec_SieveOf.calls k (fun k_ => some k_ = (.slice Ao8 t877.length co8 : Value).ownBlock) _ _ t877 t878 t881 t882 t883 t884 t887 t888 _ ?side1 A4.out).mono ?_); (case side1 => exact Kd.R_V (Kd.R_tight rfl (HO880.out))); rintro e w9 ⟨v885, rfl, ho0, hb⟩; have HO886 := z0 (Kd.R_lower (Kd.R_new' (Kd.R_mono (ok' := fun k_ => True) ho0 (fun _ hk_ => trivial)) (Kd.R_lt (zr HO880.out))) (below_size (zb HB.out))); replace HO880 := z0 (Kd.R_elder' (zr HO880.out) (Kd.R_base ho0) hb); replace HB := zH HB hb; (try clear hb ho0)) | ((with_reducible refine gd 5 ?_); refine box_event zh (N := 5) zh (cs := #[.string (⟨#[]⟩ : ByteArray), .string (⟨#[]⟩ : ByteArray), .string (⟨#[]⟩ : ByteArray), .slice none 0 0, .int .i64 0]) (t := 25) zg ?_; intro gb889 hg w10 hbox hb; replace HO880 := zA HO880 hb; replace HO886 := zA HO886 hb; have BK889 := z0 (hbox); have GE889 := zG hg HB; replace HB := zH HB hb; clear hb hbox hg; have hcz11 := zc5 BK889.out; obtain ⟨Ao12, co12, eo12⟩ := Kd.R_slice HO886.out; subst eo12) | (go_at_call 30; (with_reducible refine (impl_SieveOf.calls k _ _ t877 t878 t890 t891 t892 t893 t896 t897 _ ?side1 ?side2 A5.out).mono ?_); (case side1 => refine (Kd.R_reads' (e := 9) (base := w.heap.size) (ok := fun k_ => (True ∧ some k_ ≠ (.slice Ao12 t884.length co12 : Value).ownBlock)) (n := t877.length) (c := co8) ?_).2.2; exact (zs HO880.out BK889.out)); (case side2 => exact (Kd.R_reads' HO880.out).2.1); rintro e w13 ⟨v894, rfl, ho0, hb⟩; have HO895 := z0 (Kd.R_lower (Kd.R_new' (Kd.R_new' ho0 (Kd.R_lt (zs HO880.out BK889.out))) (Kd.R_lt (zs HO886.out BK889.out))) (below_size (zb HB.out))); replace HO880 := z0 (Kd.R_elder' (zs HO880.out BK889.out) (Kd.R_base ho0) hb); replace HO886 := z0 (Kd.R_elder' (zs HO886.out BK889.out) (Kd.R_base ho0) hb); replace BK889 := z0 (blk_below (zpc BK889.out #[.string t881, .string t882, .string t883, .slice Ao12 t884.length co12, .int .i64 t887]) hb); replace HB := zH HB hb; (try clear hb ho0)) | ((with_reducible refine gd 7 ?_); refine box_event zh (N := 7) zh (cs := #[.string (⟨#[]⟩ : ByteArray), .string (⟨#[]⟩ : ByteArray), .string (⟨#[]⟩ : ByteArray), .slice none 0 0, .int .i64 0]) (t := 25) zg ?_; intro gb898 hg w14 hbox hb; replace HO880 := zA HO880 hb; replace HO886 := zA HO886 hb; replace HO895 := zA HO895 hb; have BK898 := z0 (hbox); have GE898 := zG hg HB; replace HB := zH HB hb; have NB889_898 := zLt hg BK889; have NB898_889 := zGt hg BK889; replace BK889 := zK BK889 hb; clear hb hbox hg; have hnb15 := NB898_889.out; have hnc15 := NB889_898.out; have hcz16 := zc5 BK898.out; obtain ⟨Ao17, co17, eo17⟩ := Kd.R_slice HO895.out; subst eo17)); go_upto_region 6 with (first | (go_at_call 34; (with_reducible refine (spec_DrawSieveOf.calls k _ _ l0 t877 t878 _ ?side1 ?side2 A3.out).mono ?_); (case side1 => repeat (first | exact HR0.out | (with_reducible refine Kd.C_alloc ?_ _) | (with_reducible refine Kd.C_drewN ?_ _) | (with_reducible refine Kd.C_drew ?_))); (case side2 => exact HC0.out); rintro e w7 ⟨v879, rfl, ho0, hb⟩; have HO880 := z0 (Kd.R_lower ho0 (below_size (zb HB.out))); replace HB := zH HB hb; (try clear hb ho0); obtain ⟨Ao8, co8, eo8⟩ := Kd.R_slice HO880.out; subst eo8) | (go_at_call 36; (with_reducible refine (spec_SieveOf.calls k (fun k_ => some k_ = (.slice Ao8 t877.length co8 : Value).ownBlock) _ _ t877 t878 t881 t882 t883 t884 t887 t888 _ ?side1 A4.out).mono ?_); (case side1 => exact Kd.R_V (Kd.R_tight rfl (HO880.out))); rintro e w9 ⟨v885, rfl, ho0, hb⟩; have HO886 := z0 (Kd.R_lower (Kd.R_new' (Kd.R_mono (ok' := fun k_ => True) ho0 (fun _ hk_ => trivial)) (Kd.R_lt (zr HO880.out))) (below_size (zb HB.out))); replace HO880 := z0 (Kd.R_elder' (zr HO880.out) (Kd.R_base ho0) hb); replace HB := zH HB hb; (try clear hb ho0)) | ((with_reducible refine gd 5 ?_); refine box_event zh (N := 5) zh (cs := #[.string (⟨#[]⟩ : ByteArray), .string (⟨#[]⟩ : ByteArray), .string (⟨#[]⟩ : ByteArray), .slice none 0 0, .int .i64 0]) (t := 25) zg ?_; intro gb889 hg w10 hbox hb; replace HO880 := zA HO880 hb; replace HO886 := zA HO886 hb; have BK889 := z0 (hbox); have GE889 := zG hg HB; replace HB := zH HB hb; clear hb hbox hg; have hcz11 := zc5 BK889.out; obtain ⟨Ao12, co12, eo12⟩ := Kd.R_slice HO886.out; subst eo12) | (go_at_call 30; (with_reducible refine (impl_SieveOf.calls k _ _ t877 t878 t890 t891 t892 t893 t896 t897 _ ?side1 ?side2 A5.out).mono ?_); (case side1 => refine (Kd.R_reads' (e := 9) (base := w.heap.size) (ok := fun k_ => (True ∧ some k_ ≠ (.slice Ao12 t884.length co12 : Value).ownBlock)) (n := t877.length) (c := co8) ?_).2.2; exact (zs HO880.out BK889.out)); (case side2 => exact (Kd.R_reads' HO880.out).2.1); rintro e w13 ⟨v894, rfl, ho0, hb⟩; have HO895 := z0 (Kd.R_lower (Kd.R_new' (Kd.R_new' ho0 (Kd.R_lt (zs HO880.out BK889.out))) (Kd.R_lt (zs HO886.out BK889.out))) (below_size (zb HB.out))); replace HO880 := z0 (Kd.R_elder' (zs HO880.out BK889.out) (Kd.R_base ho0) hb); replace HO886 := z0 (Kd.R_elder' (zs HO886.out BK889.out) (Kd.R_base ho0) hb); replace BK889 := z0 (blk_below (zpc BK889.out #[.string t881, .string t882, .string t883, .slice Ao12 t884.length co12, .int .i64 t887]) hb); replace HB := zH HB hb; (try clear hb ho0)) | ((with_reducible refine gd 7 ?_); refine box_event zh (N := 7) zh (cs := #[.string (⟨#[]⟩ : ByteArray), .string (⟨#[]⟩ : ByteArray), .string (⟨#[]⟩ : ByteArray), .slice none 0 0, .int .i64 0]) (t := 25) zg ?_; intro gb898 hg w14 hbox hb; replace HO880 := zA HO880 hb; replace HO886 := zA HO886 hb; replace HO895 := zA HO895 hb; have BK898 := z0 (hbox); have GE898 := zG hg HB; replace HB := zH HB hb; have NB889_898 := zLt hg BK889; have NB898_889 := zGt hg BK889; replace BK889 := zK BK889 hb; clear hb hbox hg; have hnb15 := NB898_889.out; have hnc15 := NB889_898.out; have hcz16 := zc5 BK898.out; obtain ⟨Ao17, co17, eo17⟩ := Kd.R_slice HO895.out; subst eo17)))
  (try simp only [Act.put, List.setIfInBounds_toArray, List.set_cons_zero, List.set_cons_succ])
  go_cut [44] (fun v44 wc => ∃ (kq : Nat) (x44_5 : Bool), v44 = .bool x44_5 ∧ Aside0 (laws_FnSieveApart.j0 kq t877 t888 t897 x44_5 t881 t882 t883 t884 t887 t890 t891 t892 t893 t896 = some r) ∧ Aside0 (kq ≤ k) ∧ Aside0 (Kd.R Kd.string 9 wc w.heap.size (fun k_ => some k_ ≠ ((.slice Ao12 t884.length co12) : Value).ownBlock ∧ some k_ ≠ ((.slice Ao17 t893.length co17) : Value).ownBlock) (.slice Ao8 t877.length co8) t877) ∧ Aside0 (Kd.R Kd.string 9 wc w.heap.size (fun k_ => some k_ ≠ ((.slice Ao8 t877.length co8) : Value).ownBlock ∧ some k_ ≠ ((.slice Ao17 t893.length co17) : Value).ownBlock) (.slice Ao12 t884.length co12) t884) ∧ Aside0 (Kd.R Kd.string 9 wc w.heap.size (fun k_ => some k_ ≠ ((.slice Ao8 t877.length co8) : Value).ownBlock ∧ some k_ ≠ ((.slice Ao12 t884.length co12) : Value).ownBlock) (.slice Ao17 t893.length co17) t893) ∧ Aside0 (wc.heap[gb889]? = some (.cells #[.string t881, .string t882, .string t883, (.slice Ao12 t884.length co12), .int .i64 t887] 25 (0, 0))) ∧ Aside0 (wc.heap[gb898]? = some (.cells #[.string t890, .string t891, .string t892, (.slice Ao17 t893.length co17), .int .i64 t896] 25 (0, 0))) ∧ Aside0 (Below w.heap.size w wc))
  case first =>
   have H := HC6.out; clear HC6
   by_cases c18 : (t897 != t888) = true
   ·rw [if_pos c18] at H; have c18b0 : (t897 != t888) = true := c18; (try (have c18b1 : decide (t897 = t888) = false := by simpa using c18)); (try (have c18b2 : (t897 == t888) = false := by simpa using c18)); (try (have c18b3 : ¬ (t897 = t888) := by simpa using c18)); clear c18; (first | rw [c18b0] | (simp only [i64_w, i32_w]; rw [c18b0]) | simp only [*, Bool.not_true, Bool.not_false] | skip); have H' := Aside0.mk H; clear H; go_wp2
    repeat (go_quiet (fail); try go_wp2)
    go_meet
    case rel => exact ⟨_, (true), zf, H', ⟨by first | omega | exact Nat.le_refl _⟩, ⟨Kd.R_mono (zt HO880.out BK898.out) (fun _ hk => ⟨hk.1.1.2, hk.1.2⟩)⟩, ⟨Kd.R_mono (zt HO886.out BK898.out) (fun _ hk => ⟨hk.1.1.2, hk.1.2⟩)⟩, ⟨Kd.R_mono (zt HO895.out BK898.out) (fun _ hk => ⟨hk.1.1.2, hk.1.2⟩)⟩, ⟨zy BK889.out⟩, ⟨zp BK898.out⟩, ⟨zb HB.out⟩⟩
   ·rw [if_neg c18] at H
    have c18b0 : (t897 != t888) = false := by simpa using c18
    (try (have c18b1 : decide (t897 = t888) = true := by simpa using c18)); (try (have c18b2 : (t897 == t888) = true := by simpa using c18)); clear c18; (first | rw [c18b0] | (simp only [i64_w, i32_w]; rw [c18b0]) | simp only [*, Bool.not_true, Bool.not_false] | skip); replace H := zi H; obtain ⟨t899, A19, H⟩ := H
    by_cases c20 : t899 = true
    ·subst c20
     have H1 : (laws_FnSieveApart.j0 k t877 t888 t897 (!t897) t881 t882 t883 t884 t887 t890 t891 t892 t893 t896) = some r := by rw [if_pos rfl] at H; exact H
     clear H; have H := H1; clear H1; have H' := Aside0.mk H; clear H; have hnb21 := NB898_889.out; have hnc21 := NB889_898.out; have hcz22 := zc5 BK898.out; have hcz23 := zc5 BK889.out
     go_wp2_with (first | (go_at_call 37; (with_reducible refine (laws_ltSieve.calls k t890 t891 t892 _ _ t893 t896 t881 t882 t883 _ _ t884 t887 true _ ?side1 ?side2 ?side3 ?side4 A19.out).mono ?_); (case side1 => refine (Kd.R_reads' (e := 9) (base := w.heap.size) (ok := fun k_ => ((True ∧ some k_ ≠ (.slice Ao8 t877.length co8 : Value).ownBlock) ∧ some k_ ≠ (.slice Ao12 t884.length co12 : Value).ownBlock)) (n := t893.length) (c := co17) ?_).2.2; exact (zs HO895.out BK898.out)); (case side2 => exact (Kd.R_reads' HO895.out).2.1); (case side3 => refine (Kd.R_reads' (e := 9) (base := w.heap.size) (ok := fun k_ => ((True ∧ some k_ ≠ (.slice Ao8 t877.length co8 : Value).ownBlock) ∧ some k_ ≠ (.slice Ao17 t893.length co17 : Value).ownBlock)) (n := t884.length) (c := co12) ?_).2.2; exact (zs HO886.out BK898.out)); (case side4 => exact (Kd.R_reads' HO886.out).2.1); rintro e w24 ⟨rfl, hb⟩; replace HO880 := zAs HO880 BK898 hb; replace HO886 := zAs HO886 BK898 hb; replace HO895 := zAs HO895 BK898 hb; replace BK889 := zKy BK889 hb; replace BK898 := z0 (blk_below (zpc BK898.out #[.string t890, .string t891, .string t892, .slice Ao17 t893.length co17, .int .i64 t896]) hb); replace HB := zH HB hb; (try clear hb)))
     repeat (go_quiet (first | (go_at_call 37; (with_reducible refine (laws_ltSieve.calls k t890 t891 t892 _ _ t893 t896 t881 t882 t883 _ _ t884 t887 true _ ?side1 ?side2 ?side3 ?side4 A19.out).mono ?_); (case side1 => refine (Kd.R_reads' (e := 9) (base := w.heap.size) (ok := fun k_ => ((True ∧ some k_ ≠ (.slice Ao8 t877.length co8 : Value).ownBlock) ∧ some k_ ≠ (.slice Ao12 t884.length co12 : Value).ownBlock)) (n := t893.length) (c := co17) ?_).2.2; exact (zs HO895.out BK898.out)); (case side2 => exact (Kd.R_reads' HO895.out).2.1); (case side3 => refine (Kd.R_reads' (e := 9) (base := w.heap.size) (ok := fun k_ => ((True ∧ some k_ ≠ (.slice Ao8 t877.length co8 : Value).ownBlock) ∧ some k_ ≠ (.slice Ao17 t893.length co17 : Value).ownBlock)) (n := t884.length) (c := co12) ?_).2.2; exact (zs HO886.out BK898.out)); (case side4 => exact (Kd.R_reads' HO886.out).2.1); rintro e w24 ⟨rfl, hb⟩; replace HO880 := zAs HO880 BK898 hb; replace HO886 := zAs HO886 BK898 hb; replace HO895 := zAs HO895 BK898 hb; replace BK889 := zKy BK889 hb; replace BK898 := z0 (blk_below (zpc BK898.out #[.string t890, .string t891, .string t892, .slice Ao17 t893.length co17, .int .i64 t896]) hb); replace HB := zH HB hb; (try clear hb))); try go_wp2_with (first | (go_at_call 37; (with_reducible refine (laws_ltSieve.calls k t890 t891 t892 _ _ t893 t896 t881 t882 t883 _ _ t884 t887 true _ ?side1 ?side2 ?side3 ?side4 A19.out).mono ?_); (case side1 => refine (Kd.R_reads' (e := 9) (base := w.heap.size) (ok := fun k_ => ((True ∧ some k_ ≠ (.slice Ao8 t877.length co8 : Value).ownBlock) ∧ some k_ ≠ (.slice Ao12 t884.length co12 : Value).ownBlock)) (n := t893.length) (c := co17) ?_).2.2; exact (zs HO895.out BK898.out)); (case side2 => exact (Kd.R_reads' HO895.out).2.1); (case side3 => refine (Kd.R_reads' (e := 9) (base := w.heap.size) (ok := fun k_ => ((True ∧ some k_ ≠ (.slice Ao8 t877.length co8 : Value).ownBlock) ∧ some k_ ≠ (.slice Ao17 t893.length co17 : Value).ownBlock)) (n := t884.length) (c := co12) ?_).2.2; exact (zs HO886.out BK898.out)); (case side4 => exact (Kd.R_reads' HO886.out).2.1); rintro e w24 ⟨rfl, hb⟩; replace HO880 := zAs HO880 BK898 hb; replace HO886 := zAs HO886 BK898 hb; replace HO895 := zAs HO895 BK898 hb; replace BK889 := zKy BK889 hb; replace BK898 := z0 (blk_below (zpc BK898.out #[.string t890, .string t891, .string t892, .slice Ao17 t893.length co17, .int .i64 t896]) hb); replace HB := zH HB hb; (try clear hb))))
     go_meet
     case rel => exact ⟨_, (!t897), zf, H', ⟨by first | omega | exact Nat.le_refl _⟩, ⟨Kd.R_mono (zr HO880.out) (fun _ hk => ⟨hk.1.2, hk.2⟩)⟩, ⟨Kd.R_mono (zr HO886.out) (fun _ hk => ⟨hk.1.2, hk.2⟩)⟩, ⟨Kd.R_mono (zr HO895.out) (fun _ hk => ⟨hk.1.2, hk.2⟩)⟩, ⟨zl BK889.out⟩, ⟨zl BK898.out⟩, ⟨zb HB.out⟩⟩
    ·replace c20 := Bool.eq_false_iff.mpr c20; subst c20
     have H1 : (laws_FnSieveApart.j0 k t877 t888 t897 true t881 t882 t883 t884 t887 t890 t891 t892 t893 t896) = some r := by rw [if_neg (show ¬ (false = true) by decide)] at H; exact H
     clear H; have H := H1; clear H1; have H' := Aside0.mk H; clear H; have hnb25 := NB898_889.out; have hnc25 := NB889_898.out; have hcz26 := zc5 BK898.out; have hcz27 := zc5 BK889.out
     go_wp2_with (first | (go_at_call 37; (with_reducible refine (laws_ltSieve.calls k t890 t891 t892 _ _ t893 t896 t881 t882 t883 _ _ t884 t887 false _ ?side1 ?side2 ?side3 ?side4 A19.out).mono ?_); (case side1 => refine (Kd.R_reads' (e := 9) (base := w.heap.size) (ok := fun k_ => ((True ∧ some k_ ≠ (.slice Ao8 t877.length co8 : Value).ownBlock) ∧ some k_ ≠ (.slice Ao12 t884.length co12 : Value).ownBlock)) (n := t893.length) (c := co17) ?_).2.2; exact (zs HO895.out BK898.out)); (case side2 => exact (Kd.R_reads' HO895.out).2.1); (case side3 => refine (Kd.R_reads' (e := 9) (base := w.heap.size) (ok := fun k_ => ((True ∧ some k_ ≠ (.slice Ao8 t877.length co8 : Value).ownBlock) ∧ some k_ ≠ (.slice Ao17 t893.length co17 : Value).ownBlock)) (n := t884.length) (c := co12) ?_).2.2; exact (zs HO886.out BK898.out)); (case side4 => exact (Kd.R_reads' HO886.out).2.1); rintro e w28 ⟨rfl, hb⟩; replace HO880 := zAs HO880 BK898 hb; replace HO886 := zAs HO886 BK898 hb; replace HO895 := zAs HO895 BK898 hb; replace BK889 := zKy BK889 hb; replace BK898 := z0 (blk_below (zpc BK898.out #[.string t890, .string t891, .string t892, .slice Ao17 t893.length co17, .int .i64 t896]) hb); replace HB := zH HB hb; (try clear hb)))
     repeat (go_quiet (first | (go_at_call 37; (with_reducible refine (laws_ltSieve.calls k t890 t891 t892 _ _ t893 t896 t881 t882 t883 _ _ t884 t887 false _ ?side1 ?side2 ?side3 ?side4 A19.out).mono ?_); (case side1 => refine (Kd.R_reads' (e := 9) (base := w.heap.size) (ok := fun k_ => ((True ∧ some k_ ≠ (.slice Ao8 t877.length co8 : Value).ownBlock) ∧ some k_ ≠ (.slice Ao12 t884.length co12 : Value).ownBlock)) (n := t893.length) (c := co17) ?_).2.2; exact (zs HO895.out BK898.out)); (case side2 => exact (Kd.R_reads' HO895.out).2.1); (case side3 => refine (Kd.R_reads' (e := 9) (base := w.heap.size) (ok := fun k_ => ((True ∧ some k_ ≠ (.slice Ao8 t877.length co8 : Value).ownBlock) ∧ some k_ ≠ (.slice Ao17 t893.length co17 : Value).ownBlock)) (n := t884.length) (c := co12) ?_).2.2; exact (zs HO886.out BK898.out)); (case side4 => exact (Kd.R_reads' HO886.out).2.1); rintro e w28 ⟨rfl, hb⟩; replace HO880 := zAs HO880 BK898 hb; replace HO886 := zAs HO886 BK898 hb; replace HO895 := zAs HO895 BK898 hb; replace BK889 := zKy BK889 hb; replace BK898 := z0 (blk_below (zpc BK898.out #[.string t890, .string t891, .string t892, .slice Ao17 t893.length co17, .int .i64 t896]) hb); replace HB := zH HB hb; (try clear hb))); try go_wp2_with (first | (go_at_call 37; (with_reducible refine (laws_ltSieve.calls k t890 t891 t892 _ _ t893 t896 t881 t882 t883 _ _ t884 t887 false _ ?side1 ?side2 ?side3 ?side4 A19.out).mono ?_); (case side1 => refine (Kd.R_reads' (e := 9) (base := w.heap.size) (ok := fun k_ => ((True ∧ some k_ ≠ (.slice Ao8 t877.length co8 : Value).ownBlock) ∧ some k_ ≠ (.slice Ao12 t884.length co12 : Value).ownBlock)) (n := t893.length) (c := co17) ?_).2.2; exact (zs HO895.out BK898.out)); (case side2 => exact (Kd.R_reads' HO895.out).2.1); (case side3 => refine (Kd.R_reads' (e := 9) (base := w.heap.size) (ok := fun k_ => ((True ∧ some k_ ≠ (.slice Ao8 t877.length co8 : Value).ownBlock) ∧ some k_ ≠ (.slice Ao17 t893.length co17 : Value).ownBlock)) (n := t884.length) (c := co12) ?_).2.2; exact (zs HO886.out BK898.out)); (case side4 => exact (Kd.R_reads' HO886.out).2.1); rintro e w28 ⟨rfl, hb⟩; replace HO880 := zAs HO880 BK898 hb; replace HO886 := zAs HO886 BK898 hb; replace HO895 := zAs HO895 BK898 hb; replace BK889 := zKy BK889 hb; replace BK898 := z0 (blk_below (zpc BK898.out #[.string t890, .string t891, .string t892, .slice Ao17 t893.length co17, .int .i64 t896]) hb); replace HB := zH HB hb; (try clear hb))))
     go_meet
     case rel => exact ⟨_, (true), zf, H', ⟨by first | omega | exact Nat.le_refl _⟩, ⟨Kd.R_mono (zr HO880.out) (fun _ hk => ⟨hk.1.2, hk.2⟩)⟩, ⟨Kd.R_mono (zr HO886.out) (fun _ hk => ⟨hk.1.2, hk.2⟩)⟩, ⟨Kd.R_mono (zr HO895.out) (fun _ hk => ⟨hk.1.2, hk.2⟩)⟩, ⟨zl BK889.out⟩, ⟨zl BK898.out⟩, ⟨zb HB.out⟩⟩
  case rest =>
   clear HC6
   try clear c1
   try clear c2
   try clear c2b0
   try clear c2b1
   try clear p2
   try clear c6
   try clear c15
   try clear c18
   try clear c18b0
   try clear c18b1
   try clear c18b2
   try clear c20
   try clear c21
   try clear c25
   try clear hcz11
   try clear hcz16
   try clear hcz22
   try clear hcz23
   try clear hcz26
   try clear hcz27
   obtain ⟨kq, x44_5, rfl, HA, HJ5, HO_3, HO_890003, HO_899003, BK889, BK898, HB⟩ := hcut
   cases kq with
   | zero => exact absurd HA.out (by simp [laws_FnSieveApart.j0])
   | succ kj5 =>
    have H := HA.out; clear HA; simp only [laws_FnSieveApart.j0] at H
    by_cases c29 : x44_5 = true
    ·subst c29
     have H1 : (if (t897 == t888) = true then ((laws_ltSieve.f kj5 t890 t891 t892 t893 t896 t881 t882 t883 t884 t887).bind fun t900 => (some t900)) else (some false)) = some r := by rw [if_pos rfl] at H; exact H
     clear H; have H := H1; clear H1
     by_cases c30 : (t897 == t888) = true
     ·rw [if_pos c30] at H; have c30b0 : (t897 == t888) = true := c30; (try (have c30b1 : decide (t897 = t888) = true := by simpa using c30)); (try (have c30b2 : (t897 == t888) = true := by simpa using c30)); clear c30; replace H := zi H; obtain ⟨t900, A31, H⟩ := H; obtain rfl := Option.some.inj H; have hnb32 := NB898_889.out; have hnc32 := NB889_898.out; have hcz33 := zc5 BK898.out; have hcz34 := zc5 BK889.out
      go_wp2_with (first | (go_at_call 37; (with_reducible refine (laws_ltSieve.calls kj5 t890 t891 t892 _ _ t893 t896 t881 t882 t883 _ _ t884 t887 t900 _ ?side1 ?side2 ?side3 ?side4 A31.out).mono ?_); (case side1 => repeat (first | exact (Kd.R_reads' HO_899003.out).2.2 | (with_reducible refine Kd.C_alloc ?_ _) | (with_reducible refine Kd.C_drewN ?_ _) | (with_reducible refine Kd.C_drew ?_))); (case side2 => exact (Kd.R_reads' HO_899003.out).2.1); (case side3 => repeat (first | exact (Kd.R_reads' HO_890003.out).2.2 | (with_reducible refine Kd.C_alloc ?_ _) | (with_reducible refine Kd.C_drewN ?_ _) | (with_reducible refine Kd.C_drew ?_))); (case side4 => exact (Kd.R_reads' HO_890003.out).2.1); rintro e w35 ⟨rfl, hb⟩; replace HO_3 := zA HO_3 hb; replace HO_890003 := zA HO_890003 hb; replace HO_899003 := zA HO_899003 hb; replace BK889 := zK BK889 hb; replace BK898 := zK BK898 hb; replace HB := zH HB hb; (try clear hb)))
      repeat (go_quiet (first | (go_at_call 37; (with_reducible refine (laws_ltSieve.calls kj5 t890 t891 t892 _ _ t893 t896 t881 t882 t883 _ _ t884 t887 t900 _ ?side1 ?side2 ?side3 ?side4 A31.out).mono ?_); (case side1 => repeat (first | exact (Kd.R_reads' HO_899003.out).2.2 | (with_reducible refine Kd.C_alloc ?_ _) | (with_reducible refine Kd.C_drewN ?_ _) | (with_reducible refine Kd.C_drew ?_))); (case side2 => exact (Kd.R_reads' HO_899003.out).2.1); (case side3 => repeat (first | exact (Kd.R_reads' HO_890003.out).2.2 | (with_reducible refine Kd.C_alloc ?_ _) | (with_reducible refine Kd.C_drewN ?_ _) | (with_reducible refine Kd.C_drew ?_))); (case side4 => exact (Kd.R_reads' HO_890003.out).2.1); rintro e w35 ⟨rfl, hb⟩; replace HO_3 := zA HO_3 hb; replace HO_890003 := zA HO_890003 hb; replace HO_899003 := zA HO_899003 hb; replace BK889 := zK BK889 hb; replace BK898 := zK BK898 hb; replace HB := zH HB hb; (try clear hb))); try go_wp2_with (first | (go_at_call 37; (with_reducible refine (laws_ltSieve.calls kj5 t890 t891 t892 _ _ t893 t896 t881 t882 t883 _ _ t884 t887 t900 _ ?side1 ?side2 ?side3 ?side4 A31.out).mono ?_); (case side1 => repeat (first | exact (Kd.R_reads' HO_899003.out).2.2 | (with_reducible refine Kd.C_alloc ?_ _) | (with_reducible refine Kd.C_drewN ?_ _) | (with_reducible refine Kd.C_drew ?_))); (case side2 => exact (Kd.R_reads' HO_899003.out).2.1); (case side3 => repeat (first | exact (Kd.R_reads' HO_890003.out).2.2 | (with_reducible refine Kd.C_alloc ?_ _) | (with_reducible refine Kd.C_drewN ?_ _) | (with_reducible refine Kd.C_drew ?_))); (case side4 => exact (Kd.R_reads' HO_890003.out).2.1); rintro e w35 ⟨rfl, hb⟩; replace HO_3 := zA HO_3 hb; replace HO_890003 := zA HO_890003 hb; replace HO_899003 := zA HO_899003 hb; replace BK889 := zK BK889 hb; replace BK898 := zK BK898 hb; replace HB := zH HB hb; (try clear hb))))
      go_ret; exact ⟨ze, zb HB.out⟩
     ·rw [if_neg c30] at H
      have c30b0 : (t897 == t888) = false := by simpa using c30
      (try (have c30b1 : decide (t897 = t888) = false := by simpa using c30)); (try (have c30b2 : (t897 == t888) = false := by simpa using c30)); (try (have c30b3 : ¬ (t897 = t888) := by simpa using c30)); clear c30; obtain rfl := Option.some.inj H; go_wp2
      repeat (go_quiet (fail); try go_wp2)
      go_ret; exact ⟨ze, zb HB.out⟩
    ·replace c29 := Bool.eq_false_iff.mpr c29; subst c29
     have H1 : ((impl_SieveHeads.f kj5 t890 t891 t892 t893 t896).bind fun t901 => (laws_FnSieveApart.l0 kj5 t877 t901 0)) = some r := by rw [if_neg (show ¬ (false = true) by decide)] at H; exact H
     clear H; have H := H1; clear H1; replace H := zi H; obtain ⟨t901, A36, H⟩ := H; have H' := Aside0.mk H; clear H; have hnb37 := NB898_889.out; have hnc37 := NB889_898.out; have hcz38 := zc5 BK898.out
     go_wp2_with (first | (go_at_call 41; (with_reducible refine (impl_SieveHeads.calls kj5 t890 t891 t892 _ _ t893 t896 t901 _ ?side1 ?side2 A36.out).mono ?_); (case side1 => repeat (first | exact (Kd.R_reads' HO_899003.out).2.2 | (with_reducible refine Kd.C_alloc ?_ _) | (with_reducible refine Kd.C_drewN ?_ _) | (with_reducible refine Kd.C_drew ?_))); (case side2 => exact (Kd.R_reads' HO_899003.out).2.1); rintro e w39 ⟨v902, rfl, ho0, hb⟩; have HO903 := z0 (Kd.R_lower (Kd.R_new' (Kd.R_new' (Kd.R_new' ho0 (Kd.R_lt (zr HO_3.out))) (Kd.R_lt (zr HO_890003.out))) (Kd.R_lt (zr HO_899003.out))) (below_size (zb HB.out))); replace HO_3 := z0 (Kd.R_elder' (zr HO_3.out) (Kd.R_base ho0) hb); replace HO_890003 := z0 (Kd.R_elder' (zr HO_890003.out) (Kd.R_base ho0) hb); replace HO_899003 := z0 (Kd.R_elder' (zr HO_899003.out) (Kd.R_base ho0) hb); replace BK889 := zK BK889 hb; replace BK898 := zK BK898 hb; replace HB := zH HB hb; (try clear hb ho0)))
     repeat (go_quiet (first | (go_at_call 41; (with_reducible refine (impl_SieveHeads.calls kj5 t890 t891 t892 _ _ t893 t896 t901 _ ?side1 ?side2 A36.out).mono ?_); (case side1 => repeat (first | exact (Kd.R_reads' HO_899003.out).2.2 | (with_reducible refine Kd.C_alloc ?_ _) | (with_reducible refine Kd.C_drewN ?_ _) | (with_reducible refine Kd.C_drew ?_))); (case side2 => exact (Kd.R_reads' HO_899003.out).2.1); rintro e w39 ⟨v902, rfl, ho0, hb⟩; have HO903 := z0 (Kd.R_lower (Kd.R_new' (Kd.R_new' (Kd.R_new' ho0 (Kd.R_lt (zr HO_3.out))) (Kd.R_lt (zr HO_890003.out))) (Kd.R_lt (zr HO_899003.out))) (below_size (zb HB.out))); replace HO_3 := z0 (Kd.R_elder' (zr HO_3.out) (Kd.R_base ho0) hb); replace HO_890003 := z0 (Kd.R_elder' (zr HO_890003.out) (Kd.R_base ho0) hb); replace HO_899003 := z0 (Kd.R_elder' (zr HO_899003.out) (Kd.R_base ho0) hb); replace BK889 := zK BK889 hb; replace BK898 := zK BK898 hb; replace HB := zH HB hb; (try clear hb ho0))); try go_wp2_with (first | (go_at_call 41; (with_reducible refine (impl_SieveHeads.calls kj5 t890 t891 t892 _ _ t893 t896 t901 _ ?side1 ?side2 A36.out).mono ?_); (case side1 => repeat (first | exact (Kd.R_reads' HO_899003.out).2.2 | (with_reducible refine Kd.C_alloc ?_ _) | (with_reducible refine Kd.C_drewN ?_ _) | (with_reducible refine Kd.C_drew ?_))); (case side2 => exact (Kd.R_reads' HO_899003.out).2.1); rintro e w39 ⟨v902, rfl, ho0, hb⟩; have HO903 := z0 (Kd.R_lower (Kd.R_new' (Kd.R_new' (Kd.R_new' ho0 (Kd.R_lt (zr HO_3.out))) (Kd.R_lt (zr HO_890003.out))) (Kd.R_lt (zr HO_899003.out))) (below_size (zb HB.out))); replace HO_3 := z0 (Kd.R_elder' (zr HO_3.out) (Kd.R_base ho0) hb); replace HO_890003 := z0 (Kd.R_elder' (zr HO_890003.out) (Kd.R_base ho0) hb); replace HO_899003 := z0 (Kd.R_elder' (zr HO_899003.out) (Kd.R_base ho0) hb); replace BK889 := zK BK889 hb; replace BK898 := zK BK898 hb; replace HB := zH HB hb; (try clear hb ho0))))
     go_loopg [10] kj5 (fun kq v10 w' => ∃ (x10_2 : Int), v10 = .int .i64 x10_2 ∧ Aside0 (laws_FnSieveApart.l0 kq t877 t901 x10_2 = some r) ∧ Aside0 (kq ≤ kj5) ∧ Aside0 (Kd.R Kd.string 9 w' w.heap.size (fun k_ => some k_ ≠ (v902 : Value).ownBlock ∧ some k_ ≠ ((.slice Ao12 t884.length co12) : Value).ownBlock ∧ some k_ ≠ ((.slice Ao17 t893.length co17) : Value).ownBlock) (.slice Ao8 t877.length co8) t877) ∧ Aside0 (Kd.R Kd.string 9 w' w.heap.size (fun k_ => some k_ ≠ ((.slice Ao8 t877.length co8) : Value).ownBlock ∧ some k_ ≠ ((.slice Ao12 t884.length co12) : Value).ownBlock ∧ some k_ ≠ ((.slice Ao17 t893.length co17) : Value).ownBlock) v902 t901) ∧ Aside0 (Kd.R Kd.string 9 w' w.heap.size (fun k_ => some k_ ≠ ((.slice Ao8 t877.length co8) : Value).ownBlock ∧ some k_ ≠ (v902 : Value).ownBlock ∧ some k_ ≠ ((.slice Ao17 t893.length co17) : Value).ownBlock) (.slice Ao12 t884.length co12) t884) ∧ Aside0 (Kd.R Kd.string 9 w' w.heap.size (fun k_ => some k_ ≠ ((.slice Ao8 t877.length co8) : Value).ownBlock ∧ some k_ ≠ (v902 : Value).ownBlock ∧ some k_ ≠ ((.slice Ao12 t884.length co12) : Value).ownBlock) (.slice Ao17 t893.length co17) t893) ∧ Aside0 (w'.heap[gb889]? = some (.cells #[.string t881, .string t882, .string t883, (.slice Ao12 t884.length co12), .int .i64 t887] 25 (0, 0))) ∧ Aside0 (w'.heap[gb898]? = some (.cells #[.string t890, .string t891, .string t892, (.slice Ao17 t893.length co17), .int .i64 t896] 25 (0, 0))) ∧ Aside0 (Below w.heap.size w w'))
     case atStart => exact ⟨(0), zf, H', ⟨Nat.le_refl _⟩, ⟨Kd.R_mono (zr HO_3.out) (fun _ hk => ⟨hk.2, ⟨hk.1.1, hk.1.2⟩⟩)⟩, ⟨Kd.R_mono (zr HO903.out) (fun _ hk => ⟨hk.1.1.2, ⟨hk.1.2, hk.2⟩⟩)⟩, ⟨Kd.R_mono (zr HO_890003.out) (fun _ hk => ⟨hk.1.1, ⟨hk.2, hk.1.2⟩⟩)⟩, ⟨Kd.R_mono (zr HO_899003.out) (fun _ hk => ⟨hk.1.1, ⟨hk.2, hk.1.2⟩⟩)⟩, ⟨zl BK889.out⟩, ⟨zl BK898.out⟩, ⟨zb HB.out⟩⟩
     case round =>
      clear H'
      try clear c1
      try clear c2
      try clear c2b0
      try clear c2b1
      try clear p2
      try clear c3
      try clear c6
      try clear c15
      try clear c18
      try clear c18b0
      try clear c18b1
      try clear c18b2
      try clear c20
      try clear c21
      try clear c25
      try clear c29
      try clear c30
      try clear c30b0
      try clear c30b1
      try clear c30b2
      try clear c32
      try clear c37
      try clear hcz11
      try clear hcz16
      try clear hcz22
      try clear hcz23
      try clear hcz26
      try clear hcz27
      try clear hcz33
      try clear hcz34
      try clear hcz38
      try clear p2
      obtain ⟨x10_2, rfl, HA, HK2, HO_3, HO_9, HO_890003, HO_899003, BK889, BK898, HB⟩ := hrel
      cases gk with
      | zero => exact absurd HA.out (by simp [laws_FnSieveApart.l0])
      | succ k2 =>
       have H := HA.out; clear HA; simp only [laws_FnSieveApart.l0] at H
       by_cases c40 : x10_2 < (t877.length : Int)
       ·rw [if_pos c40] at H; have c40b0 : decide (x10_2 < (t877.length : Int)) = true := decide_eq_true c40; clear c40; have H' := Aside0.mk H; clear H; go_wp2
        repeat (go_quiet (fail); try go_wp2)
        go_loopg [11] k2 (fun kq v11 w' => ∃ (x11_3 : Int), v11 = .int .i64 x11_3 ∧ Aside0 (laws_FnSieveApart.l1 kq t877 t901 x10_2 x11_3 = some r) ∧ Aside0 (kq ≤ k2) ∧ Aside0 (Kd.R Kd.string 9 w' w.heap.size (fun k_ => some k_ ≠ (v902 : Value).ownBlock ∧ some k_ ≠ ((.slice Ao12 t884.length co12) : Value).ownBlock ∧ some k_ ≠ ((.slice Ao17 t893.length co17) : Value).ownBlock) (.slice Ao8 t877.length co8) t877) ∧ Aside0 (Kd.R Kd.string 9 w' w.heap.size (fun k_ => some k_ ≠ ((.slice Ao8 t877.length co8) : Value).ownBlock ∧ some k_ ≠ ((.slice Ao12 t884.length co12) : Value).ownBlock ∧ some k_ ≠ ((.slice Ao17 t893.length co17) : Value).ownBlock) v902 t901) ∧ Aside0 (Kd.R Kd.string 9 w' w.heap.size (fun k_ => some k_ ≠ ((.slice Ao8 t877.length co8) : Value).ownBlock ∧ some k_ ≠ (v902 : Value).ownBlock ∧ some k_ ≠ ((.slice Ao17 t893.length co17) : Value).ownBlock) (.slice Ao12 t884.length co12) t884) ∧ Aside0 (Kd.R Kd.string 9 w' w.heap.size (fun k_ => some k_ ≠ ((.slice Ao8 t877.length co8) : Value).ownBlock ∧ some k_ ≠ (v902 : Value).ownBlock ∧ some k_ ≠ ((.slice Ao12 t884.length co12) : Value).ownBlock) (.slice Ao17 t893.length co17) t893) ∧ Aside0 (w'.heap[gb889]? = some (.cells #[.string t881, .string t882, .string t883, (.slice Ao12 t884.length co12), .int .i64 t887] 25 (0, 0))) ∧ Aside0 (w'.heap[gb898]? = some (.cells #[.string t890, .string t891, .string t892, (.slice Ao17 t893.length co17), .int .i64 t896] 25 (0, 0))) ∧ Aside0 (Below w.heap.size w w'))
        case atStart => exact ⟨(0), zf, H', ⟨Nat.le_refl _⟩, ⟨zr HO_3.out⟩, ⟨zr HO_9.out⟩, ⟨zr HO_890003.out⟩, ⟨zr HO_899003.out⟩, ⟨zl BK889.out⟩, ⟨zl BK898.out⟩, ⟨zb HB.out⟩⟩
        case round =>
         clear H'
         try clear c1
         try clear c2
         try clear c2b0
         try clear c2b1
         try clear p2
         try clear c3
         try clear c4
         try clear c6
         try clear c15
         try clear c18
         try clear c18b0
         try clear c18b1
         try clear c18b2
         try clear c20
         try clear c21
         try clear c25
         try clear c29
         try clear c30
         try clear c30b0
         try clear c30b1
         try clear c30b2
         try clear c32
         try clear c37
         try clear c40
         try clear c40b0
         try clear hcz11
         try clear hcz16
         try clear hcz22
         try clear hcz23
         try clear hcz26
         try clear hcz27
         try clear hcz33
         try clear hcz34
         try clear hcz38
         try clear p2
         obtain ⟨x11_3, rfl, HA, HK3, HO_3, HO_9, HO_890003, HO_899003, BK889, BK898, HB⟩ := hrel
         cases gk with
         | zero => exact absurd HA.out (by simp [laws_FnSieveApart.l1])
         | succ k3 =>
          have H := HA.out; clear HA; simp only [laws_FnSieveApart.l1] at H
          by_cases c41 : x11_3 < (t877.length : Int)
          ·rw [if_pos c41] at H; have c41b0 : decide (x11_3 < (t877.length : Int)) = true := decide_eq_true c41; clear c41
           by_cases c42 : x10_2 = x11_3
           ·rw [if_pos c42] at H; have c42b0 : (x10_2 == x11_3) = true := beq_iff_eq.mpr c42; have c42b1 : (x10_2 != x11_3) = false := bne_eq_false_iff_eq.mpr c42; clear c42; have H' := Aside0.mk H; clear H; go_wp2
            repeat (go_quiet (fail); try go_wp2)
            go_roundg k3
            case measure => have := HJ5.out; have := HK2.out; have := HK3.out; omega
            case rel => exact ⟨(wrap64 (x11_3 + 1)), zf, H', ⟨by have := HJ5.out; have := HK2.out; have := HK3.out; omega⟩, ⟨zr HO_3.out⟩, ⟨zr HO_9.out⟩, ⟨zr HO_890003.out⟩, ⟨zr HO_899003.out⟩, ⟨zl BK889.out⟩, ⟨zl BK898.out⟩, ⟨zb HB.out⟩⟩
           ·rw [if_neg c42] at H; have c42b0 : (x10_2 == x11_3) = false := beq_eq_false_iff_ne.mpr c42; have c42b1 : (x10_2 != x11_3) = true := bne_iff_ne.mpr c42; replace H := zn H; obtain ⟨c43, H⟩ := H; have c43b0 : decide (0 ≤ x10_2) = true := decide_eq_true c43; clear c43; replace H := zn H; obtain ⟨c44, H⟩ := H; have c44b0 : decide (x10_2 < (t877.length : Int)) = true := decide_eq_true c44; clear c44; replace H := zn H; obtain ⟨c45, H⟩ := H; have c45b0 : decide (x10_2 < (t901.length : Int)) = true := decide_eq_true c45; clear c45
            by_cases c46 : (rdOf ByteArray.empty t877 x10_2).toList = (rdOf ByteArray.empty t901 x10_2).toList
            ·rw [if_pos c46] at H; have c46b0 : ((rdOf ByteArray.empty t877 x10_2).toList == (rdOf ByteArray.empty t901 x10_2).toList) = true := beq_iff_eq.mpr c46; have c46b1 : ((rdOf ByteArray.empty t877 x10_2).toList != (rdOf ByteArray.empty t901 x10_2).toList) = false := bne_eq_false_iff_eq.mpr c46; clear c46; have H' := Aside0.mk H; clear H; have p904 : 0 ≤ (x10_2 : Int) := zd; have q904 : x10_2 < (t877.length : Int) := zd; obtain ⟨ad904, e904, hx904_0⟩ := Kd.at_string (Kd.R_reads' HO_3.out).2.2 x10_2 p904 q904; cases e904; replace p904 := eq_true p904; replace q904 := eq_true q904; obtain ⟨Ao47, co47, eo47⟩ := Kd.R_slice HO_9.out; subst eo47; have p905 : 0 ≤ (x10_2 : Int) := zd; have q905 : x10_2 < (t901.length : Int) := zd; obtain ⟨ad905, e905, hx905_0⟩ := Kd.at_string (Kd.R_reads' HO_9.out).2.2 x10_2 p905 q905; cases e905; replace p905 := eq_true p905; replace q905 := eq_true q905; go_wp2
             repeat (go_quiet (fail); try go_wp2)
             go_roundg k3
             case measure => have := HJ5.out; have := HK2.out; have := HK3.out; omega
             case rel => exact ⟨(wrap64 (x11_3 + 1)), zf, H', ⟨by have := HJ5.out; have := HK2.out; have := HK3.out; omega⟩, ⟨zr HO_3.out⟩, ⟨zr HO_9.out⟩, ⟨zr HO_890003.out⟩, ⟨zr HO_899003.out⟩, ⟨zl BK889.out⟩, ⟨zl BK898.out⟩, ⟨zb HB.out⟩⟩
            ·rw [if_neg c46] at H; have c46b0 : ((rdOf ByteArray.empty t877 x10_2).toList == (rdOf ByteArray.empty t901 x10_2).toList) = false := beq_eq_false_iff_ne.mpr c46; have c46b1 : ((rdOf ByteArray.empty t877 x10_2).toList != (rdOf ByteArray.empty t901 x10_2).toList) = true := bne_iff_ne.mpr c46; replace H := zn H; obtain ⟨c48, H⟩ := H; have c48b0 : decide (0 ≤ x11_3) = true := decide_eq_true c48; clear c48; replace H := zi H; obtain ⟨t908, A49, H⟩ := H
             by_cases c50 : t908 = true
             ·subst c50
              have H1 : (some false) = some r := by rw [if_pos rfl] at H; exact H
              clear H; have H := H1; clear H1; obtain rfl := Option.some.inj H; have p904 : 0 ≤ (x10_2 : Int) := zd; have q904 : x10_2 < (t877.length : Int) := zd; obtain ⟨ad904, e904, hx904_0⟩ := Kd.at_string (Kd.R_reads' HO_3.out).2.2 x10_2 p904 q904; cases e904; replace p904 := eq_true p904; replace q904 := eq_true q904; obtain ⟨Ao51, co51, eo51⟩ := Kd.R_slice HO_9.out; subst eo51; have p905 : 0 ≤ (x10_2 : Int) := zd; have q905 : x10_2 < (t901.length : Int) := zd; obtain ⟨ad905, e905, hx905_0⟩ := Kd.at_string (Kd.R_reads' HO_9.out).2.2 x10_2 p905 q905; cases e905; replace p905 := eq_true p905; replace q905 := eq_true q905; have p906 : 0 ≤ (x11_3 : Int) := zd; have q906 : x11_3 < (t877.length : Int) := zd; obtain ⟨ad906, e906, hx906_0⟩ := Kd.at_string (Kd.R_reads' HO_3.out).2.2 x11_3 p906 q906; obtain rfl : ad904 = ad906 := (by injection e906); replace p906 := eq_true p906; replace q906 := eq_true q906; have p907 : 0 ≤ (x10_2 : Int) := zd; have q907 : x10_2 < (t901.length : Int) := zd; obtain ⟨ad907, e907, hx907_0⟩ := Kd.at_string (Kd.R_reads' HO_9.out).2.2 x10_2 p907 q907; obtain rfl : ad905 = ad907 := (by injection e907); replace p907 := eq_true p907; replace q907 := eq_true q907
              go_wp2_with (first | (go_at_call 42; (with_reducible refine (impl_KeyBegins.calls (rdOf ByteArray.empty t877 x11_3) (rdOf ByteArray.empty t901 x10_2) true _ A49.out).mono ?_); rintro e w' ⟨rfl, ⟨nd, rfl⟩⟩; (try exact zdd)))
              repeat (go_quiet (first | (go_at_call 42; (with_reducible refine (impl_KeyBegins.calls (rdOf ByteArray.empty t877 x11_3) (rdOf ByteArray.empty t901 x10_2) true _ A49.out).mono ?_); rintro e w' ⟨rfl, ⟨nd, rfl⟩⟩; (try exact zdd))); try go_wp2_with (first | (go_at_call 42; (with_reducible refine (impl_KeyBegins.calls (rdOf ByteArray.empty t877 x11_3) (rdOf ByteArray.empty t901 x10_2) true _ A49.out).mono ?_); rintro e w' ⟨rfl, ⟨nd, rfl⟩⟩; (try exact zdd))))
              go_ret; exact ⟨ze, zb HB.out⟩
             ·replace c50 := Bool.eq_false_iff.mpr c50; subst c50
              have H1 : (laws_FnSieveApart.l1 k3 t877 t901 x10_2 (wrap64 (x11_3 + 1))) = some r := by rw [if_neg (show ¬ (false = true) by decide)] at H; exact H
              clear H; have H := H1; clear H1; have H' := Aside0.mk H; clear H; have p904 : 0 ≤ (x10_2 : Int) := zd; have q904 : x10_2 < (t877.length : Int) := zd; obtain ⟨ad904, e904, hx904_0⟩ := Kd.at_string (Kd.R_reads' HO_3.out).2.2 x10_2 p904 q904; cases e904; replace p904 := eq_true p904; replace q904 := eq_true q904; obtain ⟨Ao52, co52, eo52⟩ := Kd.R_slice HO_9.out; subst eo52; have p905 : 0 ≤ (x10_2 : Int) := zd; have q905 : x10_2 < (t901.length : Int) := zd; obtain ⟨ad905, e905, hx905_0⟩ := Kd.at_string (Kd.R_reads' HO_9.out).2.2 x10_2 p905 q905; cases e905; replace p905 := eq_true p905; replace q905 := eq_true q905; have p906 : 0 ≤ (x11_3 : Int) := zd; have q906 : x11_3 < (t877.length : Int) := zd; obtain ⟨ad906, e906, hx906_0⟩ := Kd.at_string (Kd.R_reads' HO_3.out).2.2 x11_3 p906 q906; obtain rfl : ad904 = ad906 := (by injection e906); replace p906 := eq_true p906; replace q906 := eq_true q906; have p907 : 0 ≤ (x10_2 : Int) := zd; have q907 : x10_2 < (t901.length : Int) := zd; obtain ⟨ad907, e907, hx907_0⟩ := Kd.at_string (Kd.R_reads' HO_9.out).2.2 x10_2 p907 q907; obtain rfl : ad905 = ad907 := (by injection e907); replace p907 := eq_true p907; replace q907 := eq_true q907
              go_wp2_with (first | (go_at_call 42; (with_reducible refine (impl_KeyBegins.calls (rdOf ByteArray.empty t877 x11_3) (rdOf ByteArray.empty t901 x10_2) false _ A49.out).mono ?_); rintro e w' ⟨rfl, ⟨nd, rfl⟩⟩; (try exact zdd)))
              repeat (go_quiet (first | (go_at_call 42; (with_reducible refine (impl_KeyBegins.calls (rdOf ByteArray.empty t877 x11_3) (rdOf ByteArray.empty t901 x10_2) false _ A49.out).mono ?_); rintro e w' ⟨rfl, ⟨nd, rfl⟩⟩; (try exact zdd))); try go_wp2_with (first | (go_at_call 42; (with_reducible refine (impl_KeyBegins.calls (rdOf ByteArray.empty t877 x11_3) (rdOf ByteArray.empty t901 x10_2) false _ A49.out).mono ?_); rintro e w' ⟨rfl, ⟨nd, rfl⟩⟩; (try exact zdd))))
              go_roundg k3
              case measure => have := HJ5.out; have := HK2.out; have := HK3.out; omega
              case rel => exact ⟨(wrap64 (x11_3 + 1)), zf, H', ⟨by have := HJ5.out; have := HK2.out; have := HK3.out; omega⟩, ⟨zr HO_3.out⟩, ⟨zr HO_9.out⟩, ⟨zr HO_890003.out⟩, ⟨zr HO_899003.out⟩, ⟨zl BK889.out⟩, ⟨zl BK898.out⟩, ⟨zb HB.out⟩⟩
          ·rw [if_neg c41] at H; have c41b0 : decide (x11_3 < (t877.length : Int)) = false := decide_eq_false c41; clear c41; have H' := Aside0.mk H; clear H; go_wp2
           repeat (go_quiet (fail); try go_wp2)
           go_roundg k3
           case measure => have := HJ5.out; have := HK2.out; have := HK3.out; omega
           case rel => exact ⟨(wrap64 (x10_2 + 1)), zf, H', ⟨by have := HJ5.out; have := HK2.out; have := HK3.out; omega⟩, ⟨zr HO_3.out⟩, ⟨zr HO_9.out⟩, ⟨zr HO_890003.out⟩, ⟨zr HO_899003.out⟩, ⟨zl BK889.out⟩, ⟨zl BK898.out⟩, ⟨zb HB.out⟩⟩
       ·rw [if_neg c40] at H; have c40b0 : decide (x10_2 < (t877.length : Int)) = false := decide_eq_false c40; clear c40; obtain rfl := Option.some.inj H; go_wp2
        repeat (go_quiet (fail); try go_wp2)
        go_ret; exact ⟨ze, zb HB.out⟩
theorem laws_FnSieveApart.walk (P : laws_FnSieveApart.Pure) (a0 : Option Addr) (len0 cap0 : Nat) (z0 : List Int) (w : World) (w0 : (a0 = none ∧ len0 = 0 ∧ cap0 = 0 ∧ z0 = []) ∨ ∃ x, a0 = some x ∧ len0 ≤ cap0 ∧ cap0 ≤ maxLen ∧ z0.length = cap0 ∧ (∀ i, i < z0.length → w.cell? (x.add i) = some (.int .u8 (z0.getD i 0))) ∧ ∀ n ∈ z0, (Lit.int .u8 n).wf = true) (y0 : len0 * 1 ≤ 140737488351232) :
    Calls Try.prog 6 #[.slice a0 len0 cap0] w fun e w' => e = .returned (.bool true) ∧ Below w.heap.size w w' := by
  obtain ⟨l0, rfl, hr0, hm0, hw0, hc0⟩ := ReadsInt.ofRowC w0
  obtain ⟨k, h⟩ := P l0 hm0 y0 hw0
  refine (laws_FnSieveApart.calls k _ _ l0 true w (Kd.C_of_reads (d := (0 : Int)) (h1 := fun _ => rfl) hr0) hc0 h).mono ?_
  rintro e w' ⟨rfl, hd⟩
  exact ⟨rfl, hd⟩
end Go.Proofs.Ytifgcajpkgamgaa.Q
end
section
set_option linter.unusedVariables false
set_option linter.unusedSimpArgs false
namespace Go.Proofs.Ytifgcajpkgamgaa.Pb
open Go Go.RowKit Go.Proofs.YtifgcajpkgamgaaW.PrintWords Go.Proofs.YtifgcajpkgamgaaW.PrintLast Go.Proofs.YtifgcajpkgamgaaW.PrintMore Go.Proofs.Ytifgcajpkgamgaa.Trie Go.Proofs.Ytifgcajpkgamgaa.Q
def bitc (c : UInt8) : Bool := c == 48 || c == 49
def bitsB (l : List UInt8) : Bool := l.all bitc && decide (l.length ≤ 400)
theorem bitc_48 {c : UInt8} (h : c = 48) : bitc c = true := by subst h; rfl
theorem bitc_49 {c : UInt8} (h : c = 49) : bitc c = true := by subst h; rfl
theorem bitc_no {c : UInt8} (h : ¬ c = 48) (h2 : ¬ c = 49) : bitc c = false := by simp [bitc, h, h2]
theorem bt_is {s : ByteArray} {i : Nat} {n : Nat} (hn : n < 256) : bt s (i : Int) = (n : Int) ↔ (L s).getD i 0 = UInt8.ofNat n := by
  rw [bt_L]
  constructor
  · intro h
    have h1 : ((L s).getD i 0).toNat = n := by omega
    rw [← h1]; simp
  · intro h
    rw [h]
    simp; omega
theorem all_drop {p : UInt8 → Bool} {l : List UInt8} {i : Nat} (h : i < l.length) : (l.drop i).all p = (p (l.getD i 0) && (l.drop (i + 1)).all p) := by
  rw [drop_cons 0 h, List.all_cons]
theorem impl_BitsOk_l0 (x : ByteArray) (hx : x.size ≤ 140737488355328) (d : Nat) : ∀ i : Nat, i ≤ (L x).length → (L x).length - i = d →
    Ev (fun k => impl_BitsOk.l0 k x ((L x).length : Int) (i : Int)) (((L x).drop i).all bitc && decide ((L x).length ≤ 400)) := by
  have hs := size_L x
  induction d with
  | zero =>
    intro i h1 h2
    refine ev_succ ?_
    simp only [impl_BitsOk.l0]
    refine ev_neg (by omega) (ev_some ?_)
    rw [List.drop_eq_nil_of_le (by omega)]
    simp only [List.all_nil, Bool.true_and]
    rw [hs]; congr 1; simp; omega
  | succ d ih =>
    intro i h1 h2
    have hi : i < (L x).length := by omega
    refine ev_succ ?_
    simp only [impl_BitsOk.l0]
    refine ev_pos (by omega) (ev_pos (by omega) (ev_pos (by omega) ?_))
    rw [w64 (by omega) (by omega), all_drop hi]
    have := ih (i + 1) (by omega) (by omega)
    by_cases c1 : (L x).getD i 0 = 48
    · refine ev_pos ((bt_is (n := 48) (by omega)).2 c1) ?_
      rw [bitc_48 c1, Bool.true_and]
      exact this
    · refine ev_neg (fun q => c1 ((bt_is (n := 48) (by omega)).1 q)) ?_
      by_cases c2 : (L x).getD i 0 = 49
      · refine ev_pos ((bt_is (n := 49) (by omega)).2 c2) ?_
        rw [bitc_49 c2, Bool.true_and]
        exact this
      · refine ev_neg (fun q => c2 ((bt_is (n := 49) (by omega)).1 q)) (ev_some ?_)
        rw [bitc_no c1 c2]; rfl
theorem impl_BitsOk_ev (x : ByteArray) (hx : x.size ≤ 140737488355328) : Ev (fun k => impl_BitsOk.f k x) (bitsB (L x)) := by
  have := impl_BitsOk_l0 x hx (L x).length 0 (by omega) (by omega)
  simpa [impl_BitsOk.f, bitsB, size_L] using this
theorem spec_l6In_eq (a b c : Int) : spec_l6In.f a b c = some (decide (b ≤ a ∧ a ≤ c)) := by
  unfold spec_l6In.f
  by_cases h : a ≥ b
  · rw [if_pos h]; congr 1; simp only [decide_eq_decide]; constructor <;> intro q <;> omega
  · rw [if_neg h]; congr 1; symm; simp only [decide_eq_false_iff_not]; omega
theorem impl_in_eq (a b c : Int) : impl_in.f a b c = some (decide (b ≤ a ∧ a ≤ c)) := by
  unfold impl_in.f
  by_cases h : b ≤ a
  · rw [if_pos h]; congr 1; simp only [decide_eq_decide]; constructor <;> intro q <;> omega
  · rw [if_neg h]; congr 1; symm; simp only [decide_eq_false_iff_not]; omega
theorem onesB_le (l : List UInt8) (n : Nat) : onesB l n ≤ l.length := by
  unfold onesB
  have h1 := List.countP_le_length (p := fun c : UInt8 => c == 49) (l := l.take n)
  have h2 := List.length_take (i := n) (l := l)
  omega
theorem count_L {x a : ByteArray} {c : UInt8} (h : L a = [c]) : strings_Count.f x a = some (((L x).count c : Nat) : Int) := by
  unfold strings_Count.f
  have h1 : a.size = 1 := by rw [size_L, h]; rfl
  rw [if_pos h1]
  have h2 : a.data.toList = [c] := h
  rw [h2]
  rfl
theorem onesB_count (l : List UInt8) (n : Nat) : (l.take n).count 49 = onesB l n := rfl
def oneI (l : List UInt8) (m : Nat) : Int := if pos l m < l.length then (pos l m : Int) else -1
theorem impl_one_l0 (x : ByteArray) (hx : x.size ≤ 140737488355328) (d : Nat) : ∀ (i m : Nat), i ≤ (L x).length → (L x).length - i = d → (m : Int) ≤ 9223372036854775807 →
    Ev (fun k => impl_one.l0 k x (m : Int) ((L x).length : Int) (i : Int)) (if i + pos ((L x).drop i) m < (L x).length then ((i + pos ((L x).drop i) m : Nat) : Int) else -1) := by
  have hs := size_L x
  induction d with
  | zero =>
    intro i m h1 h2 hm
    refine ev_succ ?_
    simp only [impl_one.l0]
    refine ev_neg (by omega) (ev_some ?_)
    rw [if_neg (by omega)]
  | succ d ih =>
    intro i m h1 h2 hm
    have hi : i < (L x).length := by omega
    refine ev_succ ?_
    simp only [impl_one.l0]
    refine ev_pos (by omega) (ev_pos (by omega) (ev_pos (by omega) ?_))
    rw [w64 (i := (i : Int) + 1) (by omega) (by omega), drop_cons 0 hi]
    by_cases c : (L x).getD i 0 = 49
    · refine ev_pos ((bt_is (n := 49) (by omega)).2 c) ?_
      rw [pos, if_pos c]
      by_cases q : m = 0
      · refine ev_pos (by omega) (ev_some ?_)
        rw [if_pos q, if_pos (by omega)]; omega
      · refine ev_neg (by omega) ?_
        rw [if_neg q, w64 (by omega) (by omega)]
        have := ih (i + 1) (m - 1) (by omega) (by omega) (by omega)
        rw [show ((m - 1 : Nat) : Int) = (m : Int) - 1 by omega] at this
        refine ev_eq this ?_
        rw [show i + (1 + pos ((L x).drop (i + 1)) (m - 1)) = i + 1 + pos ((L x).drop (i + 1)) (m - 1) by omega]
    · refine ev_neg (fun q => c ((bt_is (n := 49) (by omega)).1 q)) ?_
      rw [pos, if_neg c]
      refine ev_eq (ih (i + 1) m (by omega) (by omega) hm) ?_
      rw [show i + (1 + pos ((L x).drop (i + 1)) m) = i + 1 + pos ((L x).drop (i + 1)) m by omega]
theorem impl_one_ev (x : ByteArray) (hx : x.size ≤ 140737488355328) (m : Nat) (hm : (m : Int) ≤ 9223372036854775807) : Ev (fun k => impl_one.f k x (m : Int)) (oneI (L x) m) := by
  have := impl_one_l0 x hx (L x).length 0 m (by omega) (by omega) hm
  have e : impl_one.f = fun k x m => impl_one.l0 k x m ((L x).length : Int) 0 := by
    funext k x m
    unfold impl_one.f
    rw [size_L]
  rw [e]
  refine ev_eq this ?_
  unfold oneI
  simp
end Go.Proofs.Ytifgcajpkgamgaa.Pb
end
section
set_option linter.unusedVariables false
set_option linter.unusedSimpArgs false
namespace Go.Proofs.Ytifgcajpkgamgaa.Pb
open Go Go.RowKit Go.Proofs.YtifgcajpkgamgaaW.PrintWords Go.Proofs.YtifgcajpkgamgaaW.PrintLast Go.Proofs.YtifgcajpkgamgaaW.PrintMore Go.Proofs.Ytifgcajpkgamgaa.Trie Go.Proofs.Ytifgcajpkgamgaa.Q
def letc (c : UInt8) : Bool := decide (97 ≤ c.toNat) && decide (c.toNat ≤ 100)
def kokB (l : List UInt8) : Bool := l.all letc && decide (l.length ≤ 5)
theorem kokB_iff {l : List UInt8} : kokB l = true ↔ KOk l := by
  unfold kokB
  rw [Bool.and_eq_true, List.all_eq_true, decide_eq_true_eq]
  constructor
  · rintro ⟨h1, h2⟩
    exact ⟨h2, fun c hc => by have := h1 c hc; simpa [letc] using this⟩
  · rintro ⟨h1, h2⟩
    exact ⟨fun c hc => by have := h2 c hc; simpa [letc] using this, h1⟩
theorem spec_KeyOk_l0 (x : ByteArray) (hx : x.size ≤ 140737488355328) (d : Nat) : ∀ i : Nat, i ≤ (L x).length → (L x).length - i = d →
    Ev (fun k => spec_KeyOk.l0 k x (i : Int)) (((L x).drop i).all letc && decide ((L x).length ≤ 5)) := by
  have hs := size_L x
  induction d with
  | zero =>
    intro i h1 h2
    refine ev_succ ?_
    simp only [spec_KeyOk.l0]
    refine ev_neg (by omega) (ev_some ?_)
    rw [List.drop_eq_nil_of_le (by omega)]
    simp only [List.all_nil, Bool.true_and]
    rw [hs]; congr 1; simp; omega
  | succ d ih =>
    intro i h1 h2
    have hi : i < (L x).length := by omega
    refine ev_succ ?_
    simp only [spec_KeyOk.l0]
    refine ev_pos (by omega) (ev_pos (by omega) ?_)
    have hr := bt_range x (i : Int)
    rw [w64 (i := bt x (i : Int)) (by omega) (by omega), w64 (i := (i : Int) + 1) (by omega) (by omega), all_drop hi]
    have := ih (i + 1) (by omega) (by omega)
    have e := bt_L x i
    refine ev_bindc (spec_l6In_eq _ _ _) ?_
    by_cases c1 : 97 ≤ bt x (i : Int) ∧ bt x (i : Int) ≤ 100
    · refine ev_pos (by simpa using c1) ?_
      have hc : letc ((L x).getD i 0) = true := by simp only [letc, Bool.and_eq_true, decide_eq_true_eq]; omega
      rw [hc, Bool.true_and]
      exact this
    · refine ev_neg (by simpa using c1) (ev_some ?_)
      have hc : letc ((L x).getD i 0) = false := by
        rw [Bool.eq_false_iff]
        simp only [letc, ne_eq, Bool.and_eq_true, decide_eq_true_eq]; omega
      rw [hc]; rfl
theorem spec_KeyOk_ev (x : ByteArray) (hx : x.size ≤ 140737488355328) : Ev (fun k => spec_KeyOk.f k x) (kokB (L x)) := by
  have := spec_KeyOk_l0 x hx (L x).length 0 (by omega) (by omega)
  simpa [spec_KeyOk.f, kokB] using this
theorem impl_KeyOk_l0 (x : ByteArray) (hx : x.size ≤ 140737488355328) (d : Nat) : ∀ i : Nat, i ≤ (L x).length → (L x).length - i = d →
    Ev (fun k => impl_KeyOk.l0 k x ((L x).length : Int) (i : Int)) (((L x).drop i).all letc && decide ((L x).length ≤ 5)) := by
  have hs := size_L x
  induction d with
  | zero =>
    intro i h1 h2
    refine ev_succ ?_
    simp only [impl_KeyOk.l0]
    refine ev_neg (by omega) (ev_some ?_)
    rw [List.drop_eq_nil_of_le (by omega)]
    simp only [List.all_nil, Bool.true_and]
    rw [hs]; congr 1; simp; omega
  | succ d ih =>
    intro i h1 h2
    have hi : i < (L x).length := by omega
    refine ev_succ ?_
    simp only [impl_KeyOk.l0]
    refine ev_pos (by omega) (ev_pos (by omega) (ev_pos (by omega) ?_))
    rw [w64 (i := (i : Int) + 1) (by omega) (by omega), all_drop hi]
    have := ih (i + 1) (by omega) (by omega)
    have e := bt_L x i
    by_cases c1 : bt x (i : Int) < 97
    · refine ev_pos c1 (ev_some ?_)
      have hc : letc ((L x).getD i 0) = false := by
        rw [Bool.eq_false_iff]
        simp only [letc, ne_eq, Bool.and_eq_true, decide_eq_true_eq]; omega
      rw [hc]; rfl
    · refine ev_neg c1 ?_
      by_cases c2 : bt x (i : Int) > 100
      · refine ev_pos c2 (ev_some ?_)
        have hc : letc ((L x).getD i 0) = false := by
          rw [Bool.eq_false_iff]
          simp only [letc, ne_eq, Bool.and_eq_true, decide_eq_true_eq]; omega
        rw [hc]; rfl
      · refine ev_neg c2 ?_
        have hc : letc ((L x).getD i 0) = true := by simp only [letc, Bool.and_eq_true, decide_eq_true_eq]; omega
        rw [hc, Bool.true_and]
        exact this
theorem impl_KeyOk_ev (x : ByteArray) (hx : x.size ≤ 140737488355328) : Ev (fun k => impl_KeyOk.f k x) (kokB (L x)) := by
  have := impl_KeyOk_l0 x hx (L x).length 0 (by omega) (by omega)
  simpa [impl_KeyOk.f, kokB, size_L] using this
def goB : Option Key → List Key → Bool
  | _, [] => true
  | p, k :: t => kokB k && (match p with | none => true | some q => decide (q < k)) && goB (some k) t
def keysB (K : List Key) : Bool := goB none K && decide (K.length ≤ 24)
theorem goB_some {p : Key} {l : List Key} : goB (some p) l = true ↔ (∀ k ∈ l, KOk k) ∧ (p :: l).Pairwise (· < ·) := by
  induction l generalizing p with
  | nil => simp [goB]
  | cons k t ih =>
    unfold goB
    simp only [Bool.and_eq_true, decide_eq_true_eq]
    rw [ih, kokB_iff]
    constructor
    · rintro ⟨⟨h1, h2⟩, h3, h4⟩
      refine ⟨fun x hx => ?_, ?_⟩
      · rcases List.mem_cons.1 hx with rfl | hx
        · exact h1
        · exact h3 x hx
      · refine List.pairwise_cons.2 ⟨fun x hx => ?_, h4⟩
        rcases List.mem_cons.1 hx with rfl | hx
        · exact h2
        · exact key_trans h2 ((List.pairwise_cons.1 h4).1 x hx)
    · rintro ⟨h1, h2⟩
      have h3 := List.pairwise_cons.1 h2
      exact ⟨⟨h1 k (by simp), h3.1 k (by simp)⟩, fun x hx => h1 x (by simp [hx]), h3.2⟩
structure KsOk (K : List Key) : Prop where
  ok : ∀ k ∈ K, KOk k
  sorted : K.Pairwise (· < ·)
  few : K.length ≤ 24
theorem keysB_iff {K : List Key} : keysB K = true ↔ KsOk K := by
  unfold keysB
  rw [Bool.and_eq_true, decide_eq_true_eq]
  have h : goB none K = true ↔ (∀ k ∈ K, KOk k) ∧ K.Pairwise (· < ·) := by
    cases K with
    | nil => simp [goB]
    | cons k t =>
      unfold goB
      simp only [Bool.and_eq_true, Bool.and_true]
      rw [goB_some, kokB_iff]
      constructor
      · rintro ⟨h1, h2, h3⟩
        refine ⟨fun x hx => ?_, h3⟩
        rcases List.mem_cons.1 hx with rfl | hx
        · exact h1
        · exact h2 x hx
      · rintro ⟨h1, h2⟩
        exact ⟨h1 k (by simp), fun x hx => h1 x (by simp [hx]), h2⟩
  rw [h]
  exact ⟨fun ⟨⟨a, b⟩, c⟩ => ⟨a, b, c⟩, fun ⟨a, b, c⟩ => ⟨⟨a, b⟩, c⟩⟩
structure SzL (l : List ByteArray) : Prop where
  len : l.length ≤ 8796093022208
  each : ∀ s ∈ l, s.size ≤ 140737488355328
theorem SzL.getD {l : List ByteArray} (h : SzL l) (i : Nat) : (l.getD i ByteArray.empty).size ≤ 140737488355328 := by
  by_cases hi : i < l.length
  · rw [getD_lt _ hi]; exact h.each _ (List.getElem_mem hi)
  · rw [List.getD_eq_getElem?_getD, List.getElem?_eq_none (by omega)]
    exact Nat.zero_le _
theorem rdOf_nat (l : List ByteArray) (i : Nat) : rdOf ByteArray.empty l (i : Int) = l.getD i ByteArray.empty := rfl
theorem L_rd (l : List ByteArray) (i : Nat) : L (rdOf ByteArray.empty l (i : Int)) = (LL l).getD i [] := by
  rw [rdOf_nat, LL_getD]
theorem rd_size {l : List ByteArray} (h : SzL l) (i : Nat) : (rdOf ByteArray.empty l (i : Int)).size ≤ 140737488355328 := by
  rw [rdOf_nat]; exact h.getD i
def prev (K : List Key) (i : Nat) : Option Key := if i = 0 then none else some (K.getD (i - 1) [])
theorem goB_drop {K : List Key} {i : Nat} (hi : i < K.length) : goB (prev K i) (K.drop i) = (kokB (K.getD i []) && (if i = 0 then true else decide (K.getD (i - 1) [] < K.getD i [])) && goB (prev K (i + 1)) (K.drop (i + 1))) := by
  rw [drop_cons [] hi]
  unfold prev
  by_cases q : i = 0
  · subst q
    simp [goB]
  · simp only [if_neg q, if_neg (show ¬ i + 1 = 0 by omega), Nat.add_sub_cancel]
    rw [goB]
theorem spec_KeysOk_l0 (l : List ByteArray) (hl : SzL l) (d : Nat) : ∀ i : Nat, i ≤ l.length → l.length - i = d →
    Ev (fun k => spec_KeysOk.l0 k l (i : Int)) (goB (prev (LL l) i) ((LL l).drop i) && decide (l.length ≤ 24)) := by
  have hn := LL_length l
  have hlen := hl.len
  induction d with
  | zero =>
    intro i h1 h2
    refine ev_succ ?_
    simp only [spec_KeysOk.l0]
    refine ev_neg (by omega) (ev_some ?_)
    rw [List.drop_eq_nil_of_le (by omega)]
    simp only [goB, Bool.true_and]
    congr 1; simp; omega
  | succ d ih =>
    intro i h1 h2
    have hi : i < l.length := by omega
    refine ev_succ ?_
    simp only [spec_KeysOk.l0]
    refine ev_pos (by omega) (ev_pos (by omega) ?_)
    rw [w64 (i := (i : Int) + 1) (by omega) (by omega), goB_drop (by omega)]
    have hrec := ih (i + 1) (by omega) (by omega)
    have hk := spec_KeyOk_ev _ (rd_size hl i)
    rw [L_rd] at hk
    refine Ev.bind hk ?_
    cases hkk : kokB ((LL l).getD i []) with
    | false => exact ev_neg (by simp) (ev_some (by simp))
    | true =>
      refine ev_pos rfl ?_
      by_cases q : i = 0
      · refine ev_neg (by omega) ?_
        rw [if_pos q]
        simpa using hrec
      · refine ev_pos (by omega) ?_
        have e : (i : Int) - 1 = ((i - 1 : Nat) : Int) := by omega
        rw [w64 (i := (i : Int) - 1) (by omega) (by omega), e]
        refine ev_pos (by omega) (ev_pos (by omega) ?_)
        rw [less_L, toList_L, toList_L, L_rd, L_rd, if_neg q]
        by_cases c : (LL l).getD (i - 1) [] < (LL l).getD i []
        · refine ev_pos (by simpa using c) ?_
          simp only [decide_eq_true c, Bool.true_and]
          exact hrec
        · refine ev_neg (by simpa using c) (ev_some ?_)
          simp only [decide_eq_false c, Bool.and_false, Bool.false_and]
theorem spec_KeysOk_ev (l : List ByteArray) (hl : SzL l) : Ev (fun k => spec_KeysOk.f k l) (keysB (LL l)) := by
  have := spec_KeysOk_l0 l hl l.length 0 (by omega) (by omega)
  simpa [spec_KeysOk.f, keysB, prev, LL_length] using this
theorem impl_KeysOk_l0 (l : List ByteArray) (hl : SzL l) (d : Nat) : ∀ i : Nat, i ≤ l.length → l.length - i = d →
    Ev (fun k => impl_KeysOk.l0 k l l (l.length : Int) (i : Int)) (goB (prev (LL l) i) ((LL l).drop i) && decide (l.length ≤ 24)) := by
  have hn := LL_length l
  have hlen := hl.len
  induction d with
  | zero =>
    intro i h1 h2
    refine ev_succ ?_
    simp only [impl_KeysOk.l0]
    refine ev_neg (by omega) (ev_some ?_)
    rw [List.drop_eq_nil_of_le (by omega)]
    simp only [goB, Bool.true_and]
    congr 1; simp; omega
  | succ d ih =>
    intro i h1 h2
    have hi : i < l.length := by omega
    refine ev_succ ?_
    simp only [impl_KeysOk.l0]
    refine ev_pos (by omega) (ev_pos (by omega) (ev_pos (by omega) ?_))
    rw [w64 (i := (i : Int) + 1) (by omega) (by omega), goB_drop (by omega)]
    have hrec := ih (i + 1) (by omega) (by omega)
    have hk := impl_KeyOk_ev _ (rd_size hl i)
    rw [L_rd] at hk
    refine Ev.bind hk ?_
    cases hkk : kokB ((LL l).getD i []) with
    | false => exact ev_neg (by simp) (ev_some (by simp))
    | true =>
      refine ev_pos rfl ?_
      by_cases q : i = 0
      · refine ev_neg (by omega) ?_
        rw [if_pos q]
        simpa using hrec
      · refine ev_pos (by omega) ?_
        have e : (i : Int) - 1 = ((i - 1 : Nat) : Int) := by omega
        rw [w64 (i := (i : Int) - 1) (by omega) (by omega), e]
        refine ev_pos (by omega) (ev_pos (by omega) ?_)
        rw [less_L, toList_L, toList_L, L_rd, L_rd, if_neg q]
        by_cases c : (LL l).getD (i - 1) [] < (LL l).getD i []
        · refine ev_pos (by simpa using c) ?_
          simp only [decide_eq_true c, Bool.true_and]
          exact hrec
        · refine ev_neg (by simpa using c) (ev_some ?_)
          simp only [decide_eq_false c, Bool.and_false, Bool.false_and]
theorem impl_KeysOk_ev (l : List ByteArray) (hl : SzL l) : Ev (fun k => impl_KeysOk.f k l) (keysB (LL l)) := by
  have := impl_KeysOk_l0 l hl l.length 0 (by omega) (by omega)
  simpa [impl_KeysOk.f, keysB, prev, LL_length] using this
end Go.Proofs.Ytifgcajpkgamgaa.Pb
end
section
set_option linter.unusedVariables false
set_option linter.unusedSimpArgs false
namespace Go.Proofs.Ytifgcajpkgamgaa.Pb
open Go Go.RowKit Go.Proofs.YtifgcajpkgamgaaW.PrintWords Go.Proofs.YtifgcajpkgamgaaW.PrintLast Go.Proofs.YtifgcajpkgamgaaW.PrintMore Go.Proofs.Ytifgcajpkgamgaa.Trie Go.Proofs.Ytifgcajpkgamgaa.Q
structure By (b : List Int) : Prop where
  byte : ∀ x ∈ b, 0 ≤ x ∧ x ≤ 255
  few : b.length ≤ 2000
theorem By.rd {b : List Int} (h : By b) (i : Int) : 0 ≤ rd b i ∧ rd b i ≤ 255 := by
  unfold Go.Proofs.YtifgcajpkgamgaaW.PrintWords.rd
  rw [List.getD_eq_getElem?_getD]
  cases hx : b[i.toNat]? with
  | none => simp
  | some x =>
    have := h.byte x (List.mem_of_getElem? hx)
    simpa using this
theorem wf_byte {x : Int} (h : (Lit.int .u8 x).wf = true) : 0 ≤ x ∧ x ≤ 255 := by
  simp [Lit.wf, IntKind.min, IntKind.max, IntKind.signed, IntKind.bits] at h
  omega
theorem open_ev (l : List Int) (hl : l.length ≤ maxLen) (hw : ∀ x ∈ l, (Lit.int .u8 x).wf = true) : ∃ b, spec_l6Open.f l = some (b, 0) ∧ By b := by
  unfold spec_l6Open.f
  by_cases h : (l.length : Int) > 2000
  · rw [if_pos h, if_pos (by omega)]
    refine ⟨l.take 2000, rfl, fun x hx => wf_byte (hw x (List.mem_of_mem_take hx)), ?_⟩
    rw [List.length_take]; omega
  · rw [if_neg h]
    exact ⟨l, rfl, fun x hx => wf_byte (hw x hx), by omega⟩
theorem bits_xor_nat (a b : Nat) (ha : a < 2 ^ 62) (hb : b < 2 ^ 62) : bits .xor .i64 (a : Int) (b : Int) = ((a ^^^ b : Nat) : Int) := by
  have hj : 62 ≤ IntKind.i64.bits := by decide
  have hp : 2 ^ 62 ≤ 2 ^ IntKind.i64.bits := Nat.pow_le_pow_right (by decide) hj
  have ha' : a % 2 ^ IntKind.i64.bits = a := Nat.mod_eq_of_lt (Nat.lt_of_lt_of_le ha hp)
  have hb' : b % 2 ^ IntKind.i64.bits = b := Nat.mod_eq_of_lt (Nat.lt_of_lt_of_le hb hp)
  simp only [bits, BitVec.ofInt_natCast, BitVec.toNat_xor, BitVec.toNat_ofNat, ha', hb']
  have h := Nat.xor_lt_two_pow ha hb
  rw [IntKind.wrap_i64]
  omega
theorem tmod_range {x n : Int} (hx : 0 ≤ x) (hn : 1 ≤ n) : 0 ≤ Int.tmod x n ∧ Int.tmod x n < n := by
  rw [Int.tmod_eq_emod_of_nonneg hx]
  exact ⟨Int.emod_nonneg _ (by omega), Int.emod_lt_of_pos _ (by omega)⟩
theorem pick_ev {b : List Int} (hb : By b) (p : Int) (h0 : 0 ≤ p) (h1 : p ≤ 1000000) (n : Int) (hn : n ≤ 1000000) :
    ∃ r, Ev (fun k => spec_l6Rd_pick.f k b p n) (r, p + 1) ∧ 0 ≤ r ∧ (1 ≤ n → r < n) ∧ (n < 1 → r = 0) := by
  have hl := hb.few
  unfold spec_l6Rd_pick.f
  rw [w64 (i := p + 1) (by omega) (by omega)]
  by_cases c1 : n < 1
  · refine ⟨0, ev_pos c1 (ev_succ ?_), by omega, by omega, fun _ => rfl⟩
    simp only [spec_l6Rd_pick.j0]
    exact ev_pos (by simp) (ev_some rfl)
  · by_cases c2 : (b.length : Int) = 0
    · refine ⟨0, ev_neg c1 (ev_succ ?_), by omega, by omega, fun _ => rfl⟩
      simp only [spec_l6Rd_pick.j0]
      exact ev_pos (by simpa using c2) (ev_some rfl)
    · have e1 : p + 1 - 1 = p := by omega
      by_cases c3 : p < (b.length : Int)
      · have hr := hb.rd p
        refine ⟨Int.tmod (rd b p) n, ev_neg c1 (ev_succ ?_), (tmod_range hr.1 (by omega)).1, fun _ => (tmod_range hr.1 (by omega)).2, by omega⟩
        simp only [spec_l6Rd_pick.j0]
        refine ev_neg (by simpa using c2) ?_
        rw [e1, w64 (i := p) (by omega) (by omega)]
        refine ev_pos c3 (ev_pos h0 (ev_neg (by omega) (ev_some ?_)))
        rw [w64 (by omega) (by omega)]
      · have hm := tmod_range h0 (show (1 : Int) ≤ b.length by omega)
        have e2 : wrap64 (wrap64 (p * 7) + 3) = p * 7 + 3 := by rw [w64 (i := p * 7) (by omega) (by omega), w64 (by omega) (by omega)]
        have hm2 := tmod_range (show 0 ≤ p * 7 + 3 by omega) (show (1 : Int) ≤ b.length by omega)
        have hr1 := hb.rd (Int.tmod p b.length)
        have hr2 := hb.rd (Int.tmod (p * 7 + 3) b.length)
        have ed : Int.tdiv p b.length = p / b.length := Int.tdiv_eq_ediv_of_nonneg h0
        have hd0 : 0 ≤ p / (b.length : Int) := Int.ediv_nonneg h0 (by omega)
        have hd1 : p / (b.length : Int) ≤ p := Int.ediv_le_self _ h0
        generalize hA : rd b (Int.tmod p b.length) = A at *
        generalize hB : rd b (Int.tmod (p * 7 + 3) b.length) = B at *
        generalize hD : p / (b.length : Int) = D at *
        have eX : wrap64 (wrap64 (wrap64 (wrap64 (wrap64 A * 131) + wrap64 (wrap64 B * 1117)) + wrap64 (p * 29)) + wrap64 (wrap64 D * 53)) = A * 131 + B * 1117 + p * 29 + D * 53 := by
          rw [w64 (i := A) (by omega) (by omega), w64 (i := B) (by omega) (by omega), w64 (i := D) (by omega) (by omega), w64 (i := A * 131) (by omega) (by omega), w64 (i := B * 1117) (by omega) (by omega), w64 (i := p * 29) (by omega) (by omega), w64 (i := D * 53) (by omega) (by omega), w64 (i := A * 131 + B * 1117) (by omega) (by omega), w64 (i := A * 131 + B * 1117 + p * 29) (by omega) (by omega), w64 (by omega) (by omega)]
        obtain ⟨X, hX⟩ : ∃ X : Nat, A * 131 + B * 1117 + p * 29 + D * 53 = (X : Int) := ⟨(A * 131 + B * 1117 + p * 29 + D * 53).toNat, by omega⟩
        have hXb : X < 2 ^ 62 := by omega
        have hY : Int.tdiv (X : Int) 64 = ((X / 64 : Nat) : Int) := by rw [Int.tdiv_eq_ediv_of_nonneg (by omega)]; omega
        have hxor := bits_xor_nat X (X / 64) hXb (by omega)
        refine ⟨Int.tmod (((X ^^^ (X / 64) : Nat) : Int)) n, ev_neg c1 (ev_succ ?_), (tmod_range (by omega) (by omega)).1, fun _ => (tmod_range (by omega) (by omega)).2, by omega⟩
        simp only [spec_l6Rd_pick.j0]
        refine ev_neg (by simpa using c2) ?_
        rw [e1, w64 (i := p) (by omega) (by omega), e2, ed, hA, hB, eX, hX, hY, w64 (i := ((X / 64 : Nat) : Int)) (by omega) (by omega), hxor]
        exact ev_neg c3 (ev_neg c2 (ev_pos hm.1 (ev_pos hm.2 (ev_pos hm2.1 (ev_pos hm2.2 (ev_neg (by omega) (ev_some rfl)))))))
theorem of_ev {b : List Int} (hb : By b) (p : Int) (h0 : 0 ≤ p) (h1 : p ≤ 1000000) (l : List ByteArray) (hl : l ≠ []) (hn : l.length ≤ 1000) :
    ∃ s, Ev (fun k => spec_l6Rd_of.f k b p l) (s, p + 1) ∧ s ∈ l := by
  have hpos : 0 < l.length := List.length_pos_iff.2 hl
  obtain ⟨r, hr, g0, g1, _⟩ := pick_ev hb p h0 h1 (l.length : Int) (by omega)
  have g1 := g1 (by omega)
  obtain ⟨j, rfl⟩ : ∃ j : Nat, r = (j : Int) := ⟨r.toNat, by omega⟩
  refine ⟨l.getD j ByteArray.empty, ?_, ?_⟩
  · unfold spec_l6Rd_of.f
    refine Ev.bind hr ?_
    exact ev_pos g0 (ev_pos g1 (ev_some rfl))
  · rw [getD_lt _ (by omega)]
    exact List.getElem_mem _
end Go.Proofs.Ytifgcajpkgamgaa.Pb
end
section
set_option linter.unusedVariables false
set_option linter.unusedSimpArgs false
namespace Go.Proofs.Ytifgcajpkgamgaa.Pb
open Go Go.RowKit Go.Proofs.YtifgcajpkgamgaaW.PrintWords Go.Proofs.YtifgcajpkgamgaaW.PrintLast Go.Proofs.YtifgcajpkgamgaaW.PrintMore Go.Proofs.Ytifgcajpkgamgaa.Trie Go.Proofs.Ytifgcajpkgamgaa.Q
theorem kok_nil : KOk [] := ⟨by simp, by simp⟩
theorem kok_snoc {l : Key} (h : KOk l) {c : UInt8} (hc : 97 ≤ c.toNat ∧ c.toNat ≤ 100) (hl : l.length < 5) : KOk (l ++ [c]) := by
  refine ⟨by simp; omega, fun x hx => ?_⟩
  rcases List.mem_append.1 hx with h1 | h1
  · exact h.alph x h1
  · simp at h1; subst h1; exact hc
theorem kok_take {l : Key} (h : KOk l) (n : Nat) : KOk (l.take n) := ⟨by rw [List.length_take]; have := h.len; omega, fun c hc => h.alph c (List.mem_of_mem_take hc)⟩
theorem key_l0_ev {b : List Int} (hb : By b) (d : Nat) : ∀ (x3 : ByteArray) (p : Int), 0 ≤ p → p + d ≤ 900000 → KOk (L x3) → (L x3).length + d ≤ 5 →
    ∃ s, Ev (fun k => spec_l71Key.l0 k x3 (d : Int) b p) (s, p + d) ∧ KOk (L s) := by
  induction d with
  | zero =>
    intro x3 p h0 h1 h2 h3
    refine ⟨x3, ev_succ ?_, h2⟩
    simp only [spec_l71Key.l0]
    exact ev_neg (by omega) (ev_some (by simp))
  | succ d ih =>
    intro x3 p h0 h1 h2 h3
    obtain ⟨t, ht, hm⟩ := of_ev hb p h0 (by omega) ([(⟨#[97]⟩ : ByteArray), (⟨#[98]⟩ : ByteArray), (⟨#[97]⟩ : ByteArray), (⟨#[99]⟩ : ByteArray), (⟨#[100]⟩ : ByteArray)]) (by simp) (by simp)
    have hts : ∃ c : UInt8, L t = [c] ∧ 97 ≤ c.toNat ∧ c.toNat ≤ 100 := by
      simp only [List.mem_cons, List.not_mem_nil, or_false] at hm
      rcases hm with rfl | rfl | rfl | rfl | rfl <;> exact ⟨_, rfl, by decide, by decide⟩
    obtain ⟨c, hc, hcr⟩ := hts
    have hz : t.size = 1 := by rw [size_L, hc]; rfl
    have hx := size_L x3
    have hL : L (x3 ++ t) = L x3 ++ [c] := by rw [L_append, hc]
    obtain ⟨s, hr, g⟩ := ih (x3 ++ t) (p + 1) (by omega) (by omega) (by rw [hL]; exact kok_snoc h2 hcr (by omega)) (by rw [hL, List.length_append]; simp only [List.length_cons, List.length_nil]; omega)
    refine ⟨s, ev_succ ?_, g⟩
    simp only [spec_l71Key.l0]
    refine ev_pos (by omega) (Ev.bind ht (ev_pos (by rw [hz]; omega) ?_))
    rw [w64 (by omega) (by omega), show ((d + 1 : Nat) : Int) - 1 = (d : Int) by omega, show p + ((d + 1 : Nat) : Int) = p + 1 + (d : Int) by omega]
    exact hr
theorem key_ev {b : List Int} (hb : By b) (p : Int) (h0 : 0 ≤ p) (h1 : p ≤ 800000) :
    ∃ s q, Ev (fun k => spec_l71Key.f k b p) (s, q) ∧ KOk (L s) ∧ p < q ∧ q ≤ p + 10 := by
  obtain ⟨r, hr, g0, g1, _⟩ := pick_ev hb p h0 (by omega) 6 (by omega)
  have g1 := g1 (by omega)
  obtain ⟨n, rfl⟩ : ∃ n : Nat, r = (n : Int) := ⟨r.toNat, by omega⟩
  obtain ⟨s, hs, g⟩ := key_l0_ev hb n (⟨#[]⟩ : ByteArray) (p + 1) (by omega) (by omega) (by exact kok_nil) (by show 0 + n ≤ 5; omega)
  refine ⟨s, p + 1 + n, ?_, g, by omega, by omega⟩
  unfold spec_l71Key.f
  exact Ev.bind hr hs
theorem near_gen (Pd : Key → Prop) (hK : ∀ k, KOk k → Pd k) (hT : ∀ k n, Pd k → Pd (k.take n)) (hS : ∀ (k : Key) (c : UInt8), Pd k → k.length < 5 → (97 ≤ c.toNat ∧ c.toNat ≤ 100) → Pd (k ++ [c])) (hLn : ∀ k, Pd k → k.length ≤ 1000) {b : List Int} (hb : By b) (p : Int) (h0 : 0 ≤ p) (h1 : p ≤ 700000) (l : List ByteArray) (hl : l.length ≤ 1000) (hk : ∀ x ∈ l, Pd (L x)) :
    ∃ s q, Ev (fun k => spec_l71Near.f k b p l) (s, q) ∧ Pd (L s) ∧ p < q ∧ q ≤ p + 20 := by
  have plain : ∀ p' : Int, 0 ≤ p' → p' ≤ 700010 → ∃ s q, Ev (fun k => spec_l71Near.j0 k l true b p') (s, q) ∧ Pd (L s) ∧ p' < q ∧ q ≤ p' + 10 := by
    intro p' a0 a1
    obtain ⟨s, q, hs, g, q0, q1⟩ := key_ev hb p' a0 (by omega)
    refine ⟨s, q, ev_succ ?_, hK _ g, q0, q1⟩
    simp only [spec_l71Near.j0]
    exact ev_pos (by simp) (Ev.bind hs (ev_some rfl))
  by_cases c0 : (l.length : Int) = 0
  · obtain ⟨s, q, hs, g, q0, q1⟩ := plain p h0 (by omega)
    refine ⟨s, q, ?_, g, q0, by omega⟩
    unfold spec_l71Near.f
    exact ev_pos c0 hs
  · obtain ⟨r, hr, _, _, _⟩ := pick_ev hb p h0 (by omega) 4 (by omega)
    by_cases c1 : r = 0
    · obtain ⟨s, q, hs, g, q0, q1⟩ := plain (p + 1) (by omega) (by omega)
      refine ⟨s, q, ?_, g, by omega, by omega⟩
      unfold spec_l71Near.f
      refine ev_neg c0 (Ev.bind hr ?_)
      simp only [c1]
      exact hs
    · have hrb : (r == 0) = false := by simpa using c1
      obtain ⟨i, hi, i0, i1, _⟩ := pick_ev hb (p + 1) (by omega) (by omega) (l.length : Int) (by omega)
      have i1 := i1 (by omega)
      obtain ⟨j, rfl⟩ : ∃ j : Nat, i = (j : Int) := ⟨i.toNat, by omega⟩
      obtain ⟨x, hx⟩ : ∃ x, rdOf ByteArray.empty l (j : Int) = x := ⟨_, rfl⟩
      have hxk : Pd (L x) := by
        refine hk x ?_
        rw [← hx, show rdOf ByteArray.empty l (j : Int) = l.getD j ByteArray.empty from rfl, getD_lt _ (by omega)]
        exact List.getElem_mem _
      have hxs := size_L x
      have hxl := hLn _ hxk
      obtain ⟨m, hm, m0, m1, _⟩ := pick_ev hb (p + 1 + 1) (by omega) (by omega) 4 (by omega)
      have go : ∀ s q, Ev (fun k => (if m = 0 then ((spec_l6Rd_pick.f k b (p + 1 + 1 + 1) (wrap64 ((x.size : Int) + 1))).bind fun bt135 => (if 0 ≤ bt135.1 then (if bt135.1 ≤ (x.size : Int) then (some (x.extract 0 (bt135.1 : Int).toNat, bt135.2)) else (none)) else (none))) else (if m = 1 then (if (x.size : Int) < 5 then ((spec_l6Rd_of.f k b (p + 1 + 1 + 1) (([(⟨#[97]⟩ : ByteArray), (⟨#[98]⟩ : ByteArray), (⟨#[100]⟩ : ByteArray)] : List ByteArray))).bind fun bt140 => (if x.size + bt140.1.size ≤ 9223372036854775807 then (some (x ++ bt140.1, bt140.2)) else (none))) else (some (x, p + 1 + 1 + 1))) else (some (x, p + 1 + 1 + 1))))) (s, q) → Ev (fun k => spec_l71Near.f k b p l) (s, q) := by
        intro s q h
        unfold spec_l71Near.f
        refine ev_neg c0 (Ev.bind hr ?_)
        simp only [hrb]
        refine ev_succ ?_
        simp only [spec_l71Near.j0]
        refine ev_neg (by simp) (Ev.bind hi (ev_pos i0 (ev_pos i1 (Ev.bind hm ?_))))
        simp only [hx]
        exact h
      by_cases d0 : m = 0
      · obtain ⟨z, hz, z0, z1, _⟩ := pick_ev hb (p + 1 + 1 + 1) (by omega) (by omega) ((x.size : Int) + 1) (by omega)
        have z1 := z1 (by omega)
        refine ⟨x.extract 0 z.toNat, p + 1 + 1 + 1 + 1, go _ _ ?_, ?_, by omega, by omega⟩
        · refine ev_pos d0 ?_
          rw [w64 (i := (x.size : Int) + 1) (by omega) (by omega)]
          exact Ev.bind hz (ev_pos z0 (ev_pos (by simp only []; omega) (ev_some rfl)))
        · rw [L_extract, List.drop_zero]
          exact hT _ _ hxk
      · by_cases d1 : m = 1
        · by_cases d2 : (x.size : Int) < 5
          · obtain ⟨t, ht, hm⟩ := of_ev hb (p + 1 + 1 + 1) (by omega) (by omega) ([(⟨#[97]⟩ : ByteArray), (⟨#[98]⟩ : ByteArray), (⟨#[100]⟩ : ByteArray)]) (by simp) (by simp)
            have hts : ∃ c : UInt8, L t = [c] ∧ 97 ≤ c.toNat ∧ c.toNat ≤ 100 := by
              simp only [List.mem_cons, List.not_mem_nil, or_false] at hm
              rcases hm with rfl | rfl | rfl <;> exact ⟨_, rfl, by decide, by decide⟩
            obtain ⟨c, hc, hcr⟩ := hts
            have hz : t.size = 1 := by rw [size_L, hc]; rfl
            refine ⟨x ++ t, p + 1 + 1 + 1 + 1, go _ _ ?_, ?_, by omega, by omega⟩
            · exact ev_neg d0 (ev_pos d1 (ev_pos d2 (Ev.bind ht (ev_pos (by rw [hz]; omega) (ev_some rfl)))))
            · rw [L_append, hc]
              exact hS _ _ hxk (by omega) hcr
          · exact ⟨x, p + 1 + 1 + 1, go _ _ (ev_neg d0 (ev_pos d1 (ev_neg d2 (ev_some rfl)))), hxk, by omega, by omega⟩
        · exact ⟨x, p + 1 + 1 + 1, go _ _ (ev_neg d0 (ev_neg d1 (ev_some rfl))), hxk, by omega, by omega⟩
theorem near_ev {b : List Int} (hb : By b) (p : Int) (h0 : 0 ≤ p) (h1 : p ≤ 700000) (l : List ByteArray) (hl : l.length ≤ 1000) (hk : ∀ x ∈ l, KOk (L x)) :
    ∃ s q, Ev (fun k => spec_l71Near.f k b p l) (s, q) ∧ KOk (L s) ∧ p < q ∧ q ≤ p + 20 :=
  near_gen KOk (fun _ h => h) (fun _ n h => kok_take h n) (fun _ _ h hl hc => kok_snoc h hc hl) (fun _ h => by have := h.len; omega) hb p h0 h1 l hl hk
theorem pre_L (x y : ByteArray) (h : (y.size : Int) ≤ (x.size : Int)) : ((x.extract 0 ((y.size : Int) : Int).toNat).toList == y.toList) = (L y).isPrefixOf (L x) := by
  rw [toList_L, toList_L, L_extract, List.drop_zero, Bool.eq_iff_iff, List.isPrefixOf_iff_prefix, beq_iff_eq]
  have hy := size_L y
  rw [show ((y.size : Nat) : Int).toNat = (L y).length by omega]
  constructor
  · intro q; rw [← q]; exact List.take_prefix _ _
  · rintro ⟨s, hs⟩
    rw [← hs, List.take_left]
theorem pre_long (x y : ByteArray) (h : ¬ (y.size : Int) ≤ (x.size : Int)) : (L y).isPrefixOf (L x) = false := by
  rw [← Bool.not_eq_true, List.isPrefixOf_iff_prefix]
  intro q
  have := q.length_le
  have hy := size_L y
  have hx := size_L x
  omega
theorem impl_KeyBegins_eq (x y : ByteArray) : impl_KeyBegins.f x y = some ((L y).isPrefixOf (L x)) := by
  unfold impl_KeyBegins.f strings_HasPrefix.f stringslite_HasPrefix.f
  by_cases h : (y.size : Int) ≤ (x.size : Int)
  · rw [if_pos h, if_pos (by omega), if_pos h, pre_L x y h]; rfl
  · rw [if_neg h, pre_long x y h]; rfl
end Go.Proofs.Ytifgcajpkgamgaa.Pb
end
section
set_option linter.unusedVariables false
set_option linter.unusedSimpArgs false
namespace Go.Proofs.Ytifgcajpkgamgaa.Pb
open Go Go.RowKit Go.Proofs.YtifgcajpkgamgaaW.PrintWords Go.Proofs.YtifgcajpkgamgaaW.PrintLast Go.Proofs.YtifgcajpkgamgaaW.PrintMore Go.Proofs.Ytifgcajpkgamgaa.Trie Go.Proofs.Ytifgcajpkgamgaa.Q
theorem pos_one : ∀ (l : List UInt8) (m : Nat), pos l m < l.length → l.getD (pos l m) 0 = 49 ∧ onesB l (pos l m) = m := by
  intro l
  induction l with
  | nil => intro m h; simp [pos] at h
  | cons c l ih =>
    intro m h
    rw [pos] at h ⊢
    by_cases q : c = 49
    · rw [if_pos q] at h ⊢
      by_cases z : m = 0
      · rw [if_pos z]
        exact ⟨by simp [q], by simp [onesB, z]⟩
      · rw [if_neg z] at h ⊢
        have := ih (m - 1) (by simp only [List.length_cons] at h; omega)
        rw [show 1 + pos l (m - 1) = pos l (m - 1) + 1 by omega]
        refine ⟨by simpa using this.1, ?_⟩
        have h2 := this.2
        unfold onesB at h2 ⊢
        rw [List.take_succ_cons, List.countP_cons, h2]
        simp [q]; omega
    · rw [if_neg q] at h ⊢
      have := ih m (by simp only [List.length_cons] at h; omega)
      rw [show 1 + pos l m = pos l m + 1 by omega]
      refine ⟨by simpa using this.1, ?_⟩
      have h2 := this.2
      unfold onesB at h2 ⊢
      rw [List.take_succ_cons, List.countP_cons, h2]
      simp [q]
theorem many_ev (C : Nat) (hC : C ≤ 1000000) : ∀ (n : Nat) (x0 x5 : ByteArray), n ≤ 1000000 → (1 ≤ n → x0.size ≤ C) → x5.size + n * x0.size ≤ C →
    ∃ r, Ev (fun k => spec_l6Many.l0 k x0 (n : Int) x5) r ∧ r.size ≤ C := by
  intro n
  induction n using Nat.strongRecOn with
  | _ n ih =>
    intro x0 x5 hn h0 h1
    by_cases c : (n : Int) > 0
    · have h0' := h0 (by omega)
      have hsz : (x0 ++ x0).size = x0.size + x0.size := ByteArray.size_append
      have hd : wrap64 (Int.tdiv (n : Int) 2) = ((n / 2 : Nat) : Int) := by
        rw [Int.tdiv_eq_ediv_of_nonneg (by omega)]
        unfold wrap64
        omega
      have hnC : n ≤ C ∨ x0.size = 0 := by
        by_cases z : x0.size = 0
        · exact .inr z
        · exact .inl (by have : n ≤ n * x0.size := Nat.le_mul_of_pos_right n (by omega); omega)
      have hmul : (n / 2) * (x0.size + x0.size) ≤ n * x0.size := by
        have : (n / 2) * 2 ≤ n := Nat.div_mul_le_self n 2
        calc (n / 2) * (x0.size + x0.size) = ((n / 2) * 2) * x0.size := by rw [Nat.mul_assoc, Nat.two_mul]
          _ ≤ n * x0.size := Nat.mul_le_mul_right _ this
      have hb : 1 ≤ n / 2 → x0.size + x0.size ≤ C := by
        intro q
        have : 1 * (x0.size + x0.size) ≤ (n / 2) * (x0.size + x0.size) := Nat.mul_le_mul_right _ q
        omega
      by_cases od : Int.tmod (n : Int) 2 = 1
      · have hodd : n * x0.size = (n / 2) * (x0.size + x0.size) + x0.size := by
          rw [Int.tmod_eq_emod_of_nonneg (by omega)] at od
          have : n = (n / 2) * 2 + 1 := by omega
          conv => lhs; rw [this]
          rw [Nat.add_mul, Nat.mul_assoc, Nat.two_mul, Nat.one_mul]
        have hsz2 : (x5 ++ x0).size = x5.size + x0.size := ByteArray.size_append
        obtain ⟨r, hr, hs⟩ := ih (n / 2) (by omega) (x0 ++ x0) (x5 ++ x0) (by omega) (by rw [hsz]; exact hb) (by rw [hsz, hsz2]; omega)
        refine ⟨r, ev_succ ?_, hs⟩
        simp only [spec_l6Many.l0]
        refine ev_pos c (ev_pos od (ev_pos (by omega) (ev_pos (by omega) ?_)))
        rw [hd]; exact hr
      · obtain ⟨r, hr, hs⟩ := ih (n / 2) (by omega) (x0 ++ x0) x5 (by omega) (by rw [hsz]; exact hb) (by rw [hsz]; omega)
        refine ⟨r, ev_succ ?_, hs⟩
        simp only [spec_l6Many.l0]
        refine ev_pos c (ev_neg od (ev_pos (by omega) ?_))
        rw [hd]; exact hr
    · refine ⟨x5, ev_succ ?_, by omega⟩
      simp only [spec_l6Many.l0]
      exact ev_neg c (ev_some rfl)
end Go.Proofs.Ytifgcajpkgamgaa.Pb
end
section
set_option linter.unusedVariables false
set_option linter.unusedSimpArgs false
namespace Go.Proofs.Ytifgcajpkgamgaa.Pb
open Go Go.RowKit Go.Proofs.YtifgcajpkgamgaaW.PrintWords Go.Proofs.YtifgcajpkgamgaaW.PrintLast Go.Proofs.YtifgcajpkgamgaaW.PrintMore Go.Proofs.Ytifgcajpkgamgaa.Trie Go.Proofs.Ytifgcajpkgamgaa.Q
def putN (k : Key) : List Key → List Key
  | [] => [k]
  | y :: l => if k < y then k :: y :: l else y :: putN k l
def putB (K : List Key) (k : Key) : List Key := if k ∈ K then K else putN k K
theorem L_eq_iff {a b : ByteArray} : a.toList = b.toList ↔ L a = L b := by rw [toList_L, toList_L]
theorem l2Put_true (x0 : List ByteArray) (x1 : ByteArray) (hn : x0.length ≤ 2000000) (d : Nat) : ∀ (x5 : List ByteArray) (i : Nat), i ≤ x0.length → x0.length - i = d → x5.length ≤ i + 1 →
    ∃ r, Ev (fun k => spec_l2Put.l0 k x0 x1 x5 true (i : Int)) r ∧ LL r = if L x1 ∈ (LL x0).drop i then LL x0 else LL x5 ++ (LL x0).drop i := by
  have hz := LL_length x0
  induction d with
  | zero =>
    intro x5 i h1 h2 h3
    refine ⟨x5, ev_succ ?_, ?_⟩
    · simp only [spec_l2Put.l0]
      exact ev_neg (by omega) (ev_pos trivial (ev_some rfl))
    · rw [List.drop_eq_nil_of_le (by omega)]; simp
  | succ d ih =>
    intro x5 i h1 h2 h3
    have hr := L_rd x0 i
    obtain ⟨y, hy⟩ : ∃ y, rdOf ByteArray.empty x0 (i : Int) = y := ⟨_, rfl⟩
    rw [hy] at hr
    have hdrop : (LL x0).drop i = L y :: (LL x0).drop (i + 1) := by rw [drop_cons [] (by omega), ← hr]
    by_cases e : L y = L x1
    · refine ⟨x0, ev_succ ?_, ?_⟩
      · simp only [spec_l2Put.l0, hy]
        exact ev_pos (by omega) (ev_pos (by omega) (ev_pos (L_eq_iff.2 e) (ev_some rfl)))
      · rw [hdrop, if_pos (by simp [e])]
    · obtain ⟨r, hr, he⟩ := ih (x5 ++ [y]) (i + 1) (by omega) (by omega) (by simp; omega)
      refine ⟨r, ev_succ ?_, ?_⟩
      · simp only [spec_l2Put.l0, hy]
        refine ev_pos (by omega) (ev_pos (by omega) (ev_neg (fun q => e (L_eq_iff.1 q)) (ev_pos trivial (ev_pos (by omega) ?_))))
        rw [w64 (by omega) (by omega)]; exact hr
      · rw [he, hdrop]
        have hm : (L x1 ∈ L y :: (LL x0).drop (i + 1)) ↔ L x1 ∈ (LL x0).drop (i + 1) := by
          rw [List.mem_cons]
          exact ⟨fun h => h.resolve_left (fun q => e q.symm), .inr⟩
        by_cases m : L x1 ∈ (LL x0).drop (i + 1)
        · rw [if_pos m, if_pos (hm.2 m)]
        · rw [if_neg m, if_neg (fun q => m (hm.1 q)), LL_append]
          simp [LL]
theorem l2Put_false (x0 : List ByteArray) (x1 : ByteArray) (hn : x0.length ≤ 2000000) (d : Nat) : ∀ (x5 : List ByteArray) (i : Nat), i ≤ x0.length → x0.length - i = d → x5.length ≤ i →
    ∃ r, Ev (fun k => spec_l2Put.l0 k x0 x1 x5 false (i : Int)) r ∧ LL r = if L x1 ∈ (LL x0).drop i then LL x0 else LL x5 ++ putN (L x1) ((LL x0).drop i) := by
  have hz := LL_length x0
  induction d with
  | zero =>
    intro x5 i h1 h2 h3
    refine ⟨x5 ++ [x1], ev_succ ?_, ?_⟩
    · simp only [spec_l2Put.l0]
      exact ev_neg (by omega) (ev_neg (by simp) (ev_pos (by omega) (ev_some rfl)))
    · rw [List.drop_eq_nil_of_le (by omega), LL_append]
      simp [putN, LL]
  | succ d ih =>
    intro x5 i h1 h2 h3
    have hr := L_rd x0 i
    obtain ⟨y, hy⟩ : ∃ y, rdOf ByteArray.empty x0 (i : Int) = y := ⟨_, rfl⟩
    rw [hy] at hr
    have hdrop : (LL x0).drop i = L y :: (LL x0).drop (i + 1) := by rw [drop_cons [] (by omega), ← hr]
    by_cases e : L y = L x1
    · refine ⟨x0, ev_succ ?_, ?_⟩
      · simp only [spec_l2Put.l0, hy]
        exact ev_pos (by omega) (ev_pos (by omega) (ev_pos (L_eq_iff.2 e) (ev_some rfl)))
      · rw [hdrop, if_pos (by simp [e])]
    · have hm : (L x1 ∈ L y :: (LL x0).drop (i + 1)) ↔ L x1 ∈ (LL x0).drop (i + 1) := by
        rw [List.mem_cons]
        exact ⟨fun h => h.resolve_left (fun q => e q.symm), .inr⟩
      by_cases lt : L x1 < L y
      · obtain ⟨r, hr, he⟩ := l2Put_true x0 x1 hn d (x5 ++ [x1] ++ [y]) (i + 1) (by omega) (by omega) (by simp; omega)
        refine ⟨r, ev_succ ?_, ?_⟩
        · simp only [spec_l2Put.l0, hy]
          refine ev_pos (by omega) (ev_pos (by omega) (ev_neg (fun q => e (L_eq_iff.1 q)) (ev_neg (by simp) (ev_pos (by rw [less_L, decide_eq_true_eq, toList_L, toList_L]; exact lt) (ev_pos (by omega) (ev_bindc rfl (ev_pos (by simp; omega) ?_)))))))
          rw [w64 (by omega) (by omega)]; exact hr
        · rw [he, hdrop]
          by_cases m : L x1 ∈ (LL x0).drop (i + 1)
          · rw [if_pos m, if_pos (hm.2 m)]
          · rw [if_neg m, if_neg (fun q => m (hm.1 q)), putN, if_pos lt, LL_append, LL_append]
            simp [LL]
      · obtain ⟨r, hr, he⟩ := ih (x5 ++ [y]) (i + 1) (by omega) (by omega) (by simp; omega)
        refine ⟨r, ev_succ ?_, ?_⟩
        · simp only [spec_l2Put.l0, hy]
          refine ev_pos (by omega) (ev_pos (by omega) (ev_neg (fun q => e (L_eq_iff.1 q)) (ev_neg (by simp) (ev_neg (by rw [less_L, decide_eq_true_eq, toList_L, toList_L]; exact lt) (ev_pos (by omega) ?_)))))
          rw [w64 (by omega) (by omega)]; exact hr
        · rw [he, hdrop]
          by_cases m : L x1 ∈ (LL x0).drop (i + 1)
          · rw [if_pos m, if_pos (hm.2 m)]
          · rw [if_neg m, if_neg (fun q => m (hm.1 q)), putN, if_neg lt, LL_append]
            simp [LL]
theorem l2Put_ev (x0 : List ByteArray) (x1 : ByteArray) (hn : x0.length ≤ 2000000) : ∃ r, Ev (fun k => spec_l2Put.f k x0 x1) r ∧ LL r = putB (LL x0) (L x1) := by
  obtain ⟨r, hr, he⟩ := l2Put_false x0 x1 hn x0.length [] 0 (by omega) (by omega) (by simp)
  refine ⟨r, hr, ?_⟩
  rw [he, List.drop_zero]
  simp [putB, LL]
theorem putN_mem {k x : Key} {K : List Key} : x ∈ putN k K ↔ x = k ∨ x ∈ K := by
  induction K with
  | nil => simp [putN]
  | cons y l ih =>
    rw [putN]
    split
    · simp
    · simp only [List.mem_cons, ih]
      constructor
      · rintro (h | h | h)
        · exact .inr (.inl h)
        · exact .inl h
        · exact .inr (.inr h)
      · rintro (h | h | h)
        · exact .inr (.inl h)
        · exact .inl h
        · exact .inr (.inr h)
theorem putB_mem {k x : Key} {K : List Key} : x ∈ putB K k ↔ x = k ∨ x ∈ K := by
  unfold putB
  split
  · rename_i h
    exact ⟨.inr, fun q => q.elim (fun e => e ▸ h) id⟩
  · exact putN_mem
theorem putN_length {k : Key} {K : List Key} : (putN k K).length = K.length + 1 := by
  induction K with
  | nil => rfl
  | cons y l ih => rw [putN]; split <;> simp [ih]
theorem putB_length {k : Key} {K : List Key} : (putB K k).length ≤ K.length + 1 := by
  unfold putB
  split
  · omega
  · rw [putN_length]; omega
theorem putN_sorted {k : Key} {K : List Key} (hK : K.Pairwise (· < ·)) (hk : k ∉ K) : (putN k K).Pairwise (· < ·) := by
  induction K with
  | nil => simp [putN]
  | cons y l ih =>
    have h2 := List.pairwise_cons.1 hK
    rw [putN]
    by_cases c : k < y
    · rw [if_pos c]
      refine List.pairwise_cons.2 ⟨fun x hx => ?_, hK⟩
      rcases List.mem_cons.1 hx with rfl | hx
      · exact c
      · exact key_trans c (h2.1 x hx)
    · rw [if_neg c]
      refine List.pairwise_cons.2 ⟨fun x hx => ?_, ih h2.2 (fun q => hk (by simp [q]))⟩
      rcases putN_mem.1 hx with e | hx
      · rw [e]
        rcases key_le_total k y with h | h | h
        · exact absurd h c
        · exact absurd (by simp [h]) hk
        · exact h
      · exact h2.1 x hx
theorem putB_sorted {k : Key} {K : List Key} (hK : K.Pairwise (· < ·)) : (putB K k).Pairwise (· < ·) := by
  unfold putB
  split
  · exact hK
  · rename_i h; exact putN_sorted hK h
structure SOk (K : List Key) : Prop where
  ok : ∀ k ∈ K, KOk k
  sorted : K.Pairwise (· < ·)
theorem sok_put {K : List Key} (h : SOk K) {k : Key} (hk : KOk k) : SOk (putB K k) :=
  ⟨fun x hx => (putB_mem.1 hx).elim (fun e => e ▸ hk) (h.ok x), putB_sorted h.sorted⟩
theorem LL_mem {l : List ByteArray} {x : ByteArray} (h : x ∈ l) : L x ∈ LL l := List.mem_map_of_mem h
theorem keys_l0_ev {b : List Int} (hb : By b) (d : Nat) : ∀ (x5 : List ByteArray) (p : Int), 0 ≤ p → p + 20 * d ≤ 600000 → SOk (LL x5) → x5.length + d ≤ 100 →
    ∃ s q, Ev (fun k => spec_l71Keys.l0 k x5 (d : Int) b p) (s, q) ∧ SOk (LL s) ∧ s.length ≤ x5.length + d ∧ p ≤ q ∧ q ≤ p + 20 * d := by
  induction d with
  | zero =>
    intro x5 p h0 h1 h2 h3
    refine ⟨x5, p, ev_succ ?_, h2, by omega, by omega, by omega⟩
    simp only [spec_l71Keys.l0]
    exact ev_neg (by omega) (ev_some rfl)
  | succ d ih =>
    intro x5 p h0 h1 h2 h3
    obtain ⟨s, q, hs, ks, q0, q1⟩ := near_ev hb p h0 (by omega) x5 (by omega) (fun x hx => h2.ok _ (LL_mem hx))
    obtain ⟨r, hr, he⟩ := l2Put_ev x5 s (by omega)
    have hl : r.length ≤ x5.length + 1 := by
      have := putB_length (k := L s) (K := LL x5)
      rw [← he, LL_length, LL_length] at this; exact this
    obtain ⟨s', q', hs', k', l', a0, a1⟩ := ih r q (by omega) (by omega) (by rw [he]; exact sok_put h2 ks) (by omega)
    refine ⟨s', q', ev_succ ?_, k', by omega, by omega, by omega⟩
    simp only [spec_l71Keys.l0]
    refine ev_pos (by omega) (Ev.bind hs (Ev.bind hr ?_))
    rw [w64 (by omega) (by omega), show ((d + 1 : Nat) : Int) - 1 = (d : Int) by omega]
    exact hs'
theorem keys_ev {b : List Int} (hb : By b) (p : Int) (h0 : 0 ≤ p) (h1 : p ≤ 100000) (n : Nat) (hn : n ≤ 30) :
    ∃ s q, Ev (fun k => spec_l71Keys.f k b p (n : Int)) (s, q) ∧ SOk (LL s) ∧ s.length ≤ n ∧ p ≤ q ∧ q ≤ p + 1000 := by
  obtain ⟨r, hr, g0, g1, _⟩ := pick_ev hb p h0 (by omega) ((n : Int) + 1) (by omega)
  have g1 := g1 (by omega)
  obtain ⟨m, rfl⟩ : ∃ m : Nat, r = (m : Int) := ⟨r.toNat, by omega⟩
  obtain ⟨s, q, hs, k, l, a0, a1⟩ := keys_l0_ev hb m [] (p + 1) (by omega) (by omega) ⟨by simp [LL], by simp [LL]⟩ (by simp; omega)
  refine ⟨s, q, ?_, k, by simp at l; omega, by omega, by omega⟩
  unfold spec_l71Keys.f
  rw [w64 (i := (n : Int) + 1) (by omega) (by omega)]
  exact Ev.bind hr hs
end Go.Proofs.Ytifgcajpkgamgaa.Pb
end
section
set_option linter.unusedVariables false
set_option linter.unusedSimpArgs false
namespace Go.Proofs.Ytifgcajpkgamgaa.Pb
open Go Go.RowKit Go.Proofs.YtifgcajpkgamgaaW.PrintWords Go.Proofs.YtifgcajpkgamgaaW.PrintLast Go.Proofs.YtifgcajpkgamgaaW.PrintMore Go.Proofs.Ytifgcajpkgamgaa.Trie Go.Proofs.Ytifgcajpkgamgaa.Q
end Go.Proofs.Ytifgcajpkgamgaa.Pb
end
section
namespace Go.Proofs
open Go.Shelf
end Go.Proofs
end
section
namespace Go.Proofs
open Go.Shelf
end Go.Proofs
end
section
namespace Go.Proofs.Ytifgcajpkgamgaa.Q
open Go.RowKit Go.Proofs.YtifgcajpkgamgaaW.PrintWords Go.Proofs.YtifgcajpkgamgaaW.PrintLast Go.Proofs.YtifgcajpkgamgaaW.PrintMore
attribute [local go_sem] max2_int min2_int max_two min_two max_three min_three max_four min_four   
set_option linter.unusedVariables false
set_option linter.unusedSimpArgs false
end Go.Proofs.Ytifgcajpkgamgaa.Q
end
section
set_option linter.unusedVariables false
set_option linter.unusedSimpArgs false
namespace Go.Proofs.Ytifgcajpkgamgaa.Pb
open Go Go.RowKit Go.Proofs.YtifgcajpkgamgaaW.PrintWords Go.Proofs.YtifgcajpkgamgaaW.PrintLast Go.Proofs.YtifgcajpkgamgaaW.PrintMore Go.Proofs.Ytifgcajpkgamgaa.Trie Go.Proofs.Ytifgcajpkgamgaa.Q
def mkS (l : List UInt8) : ByteArray := ⟨l.toArray⟩
theorem LL_mkS (zs : List Key) : LL (zs.map mkS) = zs := by
  simp only [LL, List.map_map]
  have : (L ∘ mkS) = id := by funext l; exact L_mk l
  rw [this, List.map_id]
theorem same_l0 (l : List ByteArray) (hn : l.length ≤ 2000000) (d : Nat) : ∀ i : Nat, i ≤ l.length → l.length - i = d → Ev (fun k => laws_ltSames.l0 k l l (i : Int)) true := by
  induction d with
  | zero =>
    intro i h1 h2
    refine ev_succ ?_
    simp only [laws_ltSames.l0]
    exact ev_neg (by omega) (ev_some rfl)
  | succ d ih =>
    intro i h1 h2
    refine ev_succ ?_
    simp only [laws_ltSames.l0]
    refine ev_pos (by omega) (ev_pos (by omega) (ev_pos (by omega) (ev_pos trivial ?_)))
    rw [w64 (by omega) (by omega)]
    exact ih (i + 1) (by omega) (by omega)
theorem same_ev (l : List ByteArray) (hn : l.length ≤ 2000000) : Ev (fun k => laws_ltSames.f k l l) true := by
  unfold laws_ltSames.f
  exact ev_pos rfl (same_l0 l hn l.length 0 (by omega) (by omega))
end Go.Proofs.Ytifgcajpkgamgaa.Pb
end
section
set_option linter.unusedVariables false
set_option linter.unusedSimpArgs false
namespace Go.Proofs.Ytifgcajpkgamgaa.Pb
open Go Go.RowKit Go.Proofs.YtifgcajpkgamgaaW.PrintWords Go.Proofs.YtifgcajpkgamgaaW.PrintLast Go.Proofs.YtifgcajpkgamgaaW.PrintMore Go.Proofs.Ytifgcajpkgamgaa.Trie Go.Proofs.Ytifgcajpkgamgaa.Q
theorem L_mkS (l : List UInt8) : L (mkS l) = l := by simp [L, mkS]
theorem mkS_L (a : ByteArray) : mkS (L a) = a := L_inj (L_mkS _)
theorem letter_eq (a : ByteArray) (ha : a.size ≤ 1000000) (d : Nat) (hd : d ≤ 1000) : spec_l3Letter.f a (d : Int) = some (mkS [lab (L a) d]) := by
  unfold spec_l3Letter.f
  have hs := size_L a
  by_cases c : a.size ≤ d
  · rw [if_pos (by omega), lab_ge (by omega)]; rfl
  · rw [if_neg (by omega), if_pos (by omega), w64 (by omega) (by omega), if_pos (by omega), if_pos (by omega)]
    congr 1
    apply L_inj
    rw [L_extract, L_mkS]
    have h : d < (L a).length := by omega
    rw [lab_lt h]
    have e1 : ((d : Int)).toNat = d := by omega
    have e2 : ((d : Int) + 1).toNat = d + 1 := by omega
    rw [e1, e2, List.drop_take, List.drop_eq_getElem_cons h]
    have : d + 1 - d = 1 := by omega
    rw [this]; rfl
theorem mkS_one {c c' : UInt8} : (mkS [c]).toList = (mkS [c']).toList ↔ c = c' := by
  rw [toList_L, toList_L, L_mkS, L_mkS]; simp
theorem restS_eq (a : ByteArray) (d keep : Nat) : ∃ r, spec_l3Rest.f a (d : Int) (keep : Int) = some r ∧ L r = ((L a).drop d).take keep := by
  unfold spec_l3Rest.f
  have hs := size_L a
  rw [if_pos ⟨by omega, by omega⟩]
  by_cases c : (a.size : Int) ≤ (d : Int)
  · rw [if_pos c]
    refine ⟨_, rfl, ?_⟩
    rw [List.drop_eq_nil_of_le (by omega), List.take_nil]; rfl
  · rw [if_neg c]
    refine ⟨_, rfl, ?_⟩
    rw [L_extract, L_extract]
    have e1 : ((d : Int)).toNat = d := by omega
    rw [e1, List.drop_zero, List.take_of_length_le (i := a.size) (by omega)]
    split
    · rename_i h
      have e2 : ((keep : Int)).toNat = keep := by omega
      rw [e2]
    · rename_i h
      rw [List.take_of_length_le (i := keep) (by rw [List.length_drop]; omega), List.take_of_length_le (by rw [List.length_drop]; omega)]
structure Sm (l : List ByteArray) : Prop where
  len : l.length ≤ 100
  sz : ∀ s ∈ l, s.size ≤ 1000
theorem Sm.getD {l : List ByteArray} (h : Sm l) (i : Nat) : (l.getD i ByteArray.empty).size ≤ 1000 := by
  by_cases q : i < l.length
  · rw [getD_lt _ q]; exact h.sz _ (List.getElem_mem q)
  · rw [List.getD_eq_getElem?_getD, List.getElem?_eq_none (by omega)]; exact Nat.zero_le _
theorem Sm.sub {l l' : List ByteArray} (h : Sm l) (hs : l'.Sublist l) : Sm l' := ⟨by have := hs.length_le; have := h.len; omega, fun s hm => h.sz s (hs.subset hm)⟩
def labS (d : Nat) (s : ByteArray) : UInt8 := lab (L s) d
theorem group_l0 (ks : List ByteArray) (h : Sm ks) (d : Nat) (hd : d ≤ 1000) (m : Nat) : ∀ (i : Nat) (x3 : List ByteArray), i ≤ ks.length → ks.length - i = m → x3.length ≤ i →
    Ev (fun k => spec_l3Group.l0 k x3 (i : Int) ks (d : Int)) (x3 ++ (ks.drop i).filter (fun s => labS d s == labS d (ks.getD 0 ByteArray.empty))) := by
  have hn := h.len
  induction m with
  | zero =>
    intro i x3 h1 h2 h3
    refine ev_succ ?_
    simp only [spec_l3Group.l0]
    refine ev_neg (by omega) (ev_some ?_)
    rw [List.drop_eq_nil_of_le (by omega)]; simp
  | succ m ih =>
    intro i x3 h1 h2 h3
    refine ev_succ ?_
    simp only [spec_l3Group.l0]
    have hlt : i < ks.length := by omega
    have hg : rdOf ByteArray.empty ks (i : Int) = ks.getD i ByteArray.empty := rfl
    have hg0 : rdOf ByteArray.empty ks 0 = ks.getD 0 ByteArray.empty := rfl
    rw [hg, hg0]
    refine ev_pos (by omega) (ev_pos (by omega) (ev_bindc (letter_eq _ (by have := h.getD i; omega) d hd) (ev_pos (by omega) (ev_bindc (letter_eq _ (by have := h.getD 0; omega) d hd) ?_))))
    rw [w64 (by omega) (by omega)]
    have e : ks.drop i = ks.getD i ByteArray.empty :: ks.drop (i + 1) := drop_cons _ hlt
    rw [e, List.filter_cons]
    by_cases c : labS d (ks.getD i ByteArray.empty) = labS d (ks.getD 0 ByteArray.empty)
    · refine ev_pos (mkS_one.2 c) (ev_pos (by omega) ?_)
      rw [if_pos (beq_iff_eq.2 c)]
      refine ev_eq (ih (i + 1) (x3 ++ [ks.getD i ByteArray.empty]) (by omega) (by omega) (by simp; omega)) ?_
      simp
    · refine ev_neg (fun q => c (mkS_one.1 q)) ?_
      rw [if_neg (fun q => c (beq_iff_eq.1 q))]
      exact ih (i + 1) x3 (by omega) (by omega) (by omega)
theorem group_ev (ks : List ByteArray) (h : Sm ks) (d : Nat) (hd : d ≤ 1000) : Ev (fun k => spec_l3Group.f k ks (d : Int)) (ks.filter (fun s => labS d s == labS d (ks.getD 0 ByteArray.empty))) := by
  unfold spec_l3Group.f
  exact ev_eq (group_l0 ks h d hd ks.length 0 [] (by omega) (by omega) (by simp)) (by simp)
theorem front {d : Nat} {s : ByteArray} {ks : List ByteArray} (hU : Up d (LL (s :: ks))) :
    LL ((s :: ks).filter (fun x => labS d x == labS d s)) = L s :: (LL ks).takeWhile (fun x => lab x d == lab (L s) d) ∧
    LL ((s :: ks).drop ((s :: ks).filter (fun x => labS d x == labS d s)).length) = (LL ks).dropWhile (fun x => lab x d == lab (L s) d) := by
  have h1 : LL ((s :: ks).filter (fun x => labS d x == labS d s)) = (LL (s :: ks)).filter (fun x => lab x d == lab (L s) d) := by
    unfold LL
    rw [List.filter_map]
    rfl
  have h2 := run_filter (d := d) (k := L s) (ks := LL ks) hU
  have h3 : LL (s :: ks) = L s :: LL ks := rfl
  rw [h3, h2] at h1
  refine ⟨h1, ?_⟩
  have hl : ((s :: ks).filter (fun x => labS d x == labS d s)).length = ((LL ks).takeWhile (fun x => lab x d == lab (L s) d)).length + 1 := by
    rw [← LL_length, h1, List.length_cons]
  rw [hl, List.drop_succ_cons]
  unfold LL
  rw [List.map_drop]
  have hd : ∀ (p : Key → Bool) (l : List Key), l.drop (l.takeWhile p).length = l.dropWhile p := by
    intro p l
    induction l with
    | nil => rfl
    | cons a l ih =>
      rw [List.takeWhile_cons, List.dropWhile_cons]
      by_cases c : p a = true
      · rw [if_pos c, if_pos c, List.length_cons, List.drop_succ_cons, ih]
      · rw [if_neg c, if_neg c]; rfl
  exact hd _ _
def nd (s : S79) : Nd := (LL s.f0, s.f1.toNat)
structure Np (s : S79) : Prop where
  sm : Sm s.f0
  low : 0 ≤ s.f1
  high : s.f1 ≤ 900
def marks (c : UInt8) : Nat → List UInt8
  | 0 => []
  | n + 1 => c :: List.replicate n 48
theorem marks_49 (n : Nat) : marks 49 n = fst1 n := by cases n <;> rfl
theorem marks_48 (n : Nat) : marks 48 n = List.replicate n 48 := by cases n <;> rfl
theorem put_l0 (keep : Nat) (d : Nat) (hd : d ≤ 800) (m : Nat) : ∀ (ks : List ByteArray) (x6 : List S79) (c : UInt8) (Lt Mo Fi : ByteArray) (Rs : List ByteArray), ks.length ≤ m → Sm ks → Up d (LL ks) → (∀ s ∈ x6, Np s) →
    Lt.size + ks.length ≤ 1000000 → Mo.size + ks.length ≤ 1000000 → Fi.size + ks.length ≤ 1000000 → Rs.length + ks.length ≤ 1000000 → x6.length + ks.length ≤ 1000000 →
    ∃ Lt' Mo' Fi' Rs' x6', Ev (fun k => spec_l3Put.l0 k x6 (mkS [c]) Lt Mo Fi Rs (keep : Int) ks (d : Int)) (Lt', Mo', Fi', Rs', (keep : Int), x6') ∧
      L Lt' = L Lt ++ (bra (LL ks, d)).map letter ∧ L Mo' = L Mo ++ (bra (LL ks, d)).map bit ∧ L Fi' = L Fi ++ marks c (runs d (LL ks)).length ∧
      LL Rs' = LL Rs ++ ((bra (LL ks, d)).filter leaf).map (rest keep) ∧ x6'.map nd = x6.map nd ++ conts (LL ks, d) ∧ (∀ s ∈ x6', Np s) := by
  induction m with
  | zero =>
    intro ks x6 c Lt Mo Fi Rs h0 hS hU hN _ _ _ _ _
    have : ks = [] := List.eq_nil_of_length_eq_zero (by omega)
    subst this
    have hr : runs d (LL ([] : List ByteArray)) = [] := runs_nil d
    refine ⟨Lt, Mo, Fi, Rs, x6, ev_succ ?_, ?_, ?_, ?_, ?_, ?_, hN⟩
    · simp only [spec_l3Put.l0]
      exact ev_neg (by simp) (ev_some rfl)
    all_goals simp [bra, hr, marks, Trie.conts]
  | succ m ih =>
    intro ks x6 c Lt Mo Fi Rs h0 hS hU hN z1 z2 z3 z4 z5
    cases ks with
    | nil =>
      have hr : runs d (LL ([] : List ByteArray)) = [] := runs_nil d
      refine ⟨Lt, Mo, Fi, Rs, x6, ev_succ ?_, ?_, ?_, ?_, ?_, ?_, hN⟩
      · simp only [spec_l3Put.l0]
        exact ev_neg (by simp) (ev_some rfl)
      all_goals simp [bra, hr, marks, Trie.conts]
    | cons s ks =>
      obtain ⟨f1, f2⟩ := front hU
      have hgs : ((s :: ks).getD 0 ByteArray.empty) = s := rfl
      have hgr := group_ev (s :: ks) hS d (by omega)
      rw [hgs] at hgr
      have hsub : ((s :: ks).filter (fun x => labS d x == labS d s)).Sublist (s :: ks) := List.filter_sublist
      generalize hG : (s :: ks).filter (fun x => labS d x == labS d s) = G at f1 f2 hgr hsub
      have hGl : G.length = ((LL ks).takeWhile (fun x => lab x d == lab (L s) d)).length + 1 := by rw [← LL_length, f1, List.length_cons]
      have hGle := hsub.length_le
      have hk := hS.len
      simp only [List.length_cons] at hGle z1 z2 z3 z4 z5 h0 hk
      have hG0 : rdOf ByteArray.empty G 0 = G.getD 0 ByteArray.empty := rfl
      have hLG : L (G.getD 0 ByteArray.empty) = L s := by
        rw [LL_getD, f1]; rfl
      have hrun : runs d (LL (s :: ks)) = LL G :: runs d (LL ((s :: ks).drop G.length)) := by
        have : LL (s :: ks) = L s :: LL ks := rfl
        rw [this, runs_cons, f1, f2]
      have hSd : Sm ((s :: ks).drop G.length) := hS.sub (List.drop_sublist _ _)
      have hUd : Up d (LL ((s :: ks).drop G.length)) := by
        rw [f2]; exact up_tail hU
      have hld : ((s :: ks).drop G.length).length + G.length = ks.length + 1 := by rw [List.length_drop, List.length_cons]; omega
      have hG1 : 1 ≤ G.length := by omega
      have hsz1 : (mkS [lab (L s) d]).size = 1 := rfl
      have hsz2 : (mkS [c]).size = 1 := rfl
      have hLs : ∀ a b : ByteArray, (a ++ b).size = a.size + b.size := fun a b => ByteArray.size_append
      have hgsm : Sm G := hS.sub hsub
      have hcat : ∀ {α : Type} (a : List α) (b : α) (e : List α), (a ++ [b]) ++ e = a ++ (b :: e) := fun a b e => by simp
      by_cases q : 1 < G.length
      · have hc : cont (LL G) = true := by simp [cont, LL_length]; omega
        have hNp : Np ⟨G, wrap64 ((d : Int) + 1)⟩ := by
          rw [w64 (by omega) (by omega)]
          exact ⟨hgsm, by show (0 : Int) ≤ (d : Int) + 1; omega, by show (d : Int) + 1 ≤ 900; omega⟩
        obtain ⟨Lt', Mo', Fi', Rs', x6', e, a1, a2, a3, a4, a5, a6⟩ := ih ((s :: ks).drop G.length) (x6 ++ [⟨G, wrap64 ((d : Int) + 1)⟩]) 48 (Lt ++ mkS [lab (L s) d]) (Mo ++ mkS [49]) (Fi ++ mkS [c]) Rs (by omega) hSd hUd
          (fun y hy => by
            rcases List.mem_append.1 hy with hy | hy
            · exact hN y hy
            · rw [List.mem_singleton.1 hy]; exact hNp)
          (by rw [hLs, hsz1]; omega) (by rw [hLs]; show Mo.size + 1 + _ ≤ _; omega) (by rw [hLs, hsz2]; omega) (by omega) (by simp only [List.length_append, List.length_cons, List.length_nil]; omega)
        refine ⟨Lt', Mo', Fi', Rs', x6', ev_succ ?_, ?_, ?_, ?_, ?_, ?_, a6⟩
        · simp only [spec_l3Put.l0]
          refine ev_pos (by simp only [List.length_cons]; omega) (Ev.bind hgr (ev_pos (by omega) ?_))
          rw [hG0]
          refine ev_bindc (letter_eq _ (by have := hgsm.getD 0; omega) d (by omega)) ?_
          rw [hLG]
          refine ev_pos (by rw [hsz1]; omega) (ev_pos (by rw [hsz2]; omega) (ev_pos (by omega) (ev_pos (by omega) (ev_pos (by omega) (ev_pos (by omega) (ev_pos (by simp only [List.length_cons]; omega) ?_))))))
          have : ((G.length : Int)).toNat = G.length := by omega
          rw [this]
          exact e
        · rw [a1, L_append, L_mkS]
          unfold bra
          rw [hrun, List.map_cons, List.map_cons, hcat]
          congr 2
          show _ = lab ((LL G).headD []) d
          rw [f1]; rfl
        · rw [a2, L_append, L_mkS]
          unfold bra
          rw [hrun, List.map_cons, List.map_cons, hcat]
          congr 2
          show _ = bit (LL G, d)
          unfold bit
          rw [if_pos hc]
        · rw [a3, L_append, L_mkS, hrun, List.length_cons, marks_48]
          simp [marks]
        · rw [a4]
          unfold bra
          rw [hrun, List.map_cons, List.filter_cons, if_neg (by simp [leaf, hc])]
        · rw [a5, List.map_append]
          unfold Trie.conts
          simp only []
          rw [hrun, List.filter_cons, if_pos hc, List.map_cons, List.map_cons, List.map_nil, hcat]
          congr 2
          show (LL G, (wrap64 ((d : Int) + 1)).toNat) = _
          rw [w64 (by omega) (by omega)]
          congr 1
      · have hc : cont (LL G) = false := by simp [cont, LL_length]; omega
        obtain ⟨r, hr1, hr2⟩ := restS_eq (G.getD 0 ByteArray.empty) (d + 1) keep
        rw [hLG] at hr2
        obtain ⟨Lt', Mo', Fi', Rs', x6', e, a1, a2, a3, a4, a5, a6⟩ := ih ((s :: ks).drop G.length) x6 48 (Lt ++ mkS [lab (L s) d]) (Mo ++ mkS [48]) (Fi ++ mkS [c]) (Rs ++ [r]) (by omega) hSd hUd hN
          (by rw [hLs, hsz1]; omega) (by rw [hLs]; show Mo.size + 1 + _ ≤ _; omega) (by rw [hLs, hsz2]; omega) (by simp only [List.length_append, List.length_cons, List.length_nil]; omega) (by omega)
        refine ⟨Lt', Mo', Fi', Rs', x6', ev_succ ?_, ?_, ?_, ?_, ?_, ?_, a6⟩
        · simp only [spec_l3Put.l0]
          refine ev_pos (by simp only [List.length_cons]; omega) (Ev.bind hgr (ev_pos (by omega) ?_))
          rw [hG0]
          refine ev_bindc (letter_eq _ (by have := hgsm.getD 0; omega) d (by omega)) ?_
          rw [hLG, w64 (by omega) (by omega)]
          refine ev_pos (by rw [hsz1]; omega) (ev_pos (by rw [hsz2]; omega) (ev_neg (by omega) (ev_pos (by omega) (ev_bindc (by rw [← hr1]; rfl) (ev_pos (by omega) (ev_pos (by omega) (ev_pos (by simp only [List.length_cons]; omega) ?_)))))))
          have : ((G.length : Int)).toNat = G.length := by omega
          rw [this]
          exact e
        · rw [a1, L_append, L_mkS]
          unfold bra
          rw [hrun, List.map_cons, List.map_cons, hcat]
          congr 2
          show _ = lab ((LL G).headD []) d
          rw [f1]; rfl
        · rw [a2, L_append, L_mkS]
          unfold bra
          rw [hrun, List.map_cons, List.map_cons, hcat]
          congr 2
          show _ = bit (LL G, d)
          unfold bit
          rw [if_neg (by rw [hc]; simp)]
        · rw [a3, L_append, L_mkS, hrun, List.length_cons, marks_48]
          simp [marks]
        · rw [a4, LL_append]
          unfold bra
          rw [hrun, List.map_cons, List.filter_cons, if_pos (by simp [leaf, hc]), List.map_cons]
          show LL Rs ++ LL [r] ++ _ = _
          have : LL [r] = [L r] := rfl
          rw [this, hcat, hr2]
          congr 2
          show _ = (((LL G).headD []).drop (d + 1)).take keep
          rw [f1]; rfl
        · rw [a5]
          unfold Trie.conts
          simp only []
          rw [hrun, List.filter_cons, if_neg (by rw [hc]; simp)]
end Go.Proofs.Ytifgcajpkgamgaa.Pb
end
section
set_option linter.unusedVariables false
set_option linter.unusedSimpArgs false
namespace Go.Proofs.Ytifgcajpkgamgaa.Pb
open Go Go.RowKit Go.Proofs.YtifgcajpkgamgaaW.PrintWords Go.Proofs.YtifgcajpkgamgaaW.PrintLast Go.Proofs.YtifgcajpkgamgaaW.PrintMore Go.Proofs.Ytifgcajpkgamgaa.Trie Go.Proofs.Ytifgcajpkgamgaa.Q
theorem bfs_len {q X : List Nd} (h : Bfs q X) : q.length ≤ X.length := by
  rw [h.eq, List.length_append]; omega
theorem brs_cons (x : Nd) (X : List Nd) : brs (x :: X) = bra x ++ brs X := rfl
def Deep (x : Nd) : Prop := ∀ k ∈ x.1, x.2 ≤ k.length
theorem of_l0 (keep : Nat) {q X : List Nd} (hB : Bfs q X) : ∀ (x7 : List S79) (Lt Mo Fi : ByteArray) (Rs : List ByteArray), x7.map nd = q → (∀ s ∈ x7, Np s) → (∀ x ∈ X, NOk x) →
    Lt.size + (brs X).length ≤ 900000 → Mo.size + (brs X).length ≤ 900000 → Fi.size + (brs X).length ≤ 900000 → Rs.length + (brs X).length ≤ 900000 → X.length ≤ 900000 →
    ∃ Lt' Mo' Fi' Rs', Ev (fun k => spec_SieveOf.l0 k x7 Lt Mo Fi Rs (keep : Int)) (Lt', Mo', Fi', Rs', (keep : Int), true) ∧
      L Lt' = L Lt ++ encL X ∧ L Mo' = L Mo ++ encM X ∧ L Fi' = L Fi ++ encF X ∧ LL Rs' = LL Rs ++ encR keep X := by
  induction hB with
  | nil =>
    intro x7 Lt Mo Fi Rs h0 _ _ _ _ _ _ _
    have : x7 = [] := List.map_eq_nil_iff.1 h0
    subst this
    refine ⟨Lt, Mo, Fi, Rs, ev_succ ?_, ?_, ?_, ?_, ?_⟩
    · simp only [spec_SieveOf.l0]
      exact ev_neg (by simp) (ev_some rfl)
    all_goals simp [encL, encM, encF, encR, brs]
  | cons hX ih =>
    rename_i x q X
    intro x7 Lt Mo Fi Rs h0 hN hO z1 z2 z3 z4 z5
    cases x7 with
    | nil => cases h0
    | cons s t =>
      rw [List.map_cons, List.cons.injEq] at h0
      obtain ⟨rfl, h0⟩ := h0
      have hs := hN s (by simp)
      have hx := hO (nd s) (by simp)
      have hd : s.f1 = ((nd s).2 : Int) := by show s.f1 = (s.f1.toNat : Int); have := hs.low; omega
      have hd5 := hx.deep
      have hlen := hs.sm.len
      have hbl : (bra (nd s)).length ≤ s.f0.length := by
        rw [bra_length]
        have := runs_length_le (nd s).2 (nd s).1
        have e : (nd s).1.length = s.f0.length := LL_length _
        omega
      rw [brs_cons, List.length_append] at z1 z2 z3 z4
      rw [List.length_cons] at z5
      have hql := bfs_len hX
      rw [List.length_append, ← h0, List.length_map] at hql
      obtain ⟨Lt1, Mo1, Fi1, Rs1, n1, e1, a1, a2, a3, a4, a5, a6⟩ := put_l0 keep (nd s).2 (by omega) s.f0.length s.f0 [] 49 Lt Mo Fi Rs (Nat.le_refl _) hs.sm hx.up (fun y hy => by cases hy) (by omega) (by omega) (by omega) (by omega) (by simp only [List.length_nil]; omega)
      have hbr : (LL s.f0, (nd s).2) = nd s := rfl
      rw [hbr] at a1 a2 a4 a5
      have hsz : ∀ {a b : ByteArray} {l : List UInt8}, L a = L b ++ l → a.size = b.size + l.length := fun {a b l} h => by rw [size_L, size_L, h, List.length_append]
      have b1 := hsz a1
      have b2 := hsz a2
      have b3 := hsz a3
      have b4 : Rs1.length = Rs.length + (((bra (nd s)).filter leaf).map (rest keep)).length := by rw [← LL_length, a4, List.length_append, LL_length]
      have b5 : n1.length = (Trie.conts (nd s)).length := by have := congrArg List.length a5; simpa using this
      rw [List.length_map] at b1 b2 b4
      have b6 : (marks 49 (runs (nd s).2 (LL s.f0)).length).length = (bra (nd s)).length := by rw [marks_49, fst1_length, bra_length]; rfl
      have b7 := List.length_filter_le leaf (bra (nd s))
      obtain ⟨Lt', Mo', Fi', Rs', e2, c1, c2, c3, c4⟩ := ih (([] ++ t) ++ n1) Lt1 Mo1 Fi1 Rs1 (by rw [List.nil_append, List.map_append, h0, a5]; rfl)
        (fun y hy => by
          rw [List.nil_append] at hy
          rcases List.mem_append.1 hy with hy | hy
          · exact hN y (by simp [hy])
          · exact a6 y hy)
        (fun y hy => hO y (by simp [hy])) (by omega) (by omega) (by omega) (by omega) (by omega)
      refine ⟨Lt', Mo', Fi', Rs', ev_succ ?_, ?_, ?_, ?_, ?_⟩
      · simp only [spec_SieveOf.l0]
        have hr : rd_T79 (s :: t) 0 = s := rfl
        rw [hr, hd]
        refine ev_pos (by simp only [List.length_cons]; omega) (ev_pos (by simp only [List.length_cons]; omega) (Ev.bind (a := (Lt1, Mo1, Fi1, Rs1, (keep : Int), n1)) e1 (ev_bindc rfl (ev_pos (by simp only [List.length_cons]; omega) (ev_bindc rfl (ev_pos ?_ (ev_bindc rfl (ev_pos ?_ e2))))))))
        · simp only [List.length_nil, List.drop_succ_cons, List.drop_zero]; omega
        · simp only [List.nil_append, List.drop_succ_cons, List.drop_zero]; omega
      · rw [c1, a1, List.append_assoc]; unfold encL; rw [brs_cons, List.map_append]
      · rw [c2, a2, List.append_assoc]; unfold encM; rw [brs_cons, List.map_append]
      · rw [c3, a3, List.append_assoc, marks_49]; unfold encF; rw [List.flatMap_cons]; rfl
      · rw [c4, a4, List.append_assoc]; unfold encR; rw [brs_cons, List.filter_append, List.map_append]
open Classical in
noncomputable def lvls (K : List Key) : List Nd := if h : (∀ k ∈ K, KOk k) ∧ K.Pairwise (· < ·) then Classical.choose (Lvl.ex h.1 h.2) else []
theorem lvls_is {K : List Key} (h : KsOk K) : Lvl K (lvls K) ∧ (lvls K).length ≤ K.length * 6 + 1 := by
  have h' : (∀ k ∈ K, KOk k) ∧ K.Pairwise (· < ·) := ⟨h.ok, h.sorted⟩
  unfold lvls
  rw [dif_pos h']
  exact Classical.choose_spec (Lvl.ex h'.1 h'.2)
def keepOk (a : Int) : Prop := 0 ≤ a ∧ a ≤ 5
instance (a : Int) : Decidable (keepOk a) := inferInstanceAs (Decidable (0 ≤ a ∧ a ≤ 5))
abbrev SvT := ByteArray × ByteArray × ByteArray × List ByteArray × Int × Bool
noncomputable def encT (X : List Nd) (keep : Int) : SvT := (mkS (encL X), mkS (encM X), mkS (encF X), (encR keep.toNat X).map mkS, keep, true)
noncomputable def sieveV (K : List Key) (keep : Int) : SvT := if keysB K = true ∧ keepOk keep then encT (lvls K) keep else ((⟨#[]⟩ : ByteArray), (⟨#[]⟩ : ByteArray), (⟨#[]⟩ : ByteArray), ([] : List ByteArray), 0, false)
theorem brs_few {K : List Key} {X : List Nd} (h : Lvl K X) (hn : K.length ≤ 24) (hl : X.length ≤ K.length * 6 + 1) : (brs X).length ≤ 1000 := by
  have := size_eq h.eq
  simp only at this
  omega
theorem encT_of {X : List Nd} {keep : Nat} {a b c : ByteArray} {d : List ByteArray} (h1 : L a = encL X) (h2 : L b = encM X) (h3 : L c = encF X) (h4 : LL d = encR keep X) : (a, b, c, d, (keep : Int), true) = encT X (keep : Int) := by
  unfold encT
  rw [← h1, ← h2, ← h3, mkS_L, mkS_L, mkS_L]
  have : ((keep : Int)).toNat = keep := by omega
  rw [this, ← h4]
  congr 4
  unfold LL
  rw [List.map_map]
  conv => lhs; rw [← List.map_id d]
  apply List.map_congr_left
  intro s _
  exact (mkS_L s).symm
theorem ksok_sm {l : List ByteArray} (h : KsOk (LL l)) : Sm l := by
  refine ⟨by have := h.few; rw [LL_length] at this; omega, fun s hm => ?_⟩
  have := (h.ok (L s) (List.mem_map_of_mem hm)).len
  rw [size_L]; omega
theorem spec_SieveOf_ev (l : List ByteArray) (hl : SzL l) (a : Int) : Ev (fun k => spec_SieveOf.f k l a) (sieveV (LL l) a) := by
  unfold spec_SieveOf.f sieveV
  refine Ev.bind (spec_KeysOk_ev l hl) ?_
  by_cases c : keysB (LL l) = true
  · refine ev_pos c (ev_bindc (spec_l6In_eq a 0 5) (ev_succ ?_))
    by_cases g : keepOk a
    · simp only [spec_SieveOf.j0]
      rw [if_pos ⟨c, g⟩]
      refine ev_neg (by simp [decide_eq_true (show 0 ≤ a ∧ a ≤ 5 from g)]) ?_
      have hk := keysB_iff.1 c
      obtain ⟨hL, hX⟩ := lvls_is hk
      have hfew := hk.few
      have hb := brs_few hL hfew hX
      obtain ⟨keep, rfl⟩ : ∃ n : Nat, a = (n : Int) := ⟨a.toNat, by have := g.1; omega⟩
      obtain ⟨Lt, Mo, Fi, Rs, e, a1, a2, a3, a4⟩ := of_l0 keep hL.bfs [⟨l, 0⟩] (⟨#[]⟩ : ByteArray) (⟨#[]⟩ : ByteArray) (⟨#[]⟩ : ByteArray) [] rfl
        (fun s hs => by
          rw [List.mem_singleton.1 hs]
          exact ⟨ksok_sm hk, by show (0 : Int) ≤ 0; omega, by show (0 : Int) ≤ 900; omega⟩)
        (fun x hx => (hL.nodes x hx).2) (by show 0 + _ ≤ _; omega) (by show 0 + _ ≤ _; omega) (by show 0 + _ ≤ _; omega) (by show 0 + _ ≤ _; omega) (by omega)
      refine ev_eq e (encT_of ?_ ?_ ?_ ?_)
      · rw [a1]; rfl
      · rw [a2]; rfl
      · rw [a3]; rfl
      · rw [a4]; rfl
    · simp only [spec_SieveOf.j0]
      rw [if_neg (fun h => g h.2)]
      exact ev_pos (by simp [decide_eq_false (show ¬ (0 ≤ a ∧ a ≤ 5) from g)]) (ev_some rfl)
  · refine ev_neg c (ev_succ ?_)
    simp only [spec_SieveOf.j0]
    rw [if_neg (fun h => c h.1)]
    exact ev_pos (by simp) (ev_some rfl)
end Go.Proofs.Ytifgcajpkgamgaa.Pb
end
