/- What the laws of the set SQ need: the kit's printed words, the printed functions with their proofs, and plain facts on them. -/
import Derived.Shelf.Slices.CompactS
import Derived.Test.YtifgcajpkgamgaaProg
import Derived.Shelf.Sort.Plain
import Derived.Test.YtifgcajpkgamgaaBSQc
section
namespace Go.Proofs.Ytifgcajpkgamgaa.Q
open Go.RowKit Go.Proofs.YtifgcajpkgamgaaW.PrintWords Go.Proofs.YtifgcajpkgamgaaW.PrintLast Go.Proofs.YtifgcajpkgamgaaW.PrintMore
attribute [local go_sem] max2_int min2_int max_two min_two max_three min_three max_four min_four   
set_option linter.unusedVariables false
set_option linter.unusedSimpArgs false
set_option maxHeartbeats 8000000
set_option maxRecDepth 100000
theorem impl_Sieve_heads.mono_l : ∀ k, (∀ y0 y1 y2 y3 y4 y5, LeO (impl_Sieve_heads.j0 k y0 y1 y2 y3 y4 y5) (impl_Sieve_heads.j0 (k + 1) y0 y1 y2 y3 y4 y5))
  | 0 => fun _ _ _ _ _ _ r h => by simp [impl_Sieve_heads.j0] at h
  | k + 1 => by
    have ih0 := impl_Sieve_heads.mono_l k
    · intro y0 y1 y2 y3 y4 y5
      unfold impl_Sieve_heads.j0
      repeat' first | (with_reducible first | apply ih0 | apply impl_BitsOk.mono | apply impl_SieveOf.mono | apply impl_Sieve_parts.mono | apply impl_Sieve_same.mono | apply impl_texts.mono | exact LeO.refl _ | exact LeO.none _ | refine LeO.ite ?_ ?_ | refine LeO.bind ?_ (fun _ => ?_)) | exact LeO.none _ | refine LeO.ite ?_ ?_ | refine LeO.bind ?_ (fun _ => ?_)
theorem impl_Sieve_heads.mono : ∀ a0 a1 a2 a3 a4 k, LeO (impl_Sieve_heads.f k a0 a1 a2 a3 a4) (impl_Sieve_heads.f (k + 1) a0 a1 a2 a3 a4) := by
  intro a0 a1 a2 a3 a4 k
  have ih0 := impl_Sieve_heads.mono_l k
  unfold impl_Sieve_heads.f
  repeat' first | (with_reducible first | apply ih0 | apply impl_BitsOk.mono | apply impl_SieveOf.mono | apply impl_Sieve_parts.mono | apply impl_Sieve_same.mono | apply impl_texts.mono | exact LeO.refl _ | exact LeO.none _ | refine LeO.ite ?_ ?_ | refine LeO.bind ?_ (fun _ => ?_)) | exact LeO.none _ | refine LeO.ite ?_ ?_ | refine LeO.bind ?_ (fun _ => ?_)
def impl_Sieve_heads.T2 : Bool × List (List Nat × List Nat) := (true, [([], []), ([0], [0]), ([1], [1]), ([2], [2]), ([3, 2], [3]), ([4], [4]), ([5, 4], [4, 5]), ([6, 4, 4], [4, 6]), ([7, 4], [4, 7]), ([4, 8], [4, 8]), ([9, 7], [9]), ([10], [10]), ([11, 10], [10, 11]), ([12, 10], [10, 12]), ([10], [10]), ([13, 14, 10], [10, 13, 14]), ([10, 15], [10, 15]), ([16, 10], [16]), ([17], [17]), ([18, 17], [17, 18]), ([19, 17], [17, 19]), ([17], [17]), ([20, 21, 17], [17, 20, 21]), ([17, 22], [17, 22]), ([23, 17], [23]), ([24], [24]), ([25, 24], [24, 25]), ([26, 24, 24], [24, 26]), ([27, 24], [24, 27]), ([24, 28], [24, 28]), ([29, 27], [29]), ([30], [30]), ([31, 30], [30, 31]), ([32, 30], [30, 32]), ([30], [30]), ([34, 30], [30, 34]), ([35, 30, 30], [30, 35]), ([33, 36, 30], [30, 33, 36]), ([30, 37], [30, 37])])
def impl_Sieve_heads.B2 : List Nat := [0, 1, 3, 7, 15, 31, 63, 127, 255, 511, 1023, 2047, 4095, 8191, 2047, 32767, 65535, 131071, 262143, 524287, 1048575, 262143, 4194303, 8388607, 16777215, 33554431, 67108863, 134217727, 268435455, 536870911, 1073741823, 2147483647, 4294967295, 8589934591, 2147483647, 19327352831, 53687091199, 137438953471, 274877906943]
theorem impl_Sieve_heads.tab2 : rtab .any (opsOf Try.f89 2) = impl_Sieve_heads.T2 := by kernel_rfl
theorem impl_Sieve_heads.bits2 : waitsOk impl_Sieve_heads.T2.2 impl_Sieve_heads.B2 = true := by kernel_rfl
def impl_Sieve_heads.T7 : Bool × List (List Nat × List Nat) := (true, [([], []), ([0], [0]), ([], []), ([2], [2]), ([1, 3, 1], [1, 3]), ([4], [4]), ([5], [5]), ([5], [5]), ([], []), ([8, 6, 4, 0, 1, 2, 3, 4, 5, 6, 8], [6, 8]), ([7, 9, 0, 1, 2, 3, 4, 5, 6, 7, 8, 9], [7])])
def impl_Sieve_heads.B7 : List Nat := [0, 1, 0, 4, 15, 31, 63, 63, 0, 383, 1023]
theorem impl_Sieve_heads.tab7 : rtab .any (opsOf Try.f89 7) = impl_Sieve_heads.T7 := by kernel_rfl
theorem impl_Sieve_heads.bits7 : waitsOk impl_Sieve_heads.T7.2 impl_Sieve_heads.B7 = true := by kernel_rfl
theorem impl_Sieve_heads.calls (k : Nat) (a0_0 a0_1 a0_2 : ByteArray) (A0_3 : Option Addr) (c0_3 : Nat) (l0_3 : List ByteArray) (a0_4 : Int) (r1 : List (S93)) (r2 : Bool) (w : World) (hr0_3 : Kd.C Kd.string w A0_3 l0_3.length l0_3) (hc0_3 : l0_3.length ≤ c0_3) (h : impl_Sieve_heads.f k a0_0 a0_1 a0_2 l0_3 a0_4 = some (r1, r2)) :
    Calls Try.prog 89 #[.agg #[.string a0_0, .string a0_1, .string a0_2, .slice A0_3 l0_3.length c0_3, .int .i64 a0_4]] w fun e w' => ∃ v0_ : Value, e = .returned (.tuple #[v0_, .bool r2]) ∧ Kd.R k93 93 w' w.heap.size (fun _ => True) v0_ r1 ∧ Below w.heap.size w w' := by
 have hu25 := Try.underlying25; have HR0_3 := z0 hr0_3; have HC0_3 := z0 hc0_3; clear hr0_3 hc0_3; have HB := z0 (Below.refl w.heap.size w); have H : ((impl_BitsOk.f k a0_1).bind fun t368 => (if t368 = true then ((impl_BitsOk.f k a0_2).bind fun t369 => (if t369 = true then (if (a0_1.size : Int) = (a0_0.size : Int) then (if (a0_2.size : Int) = (a0_0.size : Int) then ((impl_isKeep.f a0_4).bind fun t370 => (if t370 = true then ((strings_Count.f a0_1 (⟨#[48]⟩ : ByteArray)).bind fun t371 => (impl_Sieve_heads.j0 k ((l0_3.length : Int) != t371) a0_0 a0_1 a0_2 l0_3 a0_4)) else (impl_Sieve_heads.j0 k true a0_0 a0_1 a0_2 l0_3 a0_4))) else (impl_Sieve_heads.j0 k true a0_0 a0_1 a0_2 l0_3 a0_4)) else (impl_Sieve_heads.j0 k true a0_0 a0_1 a0_2 l0_3 a0_4)) else (impl_Sieve_heads.j0 k true a0_0 a0_1 a0_2 l0_3 a0_4))) else (impl_Sieve_heads.j0 k true a0_0 a0_1 a0_2 l0_3 a0_4))) = some (r1, r2) := h; clear h; have HC2 := z0 H; clear H; go_enter Try.func89, Try.ntmps89
 go_upto_region 2 with (first | ((with_reducible refine gd 1 ?_); (try (refine gate_guard (by rfl) ?_; dsimp only)); refine zbx 25 #[.string a0_0, .string a0_1, .string a0_2, .slice A0_3 l0_3.length c0_3, .int .i64 a0_4] ?_; intro gb367 hg w3 hbox hb; have BK367 := z0 (hbox); have GE367 := zG hg HB; replace HB := zH HB hb; clear hb hbox hg; have hcz4 := zc5 BK367.out))
 (try simp only [Act.put, List.setIfInBounds_toArray, List.set_cons_zero, List.set_cons_succ])
 go_cut [49] (fun v49 wc => ∃ (kq : Nat) (x49_1 : Bool), v49 = .bool x49_1 ∧ Aside0 (impl_Sieve_heads.j0 kq x49_1 a0_0 a0_1 a0_2 l0_3 a0_4 = some (r1, r2)) ∧ Aside0 (kq ≤ k) ∧ Aside0 (wc.heap[gb367]? = some (.cells #[.string a0_0, .string a0_1, .string a0_2, (.slice A0_3 l0_3.length c0_3), .int .i64 a0_4] 25 (0, 0))) ∧ Aside0 (Below w.heap.size w wc))
 case first =>
  have H := HC2.out; clear HC2; replace H := zi H; obtain ⟨t368, A5, H⟩ := H
  by_cases c6 : t368 = true
  ·subst c6
   have H1 : ((impl_BitsOk.f k a0_2).bind fun t369 => (if t369 = true then (if (a0_1.size : Int) = (a0_0.size : Int) then (if (a0_2.size : Int) = (a0_0.size : Int) then ((impl_isKeep.f a0_4).bind fun t370 => (if t370 = true then ((strings_Count.f a0_1 (⟨#[48]⟩ : ByteArray)).bind fun t371 => (impl_Sieve_heads.j0 k ((l0_3.length : Int) != t371) a0_0 a0_1 a0_2 l0_3 a0_4)) else (impl_Sieve_heads.j0 k true a0_0 a0_1 a0_2 l0_3 a0_4))) else (impl_Sieve_heads.j0 k true a0_0 a0_1 a0_2 l0_3 a0_4)) else (impl_Sieve_heads.j0 k true a0_0 a0_1 a0_2 l0_3 a0_4)) else (impl_Sieve_heads.j0 k true a0_0 a0_1 a0_2 l0_3 a0_4))) = some (r1, r2) := by rw [if_pos rfl] at H; exact H
   clear H; have H := H1; clear H1; replace H := zi H; obtain ⟨t369, A7, H⟩ := H
   by_cases c8 : t369 = true
   ·subst c8
    have H1 : (if (a0_1.size : Int) = (a0_0.size : Int) then (if (a0_2.size : Int) = (a0_0.size : Int) then ((impl_isKeep.f a0_4).bind fun t370 => (if t370 = true then ((strings_Count.f a0_1 (⟨#[48]⟩ : ByteArray)).bind fun t371 => (impl_Sieve_heads.j0 k ((l0_3.length : Int) != t371) a0_0 a0_1 a0_2 l0_3 a0_4)) else (impl_Sieve_heads.j0 k true a0_0 a0_1 a0_2 l0_3 a0_4))) else (impl_Sieve_heads.j0 k true a0_0 a0_1 a0_2 l0_3 a0_4)) else (impl_Sieve_heads.j0 k true a0_0 a0_1 a0_2 l0_3 a0_4)) = some (r1, r2) := by rw [if_pos rfl] at H; exact H
    clear H; have H := H1; clear H1
    by_cases c9 : (a0_1.size : Int) = (a0_0.size : Int)
    ·rw [if_pos c9] at H; have c9b0 : ((a0_1.size : Int) == (a0_0.size : Int)) = true := beq_iff_eq.mpr c9; have c9b1 : ((a0_1.size : Int) != (a0_0.size : Int)) = false := bne_eq_false_iff_eq.mpr c9
     have c9b2 : (a0_1.size == a0_0.size) = true := by first | simpa using c9 | (simp at c9 ⊢; omega)
     clear c9; (first | rw [c9b0] | (simp only [i64_w, i32_w]; rw [c9b0]) | simp only [*, Bool.not_true, Bool.not_false] | skip)
     by_cases c10 : (a0_2.size : Int) = (a0_0.size : Int)
     ·rw [if_pos c10] at H; have c10b0 : ((a0_2.size : Int) == (a0_0.size : Int)) = true := beq_iff_eq.mpr c10; have c10b1 : ((a0_2.size : Int) != (a0_0.size : Int)) = false := bne_eq_false_iff_eq.mpr c10
      have c10b2 : (a0_2.size == a0_0.size) = true := by first | simpa using c10 | (simp at c10 ⊢; omega)
      clear c10; replace H := zi H; obtain ⟨t370, A11, H⟩ := H
      by_cases c12 : t370 = true
      ·subst c12
       have H1 : ((strings_Count.f a0_1 (⟨#[48]⟩ : ByteArray)).bind fun t371 => (impl_Sieve_heads.j0 k ((l0_3.length : Int) != t371) a0_0 a0_1 a0_2 l0_3 a0_4)) = some (r1, r2) := by rw [if_pos rfl] at H; exact H
       clear H; have H := H1; clear H1; replace H := zi H; obtain ⟨t371, A13, H⟩ := H; have H' := z0 H; clear H
       try go_wp2
       replace BK367 := z0 (blk_drew BK367.out); replace HB := z0 (below_drew1 HB.out); refine start_ (n := 39) (S := fun w' => w'.cell? ⟨gb367, 0, none⟩ = some (.string a0_0) ∧ w'.cell? ⟨gb367, 1, none⟩ = some (.string a0_1) ∧ w'.cell? ⟨gb367, 2, none⟩ = some (.string a0_2) ∧ w'.cell? ⟨gb367, 3, none⟩ = some (.slice A0_3 l0_3.length c0_3) ∧ w'.cell? ⟨gb367, 4, none⟩ = some (.int .i64 a0_4)) (ds := []) (fb 39 0) (by kernel_rfl) rfl rfl (zb5 BK367.out) (fun hHeld => ?_); refine with_tabW impl_Sieve_heads.tab2 impl_Sieve_heads.bits2 (fun HT_ HW_ => ?_); generalize w3.drew = w14 at BK367 HB hHeld ⊢; refine zu 0 1 ?_; refine zx 1 3 hHeld ?_; refine zone 2 7 (fun K hK => ?_); refine zG2 Try.func98 #[.string a0_1] ?_
       with_reducible refine (impl_BitsOk.calls k a0_1 true _ A5.out).mono ?_
       rintro e w' ⟨rfl, ⟨nd, rfl⟩⟩; refine ⟨_, rfl, ?_⟩; refine hK.out _ _ (zb5 BK367.out) (fun hHeld => ?_); clear hK K; refine znm ?_; refine zu 3 15 ?_; refine zu 4 31 ?_; refine zu 5 63 ?_; refine zx 6 127 hHeld ?_; refine zone 7 255 (fun K hK => ?_); refine zG2 Try.func98 #[.string a0_2] ?_
       with_reducible refine (impl_BitsOk.calls k a0_2 true _ A7.out).mono ?_
       rintro e w' ⟨rfl, ⟨nd, rfl⟩⟩; refine ⟨_, rfl, ?_⟩; refine hK.out _ _ (zb5 BK367.out) (fun hHeld => ?_); clear hK K; refine znm ?_; refine zu 8 511 ?_; refine zu 9 1023 ?_; refine zu 10 2047 ?_; refine zu 11 4095 ?_; refine zu 14 20479 ?_; refine zx 12 24575 hHeld ?_; refine zu 13 32767 ?_; refine zu 15 65535 ?_; refine zu 16 131071 ?_; refine zu 17 262143 ?_; refine zu 18 524287 ?_; refine zu 21 2621439 ?_; refine zx 19 3145727 hHeld ?_; refine zu 20 4194303 ?_; refine zu 22 8388607 ?_; refine zu 23 16777215 ?_; refine zu 24 33554431 ?_; refine zu 25 67108863 ?_; refine zx 26 134217727 hHeld ?_; refine zone 27 268435455 (fun K hK => ?_); refine zG2 Try.func74 #[.int .i64 a0_4] ?_
       with_reducible refine (impl_isKeep.calls a0_4 true _ A11.out).mono ?_
       rintro e w' ⟨rfl, ⟨nd, rfl⟩⟩; refine ⟨_, rfl, ?_⟩; refine hK.out _ _ (zb5 BK367.out) (fun hHeld => ?_); clear hK K; refine znm ?_; refine zu 28 536870911 ?_; refine zu 29 1073741823 ?_; refine zu 30 2147483647 ?_; refine zu 31 4294967295 ?_; refine zu 34 21474836479 ?_; refine zx 32 25769803775 hHeld ?_; refine zu 33 34359738367 ?_; refine zx 35 68719476735 hHeld ?_; refine zone 36 137438953471 (fun K hK => ?_); refine zG2 Try.func100 #[.string a0_1, .string ⟨#[48]⟩] ?_
       with_reducible refine (strings_Count.calls a0_1 (⟨#[48]⟩ : ByteArray) t371 _ A13.out).mono ?_
       rintro e w' ⟨rfl, ⟨nd, rfl⟩⟩; refine ⟨_, rfl, ?_⟩; refine hK.out _ _ (zb5 BK367.out) (fun hHeld => ?_); clear hK K; refine znm ?_; refine zu 37 274877906943 ?_; refine zu 38 549755813887 ?_; refine done_ (done_of HT_.out (by kernel_rfl)) ?_
       try go_wp2
       go_meet
       case rel => exact ⟨_, (((l0_3.length : Int) != t371)), zf, H', ⟨by first | omega | exact Nat.le_refl _⟩, ⟨zl BK367.out⟩, ⟨zb HB.out⟩⟩
      ·replace c12 := Bool.eq_false_iff.mpr c12; subst c12
       have H1 : (impl_Sieve_heads.j0 k true a0_0 a0_1 a0_2 l0_3 a0_4) = some (r1, r2) := by rw [if_neg (show ¬ (false = true) by decide)] at H; exact H
       clear H; have H := H1; clear H1; have H' := z0 H; clear H
       try go_wp2
       replace BK367 := z0 (blk_drew BK367.out); replace HB := z0 (below_drew1 HB.out); refine start_ (n := 39) (S := fun w' => w'.cell? ⟨gb367, 0, none⟩ = some (.string a0_0) ∧ w'.cell? ⟨gb367, 1, none⟩ = some (.string a0_1) ∧ w'.cell? ⟨gb367, 2, none⟩ = some (.string a0_2) ∧ w'.cell? ⟨gb367, 3, none⟩ = some (.slice A0_3 l0_3.length c0_3) ∧ w'.cell? ⟨gb367, 4, none⟩ = some (.int .i64 a0_4)) (ds := []) (fb 39 0) (by kernel_rfl) rfl rfl (zb5 BK367.out) (fun hHeld => ?_); refine with_tabW impl_Sieve_heads.tab2 impl_Sieve_heads.bits2 (fun HT_ HW_ => ?_); generalize w3.drew = w15 at BK367 HB hHeld ⊢; refine zu 0 1 ?_; refine zx 1 3 hHeld ?_; refine zone 2 7 (fun K hK => ?_); refine zG2 Try.func98 #[.string a0_1] ?_
       with_reducible refine (impl_BitsOk.calls k a0_1 true _ A5.out).mono ?_
       rintro e w' ⟨rfl, ⟨nd, rfl⟩⟩; refine ⟨_, rfl, ?_⟩; refine hK.out _ _ (zb5 BK367.out) (fun hHeld => ?_); clear hK K; refine znm ?_; refine zu 3 15 ?_; refine zu 4 31 ?_; refine zu 5 63 ?_; refine zx 6 127 hHeld ?_; refine zone 7 255 (fun K hK => ?_); refine zG2 Try.func98 #[.string a0_2] ?_
       with_reducible refine (impl_BitsOk.calls k a0_2 true _ A7.out).mono ?_
       rintro e w' ⟨rfl, ⟨nd, rfl⟩⟩; refine ⟨_, rfl, ?_⟩; refine hK.out _ _ (zb5 BK367.out) (fun hHeld => ?_); clear hK K; refine znm ?_; refine zu 8 511 ?_; refine zu 9 1023 ?_; refine zu 10 2047 ?_; refine zu 11 4095 ?_; refine zu 14 20479 ?_; refine zx 12 24575 hHeld ?_; refine zu 13 32767 ?_; refine zu 15 65535 ?_; refine zu 16 131071 ?_; refine zu 17 262143 ?_; refine zu 18 524287 ?_; refine zu 21 2621439 ?_; refine zx 19 3145727 hHeld ?_; refine zu 20 4194303 ?_; refine zu 22 8388607 ?_; refine zu 23 16777215 ?_; refine zu 24 33554431 ?_; refine zu 25 67108863 ?_; refine zx 26 134217727 hHeld ?_; refine zone 27 268435455 (fun K hK => ?_); refine zG2 Try.func74 #[.int .i64 a0_4] ?_
       with_reducible refine (impl_isKeep.calls a0_4 false _ A11.out).mono ?_
       rintro e w' ⟨rfl, ⟨nd, rfl⟩⟩; refine ⟨_, rfl, ?_⟩; refine hK.out _ _ (zb5 BK367.out) (fun hHeld => ?_); clear hK K; refine znm ?_; refine zu 28 536870911 ?_; refine zu 29 1073741823 ?_; refine zu 30 2147483647 ?_; refine zw 31 4294967295 ?_; refine zw 32 8589934591 ?_; refine zw 33 17179869183 ?_; refine zw 34 34359738367 ?_; refine zw 35 68719476735 ?_; refine zw 36 137438953471 ?_; refine zw 37 274877906943 ?_; refine zu 38 549755813887 ?_; refine done_ (done_of HT_.out (by kernel_rfl)) ?_
       try go_wp2
       go_meet
       case rel => exact ⟨_, (true), zf, H', ⟨by first | omega | exact Nat.le_refl _⟩, ⟨zl BK367.out⟩, ⟨zb HB.out⟩⟩
     ·rw [if_neg c10] at H; have c10b0 : ((a0_2.size : Int) == (a0_0.size : Int)) = false := beq_eq_false_iff_ne.mpr c10; have c10b1 : ((a0_2.size : Int) != (a0_0.size : Int)) = true := bne_iff_ne.mpr c10
      have c10b2 : (a0_2.size == a0_0.size) = false := by first | simpa using c10 | (simp at c10 ⊢; omega)
      have H' := z0 H; clear H
      try go_wp2
      replace BK367 := z0 (blk_drew BK367.out); replace HB := z0 (below_drew1 HB.out); refine start_ (n := 39) (S := fun w' => w'.cell? ⟨gb367, 0, none⟩ = some (.string a0_0) ∧ w'.cell? ⟨gb367, 1, none⟩ = some (.string a0_1) ∧ w'.cell? ⟨gb367, 2, none⟩ = some (.string a0_2) ∧ w'.cell? ⟨gb367, 3, none⟩ = some (.slice A0_3 l0_3.length c0_3) ∧ w'.cell? ⟨gb367, 4, none⟩ = some (.int .i64 a0_4)) (ds := []) (fb 39 0) (by kernel_rfl) rfl rfl (zb5 BK367.out) (fun hHeld => ?_); refine with_tabW impl_Sieve_heads.tab2 impl_Sieve_heads.bits2 (fun HT_ HW_ => ?_); generalize w3.drew = w16 at BK367 HB hHeld ⊢; refine zu 0 1 ?_; refine zx 1 3 hHeld ?_; refine zone 2 7 (fun K hK => ?_); refine zG2 Try.func98 #[.string a0_1] ?_
      with_reducible refine (impl_BitsOk.calls k a0_1 true _ A5.out).mono ?_
      rintro e w' ⟨rfl, ⟨nd, rfl⟩⟩; refine ⟨_, rfl, ?_⟩; refine hK.out _ _ (zb5 BK367.out) (fun hHeld => ?_); clear hK K; refine znm ?_; refine zu 3 15 ?_; refine zu 4 31 ?_; refine zu 5 63 ?_; refine zx 6 127 hHeld ?_; refine zone 7 255 (fun K hK => ?_); refine zG2 Try.func98 #[.string a0_2] ?_
      with_reducible refine (impl_BitsOk.calls k a0_2 true _ A7.out).mono ?_
      rintro e w' ⟨rfl, ⟨nd, rfl⟩⟩; refine ⟨_, rfl, ?_⟩; refine hK.out _ _ (zb5 BK367.out) (fun hHeld => ?_); clear hK K; refine znm ?_; refine zu 8 511 ?_; refine zu 9 1023 ?_; refine zu 10 2047 ?_; refine zu 11 4095 ?_; refine zu 14 20479 ?_; refine zx 12 24575 hHeld ?_; refine zu 13 32767 ?_; refine zu 15 65535 ?_; refine zu 16 131071 ?_; refine zu 17 262143 ?_; refine zu 18 524287 ?_; refine zu 21 2621439 ?_; refine zx 19 3145727 hHeld ?_; refine zu 20 4194303 ?_; refine zu 22 8388607 ?_; refine zu 23 16777215 ?_; refine zu 24 33554431 ?_; refine zw 25 67108863 ?_; refine zw 26 134217727 ?_; refine zw 27 268435455 ?_; refine zw 28 536870911 ?_; refine zu 29 1073741823 ?_; refine zu 30 2147483647 ?_; refine zw 31 4294967295 ?_; refine zw 32 8589934591 ?_; refine zw 33 17179869183 ?_; refine zw 34 34359738367 ?_; refine zw 35 68719476735 ?_; refine zw 36 137438953471 ?_; refine zw 37 274877906943 ?_; refine zu 38 549755813887 ?_; refine done_ (done_of HT_.out (by kernel_rfl)) ?_
      try go_wp2
      go_meet
      case rel => exact ⟨_, (true), zf, H', ⟨by first | omega | exact Nat.le_refl _⟩, ⟨zl BK367.out⟩, ⟨zb HB.out⟩⟩
    ·rw [if_neg c9] at H; have c9b0 : ((a0_1.size : Int) == (a0_0.size : Int)) = false := beq_eq_false_iff_ne.mpr c9; have c9b1 : ((a0_1.size : Int) != (a0_0.size : Int)) = true := bne_iff_ne.mpr c9
     have c9b2 : (a0_1.size == a0_0.size) = false := by first | simpa using c9 | (simp at c9 ⊢; omega)
     (first | rw [c9b0] | (simp only [i64_w, i32_w]; rw [c9b0]) | simp only [*, Bool.not_true, Bool.not_false] | skip); have H' := z0 H; clear H
     try go_wp2
     replace BK367 := z0 (blk_drew BK367.out); replace HB := z0 (below_drew1 HB.out); refine start_ (n := 39) (S := fun w' => w'.cell? ⟨gb367, 0, none⟩ = some (.string a0_0) ∧ w'.cell? ⟨gb367, 1, none⟩ = some (.string a0_1) ∧ w'.cell? ⟨gb367, 2, none⟩ = some (.string a0_2) ∧ w'.cell? ⟨gb367, 3, none⟩ = some (.slice A0_3 l0_3.length c0_3) ∧ w'.cell? ⟨gb367, 4, none⟩ = some (.int .i64 a0_4)) (ds := []) (fb 39 0) (by kernel_rfl) rfl rfl (zb5 BK367.out) (fun hHeld => ?_); refine with_tabW impl_Sieve_heads.tab2 impl_Sieve_heads.bits2 (fun HT_ HW_ => ?_); generalize w3.drew = w17 at BK367 HB hHeld ⊢; refine zu 0 1 ?_; refine zx 1 3 hHeld ?_; refine zone 2 7 (fun K hK => ?_); refine zG2 Try.func98 #[.string a0_1] ?_
     with_reducible refine (impl_BitsOk.calls k a0_1 true _ A5.out).mono ?_
     rintro e w' ⟨rfl, ⟨nd, rfl⟩⟩; refine ⟨_, rfl, ?_⟩; refine hK.out _ _ (zb5 BK367.out) (fun hHeld => ?_); clear hK K; refine znm ?_; refine zu 3 15 ?_; refine zu 4 31 ?_; refine zu 5 63 ?_; refine zx 6 127 hHeld ?_; refine zone 7 255 (fun K hK => ?_); refine zG2 Try.func98 #[.string a0_2] ?_
     with_reducible refine (impl_BitsOk.calls k a0_2 true _ A7.out).mono ?_
     rintro e w' ⟨rfl, ⟨nd, rfl⟩⟩; refine ⟨_, rfl, ?_⟩; refine hK.out _ _ (zb5 BK367.out) (fun hHeld => ?_); clear hK K; refine znm ?_; refine zu 8 511 ?_; refine zu 9 1023 ?_; refine zu 10 2047 ?_; refine zu 11 4095 ?_; refine zu 14 20479 ?_; refine zx 12 24575 hHeld ?_; refine zu 13 32767 ?_; refine zu 15 65535 ?_; refine zu 16 131071 ?_; refine zu 17 262143 ?_; refine zw 18 524287 ?_; refine zw 19 1048575 ?_; refine zw 20 2097151 ?_; refine zw 21 4194303 ?_; refine zw 22 8388607 ?_; refine zu 23 16777215 ?_; refine zu 24 33554431 ?_; refine zw 25 67108863 ?_; refine zw 26 134217727 ?_; refine zw 27 268435455 ?_; refine zw 28 536870911 ?_; refine zu 29 1073741823 ?_; refine zu 30 2147483647 ?_; refine zw 31 4294967295 ?_; refine zw 32 8589934591 ?_; refine zw 33 17179869183 ?_; refine zw 34 34359738367 ?_; refine zw 35 68719476735 ?_; refine zw 36 137438953471 ?_; refine zw 37 274877906943 ?_; refine zu 38 549755813887 ?_; refine done_ (done_of HT_.out (by kernel_rfl)) ?_
     try go_wp2
     go_meet
     case rel => exact ⟨_, (true), zf, H', ⟨by first | omega | exact Nat.le_refl _⟩, ⟨zl BK367.out⟩, ⟨zb HB.out⟩⟩
   ·replace c8 := Bool.eq_false_iff.mpr c8; subst c8
    have H1 : (impl_Sieve_heads.j0 k true a0_0 a0_1 a0_2 l0_3 a0_4) = some (r1, r2) := by rw [if_neg (show ¬ (false = true) by decide)] at H; exact H
    clear H; have H := H1; clear H1; have H' := z0 H; clear H
    try go_wp2
    replace BK367 := z0 (blk_drew BK367.out); replace HB := z0 (below_drew1 HB.out); refine start_ (n := 39) (S := fun w' => w'.cell? ⟨gb367, 0, none⟩ = some (.string a0_0) ∧ w'.cell? ⟨gb367, 1, none⟩ = some (.string a0_1) ∧ w'.cell? ⟨gb367, 2, none⟩ = some (.string a0_2) ∧ w'.cell? ⟨gb367, 3, none⟩ = some (.slice A0_3 l0_3.length c0_3) ∧ w'.cell? ⟨gb367, 4, none⟩ = some (.int .i64 a0_4)) (ds := []) (fb 39 0) (by kernel_rfl) rfl rfl (zb5 BK367.out) (fun hHeld => ?_); refine with_tabW impl_Sieve_heads.tab2 impl_Sieve_heads.bits2 (fun HT_ HW_ => ?_); generalize w3.drew = w18 at BK367 HB hHeld ⊢; refine zu 0 1 ?_; refine zx 1 3 hHeld ?_; refine zone 2 7 (fun K hK => ?_); refine zG2 Try.func98 #[.string a0_1] ?_
    with_reducible refine (impl_BitsOk.calls k a0_1 true _ A5.out).mono ?_
    rintro e w' ⟨rfl, ⟨nd, rfl⟩⟩; refine ⟨_, rfl, ?_⟩; refine hK.out _ _ (zb5 BK367.out) (fun hHeld => ?_); clear hK K; refine znm ?_; refine zu 3 15 ?_; refine zu 4 31 ?_; refine zu 5 63 ?_; refine zx 6 127 hHeld ?_; refine zone 7 255 (fun K hK => ?_); refine zG2 Try.func98 #[.string a0_2] ?_
    with_reducible refine (impl_BitsOk.calls k a0_2 false _ A7.out).mono ?_
    rintro e w' ⟨rfl, ⟨nd, rfl⟩⟩; refine ⟨_, rfl, ?_⟩; refine hK.out _ _ (zb5 BK367.out) (fun hHeld => ?_); clear hK K; refine znm ?_; refine zu 8 511 ?_; refine zu 9 1023 ?_; refine zu 10 2047 ?_; refine zw 11 4095 ?_; refine zw 12 8191 ?_; refine zw 13 16383 ?_; refine zw 14 32767 ?_; refine zw 15 65535 ?_; refine zu 16 131071 ?_; refine zu 17 262143 ?_; refine zw 18 524287 ?_; refine zw 19 1048575 ?_; refine zw 20 2097151 ?_; refine zw 21 4194303 ?_; refine zw 22 8388607 ?_; refine zu 23 16777215 ?_; refine zu 24 33554431 ?_; refine zw 25 67108863 ?_; refine zw 26 134217727 ?_; refine zw 27 268435455 ?_; refine zw 28 536870911 ?_; refine zu 29 1073741823 ?_; refine zu 30 2147483647 ?_; refine zw 31 4294967295 ?_; refine zw 32 8589934591 ?_; refine zw 33 17179869183 ?_; refine zw 34 34359738367 ?_; refine zw 35 68719476735 ?_; refine zw 36 137438953471 ?_; refine zw 37 274877906943 ?_; refine zu 38 549755813887 ?_; refine done_ (done_of HT_.out (by kernel_rfl)) ?_
    try go_wp2
    go_meet
    case rel => exact ⟨_, (true), zf, H', ⟨by first | omega | exact Nat.le_refl _⟩, ⟨zl BK367.out⟩, ⟨zb HB.out⟩⟩
  ·replace c6 := Bool.eq_false_iff.mpr c6; subst c6
   have H1 : (impl_Sieve_heads.j0 k true a0_0 a0_1 a0_2 l0_3 a0_4) = some (r1, r2) := by rw [if_neg (show ¬ (false = true) by decide)] at H; exact H
   clear H; have H := H1; clear H1; have H' := z0 H; clear H
   try go_wp2
   replace BK367 := z0 (blk_drew BK367.out); replace HB := z0 (below_drew1 HB.out); refine start_ (n := 39) (S := fun w' => w'.cell? ⟨gb367, 0, none⟩ = some (.string a0_0) ∧ w'.cell? ⟨gb367, 1, none⟩ = some (.string a0_1) ∧ w'.cell? ⟨gb367, 2, none⟩ = some (.string a0_2) ∧ w'.cell? ⟨gb367, 3, none⟩ = some (.slice A0_3 l0_3.length c0_3) ∧ w'.cell? ⟨gb367, 4, none⟩ = some (.int .i64 a0_4)) (ds := []) (fb 39 0) (by kernel_rfl) rfl rfl (zb5 BK367.out) (fun hHeld => ?_); refine with_tabW impl_Sieve_heads.tab2 impl_Sieve_heads.bits2 (fun HT_ HW_ => ?_); generalize w3.drew = w19 at BK367 HB hHeld ⊢; refine zu 0 1 ?_; refine zx 1 3 hHeld ?_; refine zone 2 7 (fun K hK => ?_); refine zG2 Try.func98 #[.string a0_1] ?_
   with_reducible refine (impl_BitsOk.calls k a0_1 false _ A5.out).mono ?_
   rintro e w' ⟨rfl, ⟨nd, rfl⟩⟩; refine ⟨_, rfl, ?_⟩; refine hK.out _ _ (zb5 BK367.out) (fun hHeld => ?_); clear hK K; refine znm ?_; refine zu 3 15 ?_; refine zu 4 31 ?_; refine zw 5 63 ?_; refine zw 6 127 ?_; refine zw 7 255 ?_; refine zw 8 511 ?_; refine zu 9 1023 ?_; refine zu 10 2047 ?_; refine zw 11 4095 ?_; refine zw 12 8191 ?_; refine zw 13 16383 ?_; refine zw 14 32767 ?_; refine zw 15 65535 ?_; refine zu 16 131071 ?_; refine zu 17 262143 ?_; refine zw 18 524287 ?_; refine zw 19 1048575 ?_; refine zw 20 2097151 ?_; refine zw 21 4194303 ?_; refine zw 22 8388607 ?_; refine zu 23 16777215 ?_; refine zu 24 33554431 ?_; refine zw 25 67108863 ?_; refine zw 26 134217727 ?_; refine zw 27 268435455 ?_; refine zw 28 536870911 ?_; refine zu 29 1073741823 ?_; refine zu 30 2147483647 ?_; refine zw 31 4294967295 ?_; refine zw 32 8589934591 ?_; refine zw 33 17179869183 ?_; refine zw 34 34359738367 ?_; refine zw 35 68719476735 ?_; refine zw 36 137438953471 ?_; refine zw 37 274877906943 ?_; refine zu 38 549755813887 ?_; refine done_ (done_of HT_.out (by kernel_rfl)) ?_
   try go_wp2
   go_meet
   case rel => exact ⟨_, (true), zf, H', ⟨by first | omega | exact Nat.le_refl _⟩, ⟨zl BK367.out⟩, ⟨zb HB.out⟩⟩
 case rest =>
  clear HC2
  try clear p2
  try clear c6
  try clear c8
  try clear c9
  obtain ⟨kq, x49_1, rfl, HA, HJ1, BK367, HB⟩ := hcut
  cases kq with
  | zero => exact absurd HA.out (by simp [impl_Sieve_heads.j0])
  | succ kj1 =>
   have H := HA.out; clear HA; simp only [impl_Sieve_heads.j0] at H
   by_cases c20 : x49_1 = true
   ·subst c20
    have H1 : (some (([] : List (S93)), false)) = some (r1, r2) := by rw [if_pos rfl] at H; exact H
    clear H; have H := H1; clear H1; simp only [Option.some.injEq, Prod.mk.injEq] at H; obtain ⟨rfl, rfl⟩ := H; go_wp2
    go_ret2
    exact ⟨_, ze, by first | exact Kd.R_nil _ _ _ _ _ | exact Kd.N_nil _ _ _ _ _ | exact Kd.V_nil _ _ _ _ _ | exact Kd.Q_nil _ _ _ _ _ | exact Kd.S_nil _ _ _ _ _, zb HB.out⟩
   ·replace c20 := Bool.eq_false_iff.mpr c20; subst c20
    have H1 : ((impl_Sieve_parts.f kj1 a0_0 a0_1 a0_2 l0_3 a0_4 0 (⟨#[]⟩ : ByteArray) ([] : List (S93))).bind fun bt372 => (if bt372.2 = true then ((impl_texts.f kj1 bt372.1).bind fun t376 => ((impl_SieveOf.f kj1 t376 a0_4).bind fun bt379 => (if bt379.2.2.2.2.2 = true then ((impl_Sieve_same.f kj1 bt379.1 bt379.2.1 bt379.2.2.1 bt379.2.2.2.1 bt379.2.2.2.2.1 a0_0 a0_1 a0_2 l0_3 a0_4).bind fun t388 => (if t388 = true then (some (bt372.1, true)) else (some (([] : List (S93)), false)))) else (some (([] : List (S93)), false))))) else (some (([] : List (S93)), false)))) = some (r1, r2) := by rw [if_neg (show ¬ (false = true) by decide)] at H; exact H
    clear H; have H := H1; clear H1; replace H := zi H; obtain ⟨⟨t372, t375⟩, A21, H⟩ := H; (try dsimp only at H)
    by_cases c22 : t375 = true
    ·subst c22
     have H1 : ((impl_texts.f kj1 t372).bind fun t376 => ((impl_SieveOf.f kj1 t376 a0_4).bind fun bt379 => (if bt379.2.2.2.2.2 = true then ((impl_Sieve_same.f kj1 bt379.1 bt379.2.1 bt379.2.2.1 bt379.2.2.2.1 bt379.2.2.2.2.1 a0_0 a0_1 a0_2 l0_3 a0_4).bind fun t388 => (if t388 = true then (some (t372, true)) else (some (([] : List (S93)), false)))) else (some (([] : List (S93)), false))))) = some (r1, r2) := by rw [if_pos rfl] at H; exact H
     clear H; have H := H1; clear H1; replace H := zi H; obtain ⟨t376, A23, H⟩ := H; replace H := zi H; obtain ⟨⟨t379, t380, t381, t382, t385, t386⟩, A24, H⟩ := H; (try dsimp only at H)
     by_cases c25 : t386 = true
     ·subst c25
      have H1 : ((impl_Sieve_same.f kj1 t379 t380 t381 t382 t385 a0_0 a0_1 a0_2 l0_3 a0_4).bind fun t388 => (if t388 = true then (some (t372, true)) else (some (([] : List (S93)), false)))) = some (r1, r2) := by rw [if_pos rfl] at H; exact H
      clear H; have H := H1; clear H1; replace H := zi H; obtain ⟨t388, A26, H⟩ := H
      by_cases c27 : t388 = true
      ·subst c27
       have H1 : (some (t372, true)) = some (r1, r2) := by rw [if_pos rfl] at H; exact H
       clear H; have H := H1; clear H1; simp only [Option.some.injEq, Prod.mk.injEq] at H; obtain ⟨rfl, rfl⟩ := H; have hcz28 := zc5 BK367.out
       try go_wp2_with (first | ((with_reducible refine gc 118 ?_); refine zL (some 52) Try.func118 #[.agg #[.string a0_0, .string a0_1, .string a0_2, .slice A0_3 l0_3.length c0_3, .int .i64 a0_4], .int .i64 0, .string ⟨#[]⟩, .slice none 0 0] ?_; (refine (impl_Sieve_parts.calls kj1 a0_0 a0_1 a0_2 _ _ l0_3 a0_4 0 (⟨#[]⟩ : ByteArray) (fun k_ => some k_ = (.slice none 0 0 : Value).ownBlock) (.slice none 0 0) ([] : List (S93)) t372 true w _ ?side1 ?side2 ?side3 ?side4 A21.out).mono ?_); (case side1 => repeat (first | (with_reducible first | exact HB.out | apply below_alloc | apply pw_below_drewN | apply below_drew1 | refine below_set ?_ GE367.out) | exact HB.out)); (case side2 => exact Kd.C_kept_came Kd.heap_string HR0_3.out (zb HB.out) (fun k_ hs_ => (fun e_ => by simp [Value.ownBlock] at e_) hs_)); (case side3 => exact HC0_3.out); (case side4 => exact Kd.R_nil _ _ _ _ _); rintro e w29 ⟨v373, rfl, ho0, hb, hkp⟩; refine ⟨_, rfl, ?_⟩; replace BK367 := z0 (blk_kept (zl BK367.out) hkp (fun hs_ => (fun e_ => by simp [Value.ownBlock] at e_) hs_)); have HO374 := z0 (Kd.R_mono (ok' := fun k_ => True) ho0 (fun k_ hk_ => trivial)); replace HB := z0 (hb); (try clear hb); (try clear hkp); (try clear ho0); obtain ⟨Ao30, co30, eo30⟩ := Kd.R_slice HO374.out; subst eo30))
       replace HO374 := z0 (Kd.R_drew HO374.out); replace BK367 := z0 (blk_drew BK367.out); replace HB := z0 (below_drew1 HB.out); refine start_ (n := 11) (S := fun w' => w'.cell? ⟨gb367, 0, none⟩ = some (.string a0_0) ∧ w'.cell? ⟨gb367, 1, none⟩ = some (.string a0_1) ∧ w'.cell? ⟨gb367, 2, none⟩ = some (.string a0_2) ∧ w'.cell? ⟨gb367, 3, none⟩ = some (.slice A0_3 l0_3.length c0_3) ∧ w'.cell? ⟨gb367, 4, none⟩ = some (.int .i64 a0_4)) (ds := []) (fb 11 0) (by kernel_rfl) rfl rfl (zb5 BK367.out) (fun hHeld => ?_); refine with_tabW impl_Sieve_heads.tab7 impl_Sieve_heads.bits7 (fun HT_ HW_ => ?_); generalize w29.drew = w31 at HO374 BK367 HB hHeld ⊢; refine zu 0 1 ?_; refine zu 2 5 ?_; refine zx 3 13 hHeld ?_; refine join_ (σ := Value × Value × Nat) 2 (fb 11 511) (fun s_ => [(59, s_.1), (62, .tuple #[.agg #[.string t379, .string t380, .string t381, s_.2.1, .int .i64 t385], .bool true]), (7, .pointer (some ⟨s_.2.2, 0, none⟩)), (57, .tuple #[.agg #[.string t379, .string t380, .string t381, s_.2.1, .int .i64 t385], .bool true]), (63, .agg #[.string t379, .string t380, .string t381, s_.2.1, .int .i64 t385]), (64, .bool true)]) (fun s_ w' => (w'.cell? ⟨gb367, 0, none⟩ = some (.string a0_0) ∧ w'.cell? ⟨gb367, 1, none⟩ = some (.string a0_1) ∧ w'.cell? ⟨gb367, 2, none⟩ = some (.string a0_2) ∧ w'.cell? ⟨gb367, 3, none⟩ = some (.slice A0_3 l0_3.length c0_3) ∧ w'.cell? ⟨gb367, 4, none⟩ = some (.int .i64 a0_4)) ∧ (Kd.R k93 93 w' w.heap.size (fun _ => True) (.slice Ao30 t372.length co30) t372) ∧ (Kd.R Kd.string 9 w' w.heap.size (fun k_ => some k_ ≠ (s_.2.1 : Value).ownBlock) s_.1 t376) ∧ (Kd.R Kd.string 9 w' w.heap.size (fun k_ => some k_ ≠ (s_.1 : Value).ownBlock) s_.2.1 t382) ∧ (w'.heap[gb367]? = some (.cells #[.string a0_0, .string a0_1, .string a0_2, .slice A0_3 l0_3.length c0_3, .int .i64 a0_4] 25 (0, 0))) ∧ (w'.heap[s_.2.2]? = some (.cells #[.string ⟨#[]⟩, .string ⟨#[]⟩, .string ⟨#[]⟩, .slice none 0 0, .int .i64 0] 25 (0, 0))) ∧ (w.heap.size ≤ s_.2.2) ∧ (w.heap.size ≤ s_.2.2) ∧ (gb367 ≠ s_.2.2) ∧ (s_.2.2 ≠ gb367) ∧ (Below w.heap.size w w')) ?_ ?_; rotate_left
       ·intro hCont; refine two_ (i := 1) (j := 8) (Ni := some 59) (Nj := some 7) (fb 11 15) (fb 11 269) rfl rfl rfl rfl (two_of HT_.out (by kernel_rfl)) (by decide) (by decide) (fun K hK => ?_) (fun K hK => ?_)
        ·skip
         refine zG2 Try.func90 #[.slice Ao30 t372.length co30] ?_
         with_reducible refine (impl_texts.calls kj1 _ _ t372 t376 _ ?side1 ?side2 A23.out).mono ?_
         (case side1 => repeat (first | exact (Kd.R_reads' HO374.out).2.2 | (with_reducible refine Kd.C_alloc ?_ _) | (with_reducible refine Kd.C_drewN ?_ _) | (with_reducible refine Kd.C_drew ?_))); (case side2 => exact (Kd.R_reads' HO374.out).2.1); rintro e w32 ⟨v377, rfl, ho0, hb⟩; refine ⟨_, rfl, ?_⟩; replace HO374 := zA HO374 hb; have HO378 := z0 (Kd.R_lower ho0 (below_size (zb HB.out))); replace BK367 := zK BK367 hb; replace HB := zH HB hb; (try clear hb ho0); obtain ⟨Ao33, co33, eo33⟩ := Kd.R_slice HO378.out; (first | subst eo33 | (injection eo33 with f1_ f2_ f3_; have f4_ := f1_.symm; have f5_ := f3_.symm; clear f1_ f2_ f3_; subst f4_; subst f5_)); refine hK.out _ _ (zb5 BK367.out) (fun hHeld => ?_); clear hK K; refine znm ?_; refine two_ (i := 4) (j := 8) (Ni := some 62) (Nj := some 7) (fb 11 31) (fb 11 271) rfl rfl rfl rfl (two_of HT_.out (by kernel_rfl)) (by decide) (by decide) (fun K hK => ?_) (fun K hK => ?_)
         ·skip
          refine zG2 Try.func30 #[.slice Ao33 t376.length co33, .int .i64 a0_4] ?_
          with_reducible refine (impl_SieveOf.calls kj1 _ _ t376 a0_4 t379 t380 t381 t382 t385 true _ ?side1 ?side2 A24.out).mono ?_
          (case side1 => repeat (first | exact (Kd.R_reads' HO378.out).2.2 | (with_reducible refine Kd.C_alloc ?_ _) | (with_reducible refine Kd.C_drewN ?_ _) | (with_reducible refine Kd.C_drew ?_))); (case side2 => exact (Kd.R_reads' HO378.out).2.1); rintro e w34 ⟨v383, rfl, ho0, hb⟩; refine ⟨_, rfl, ?_⟩; replace HO374 := zA HO374 hb; have HO384 := z0 (Kd.R_lower (Kd.R_new' ho0 (Kd.R_lt (zr HO378.out))) (below_size (zb HB.out))); replace HO378 := z0 (Kd.R_elder' (zr HO378.out) (Kd.R_base ho0) hb); replace BK367 := zK BK367 hb; replace HB := zH HB hb; (try clear hb ho0); refine hK.out _ _ (zb5 BK367.out) (fun hHeld => ?_); clear hK K; refine znm ?_; refine zu 5 63 ?_; refine zu 6 127 ?_; refine zu 7 255 ?_; refine zone 8 511 (fun K hK => ?_); refine box_step ?hg (N := 7) ?hd (cs := #[.string ⟨#[]⟩, .string ⟨#[]⟩, .string ⟨#[]⟩, .slice none 0 0, .int .i64 0]) (t := 25) ?hr ?_; (case hd => rfl); (case hg => rfl); (case hr => first | (go_simp; done) | (go_simp; rfl)); intro gb387 hg w35 hbox hb; replace HO374 := zA HO374 hb; replace HO378 := zA HO378 hb; replace HO384 := zA HO384 hb; have BK387 := z0 (hbox); have GE387 := zG hg HB; replace HB := zH HB hb; have NB367_387 := zLt hg BK367; have NB387_367 := zGt hg BK367; replace BK367 := zK BK367 hb; clear hb hbox hg; refine hK.out _ _ (zb5 BK367.out) (fun hHeld => ?_); clear hK K; refine znm ?_; exact norm_ (by simp only [putAll, Act.put, List.setIfInBounds_toArray, List.set_cons_zero, List.set_cons_succ]) (hCont (.slice Ao33 t376.length co33, v383, gb387) _ ⟨hHeld, (zr HO374.out), (Kd.R_mono (zr HO378.out) (fun _ hk => hk.2)), (Kd.R_mono (zr HO384.out) (fun _ hk => hk.2)), (zl BK367.out), (zl BK387.out), GE387.out, GE387.out, NB367_387.out, NB387_367.out, (zb HB.out)⟩)
         ·skip
          refine box_step ?hg (N := 7) ?hd (cs := #[.string ⟨#[]⟩, .string ⟨#[]⟩, .string ⟨#[]⟩, .slice none 0 0, .int .i64 0]) (t := 25) ?hr ?_; (case hd => rfl); (case hg => rfl); (case hr => first | (go_simp; done) | (go_simp; rfl)); intro gb387 hg w33 hbox hb; replace HO374 := zA HO374 hb; replace HO378 := zA HO378 hb; have BK387 := z0 (hbox); have GE387 := zG hg HB; replace HB := zH HB hb; have NB367_387 := zLt hg BK367; have NB387_367 := zGt hg BK367; replace BK367 := zK BK367 hb; clear hb hbox hg; obtain ⟨Ao34, co34, eo34⟩ := Kd.R_slice HO378.out; (first | subst eo34 | (injection eo34 with f1_ f2_ f3_; have f4_ := f1_.symm; have f5_ := f3_.symm; clear f1_ f2_ f3_; subst f4_; subst f5_)); refine hK.out _ _ (zb5 BK367.out) (fun hHeld => ?_); clear hK K; refine znm ?_; refine zone 4 287 (fun K hK => ?_); refine zG2 Try.func30 #[.slice Ao34 t376.length co34, .int .i64 a0_4] ?_
          with_reducible refine (impl_SieveOf.calls kj1 _ _ t376 a0_4 t379 t380 t381 t382 t385 true _ ?side1 ?side2 A24.out).mono ?_
          (case side1 => repeat (first | exact (Kd.R_reads' HO378.out).2.2 | (with_reducible refine Kd.C_alloc ?_ _) | (with_reducible refine Kd.C_drewN ?_ _) | (with_reducible refine Kd.C_drew ?_))); (case side2 => exact (Kd.R_reads' HO378.out).2.1); rintro e w35 ⟨v383, rfl, ho0, hb⟩; refine ⟨_, rfl, ?_⟩; replace HO374 := zA HO374 hb; have HO384 := z0 (Kd.R_lower (Kd.R_new' ho0 (Kd.R_lt (zr HO378.out))) (below_size (zb HB.out))); replace HO378 := z0 (Kd.R_elder' (zr HO378.out) (Kd.R_base ho0) hb); replace BK367 := zK BK367 hb; replace BK387 := zK BK387 hb; replace HB := zH HB hb; (try clear hb ho0); refine hK.out _ _ (zb5 BK367.out) (fun hHeld => ?_); clear hK K; refine znm ?_; refine zu 5 319 ?_; refine zu 6 383 ?_; refine zu 7 511 ?_; exact norm_ (by simp only [putAll, Act.put, List.setIfInBounds_toArray, List.set_cons_zero, List.set_cons_succ]) (hCont (.slice Ao34 t376.length co34, v383, gb387) _ ⟨hHeld, (zr HO374.out), (Kd.R_mono (zr HO378.out) (fun _ hk => hk.2)), (Kd.R_mono (zr HO384.out) (fun _ hk => hk.2)), (zl BK367.out), (zl BK387.out), GE387.out, GE387.out, NB367_387.out, NB387_367.out, (zb HB.out)⟩)
        ·skip
         refine box_step ?hg (N := 7) ?hd (cs := #[.string ⟨#[]⟩, .string ⟨#[]⟩, .string ⟨#[]⟩, .slice none 0 0, .int .i64 0]) (t := 25) ?hr ?_; (case hd => rfl); (case hg => rfl); (case hr => first | (go_simp; done) | (go_simp; rfl)); intro gb387 hg w32 hbox hb; replace HO374 := zA HO374 hb; have BK387 := z0 (hbox); have GE387 := zG hg HB; replace HB := zH HB hb; have NB367_387 := zLt hg BK367; have NB387_367 := zGt hg BK367; replace BK367 := zK BK367 hb; clear hb hbox hg; refine hK.out _ _ (zb5 BK367.out) (fun hHeld => ?_); clear hK K; refine znm ?_; refine zone 1 271 (fun K hK => ?_); refine zG2 Try.func90 #[.slice Ao30 t372.length co30] ?_
         with_reducible refine (impl_texts.calls kj1 _ _ t372 t376 _ ?side1 ?side2 A23.out).mono ?_
         (case side1 => repeat (first | exact (Kd.R_reads' HO374.out).2.2 | (with_reducible refine Kd.C_alloc ?_ _) | (with_reducible refine Kd.C_drewN ?_ _) | (with_reducible refine Kd.C_drew ?_))); (case side2 => exact (Kd.R_reads' HO374.out).2.1); rintro e w33 ⟨v377, rfl, ho0, hb⟩; refine ⟨_, rfl, ?_⟩; replace HO374 := zA HO374 hb; have HO378 := z0 (Kd.R_lower ho0 (below_size (zb HB.out))); replace BK367 := zK BK367 hb; replace BK387 := zK BK387 hb; replace HB := zH HB hb; (try clear hb ho0); obtain ⟨Ao34, co34, eo34⟩ := Kd.R_slice HO378.out; (first | subst eo34 | (injection eo34 with f1_ f2_ f3_; have f4_ := f1_.symm; have f5_ := f3_.symm; clear f1_ f2_ f3_; subst f4_; subst f5_)); refine hK.out _ _ (zb5 BK367.out) (fun hHeld => ?_); clear hK K; refine znm ?_; refine zone 4 287 (fun K hK => ?_); refine zG2 Try.func30 #[.slice Ao34 t376.length co34, .int .i64 a0_4] ?_
         with_reducible refine (impl_SieveOf.calls kj1 _ _ t376 a0_4 t379 t380 t381 t382 t385 true _ ?side1 ?side2 A24.out).mono ?_
         (case side1 => repeat (first | exact (Kd.R_reads' HO378.out).2.2 | (with_reducible refine Kd.C_alloc ?_ _) | (with_reducible refine Kd.C_drewN ?_ _) | (with_reducible refine Kd.C_drew ?_))); (case side2 => exact (Kd.R_reads' HO378.out).2.1); rintro e w35 ⟨v383, rfl, ho0, hb⟩; refine ⟨_, rfl, ?_⟩; replace HO374 := zA HO374 hb; have HO384 := z0 (Kd.R_lower (Kd.R_new' ho0 (Kd.R_lt (zr HO378.out))) (below_size (zb HB.out))); replace HO378 := z0 (Kd.R_elder' (zr HO378.out) (Kd.R_base ho0) hb); replace BK367 := zK BK367 hb; replace BK387 := zK BK387 hb; replace HB := zH HB hb; (try clear hb ho0); refine hK.out _ _ (zb5 BK367.out) (fun hHeld => ?_); clear hK K; refine znm ?_; refine zu 5 319 ?_; refine zu 6 383 ?_; refine zu 7 511 ?_; exact norm_ (by simp only [putAll, Act.put, List.setIfInBounds_toArray, List.set_cons_zero, List.set_cons_succ]) (hCont (.slice Ao34 t376.length co34, v383, gb387) _ ⟨hHeld, (zr HO374.out), (Kd.R_mono (zr HO378.out) (fun _ hk => hk.2)), (Kd.R_mono (zr HO384.out) (fun _ hk => hk.2)), (zl BK367.out), (zl BK387.out), GE387.out, GE387.out, NB367_387.out, NB387_367.out, (zb HB.out)⟩)
       rintro ⟨v377, v383, gb387⟩ w36 ⟨hS_, h0_, h1_, h2_, h3_, h4_, h5_, h6_, h7_, h8_, h9_⟩; have n0_ : Aside0 (Kd.R k93 93 w36 w.heap.size (fun _ => True) (.slice Ao30 t372.length co30) t372) := ⟨h0_⟩; have n1_ : Aside0 (Kd.R Kd.string 9 w36 w.heap.size (fun k_ => some k_ ≠ (v383 : Value).ownBlock) v377 t376) := ⟨h1_⟩; have n2_ : Aside0 (Kd.R Kd.string 9 w36 w.heap.size (fun k_ => some k_ ≠ (v377 : Value).ownBlock) v383 t382) := ⟨h2_⟩; have n3_ : Aside0 (w36.heap[gb367]? = some (.cells #[.string a0_0, .string a0_1, .string a0_2, .slice A0_3 l0_3.length c0_3, .int .i64 a0_4] 25 (0, 0))) := ⟨h3_⟩; have n4_ : Aside0 (w36.heap[gb387]? = some (.cells #[.string ⟨#[]⟩, .string ⟨#[]⟩, .string ⟨#[]⟩, .slice none 0 0, .int .i64 0] 25 (0, 0))) := ⟨h4_⟩; have n5_ : Aside0 (w.heap.size ≤ gb387) := ⟨h5_⟩; have n6_ : Aside0 (w.heap.size ≤ gb387) := ⟨h6_⟩; have n7_ : Aside0 (gb367 ≠ gb387) := ⟨h7_⟩; have n8_ : Aside0 (gb387 ≠ gb367) := ⟨h8_⟩; have n9_ : Aside0 (Below w.heap.size w w36) := ⟨h9_⟩; clear HO374; clear BK367; clear HB; clear h0_ h1_ h2_ h3_ h4_ h5_ h6_ h7_ h8_ h9_; have HO374 := n0_; have HO378 := n1_; have HO384 := n2_; have BK367 := n3_; have BK387 := n4_; have GE387 := n5_; have GE387 := n6_; have NB367_387 := n7_; have NB387_367 := n8_; have HB := n9_; clear n0_ n1_ n2_ n3_ n4_ n5_ n6_ n7_ n8_ n9_; have hHeld : w36.cell? ⟨gb367, 0, none⟩ = some (.string a0_0) ∧ w36.cell? ⟨gb367, 1, none⟩ = some (.string a0_1) ∧ w36.cell? ⟨gb367, 2, none⟩ = some (.string a0_2) ∧ w36.cell? ⟨gb367, 3, none⟩ = some (.slice A0_3 l0_3.length c0_3) ∧ w36.cell? ⟨gb367, 4, none⟩ = some (.int .i64 a0_4) := hS_; obtain ⟨Ao40, co40, eo40⟩ := Kd.R_slice HO384.out; (first | subst eo40 | (injection eo40 with f1_ f2_ f3_; have f4_ := f1_.symm; have f5_ := f3_.symm; clear f1_ f2_ f3_; subst f4_; subst f5_)); refine norm_ (a' := ?_) ?_ ?_; rotate_left
       ·simp only [putAll, Act.put, List.setIfInBounds_toArray, List.set_cons_zero, List.set_cons_succ]
        rfl
       refine zone 9 1023 (fun K hK => ?_); have hs37 : w36.cell? ⟨gb387, 0, none⟩ = some (.string ⟨#[]⟩) := (blk_cell BK387.out 0).trans rfl; have hfs37 := blk_frozen BK387.out 0; have hns37_0 := NB367_387.out; have hms37_0 := NB387_367.out; have hs38 : w36.cell? ⟨gb387, 1, none⟩ = some (.string ⟨#[]⟩) := (blk_cell BK387.out 1).trans rfl; have hfs38 := blk_frozen BK387.out 1; have hns38_0 := NB367_387.out; have hms38_0 := NB387_367.out; have hs39 : w36.cell? ⟨gb387, 2, none⟩ = some (.string ⟨#[]⟩) := (blk_cell BK387.out 2).trans rfl; have hfs39 := blk_frozen BK387.out 2; have hns39_0 := NB367_387.out; have hms39_0 := NB387_367.out; have hs41 : w36.cell? ⟨gb387, 3, none⟩ = some (.slice none 0 0) := (blk_cell BK387.out 3).trans rfl; have hfs41 := blk_frozen BK387.out 3; have hns41_0 := NB367_387.out; have hms41_0 := NB387_367.out; have hs42 : w36.cell? ⟨gb387, 4, none⟩ = some (.int .i64 0) := (blk_cell BK387.out 4).trans rfl; have hfs42 := blk_frozen BK387.out 4; have hns42_0 := NB367_387.out; have hms42_0 := NB387_367.out; refine skip_ (w1 := ?_) (by rfl) rfl ?_ ?_; rotate_left
       ·go_simp
        rfl
       refine hK.out _ _ ⟨((cell_far (p := ⟨gb387, _, none⟩) NB367_387.out _).trans (((cell_far (p := ⟨gb387, _, none⟩) NB367_387.out _).trans (((cell_far (p := ⟨gb387, _, none⟩) NB367_387.out _).trans (((cell_far (p := ⟨gb387, _, none⟩) NB367_387.out _).trans (((cell_far (p := ⟨gb387, _, none⟩) NB367_387.out _).trans (hHeld.1)))))))))), ((cell_far (p := ⟨gb387, _, none⟩) NB367_387.out _).trans (((cell_far (p := ⟨gb387, _, none⟩) NB367_387.out _).trans (((cell_far (p := ⟨gb387, _, none⟩) NB367_387.out _).trans (((cell_far (p := ⟨gb387, _, none⟩) NB367_387.out _).trans (((cell_far (p := ⟨gb387, _, none⟩) NB367_387.out _).trans (hHeld.2.1)))))))))), ((cell_far (p := ⟨gb387, _, none⟩) NB367_387.out _).trans (((cell_far (p := ⟨gb387, _, none⟩) NB367_387.out _).trans (((cell_far (p := ⟨gb387, _, none⟩) NB367_387.out _).trans (((cell_far (p := ⟨gb387, _, none⟩) NB367_387.out _).trans (((cell_far (p := ⟨gb387, _, none⟩) NB367_387.out _).trans (hHeld.2.2.1)))))))))), ((cell_far (p := ⟨gb387, _, none⟩) NB367_387.out _).trans (((cell_far (p := ⟨gb387, _, none⟩) NB367_387.out _).trans (((cell_far (p := ⟨gb387, _, none⟩) NB367_387.out _).trans (((cell_far (p := ⟨gb387, _, none⟩) NB367_387.out _).trans (((cell_far (p := ⟨gb387, _, none⟩) NB367_387.out _).trans (hHeld.2.2.2.1)))))))))), ((cell_far (p := ⟨gb387, _, none⟩) NB367_387.out _).trans (((cell_far (p := ⟨gb387, _, none⟩) NB367_387.out _).trans (((cell_far (p := ⟨gb387, _, none⟩) NB367_387.out _).trans (((cell_far (p := ⟨gb387, _, none⟩) NB367_387.out _).trans (((cell_far (p := ⟨gb387, _, none⟩) NB367_387.out _).trans (hHeld.2.2.2.2))))))))))⟩ (fun hHeld => ?_); clear hK K; refine zu 10 2047 ?_; refine done_ (done_of HT_.out (by kernel_rfl)) ?_; have hnb43 := NB387_367.out; have hnc43 := NB367_387.out; have hcz44 := zc5 BK387.out; have hcz45 := zc5 BK367.out
       try go_wp2_with (first | (go_at_call 119; (with_reducible refine (impl_Sieve_same.calls kj1 t379 t380 t381 _ _ t382 t385 a0_0 a0_1 a0_2 _ _ l0_3 a0_4 true _ ?side1 ?side2 ?side3 ?side4 A26.out).mono ?_); (case side1 => refine (Kd.R_reads' (e := 9) (base := w.heap.size) (ok := fun k_ => some k_ ≠ (v377 : Value).ownBlock) (n := t382.length) (c := co40) ?_).2.2; exact (zs HO384.out BK387.out)); (case side2 => exact (Kd.R_reads' HO384.out).2.1); (case side3 => exact Kd.C_below HR0_3.out (zb HB.out)); (case side4 => exact HC0_3.out); rintro e w46 ⟨rfl, hb⟩; replace HO374 := zAs HO374 BK387 hb; replace HO378 := zAs HO378 BK387 hb; replace HO384 := zAs HO384 BK387 hb; replace BK367 := zKy BK367 hb; replace BK387 := z0 (blk_below (zpc BK387.out #[.string t379, .string t380, .string t381, .slice Ao40 t382.length co40, .int .i64 t385]) hb); replace HB := zH HB hb; (try clear hb)))
       go_ret2
       exact ⟨_, ze, zr HO374.out, zb HB.out⟩
      ·replace c27 := Bool.eq_false_iff.mpr c27; subst c27
       have H1 : (some (([] : List (S93)), false)) = some (r1, r2) := by rw [if_neg (show ¬ (false = true) by decide)] at H; exact H
       clear H; have H := H1; clear H1; simp only [Option.some.injEq, Prod.mk.injEq] at H; obtain ⟨rfl, rfl⟩ := H; have hcz47 := zc5 BK367.out
       try go_wp2_with (first | ((with_reducible refine gc 118 ?_); refine zL (some 52) Try.func118 #[.agg #[.string a0_0, .string a0_1, .string a0_2, .slice A0_3 l0_3.length c0_3, .int .i64 a0_4], .int .i64 0, .string ⟨#[]⟩, .slice none 0 0] ?_; (refine (impl_Sieve_parts.calls kj1 a0_0 a0_1 a0_2 _ _ l0_3 a0_4 0 (⟨#[]⟩ : ByteArray) (fun k_ => some k_ = (.slice none 0 0 : Value).ownBlock) (.slice none 0 0) ([] : List (S93)) t372 true w _ ?side1 ?side2 ?side3 ?side4 A21.out).mono ?_); (case side1 => repeat (first | (with_reducible first | exact HB.out | apply below_alloc | apply pw_below_drewN | apply below_drew1 | refine below_set ?_ GE367.out) | exact HB.out)); (case side2 => exact Kd.C_kept_came Kd.heap_string HR0_3.out (zb HB.out) (fun k_ hs_ => (fun e_ => by simp [Value.ownBlock] at e_) hs_)); (case side3 => exact HC0_3.out); (case side4 => exact Kd.R_nil _ _ _ _ _); rintro e w48 ⟨v373, rfl, ho0, hb, hkp⟩; refine ⟨_, rfl, ?_⟩; replace BK367 := z0 (blk_kept (zl BK367.out) hkp (fun hs_ => (fun e_ => by simp [Value.ownBlock] at e_) hs_)); have HO374 := z0 (Kd.R_mono (ok' := fun k_ => True) ho0 (fun k_ hk_ => trivial)); replace HB := z0 (hb); (try clear hb); (try clear hkp); (try clear ho0); obtain ⟨Ao49, co49, eo49⟩ := Kd.R_slice HO374.out; subst eo49))
       replace HO374 := z0 (Kd.R_drew HO374.out); replace BK367 := z0 (blk_drew BK367.out); replace HB := z0 (below_drew1 HB.out); refine start_ (n := 11) (S := fun w' => w'.cell? ⟨gb367, 0, none⟩ = some (.string a0_0) ∧ w'.cell? ⟨gb367, 1, none⟩ = some (.string a0_1) ∧ w'.cell? ⟨gb367, 2, none⟩ = some (.string a0_2) ∧ w'.cell? ⟨gb367, 3, none⟩ = some (.slice A0_3 l0_3.length c0_3) ∧ w'.cell? ⟨gb367, 4, none⟩ = some (.int .i64 a0_4)) (ds := []) (fb 11 0) (by kernel_rfl) rfl rfl (zb5 BK367.out) (fun hHeld => ?_); refine with_tabW impl_Sieve_heads.tab7 impl_Sieve_heads.bits7 (fun HT_ HW_ => ?_); generalize w48.drew = w50 at HO374 BK367 HB hHeld ⊢; refine zu 0 1 ?_; refine zu 2 5 ?_; refine zx 3 13 hHeld ?_; refine join_ (σ := Value × Value × Nat) 2 (fb 11 511) (fun s_ => [(59, s_.1), (62, .tuple #[.agg #[.string t379, .string t380, .string t381, s_.2.1, .int .i64 t385], .bool true]), (7, .pointer (some ⟨s_.2.2, 0, none⟩)), (57, .tuple #[.agg #[.string t379, .string t380, .string t381, s_.2.1, .int .i64 t385], .bool true]), (63, .agg #[.string t379, .string t380, .string t381, s_.2.1, .int .i64 t385]), (64, .bool true)]) (fun s_ w' => (w'.cell? ⟨gb367, 0, none⟩ = some (.string a0_0) ∧ w'.cell? ⟨gb367, 1, none⟩ = some (.string a0_1) ∧ w'.cell? ⟨gb367, 2, none⟩ = some (.string a0_2) ∧ w'.cell? ⟨gb367, 3, none⟩ = some (.slice A0_3 l0_3.length c0_3) ∧ w'.cell? ⟨gb367, 4, none⟩ = some (.int .i64 a0_4)) ∧ (Kd.R k93 93 w' w.heap.size (fun _ => True) (.slice Ao49 t372.length co49) t372) ∧ (Kd.R Kd.string 9 w' w.heap.size (fun k_ => some k_ ≠ (s_.2.1 : Value).ownBlock) s_.1 t376) ∧ (Kd.R Kd.string 9 w' w.heap.size (fun k_ => some k_ ≠ (s_.1 : Value).ownBlock) s_.2.1 t382) ∧ (w'.heap[gb367]? = some (.cells #[.string a0_0, .string a0_1, .string a0_2, .slice A0_3 l0_3.length c0_3, .int .i64 a0_4] 25 (0, 0))) ∧ (w'.heap[s_.2.2]? = some (.cells #[.string ⟨#[]⟩, .string ⟨#[]⟩, .string ⟨#[]⟩, .slice none 0 0, .int .i64 0] 25 (0, 0))) ∧ (w.heap.size ≤ s_.2.2) ∧ (w.heap.size ≤ s_.2.2) ∧ (gb367 ≠ s_.2.2) ∧ (s_.2.2 ≠ gb367) ∧ (Below w.heap.size w w')) ?_ ?_; rotate_left
       ·intro hCont; refine two_ (i := 1) (j := 8) (Ni := some 59) (Nj := some 7) (fb 11 15) (fb 11 269) rfl rfl rfl rfl (two_of HT_.out (by kernel_rfl)) (by decide) (by decide) (fun K hK => ?_) (fun K hK => ?_)
        ·skip
         refine zG2 Try.func90 #[.slice Ao49 t372.length co49] ?_
         with_reducible refine (impl_texts.calls kj1 _ _ t372 t376 _ ?side1 ?side2 A23.out).mono ?_
         (case side1 => repeat (first | exact (Kd.R_reads' HO374.out).2.2 | (with_reducible refine Kd.C_alloc ?_ _) | (with_reducible refine Kd.C_drewN ?_ _) | (with_reducible refine Kd.C_drew ?_))); (case side2 => exact (Kd.R_reads' HO374.out).2.1); rintro e w51 ⟨v377, rfl, ho0, hb⟩; refine ⟨_, rfl, ?_⟩; replace HO374 := zA HO374 hb; have HO378 := z0 (Kd.R_lower ho0 (below_size (zb HB.out))); replace BK367 := zK BK367 hb; replace HB := zH HB hb; (try clear hb ho0); obtain ⟨Ao52, co52, eo52⟩ := Kd.R_slice HO378.out; (first | subst eo52 | (injection eo52 with f1_ f2_ f3_; have f4_ := f1_.symm; have f5_ := f3_.symm; clear f1_ f2_ f3_; subst f4_; subst f5_)); refine hK.out _ _ (zb5 BK367.out) (fun hHeld => ?_); clear hK K; refine znm ?_; refine two_ (i := 4) (j := 8) (Ni := some 62) (Nj := some 7) (fb 11 31) (fb 11 271) rfl rfl rfl rfl (two_of HT_.out (by kernel_rfl)) (by decide) (by decide) (fun K hK => ?_) (fun K hK => ?_)
         ·skip
          refine zG2 Try.func30 #[.slice Ao52 t376.length co52, .int .i64 a0_4] ?_
          with_reducible refine (impl_SieveOf.calls kj1 _ _ t376 a0_4 t379 t380 t381 t382 t385 true _ ?side1 ?side2 A24.out).mono ?_
          (case side1 => repeat (first | exact (Kd.R_reads' HO378.out).2.2 | (with_reducible refine Kd.C_alloc ?_ _) | (with_reducible refine Kd.C_drewN ?_ _) | (with_reducible refine Kd.C_drew ?_))); (case side2 => exact (Kd.R_reads' HO378.out).2.1); rintro e w53 ⟨v383, rfl, ho0, hb⟩; refine ⟨_, rfl, ?_⟩; replace HO374 := zA HO374 hb; have HO384 := z0 (Kd.R_lower (Kd.R_new' ho0 (Kd.R_lt (zr HO378.out))) (below_size (zb HB.out))); replace HO378 := z0 (Kd.R_elder' (zr HO378.out) (Kd.R_base ho0) hb); replace BK367 := zK BK367 hb; replace HB := zH HB hb; (try clear hb ho0); refine hK.out _ _ (zb5 BK367.out) (fun hHeld => ?_); clear hK K; refine znm ?_; refine zu 5 63 ?_; refine zu 6 127 ?_; refine zu 7 255 ?_; refine zone 8 511 (fun K hK => ?_); refine box_step ?hg (N := 7) ?hd (cs := #[.string ⟨#[]⟩, .string ⟨#[]⟩, .string ⟨#[]⟩, .slice none 0 0, .int .i64 0]) (t := 25) ?hr ?_; (case hd => rfl); (case hg => rfl); (case hr => first | (go_simp; done) | (go_simp; rfl)); intro gb387 hg w54 hbox hb; replace HO374 := zA HO374 hb; replace HO378 := zA HO378 hb; replace HO384 := zA HO384 hb; have BK387 := z0 (hbox); have GE387 := zG hg HB; replace HB := zH HB hb; have NB367_387 := zLt hg BK367; have NB387_367 := zGt hg BK367; replace BK367 := zK BK367 hb; clear hb hbox hg; refine hK.out _ _ (zb5 BK367.out) (fun hHeld => ?_); clear hK K; refine znm ?_; exact norm_ (by simp only [putAll, Act.put, List.setIfInBounds_toArray, List.set_cons_zero, List.set_cons_succ]) (hCont (.slice Ao52 t376.length co52, v383, gb387) _ ⟨hHeld, (zr HO374.out), (Kd.R_mono (zr HO378.out) (fun _ hk => hk.2)), (Kd.R_mono (zr HO384.out) (fun _ hk => hk.2)), (zl BK367.out), (zl BK387.out), GE387.out, GE387.out, NB367_387.out, NB387_367.out, (zb HB.out)⟩)
         ·skip
          refine box_step ?hg (N := 7) ?hd (cs := #[.string ⟨#[]⟩, .string ⟨#[]⟩, .string ⟨#[]⟩, .slice none 0 0, .int .i64 0]) (t := 25) ?hr ?_; (case hd => rfl); (case hg => rfl); (case hr => first | (go_simp; done) | (go_simp; rfl)); intro gb387 hg w52 hbox hb; replace HO374 := zA HO374 hb; replace HO378 := zA HO378 hb; have BK387 := z0 (hbox); have GE387 := zG hg HB; replace HB := zH HB hb; have NB367_387 := zLt hg BK367; have NB387_367 := zGt hg BK367; replace BK367 := zK BK367 hb; clear hb hbox hg; obtain ⟨Ao53, co53, eo53⟩ := Kd.R_slice HO378.out; (first | subst eo53 | (injection eo53 with f1_ f2_ f3_; have f4_ := f1_.symm; have f5_ := f3_.symm; clear f1_ f2_ f3_; subst f4_; subst f5_)); refine hK.out _ _ (zb5 BK367.out) (fun hHeld => ?_); clear hK K; refine znm ?_; refine zone 4 287 (fun K hK => ?_); refine zG2 Try.func30 #[.slice Ao53 t376.length co53, .int .i64 a0_4] ?_
          with_reducible refine (impl_SieveOf.calls kj1 _ _ t376 a0_4 t379 t380 t381 t382 t385 true _ ?side1 ?side2 A24.out).mono ?_
          (case side1 => repeat (first | exact (Kd.R_reads' HO378.out).2.2 | (with_reducible refine Kd.C_alloc ?_ _) | (with_reducible refine Kd.C_drewN ?_ _) | (with_reducible refine Kd.C_drew ?_))); (case side2 => exact (Kd.R_reads' HO378.out).2.1); rintro e w54 ⟨v383, rfl, ho0, hb⟩; refine ⟨_, rfl, ?_⟩; replace HO374 := zA HO374 hb; have HO384 := z0 (Kd.R_lower (Kd.R_new' ho0 (Kd.R_lt (zr HO378.out))) (below_size (zb HB.out))); replace HO378 := z0 (Kd.R_elder' (zr HO378.out) (Kd.R_base ho0) hb); replace BK367 := zK BK367 hb; replace BK387 := zK BK387 hb; replace HB := zH HB hb; (try clear hb ho0); refine hK.out _ _ (zb5 BK367.out) (fun hHeld => ?_); clear hK K; refine znm ?_; refine zu 5 319 ?_; refine zu 6 383 ?_; refine zu 7 511 ?_; exact norm_ (by simp only [putAll, Act.put, List.setIfInBounds_toArray, List.set_cons_zero, List.set_cons_succ]) (hCont (.slice Ao53 t376.length co53, v383, gb387) _ ⟨hHeld, (zr HO374.out), (Kd.R_mono (zr HO378.out) (fun _ hk => hk.2)), (Kd.R_mono (zr HO384.out) (fun _ hk => hk.2)), (zl BK367.out), (zl BK387.out), GE387.out, GE387.out, NB367_387.out, NB387_367.out, (zb HB.out)⟩)
        ·skip
         refine box_step ?hg (N := 7) ?hd (cs := #[.string ⟨#[]⟩, .string ⟨#[]⟩, .string ⟨#[]⟩, .slice none 0 0, .int .i64 0]) (t := 25) ?hr ?_; (case hd => rfl); (case hg => rfl); (case hr => first | (go_simp; done) | (go_simp; rfl)); intro gb387 hg w51 hbox hb; replace HO374 := zA HO374 hb; have BK387 := z0 (hbox); have GE387 := zG hg HB; replace HB := zH HB hb; have NB367_387 := zLt hg BK367; have NB387_367 := zGt hg BK367; replace BK367 := zK BK367 hb; clear hb hbox hg; refine hK.out _ _ (zb5 BK367.out) (fun hHeld => ?_); clear hK K; refine znm ?_; refine zone 1 271 (fun K hK => ?_); refine zG2 Try.func90 #[.slice Ao49 t372.length co49] ?_
         with_reducible refine (impl_texts.calls kj1 _ _ t372 t376 _ ?side1 ?side2 A23.out).mono ?_
         (case side1 => repeat (first | exact (Kd.R_reads' HO374.out).2.2 | (with_reducible refine Kd.C_alloc ?_ _) | (with_reducible refine Kd.C_drewN ?_ _) | (with_reducible refine Kd.C_drew ?_))); (case side2 => exact (Kd.R_reads' HO374.out).2.1); rintro e w52 ⟨v377, rfl, ho0, hb⟩; refine ⟨_, rfl, ?_⟩; replace HO374 := zA HO374 hb; have HO378 := z0 (Kd.R_lower ho0 (below_size (zb HB.out))); replace BK367 := zK BK367 hb; replace BK387 := zK BK387 hb; replace HB := zH HB hb; (try clear hb ho0); obtain ⟨Ao53, co53, eo53⟩ := Kd.R_slice HO378.out; (first | subst eo53 | (injection eo53 with f1_ f2_ f3_; have f4_ := f1_.symm; have f5_ := f3_.symm; clear f1_ f2_ f3_; subst f4_; subst f5_)); refine hK.out _ _ (zb5 BK367.out) (fun hHeld => ?_); clear hK K; refine znm ?_; refine zone 4 287 (fun K hK => ?_); refine zG2 Try.func30 #[.slice Ao53 t376.length co53, .int .i64 a0_4] ?_
         with_reducible refine (impl_SieveOf.calls kj1 _ _ t376 a0_4 t379 t380 t381 t382 t385 true _ ?side1 ?side2 A24.out).mono ?_
         (case side1 => repeat (first | exact (Kd.R_reads' HO378.out).2.2 | (with_reducible refine Kd.C_alloc ?_ _) | (with_reducible refine Kd.C_drewN ?_ _) | (with_reducible refine Kd.C_drew ?_))); (case side2 => exact (Kd.R_reads' HO378.out).2.1); rintro e w54 ⟨v383, rfl, ho0, hb⟩; refine ⟨_, rfl, ?_⟩; replace HO374 := zA HO374 hb; have HO384 := z0 (Kd.R_lower (Kd.R_new' ho0 (Kd.R_lt (zr HO378.out))) (below_size (zb HB.out))); replace HO378 := z0 (Kd.R_elder' (zr HO378.out) (Kd.R_base ho0) hb); replace BK367 := zK BK367 hb; replace BK387 := zK BK387 hb; replace HB := zH HB hb; (try clear hb ho0); refine hK.out _ _ (zb5 BK367.out) (fun hHeld => ?_); clear hK K; refine znm ?_; refine zu 5 319 ?_; refine zu 6 383 ?_; refine zu 7 511 ?_; exact norm_ (by simp only [putAll, Act.put, List.setIfInBounds_toArray, List.set_cons_zero, List.set_cons_succ]) (hCont (.slice Ao53 t376.length co53, v383, gb387) _ ⟨hHeld, (zr HO374.out), (Kd.R_mono (zr HO378.out) (fun _ hk => hk.2)), (Kd.R_mono (zr HO384.out) (fun _ hk => hk.2)), (zl BK367.out), (zl BK387.out), GE387.out, GE387.out, NB367_387.out, NB387_367.out, (zb HB.out)⟩)
       rintro ⟨v377, v383, gb387⟩ w55 ⟨hS_, h0_, h1_, h2_, h3_, h4_, h5_, h6_, h7_, h8_, h9_⟩; have n0_ : Aside0 (Kd.R k93 93 w55 w.heap.size (fun _ => True) (.slice Ao49 t372.length co49) t372) := ⟨h0_⟩; have n1_ : Aside0 (Kd.R Kd.string 9 w55 w.heap.size (fun k_ => some k_ ≠ (v383 : Value).ownBlock) v377 t376) := ⟨h1_⟩; have n2_ : Aside0 (Kd.R Kd.string 9 w55 w.heap.size (fun k_ => some k_ ≠ (v377 : Value).ownBlock) v383 t382) := ⟨h2_⟩; have n3_ : Aside0 (w55.heap[gb367]? = some (.cells #[.string a0_0, .string a0_1, .string a0_2, .slice A0_3 l0_3.length c0_3, .int .i64 a0_4] 25 (0, 0))) := ⟨h3_⟩; have n4_ : Aside0 (w55.heap[gb387]? = some (.cells #[.string ⟨#[]⟩, .string ⟨#[]⟩, .string ⟨#[]⟩, .slice none 0 0, .int .i64 0] 25 (0, 0))) := ⟨h4_⟩; have n5_ : Aside0 (w.heap.size ≤ gb387) := ⟨h5_⟩; have n6_ : Aside0 (w.heap.size ≤ gb387) := ⟨h6_⟩; have n7_ : Aside0 (gb367 ≠ gb387) := ⟨h7_⟩; have n8_ : Aside0 (gb387 ≠ gb367) := ⟨h8_⟩; have n9_ : Aside0 (Below w.heap.size w w55) := ⟨h9_⟩; clear HO374; clear BK367; clear HB; clear h0_ h1_ h2_ h3_ h4_ h5_ h6_ h7_ h8_ h9_; have HO374 := n0_; have HO378 := n1_; have HO384 := n2_; have BK367 := n3_; have BK387 := n4_; have GE387 := n5_; have GE387 := n6_; have NB367_387 := n7_; have NB387_367 := n8_; have HB := n9_; clear n0_ n1_ n2_ n3_ n4_ n5_ n6_ n7_ n8_ n9_; have hHeld : w55.cell? ⟨gb367, 0, none⟩ = some (.string a0_0) ∧ w55.cell? ⟨gb367, 1, none⟩ = some (.string a0_1) ∧ w55.cell? ⟨gb367, 2, none⟩ = some (.string a0_2) ∧ w55.cell? ⟨gb367, 3, none⟩ = some (.slice A0_3 l0_3.length c0_3) ∧ w55.cell? ⟨gb367, 4, none⟩ = some (.int .i64 a0_4) := hS_; obtain ⟨Ao59, co59, eo59⟩ := Kd.R_slice HO384.out; (first | subst eo59 | (injection eo59 with f1_ f2_ f3_; have f4_ := f1_.symm; have f5_ := f3_.symm; clear f1_ f2_ f3_; subst f4_; subst f5_)); refine norm_ (a' := ?_) ?_ ?_; rotate_left
       ·simp only [putAll, Act.put, List.setIfInBounds_toArray, List.set_cons_zero, List.set_cons_succ]
        rfl
       refine zone 9 1023 (fun K hK => ?_); have hs56 : w55.cell? ⟨gb387, 0, none⟩ = some (.string ⟨#[]⟩) := (blk_cell BK387.out 0).trans rfl; have hfs56 := blk_frozen BK387.out 0; have hns56_0 := NB367_387.out; have hms56_0 := NB387_367.out; have hs57 : w55.cell? ⟨gb387, 1, none⟩ = some (.string ⟨#[]⟩) := (blk_cell BK387.out 1).trans rfl; have hfs57 := blk_frozen BK387.out 1; have hns57_0 := NB367_387.out; have hms57_0 := NB387_367.out; have hs58 : w55.cell? ⟨gb387, 2, none⟩ = some (.string ⟨#[]⟩) := (blk_cell BK387.out 2).trans rfl; have hfs58 := blk_frozen BK387.out 2; have hns58_0 := NB367_387.out; have hms58_0 := NB387_367.out; have hs60 : w55.cell? ⟨gb387, 3, none⟩ = some (.slice none 0 0) := (blk_cell BK387.out 3).trans rfl; have hfs60 := blk_frozen BK387.out 3; have hns60_0 := NB367_387.out; have hms60_0 := NB387_367.out; have hs61 : w55.cell? ⟨gb387, 4, none⟩ = some (.int .i64 0) := (blk_cell BK387.out 4).trans rfl; have hfs61 := blk_frozen BK387.out 4; have hns61_0 := NB367_387.out; have hms61_0 := NB387_367.out; refine skip_ (w1 := ?_) (by rfl) rfl ?_ ?_; rotate_left
       ·go_simp
        rfl
       refine hK.out _ _ ⟨((cell_far (p := ⟨gb387, _, none⟩) NB367_387.out _).trans (((cell_far (p := ⟨gb387, _, none⟩) NB367_387.out _).trans (((cell_far (p := ⟨gb387, _, none⟩) NB367_387.out _).trans (((cell_far (p := ⟨gb387, _, none⟩) NB367_387.out _).trans (((cell_far (p := ⟨gb387, _, none⟩) NB367_387.out _).trans (hHeld.1)))))))))), ((cell_far (p := ⟨gb387, _, none⟩) NB367_387.out _).trans (((cell_far (p := ⟨gb387, _, none⟩) NB367_387.out _).trans (((cell_far (p := ⟨gb387, _, none⟩) NB367_387.out _).trans (((cell_far (p := ⟨gb387, _, none⟩) NB367_387.out _).trans (((cell_far (p := ⟨gb387, _, none⟩) NB367_387.out _).trans (hHeld.2.1)))))))))), ((cell_far (p := ⟨gb387, _, none⟩) NB367_387.out _).trans (((cell_far (p := ⟨gb387, _, none⟩) NB367_387.out _).trans (((cell_far (p := ⟨gb387, _, none⟩) NB367_387.out _).trans (((cell_far (p := ⟨gb387, _, none⟩) NB367_387.out _).trans (((cell_far (p := ⟨gb387, _, none⟩) NB367_387.out _).trans (hHeld.2.2.1)))))))))), ((cell_far (p := ⟨gb387, _, none⟩) NB367_387.out _).trans (((cell_far (p := ⟨gb387, _, none⟩) NB367_387.out _).trans (((cell_far (p := ⟨gb387, _, none⟩) NB367_387.out _).trans (((cell_far (p := ⟨gb387, _, none⟩) NB367_387.out _).trans (((cell_far (p := ⟨gb387, _, none⟩) NB367_387.out _).trans (hHeld.2.2.2.1)))))))))), ((cell_far (p := ⟨gb387, _, none⟩) NB367_387.out _).trans (((cell_far (p := ⟨gb387, _, none⟩) NB367_387.out _).trans (((cell_far (p := ⟨gb387, _, none⟩) NB367_387.out _).trans (((cell_far (p := ⟨gb387, _, none⟩) NB367_387.out _).trans (((cell_far (p := ⟨gb387, _, none⟩) NB367_387.out _).trans (hHeld.2.2.2.2))))))))))⟩ (fun hHeld => ?_); clear hK K; refine zu 10 2047 ?_; refine done_ (done_of HT_.out (by kernel_rfl)) ?_; have hnb62 := NB387_367.out; have hnc62 := NB367_387.out; have hcz63 := zc5 BK387.out; have hcz64 := zc5 BK367.out
       try go_wp2_with (first | (go_at_call 119; (with_reducible refine (impl_Sieve_same.calls kj1 t379 t380 t381 _ _ t382 t385 a0_0 a0_1 a0_2 _ _ l0_3 a0_4 false _ ?side1 ?side2 ?side3 ?side4 A26.out).mono ?_); (case side1 => refine (Kd.R_reads' (e := 9) (base := w.heap.size) (ok := fun k_ => some k_ ≠ (v377 : Value).ownBlock) (n := t382.length) (c := co59) ?_).2.2; exact (zs HO384.out BK387.out)); (case side2 => exact (Kd.R_reads' HO384.out).2.1); (case side3 => exact Kd.C_below HR0_3.out (zb HB.out)); (case side4 => exact HC0_3.out); rintro e w65 ⟨rfl, hb⟩; replace HO374 := zAs HO374 BK387 hb; replace HO378 := zAs HO378 BK387 hb; replace HO384 := zAs HO384 BK387 hb; replace BK367 := zKy BK367 hb; replace BK387 := z0 (blk_below (zpc BK387.out #[.string t379, .string t380, .string t381, .slice Ao59 t382.length co59, .int .i64 t385]) hb); replace HB := zH HB hb; (try clear hb)))
       go_ret2
       exact ⟨_, ze, by first | exact Kd.R_nil _ _ _ _ _ | exact Kd.N_nil _ _ _ _ _ | exact Kd.V_nil _ _ _ _ _ | exact Kd.Q_nil _ _ _ _ _ | exact Kd.S_nil _ _ _ _ _, zb HB.out⟩
     ·replace c25 := Bool.eq_false_iff.mpr c25; subst c25
      have H1 : (some (([] : List (S93)), false)) = some (r1, r2) := by rw [if_neg (show ¬ (false = true) by decide)] at H; exact H
      clear H; have H := H1; clear H1; simp only [Option.some.injEq, Prod.mk.injEq] at H; obtain ⟨rfl, rfl⟩ := H; have hcz66 := zc5 BK367.out
      try go_wp2_with (first | ((with_reducible refine gc 118 ?_); refine zL (some 52) Try.func118 #[.agg #[.string a0_0, .string a0_1, .string a0_2, .slice A0_3 l0_3.length c0_3, .int .i64 a0_4], .int .i64 0, .string ⟨#[]⟩, .slice none 0 0] ?_; (refine (impl_Sieve_parts.calls kj1 a0_0 a0_1 a0_2 _ _ l0_3 a0_4 0 (⟨#[]⟩ : ByteArray) (fun k_ => some k_ = (.slice none 0 0 : Value).ownBlock) (.slice none 0 0) ([] : List (S93)) t372 true w _ ?side1 ?side2 ?side3 ?side4 A21.out).mono ?_); (case side1 => repeat (first | (with_reducible first | exact HB.out | apply below_alloc | apply pw_below_drewN | apply below_drew1 | refine below_set ?_ GE367.out) | exact HB.out)); (case side2 => exact Kd.C_kept_came Kd.heap_string HR0_3.out (zb HB.out) (fun k_ hs_ => (fun e_ => by simp [Value.ownBlock] at e_) hs_)); (case side3 => exact HC0_3.out); (case side4 => exact Kd.R_nil _ _ _ _ _); rintro e w67 ⟨v373, rfl, ho0, hb, hkp⟩; refine ⟨_, rfl, ?_⟩; replace BK367 := z0 (blk_kept (zl BK367.out) hkp (fun hs_ => (fun e_ => by simp [Value.ownBlock] at e_) hs_)); have HO374 := z0 (Kd.R_mono (ok' := fun k_ => True) ho0 (fun k_ hk_ => trivial)); replace HB := z0 (hb); (try clear hb); (try clear hkp); (try clear ho0); obtain ⟨Ao68, co68, eo68⟩ := Kd.R_slice HO374.out; subst eo68))
      replace HO374 := z0 (Kd.R_drew HO374.out); replace BK367 := z0 (blk_drew BK367.out); replace HB := z0 (below_drew1 HB.out); refine start_ (n := 11) (S := fun w' => w'.cell? ⟨gb367, 0, none⟩ = some (.string a0_0) ∧ w'.cell? ⟨gb367, 1, none⟩ = some (.string a0_1) ∧ w'.cell? ⟨gb367, 2, none⟩ = some (.string a0_2) ∧ w'.cell? ⟨gb367, 3, none⟩ = some (.slice A0_3 l0_3.length c0_3) ∧ w'.cell? ⟨gb367, 4, none⟩ = some (.int .i64 a0_4)) (ds := []) (fb 11 0) (by kernel_rfl) rfl rfl (zb5 BK367.out) (fun hHeld => ?_); refine with_tabW impl_Sieve_heads.tab7 impl_Sieve_heads.bits7 (fun HT_ HW_ => ?_); generalize w67.drew = w69 at HO374 BK367 HB hHeld ⊢; refine zu 0 1 ?_; refine zu 2 5 ?_; refine zx 3 13 hHeld ?_; refine join_ (σ := Value × Value × Nat) 2 (fb 11 511) (fun s_ => [(59, s_.1), (62, .tuple #[.agg #[.string t379, .string t380, .string t381, s_.2.1, .int .i64 t385], .bool false]), (7, .pointer (some ⟨s_.2.2, 0, none⟩)), (57, .tuple #[.agg #[.string t379, .string t380, .string t381, s_.2.1, .int .i64 t385], .bool false]), (63, .agg #[.string t379, .string t380, .string t381, s_.2.1, .int .i64 t385]), (64, .bool false)]) (fun s_ w' => (w'.cell? ⟨gb367, 0, none⟩ = some (.string a0_0) ∧ w'.cell? ⟨gb367, 1, none⟩ = some (.string a0_1) ∧ w'.cell? ⟨gb367, 2, none⟩ = some (.string a0_2) ∧ w'.cell? ⟨gb367, 3, none⟩ = some (.slice A0_3 l0_3.length c0_3) ∧ w'.cell? ⟨gb367, 4, none⟩ = some (.int .i64 a0_4)) ∧ (Kd.R k93 93 w' w.heap.size (fun _ => True) (.slice Ao68 t372.length co68) t372) ∧ (Kd.R Kd.string 9 w' w.heap.size (fun k_ => some k_ ≠ (s_.2.1 : Value).ownBlock) s_.1 t376) ∧ (Kd.R Kd.string 9 w' w.heap.size (fun k_ => some k_ ≠ (s_.1 : Value).ownBlock) s_.2.1 t382) ∧ (w'.heap[gb367]? = some (.cells #[.string a0_0, .string a0_1, .string a0_2, .slice A0_3 l0_3.length c0_3, .int .i64 a0_4] 25 (0, 0))) ∧ (w'.heap[s_.2.2]? = some (.cells #[.string ⟨#[]⟩, .string ⟨#[]⟩, .string ⟨#[]⟩, .slice none 0 0, .int .i64 0] 25 (0, 0))) ∧ (w.heap.size ≤ s_.2.2) ∧ (w.heap.size ≤ s_.2.2) ∧ (gb367 ≠ s_.2.2) ∧ (s_.2.2 ≠ gb367) ∧ (Below w.heap.size w w')) ?_ ?_; rotate_left
      ·intro hCont; refine two_ (i := 1) (j := 8) (Ni := some 59) (Nj := some 7) (fb 11 15) (fb 11 269) rfl rfl rfl rfl (two_of HT_.out (by kernel_rfl)) (by decide) (by decide) (fun K hK => ?_) (fun K hK => ?_)
       ·skip
        refine zG2 Try.func90 #[.slice Ao68 t372.length co68] ?_
        with_reducible refine (impl_texts.calls kj1 _ _ t372 t376 _ ?side1 ?side2 A23.out).mono ?_
        (case side1 => repeat (first | exact (Kd.R_reads' HO374.out).2.2 | (with_reducible refine Kd.C_alloc ?_ _) | (with_reducible refine Kd.C_drewN ?_ _) | (with_reducible refine Kd.C_drew ?_))); (case side2 => exact (Kd.R_reads' HO374.out).2.1); rintro e w70 ⟨v377, rfl, ho0, hb⟩; refine ⟨_, rfl, ?_⟩; replace HO374 := zA HO374 hb; have HO378 := z0 (Kd.R_lower ho0 (below_size (zb HB.out))); replace BK367 := zK BK367 hb; replace HB := zH HB hb; (try clear hb ho0); obtain ⟨Ao71, co71, eo71⟩ := Kd.R_slice HO378.out; (first | subst eo71 | (injection eo71 with f1_ f2_ f3_; have f4_ := f1_.symm; have f5_ := f3_.symm; clear f1_ f2_ f3_; subst f4_; subst f5_)); refine hK.out _ _ (zb5 BK367.out) (fun hHeld => ?_); clear hK K; refine znm ?_; refine two_ (i := 4) (j := 8) (Ni := some 62) (Nj := some 7) (fb 11 31) (fb 11 271) rfl rfl rfl rfl (two_of HT_.out (by kernel_rfl)) (by decide) (by decide) (fun K hK => ?_) (fun K hK => ?_)
        ·skip
         refine zG2 Try.func30 #[.slice Ao71 t376.length co71, .int .i64 a0_4] ?_
         with_reducible refine (impl_SieveOf.calls kj1 _ _ t376 a0_4 t379 t380 t381 t382 t385 false _ ?side1 ?side2 A24.out).mono ?_
         (case side1 => repeat (first | exact (Kd.R_reads' HO378.out).2.2 | (with_reducible refine Kd.C_alloc ?_ _) | (with_reducible refine Kd.C_drewN ?_ _) | (with_reducible refine Kd.C_drew ?_))); (case side2 => exact (Kd.R_reads' HO378.out).2.1); rintro e w72 ⟨v383, rfl, ho0, hb⟩; refine ⟨_, rfl, ?_⟩; replace HO374 := zA HO374 hb; have HO384 := z0 (Kd.R_lower (Kd.R_new' ho0 (Kd.R_lt (zr HO378.out))) (below_size (zb HB.out))); replace HO378 := z0 (Kd.R_elder' (zr HO378.out) (Kd.R_base ho0) hb); replace BK367 := zK BK367 hb; replace HB := zH HB hb; (try clear hb ho0); refine hK.out _ _ (zb5 BK367.out) (fun hHeld => ?_); clear hK K; refine znm ?_; refine zu 5 63 ?_; refine zu 6 127 ?_; refine zu 7 255 ?_; refine zone 8 511 (fun K hK => ?_); refine box_step ?hg (N := 7) ?hd (cs := #[.string ⟨#[]⟩, .string ⟨#[]⟩, .string ⟨#[]⟩, .slice none 0 0, .int .i64 0]) (t := 25) ?hr ?_; (case hd => rfl); (case hg => rfl); (case hr => first | (go_simp; done) | (go_simp; rfl)); intro gb387 hg w73 hbox hb; replace HO374 := zA HO374 hb; replace HO378 := zA HO378 hb; replace HO384 := zA HO384 hb; have BK387 := z0 (hbox); have GE387 := zG hg HB; replace HB := zH HB hb; have NB367_387 := zLt hg BK367; have NB387_367 := zGt hg BK367; replace BK367 := zK BK367 hb; clear hb hbox hg; refine hK.out _ _ (zb5 BK367.out) (fun hHeld => ?_); clear hK K; refine znm ?_; exact norm_ (by simp only [putAll, Act.put, List.setIfInBounds_toArray, List.set_cons_zero, List.set_cons_succ]) (hCont (.slice Ao71 t376.length co71, v383, gb387) _ ⟨hHeld, (zr HO374.out), (Kd.R_mono (zr HO378.out) (fun _ hk => hk.2)), (Kd.R_mono (zr HO384.out) (fun _ hk => hk.2)), (zl BK367.out), (zl BK387.out), GE387.out, GE387.out, NB367_387.out, NB387_367.out, (zb HB.out)⟩)
        ·skip
         refine box_step ?hg (N := 7) ?hd (cs := #[.string ⟨#[]⟩, .string ⟨#[]⟩, .string ⟨#[]⟩, .slice none 0 0, .int .i64 0]) (t := 25) ?hr ?_; (case hd => rfl); (case hg => rfl); (case hr => first | (go_simp; done) | (go_simp; rfl)); intro gb387 hg w71 hbox hb; replace HO374 := zA HO374 hb; replace HO378 := zA HO378 hb; have BK387 := z0 (hbox); have GE387 := zG hg HB; replace HB := zH HB hb; have NB367_387 := zLt hg BK367; have NB387_367 := zGt hg BK367; replace BK367 := zK BK367 hb; clear hb hbox hg; obtain ⟨Ao72, co72, eo72⟩ := Kd.R_slice HO378.out; (first | subst eo72 | (injection eo72 with f1_ f2_ f3_; have f4_ := f1_.symm; have f5_ := f3_.symm; clear f1_ f2_ f3_; subst f4_; subst f5_)); refine hK.out _ _ (zb5 BK367.out) (fun hHeld => ?_); clear hK K; refine znm ?_; refine zone 4 287 (fun K hK => ?_); refine zG2 Try.func30 #[.slice Ao72 t376.length co72, .int .i64 a0_4] ?_
         with_reducible refine (impl_SieveOf.calls kj1 _ _ t376 a0_4 t379 t380 t381 t382 t385 false _ ?side1 ?side2 A24.out).mono ?_
         (case side1 => repeat (first | exact (Kd.R_reads' HO378.out).2.2 | (with_reducible refine Kd.C_alloc ?_ _) | (with_reducible refine Kd.C_drewN ?_ _) | (with_reducible refine Kd.C_drew ?_))); (case side2 => exact (Kd.R_reads' HO378.out).2.1); rintro e w73 ⟨v383, rfl, ho0, hb⟩; refine ⟨_, rfl, ?_⟩; replace HO374 := zA HO374 hb; have HO384 := z0 (Kd.R_lower (Kd.R_new' ho0 (Kd.R_lt (zr HO378.out))) (below_size (zb HB.out))); replace HO378 := z0 (Kd.R_elder' (zr HO378.out) (Kd.R_base ho0) hb); replace BK367 := zK BK367 hb; replace BK387 := zK BK387 hb; replace HB := zH HB hb; (try clear hb ho0); refine hK.out _ _ (zb5 BK367.out) (fun hHeld => ?_); clear hK K; refine znm ?_; refine zu 5 319 ?_; refine zu 6 383 ?_; refine zu 7 511 ?_; exact norm_ (by simp only [putAll, Act.put, List.setIfInBounds_toArray, List.set_cons_zero, List.set_cons_succ]) (hCont (.slice Ao72 t376.length co72, v383, gb387) _ ⟨hHeld, (zr HO374.out), (Kd.R_mono (zr HO378.out) (fun _ hk => hk.2)), (Kd.R_mono (zr HO384.out) (fun _ hk => hk.2)), (zl BK367.out), (zl BK387.out), GE387.out, GE387.out, NB367_387.out, NB387_367.out, (zb HB.out)⟩)
       ·skip
        refine box_step ?hg (N := 7) ?hd (cs := #[.string ⟨#[]⟩, .string ⟨#[]⟩, .string ⟨#[]⟩, .slice none 0 0, .int .i64 0]) (t := 25) ?hr ?_; (case hd => rfl); (case hg => rfl); (case hr => first | (go_simp; done) | (go_simp; rfl)); intro gb387 hg w70 hbox hb; replace HO374 := zA HO374 hb; have BK387 := z0 (hbox); have GE387 := zG hg HB; replace HB := zH HB hb; have NB367_387 := zLt hg BK367; have NB387_367 := zGt hg BK367; replace BK367 := zK BK367 hb; clear hb hbox hg; refine hK.out _ _ (zb5 BK367.out) (fun hHeld => ?_); clear hK K; refine znm ?_; refine zone 1 271 (fun K hK => ?_); refine zG2 Try.func90 #[.slice Ao68 t372.length co68] ?_
        with_reducible refine (impl_texts.calls kj1 _ _ t372 t376 _ ?side1 ?side2 A23.out).mono ?_
        (case side1 => repeat (first | exact (Kd.R_reads' HO374.out).2.2 | (with_reducible refine Kd.C_alloc ?_ _) | (with_reducible refine Kd.C_drewN ?_ _) | (with_reducible refine Kd.C_drew ?_))); (case side2 => exact (Kd.R_reads' HO374.out).2.1); rintro e w71 ⟨v377, rfl, ho0, hb⟩; refine ⟨_, rfl, ?_⟩; replace HO374 := zA HO374 hb; have HO378 := z0 (Kd.R_lower ho0 (below_size (zb HB.out))); replace BK367 := zK BK367 hb; replace BK387 := zK BK387 hb; replace HB := zH HB hb; (try clear hb ho0); obtain ⟨Ao72, co72, eo72⟩ := Kd.R_slice HO378.out; (first | subst eo72 | (injection eo72 with f1_ f2_ f3_; have f4_ := f1_.symm; have f5_ := f3_.symm; clear f1_ f2_ f3_; subst f4_; subst f5_)); refine hK.out _ _ (zb5 BK367.out) (fun hHeld => ?_); clear hK K; refine znm ?_; refine zone 4 287 (fun K hK => ?_); refine zG2 Try.func30 #[.slice Ao72 t376.length co72, .int .i64 a0_4] ?_
        with_reducible refine (impl_SieveOf.calls kj1 _ _ t376 a0_4 t379 t380 t381 t382 t385 false _ ?side1 ?side2 A24.out).mono ?_
        (case side1 => repeat (first | exact (Kd.R_reads' HO378.out).2.2 | (with_reducible refine Kd.C_alloc ?_ _) | (with_reducible refine Kd.C_drewN ?_ _) | (with_reducible refine Kd.C_drew ?_))); (case side2 => exact (Kd.R_reads' HO378.out).2.1); rintro e w73 ⟨v383, rfl, ho0, hb⟩; refine ⟨_, rfl, ?_⟩; replace HO374 := zA HO374 hb; have HO384 := z0 (Kd.R_lower (Kd.R_new' ho0 (Kd.R_lt (zr HO378.out))) (below_size (zb HB.out))); replace HO378 := z0 (Kd.R_elder' (zr HO378.out) (Kd.R_base ho0) hb); replace BK367 := zK BK367 hb; replace BK387 := zK BK387 hb; replace HB := zH HB hb; (try clear hb ho0); refine hK.out _ _ (zb5 BK367.out) (fun hHeld => ?_); clear hK K; refine znm ?_; refine zu 5 319 ?_; refine zu 6 383 ?_; refine zu 7 511 ?_; exact norm_ (by simp only [putAll, Act.put, List.setIfInBounds_toArray, List.set_cons_zero, List.set_cons_succ]) (hCont (.slice Ao72 t376.length co72, v383, gb387) _ ⟨hHeld, (zr HO374.out), (Kd.R_mono (zr HO378.out) (fun _ hk => hk.2)), (Kd.R_mono (zr HO384.out) (fun _ hk => hk.2)), (zl BK367.out), (zl BK387.out), GE387.out, GE387.out, NB367_387.out, NB387_367.out, (zb HB.out)⟩)
      rintro ⟨v377, v383, gb387⟩ w74 ⟨hS_, h0_, h1_, h2_, h3_, h4_, h5_, h6_, h7_, h8_, h9_⟩; have n0_ : Aside0 (Kd.R k93 93 w74 w.heap.size (fun _ => True) (.slice Ao68 t372.length co68) t372) := ⟨h0_⟩; have n1_ : Aside0 (Kd.R Kd.string 9 w74 w.heap.size (fun k_ => some k_ ≠ (v383 : Value).ownBlock) v377 t376) := ⟨h1_⟩; have n2_ : Aside0 (Kd.R Kd.string 9 w74 w.heap.size (fun k_ => some k_ ≠ (v377 : Value).ownBlock) v383 t382) := ⟨h2_⟩; have n3_ : Aside0 (w74.heap[gb367]? = some (.cells #[.string a0_0, .string a0_1, .string a0_2, .slice A0_3 l0_3.length c0_3, .int .i64 a0_4] 25 (0, 0))) := ⟨h3_⟩; have n4_ : Aside0 (w74.heap[gb387]? = some (.cells #[.string ⟨#[]⟩, .string ⟨#[]⟩, .string ⟨#[]⟩, .slice none 0 0, .int .i64 0] 25 (0, 0))) := ⟨h4_⟩; have n5_ : Aside0 (w.heap.size ≤ gb387) := ⟨h5_⟩; have n6_ : Aside0 (w.heap.size ≤ gb387) := ⟨h6_⟩; have n7_ : Aside0 (gb367 ≠ gb387) := ⟨h7_⟩; have n8_ : Aside0 (gb387 ≠ gb367) := ⟨h8_⟩; have n9_ : Aside0 (Below w.heap.size w w74) := ⟨h9_⟩; clear HO374; clear BK367; clear HB; clear h0_ h1_ h2_ h3_ h4_ h5_ h6_ h7_ h8_ h9_; have HO374 := n0_; have HO378 := n1_; have HO384 := n2_; have BK367 := n3_; have BK387 := n4_; have GE387 := n5_; have GE387 := n6_; have NB367_387 := n7_; have NB387_367 := n8_; have HB := n9_; clear n0_ n1_ n2_ n3_ n4_ n5_ n6_ n7_ n8_ n9_; have hHeld : w74.cell? ⟨gb367, 0, none⟩ = some (.string a0_0) ∧ w74.cell? ⟨gb367, 1, none⟩ = some (.string a0_1) ∧ w74.cell? ⟨gb367, 2, none⟩ = some (.string a0_2) ∧ w74.cell? ⟨gb367, 3, none⟩ = some (.slice A0_3 l0_3.length c0_3) ∧ w74.cell? ⟨gb367, 4, none⟩ = some (.int .i64 a0_4) := hS_; obtain ⟨Ao78, co78, eo78⟩ := Kd.R_slice HO384.out; (first | subst eo78 | (injection eo78 with f1_ f2_ f3_; have f4_ := f1_.symm; have f5_ := f3_.symm; clear f1_ f2_ f3_; subst f4_; subst f5_)); refine norm_ (a' := ?_) ?_ ?_; rotate_left
      ·simp only [putAll, Act.put, List.setIfInBounds_toArray, List.set_cons_zero, List.set_cons_succ]
       rfl
      refine zone 9 1023 (fun K hK => ?_); have hs75 : w74.cell? ⟨gb387, 0, none⟩ = some (.string ⟨#[]⟩) := (blk_cell BK387.out 0).trans rfl; have hfs75 := blk_frozen BK387.out 0; have hns75_0 := NB367_387.out; have hms75_0 := NB387_367.out; have hs76 : w74.cell? ⟨gb387, 1, none⟩ = some (.string ⟨#[]⟩) := (blk_cell BK387.out 1).trans rfl; have hfs76 := blk_frozen BK387.out 1; have hns76_0 := NB367_387.out; have hms76_0 := NB387_367.out; have hs77 : w74.cell? ⟨gb387, 2, none⟩ = some (.string ⟨#[]⟩) := (blk_cell BK387.out 2).trans rfl; have hfs77 := blk_frozen BK387.out 2; have hns77_0 := NB367_387.out; have hms77_0 := NB387_367.out; have hs79 : w74.cell? ⟨gb387, 3, none⟩ = some (.slice none 0 0) := (blk_cell BK387.out 3).trans rfl; have hfs79 := blk_frozen BK387.out 3; have hns79_0 := NB367_387.out; have hms79_0 := NB387_367.out; have hs80 : w74.cell? ⟨gb387, 4, none⟩ = some (.int .i64 0) := (blk_cell BK387.out 4).trans rfl; have hfs80 := blk_frozen BK387.out 4; have hns80_0 := NB367_387.out; have hms80_0 := NB387_367.out; refine skip_ (w1 := ?_) (by rfl) rfl ?_ ?_; rotate_left
      ·go_simp
       rfl
      refine hK.out _ _ ⟨((cell_far (p := ⟨gb387, _, none⟩) NB367_387.out _).trans (((cell_far (p := ⟨gb387, _, none⟩) NB367_387.out _).trans (((cell_far (p := ⟨gb387, _, none⟩) NB367_387.out _).trans (((cell_far (p := ⟨gb387, _, none⟩) NB367_387.out _).trans (((cell_far (p := ⟨gb387, _, none⟩) NB367_387.out _).trans (hHeld.1)))))))))), ((cell_far (p := ⟨gb387, _, none⟩) NB367_387.out _).trans (((cell_far (p := ⟨gb387, _, none⟩) NB367_387.out _).trans (((cell_far (p := ⟨gb387, _, none⟩) NB367_387.out _).trans (((cell_far (p := ⟨gb387, _, none⟩) NB367_387.out _).trans (((cell_far (p := ⟨gb387, _, none⟩) NB367_387.out _).trans (hHeld.2.1)))))))))), ((cell_far (p := ⟨gb387, _, none⟩) NB367_387.out _).trans (((cell_far (p := ⟨gb387, _, none⟩) NB367_387.out _).trans (((cell_far (p := ⟨gb387, _, none⟩) NB367_387.out _).trans (((cell_far (p := ⟨gb387, _, none⟩) NB367_387.out _).trans (((cell_far (p := ⟨gb387, _, none⟩) NB367_387.out _).trans (hHeld.2.2.1)))))))))), ((cell_far (p := ⟨gb387, _, none⟩) NB367_387.out _).trans (((cell_far (p := ⟨gb387, _, none⟩) NB367_387.out _).trans (((cell_far (p := ⟨gb387, _, none⟩) NB367_387.out _).trans (((cell_far (p := ⟨gb387, _, none⟩) NB367_387.out _).trans (((cell_far (p := ⟨gb387, _, none⟩) NB367_387.out _).trans (hHeld.2.2.2.1)))))))))), ((cell_far (p := ⟨gb387, _, none⟩) NB367_387.out _).trans (((cell_far (p := ⟨gb387, _, none⟩) NB367_387.out _).trans (((cell_far (p := ⟨gb387, _, none⟩) NB367_387.out _).trans (((cell_far (p := ⟨gb387, _, none⟩) NB367_387.out _).trans (((cell_far (p := ⟨gb387, _, none⟩) NB367_387.out _).trans (hHeld.2.2.2.2))))))))))⟩ (fun hHeld => ?_); clear hK K; refine zu 10 2047 ?_; refine done_ (done_of HT_.out (by kernel_rfl)) ?_
      try go_wp2
      go_ret2
      exact ⟨_, ze, by first | exact Kd.R_nil _ _ _ _ _ | exact Kd.N_nil _ _ _ _ _ | exact Kd.V_nil _ _ _ _ _ | exact Kd.Q_nil _ _ _ _ _ | exact Kd.S_nil _ _ _ _ _, zb HB.out⟩
    ·replace c22 := Bool.eq_false_iff.mpr c22; subst c22
     have H1 : (some (([] : List (S93)), false)) = some (r1, r2) := by rw [if_neg (show ¬ (false = true) by decide)] at H; exact H
     clear H; have H := H1; clear H1; simp only [Option.some.injEq, Prod.mk.injEq] at H; obtain ⟨rfl, rfl⟩ := H; have hcz81 := zc5 BK367.out
     go_wp2_with (first | ((with_reducible refine gc 118 ?_); refine zL (some 52) Try.func118 #[.agg #[.string a0_0, .string a0_1, .string a0_2, .slice A0_3 l0_3.length c0_3, .int .i64 a0_4], .int .i64 0, .string ⟨#[]⟩, .slice none 0 0] ?_; (refine (impl_Sieve_parts.calls kj1 a0_0 a0_1 a0_2 _ _ l0_3 a0_4 0 (⟨#[]⟩ : ByteArray) (fun k_ => some k_ = (.slice none 0 0 : Value).ownBlock) (.slice none 0 0) ([] : List (S93)) t372 false w _ ?side1 ?side2 ?side3 ?side4 A21.out).mono ?_); (case side1 => repeat (first | (with_reducible first | exact HB.out | apply below_alloc | apply pw_below_drewN | apply below_drew1 | refine below_set ?_ GE367.out) | exact HB.out)); (case side2 => exact Kd.C_kept_came Kd.heap_string HR0_3.out (zb HB.out) (fun k_ hs_ => (fun e_ => by simp [Value.ownBlock] at e_) hs_)); (case side3 => exact HC0_3.out); (case side4 => exact Kd.R_nil _ _ _ _ _); rintro e w82 ⟨v373, rfl, ho0, hb, hkp⟩; refine ⟨_, rfl, ?_⟩; replace BK367 := z0 (blk_kept (zl BK367.out) hkp (fun hs_ => (fun e_ => by simp [Value.ownBlock] at e_) hs_)); have HO374 := z0 (Kd.R_mono (ok' := fun k_ => True) ho0 (fun k_ hk_ => trivial)); replace HB := z0 (hb); (try clear hb); (try clear hkp); (try clear ho0)))
     go_ret2
     exact ⟨_, ze, by first | exact Kd.R_nil _ _ _ _ _ | exact Kd.N_nil _ _ _ _ _ | exact Kd.V_nil _ _ _ _ _ | exact Kd.Q_nil _ _ _ _ _ | exact Kd.S_nil _ _ _ _ _, zb HB.out⟩
theorem spec_l6In.calls (a0 a1 a2 : Int) (r : Bool) (w : World) (h : spec_l6In.f a0 a1 a2 = some r) :
    Calls Try.prog 76 #[.int .i64 a0, .int .i64 a1, .int .i64 a2] w fun e w' => e = .returned (.bool r) ∧ Drawn0 w w' := by
 have H : (if a0 ≥ a1 then (some (decide (a0 ≤ a2))) else (some false)) = some r := h; clear h
 by_cases c4 : a0 ≥ a1
 ·rw [if_pos c4] at H; have c4b0 : decide (a1 ≤ a0) = true := decide_eq_true c4; clear c4; obtain rfl := Option.some.inj H; go_enter Try.func76, Try.ntmps76; go_wp2; go_ret; exact ⟨zf, by repeat (first | exact Drawn0.refl _ | apply Drawn0.step)⟩
 ·rw [if_neg c4] at H; have c4b0 : decide (a1 ≤ a0) = false := decide_eq_false c4; clear c4; obtain rfl := Option.some.inj H; go_enter Try.func76, Try.ntmps76; go_wp2; go_ret; exact ⟨zf, by repeat (first | exact Drawn0.refl _ | apply Drawn0.step)⟩
theorem spec_KeyOk.mono_l : ∀ k, (∀ y0 y1, LeO (spec_KeyOk.l0 k y0 y1) (spec_KeyOk.l0 (k + 1) y0 y1))
  | 0 => fun _ _ r h => by simp [spec_KeyOk.l0] at h
  | k + 1 => by
    have ih0 := spec_KeyOk.mono_l k
    · intro y0 y1
      unfold spec_KeyOk.l0
      repeat' first | (with_reducible first | apply ih0 | exact LeO.refl _ | exact LeO.none _ | refine LeO.ite ?_ ?_ | refine LeO.bind ?_ (fun _ => ?_)) | exact LeO.none _ | refine LeO.ite ?_ ?_ | refine LeO.bind ?_ (fun _ => ?_)
theorem spec_KeyOk.mono : ∀ a0 k, LeO (spec_KeyOk.f k a0) (spec_KeyOk.f (k + 1) a0) := by
  intro a0 k
  have ih0 := spec_KeyOk.mono_l k
  unfold spec_KeyOk.f
  repeat' first | (with_reducible first | apply ih0 | exact LeO.refl _ | exact LeO.none _ | refine LeO.ite ?_ ?_ | refine LeO.bind ?_ (fun _ => ?_)) | exact LeO.none _ | refine LeO.ite ?_ ?_ | refine LeO.bind ?_ (fun _ => ?_)
theorem spec_KeyOk.calls (k : Nat) (a0 : ByteArray) (r : Bool) (w : World) (h : spec_KeyOk.f k a0 = some r) :
    Calls Try.prog 31 #[.string a0] w fun e w' => e = .returned (.bool r) ∧ Drawn0 w w' := by
 have H : (spec_KeyOk.l0 k a0 0) = some r := h; clear h; have H' := z0 H; clear H; go_enter Try.func31, Try.ntmps31; go_wp2
 go_loopg [3] k (fun kq v3 w' => ∃ (x3_1 : Int), v3 = .int .i64 x3_1 ∧ Aside0 (spec_KeyOk.l0 kq a0 x3_1 = some r) ∧ Aside0 (kq ≤ k) ∧ Drawn0 w w')
 case atStart => exact ⟨(0), zf, H', ⟨Nat.le_refl _⟩, by repeat (first | exact Drawn0.refl _ | apply Drawn0.step)⟩
 case round =>
  clear H'; obtain ⟨x3_1, rfl, HA, HK1, ⟨m1, rfl⟩⟩ := hrel
  cases gk with
  | zero => exact absurd HA.out (by simp [spec_KeyOk.l0])
  | succ k1 =>
   have H := HA.out; clear HA; simp only [spec_KeyOk.l0] at H
   by_cases c2 : x3_1 < (a0.size : Int)
   ·rw [if_pos c2] at H; have c2b0 := decide_eq_true c2; clear c2; replace H := zn H; obtain ⟨c3, H⟩ := H; have c3b0 := decide_eq_true c3; clear c3; replace H := zi H; obtain ⟨t107, A5, H⟩ := H
    by_cases c6 : t107 = true
    ·subst c6
     have H1 : (spec_KeyOk.l0 k1 a0 (wrap64 (x3_1 + 1))) = some r := by rw [if_pos rfl] at H; exact H
     clear H; have H := H1; clear H1; have H' := z0 H; clear H; have p4 : 0 ≤ (x3_1 : Int) := zd; have q4 : x3_1 < (a0.size : Int) := zd; have hx4 := bt_at a0 x3_1; replace p4 := eq_true p4; replace q4 := eq_true q4
     go_wp2_with (first | ((with_reducible refine gc 76 ?_); refine zL (some 14) Try.func76 #[.int .i64 (wrap64 (bt a0 x3_1)), .int .i64 97, .int .i64 100] ?_; (with_reducible refine (spec_l6In.calls (wrap64 (bt a0 x3_1)) 97 100 true _ A5.out).mono ?_); rintro e w' ⟨rfl, ⟨nd, rfl⟩⟩; refine ⟨_, rfl, ?_⟩))
     go_roundg k1
     case measure => have := HK1.out; omega
     case rel => exact ⟨(wrap64 (x3_1 + 1)), zf, H', ⟨by have := HK1.out; omega⟩, by repeat (first | exact Drawn0.refl _ | apply Drawn0.step)⟩
    ·replace c6 := Bool.eq_false_iff.mpr c6; subst c6
     have H1 : (some false) = some r := by rw [if_neg (show ¬ (false = true) by decide)] at H; exact H
     clear H; have H := H1; clear H1; obtain rfl := Option.some.inj H; have p4 : 0 ≤ (x3_1 : Int) := zd; have q4 : x3_1 < (a0.size : Int) := zd; have hx4 := bt_at a0 x3_1; replace p4 := eq_true p4; replace q4 := eq_true q4
     go_wp2_with (first | ((with_reducible refine gc 76 ?_); refine zL (some 14) Try.func76 #[.int .i64 (wrap64 (bt a0 x3_1)), .int .i64 97, .int .i64 100] ?_; (with_reducible refine (spec_l6In.calls (wrap64 (bt a0 x3_1)) 97 100 false _ A5.out).mono ?_); rintro e w' ⟨rfl, ⟨nd, rfl⟩⟩; refine ⟨_, rfl, ?_⟩))
     go_ret; exact ⟨zf, by repeat (first | exact Drawn0.refl _ | apply Drawn0.step)⟩
   ·rw [if_neg c2] at H; have c2b0 := decide_eq_false c2; clear c2; obtain rfl := Option.some.inj H; go_wp2; go_ret; exact ⟨zf, by repeat (first | exact Drawn0.refl _ | apply Drawn0.step)⟩
theorem spec_KeysOk.mono_l : ∀ k, (∀ y0 y1, LeO (spec_KeysOk.l0 k y0 y1) (spec_KeysOk.l0 (k + 1) y0 y1))
  | 0 => fun _ _ r h => by simp [spec_KeysOk.l0] at h
  | k + 1 => by
    have ih0 := spec_KeysOk.mono_l k
    · intro y0 y1
      unfold spec_KeysOk.l0
      repeat' first | (with_reducible first | apply ih0 | apply spec_KeyOk.mono | exact LeO.refl _ | exact LeO.none _ | refine LeO.ite ?_ ?_ | refine LeO.bind ?_ (fun _ => ?_)) | exact LeO.none _ | refine LeO.ite ?_ ?_ | refine LeO.bind ?_ (fun _ => ?_)
theorem spec_KeysOk.mono : ∀ a0 k, LeO (spec_KeysOk.f k a0) (spec_KeysOk.f (k + 1) a0) := by
  intro a0 k
  have ih0 := spec_KeysOk.mono_l k
  unfold spec_KeysOk.f
  repeat' first | (with_reducible first | apply ih0 | apply spec_KeyOk.mono | exact LeO.refl _ | exact LeO.none _ | refine LeO.ite ?_ ?_ | refine LeO.bind ?_ (fun _ => ?_)) | exact LeO.none _ | refine LeO.ite ?_ ?_ | refine LeO.bind ?_ (fun _ => ?_)
theorem spec_KeysOk.calls (k : Nat) (A0 : Option Addr) (c0 : Nat) (l0 : List ByteArray) (r : Bool) (w : World) (hr0 : Kd.C Kd.string w A0 l0.length l0) (hc0 : l0.length ≤ c0) (h : spec_KeysOk.f k l0 = some r) :
    Calls Try.prog 80 #[.slice A0 l0.length c0] w fun e w' => e = .returned (.bool r) ∧ Drawn0 w w' := by
 have HR0 := z0 hr0; have HC0 := z0 hc0; clear hr0 hc0; have H : (spec_KeysOk.l0 k l0 0) = some r := h; clear h; have H' := z0 H; clear H; go_enter Try.func80, Try.ntmps80; go_wp2
 repeat (go_quiet (fail); try go_wp2)
 go_loopg [3] k (fun kq v3 w' => ∃ (x3_1 : Int), v3 = .int .i64 x3_1 ∧ Aside0 (spec_KeysOk.l0 kq l0 x3_1 = some r) ∧ Aside0 (kq ≤ k) ∧ Drawn0 w w')
 case atStart => exact ⟨(0), zf, H', ⟨Nat.le_refl _⟩, by repeat (first | exact Drawn0.refl _ | apply Drawn0.step)⟩
 case round =>
  clear H'; obtain ⟨x3_1, rfl, HA, HK1, ⟨m1, rfl⟩⟩ := hrel
  cases gk with
  | zero => exact absurd HA.out (by simp [spec_KeysOk.l0])
  | succ k1 =>
   have H := HA.out; clear HA; simp only [spec_KeysOk.l0] at H
   by_cases c2 : x3_1 < (l0.length : Int)
   ·rw [if_pos c2] at H; have c2b0 := decide_eq_true c2; clear c2; replace H := zn H; obtain ⟨c3, H⟩ := H; have c3b0 := decide_eq_true c3; clear c3; replace H := zi H; obtain ⟨t109, A4, H⟩ := H
    by_cases c5 : t109 = true
    ·subst c5
     have H1 : (if x3_1 > 0 then (if 0 ≤ (wrap64 (x3_1 - 1)) then (if (wrap64 (x3_1 - 1)) < (l0.length : Int) then (if ((Op.bytesLess ((rdOf ByteArray.empty l0 (wrap64 (x3_1 - 1))).toList) ((rdOf ByteArray.empty l0 x3_1).toList)) = true) then (spec_KeysOk.l0 k1 l0 (wrap64 (x3_1 + 1))) else (some false)) else (none)) else (none)) else (spec_KeysOk.l0 k1 l0 (wrap64 (x3_1 + 1)))) = some r := by rw [if_pos rfl] at H; exact H
     clear H; have H := H1; clear H1
     by_cases c6 : x3_1 > 0
     ·rw [if_pos c6] at H; have c6b0 : decide (0 < x3_1) = true := decide_eq_true c6; clear c6; obtain ⟨ji7, hji7⟩ : ∃ j_ : Int, (wrap64 (x3_1 - 1)) = j_ := ⟨_, rfl⟩
      replace H : (if 0 ≤ (ji7) then (if (ji7) < (l0.length : Int) then (if ((Op.bytesLess ((rdOf ByteArray.empty l0 (ji7)).toList) ((rdOf ByteArray.empty l0 x3_1).toList)) = true) then (spec_KeysOk.l0 k1 l0 (wrap64 (x3_1 + 1))) else (some false)) else (none)) else (none)) = some r := by first | (rw [hji7] at H; exact H) | (simp only [hji7] at H ⊢; exact H)
      (try rw [hji7] at A4); have hji7w : (IntKind.i64.wrap (x3_1 - 1)) = ji7 := (i64_w _).trans hji7; replace H := zn H; obtain ⟨c8, H⟩ := H; have c8b0 := decide_eq_true c8; clear c8; replace H := zn H; obtain ⟨c9, H⟩ := H; have c9b0 := decide_eq_true c9; clear c9; have p108 : 0 ≤ (x3_1 : Int) := zd; have q108 : x3_1 < (l0.length : Int) := zd; obtain ⟨ad108, e108, hx108_0⟩ := Kd.at_string HR0.out x3_1 p108 q108; cases e108; replace p108 := eq_true p108; replace q108 := eq_true q108
      go_upto_if 31 with (first | (go_at_call 31; (with_reducible refine (spec_KeyOk.calls k1 (rdOf ByteArray.empty l0 x3_1) true _ A4.out).mono ?_); rintro e w' ⟨rfl, ⟨nd, rfl⟩⟩; (try exact zdd); have p110 : 0 ≤ ((ji7) : Int) := zd; have q110 : (ji7) < (l0.length : Int) := zd; obtain ⟨ad110, e110, hx110_0⟩ := Kd.at_string HR0.out (ji7) p110 q110; obtain rfl : ad108 = ad110 := (by injection e110); replace p110 := eq_true p110; replace q110 := eq_true q110; have p111 : 0 ≤ (x3_1 : Int) := zd; have q111 : x3_1 < (l0.length : Int) := zd; obtain ⟨ad111, e111, hx111_0⟩ := Kd.at_string HR0.out x3_1 p111 q111; obtain rfl : ad108 = ad111 := (by injection e111); replace p111 := eq_true p111; replace q111 := eq_true q111))
      repeat (go_quiet (first | (go_at_call 31; (with_reducible refine (spec_KeyOk.calls k1 (rdOf ByteArray.empty l0 x3_1) true _ A4.out).mono ?_); rintro e w' ⟨rfl, ⟨nd, rfl⟩⟩; (try exact zdd); have p110 : 0 ≤ ((ji7) : Int) := zd; have q110 : (ji7) < (l0.length : Int) := zd; obtain ⟨ad110, e110, hx110_0⟩ := Kd.at_string HR0.out (ji7) p110 q110; obtain rfl : ad108 = ad110 := (by injection e110); replace p110 := eq_true p110; replace q110 := eq_true q110; have p111 : 0 ≤ (x3_1 : Int) := zd; have q111 : x3_1 < (l0.length : Int) := zd; obtain ⟨ad111, e111, hx111_0⟩ := Kd.at_string HR0.out x3_1 p111 q111; obtain rfl : ad108 = ad111 := (by injection e111); replace p111 := eq_true p111; replace q111 := eq_true q111)); go_upto_if 31 with (first | (go_at_call 31; (with_reducible refine (spec_KeyOk.calls k1 (rdOf ByteArray.empty l0 x3_1) true _ A4.out).mono ?_); rintro e w' ⟨rfl, ⟨nd, rfl⟩⟩; (try exact zdd); have p110 : 0 ≤ ((ji7) : Int) := zd; have q110 : (ji7) < (l0.length : Int) := zd; obtain ⟨ad110, e110, hx110_0⟩ := Kd.at_string HR0.out (ji7) p110 q110; obtain rfl : ad108 = ad110 := (by injection e110); replace p110 := eq_true p110; replace q110 := eq_true q110; have p111 : 0 ≤ (x3_1 : Int) := zd; have q111 : x3_1 < (l0.length : Int) := zd; obtain ⟨ad111, e111, hx111_0⟩ := Kd.at_string HR0.out x3_1 p111 q111; obtain rfl : ad108 = ad111 := (by injection e111); replace p111 := eq_true p111; replace q111 := eq_true q111)))
      by_cases c10 : ((Op.bytesLess ((rdOf ByteArray.empty l0 (ji7)).toList) ((rdOf ByteArray.empty l0 x3_1).toList)) = true)
      ·rw [if_pos c10] at H; have c10b0 : (Op.bytesLess ((rdOf ByteArray.empty l0 (ji7)).toList) ((rdOf ByteArray.empty l0 x3_1).toList)) = true := c10; clear c10; (first | rw [c10b0] | (simp only [i64_w, i32_w]; rw [c10b0]) | simp only [*, Bool.not_true, Bool.not_false] | skip); have H' := z0 H; clear H; go_wp2
       repeat (go_quiet (fail); try go_wp2)
       go_roundg k1
       case measure => have := HK1.out; omega
       case rel => exact ⟨(wrap64 (x3_1 + 1)), zf, H', ⟨by have := HK1.out; omega⟩, by repeat (first | exact Drawn0.refl _ | apply Drawn0.step)⟩
      ·rw [if_neg c10] at H
       have c10b0 : (Op.bytesLess ((rdOf ByteArray.empty l0 (ji7)).toList) ((rdOf ByteArray.empty l0 x3_1).toList)) = false := by simpa using c10
       clear c10; (first | rw [c10b0] | (simp only [i64_w, i32_w]; rw [c10b0]) | simp only [*, Bool.not_true, Bool.not_false] | skip); obtain rfl := Option.some.inj H; go_wp2
       repeat (go_quiet (fail); try go_wp2)
       go_ret; exact ⟨by first | rfl | (simp; done) | (simp only [← hji7] <;> (first | rfl | simp)) | (simp [*]; done), by repeat (first | exact Drawn0.refl _ | apply Drawn0.step)⟩
     ·rw [if_neg c6] at H; have c6b0 : decide (0 < x3_1) = false := decide_eq_false c6; clear c6; have H' := z0 H; clear H; have p108 : 0 ≤ (x3_1 : Int) := zd; have q108 : x3_1 < (l0.length : Int) := zd; obtain ⟨ad108, e108, hx108_0⟩ := Kd.at_string HR0.out x3_1 p108 q108; cases e108; replace p108 := eq_true p108; replace q108 := eq_true q108
      go_wp2_with (first | (go_at_call 31; (with_reducible refine (spec_KeyOk.calls k1 (rdOf ByteArray.empty l0 x3_1) true _ A4.out).mono ?_); rintro e w' ⟨rfl, ⟨nd, rfl⟩⟩; (try exact zdd)))
      repeat (go_quiet (first | (go_at_call 31; (with_reducible refine (spec_KeyOk.calls k1 (rdOf ByteArray.empty l0 x3_1) true _ A4.out).mono ?_); rintro e w' ⟨rfl, ⟨nd, rfl⟩⟩; (try exact zdd))); try go_wp2_with (first | (go_at_call 31; (with_reducible refine (spec_KeyOk.calls k1 (rdOf ByteArray.empty l0 x3_1) true _ A4.out).mono ?_); rintro e w' ⟨rfl, ⟨nd, rfl⟩⟩; (try exact zdd))))
      go_roundg k1
      case measure => have := HK1.out; omega
      case rel => exact ⟨(wrap64 (x3_1 + 1)), zf, H', ⟨by have := HK1.out; omega⟩, by repeat (first | exact Drawn0.refl _ | apply Drawn0.step)⟩
    ·replace c5 := Bool.eq_false_iff.mpr c5; subst c5
     have H1 : (some false) = some r := by rw [if_neg (show ¬ (false = true) by decide)] at H; exact H
     clear H; have H := H1; clear H1; obtain rfl := Option.some.inj H; have p108 : 0 ≤ (x3_1 : Int) := zd; have q108 : x3_1 < (l0.length : Int) := zd; obtain ⟨ad108, e108, hx108_0⟩ := Kd.at_string HR0.out x3_1 p108 q108; cases e108; replace p108 := eq_true p108; replace q108 := eq_true q108
     go_wp2_with (first | (go_at_call 31; (with_reducible refine (spec_KeyOk.calls k1 (rdOf ByteArray.empty l0 x3_1) false _ A4.out).mono ?_); rintro e w' ⟨rfl, ⟨nd, rfl⟩⟩; (try exact zdd)))
     repeat (go_quiet (first | (go_at_call 31; (with_reducible refine (spec_KeyOk.calls k1 (rdOf ByteArray.empty l0 x3_1) false _ A4.out).mono ?_); rintro e w' ⟨rfl, ⟨nd, rfl⟩⟩; (try exact zdd))); try go_wp2_with (first | (go_at_call 31; (with_reducible refine (spec_KeyOk.calls k1 (rdOf ByteArray.empty l0 x3_1) false _ A4.out).mono ?_); rintro e w' ⟨rfl, ⟨nd, rfl⟩⟩; (try exact zdd))))
     go_ret; exact ⟨zf, by repeat (first | exact Drawn0.refl _ | apply Drawn0.step)⟩
   ·rw [if_neg c2] at H; have c2b0 := decide_eq_false c2; clear c2; obtain rfl := Option.some.inj H; go_wp2
    repeat (go_quiet (fail); try go_wp2)
    go_ret; exact ⟨zf, by repeat (first | exact Drawn0.refl _ | apply Drawn0.step)⟩
theorem spec_l3Letter.callsD (a0 : ByteArray) (a1 : Int) (r : ByteArray) (w : World) (h : spec_l3Letter.f a0 a1 = some r) :
    Calls Try.prog 107 #[.string a0, .int .i64 a1] w fun e w' => e = .returned (.string r) ∧ Drawn0 w w' := by
  have H : (if a1 ≥ (a0.size : Int) then (some (⟨#[45]⟩ : ByteArray)) else (if 0 ≤ a1 then (if a1 ≤ (wrap64 (a1 + 1)) then (if (wrap64 (a1 + 1)) ≤ (a0.size : Int) then (some (a0.extract (a1 : Int).toNat ((wrap64 (a1 + 1)) : Int).toNat)) else (none)) else (none)) else (none))) = some r := h
  clear h
  by_cases c3 : a1 ≥ (a0.size : Int)
  · rw [if_pos c3] at H
    have c3b0 : decide ((a0.size : Int) ≤ a1) = true := decide_eq_true c3
    clear c3
    obtain rfl := Option.some.inj H
    go_enter Try.func107, Try.ntmps107
    go_wp2
    go_ret
    exact ⟨zf, by repeat (first | exact Drawn0.refl _ | apply Drawn0.step)⟩
  · rw [if_neg c3] at H
    have c3b0 : decide ((a0.size : Int) ≤ a1) = false := decide_eq_false c3
    clear c3
    by_cases c4 : 0 ≤ a1
    · rw [if_pos c4] at H
      have c4b0 := eq_true c4
      have c4b1 : decide (0 ≤ a1) = true := decide_eq_true c4
      clear c4
      by_cases c5 : a1 ≤ (wrap64 (a1 + 1))
      · rw [if_pos c5] at H
        have c5b0 := eq_true c5
        have c5b1 : decide (a1 ≤ (wrap64 (a1 + 1))) = true := decide_eq_true c5
        by_cases c6 : (wrap64 (a1 + 1)) ≤ (a0.size : Int)
        · rw [if_pos c6] at H
          have c6b0 := eq_true c6
          have c6b1 : decide ((wrap64 (a1 + 1)) ≤ (a0.size : Int)) = true := decide_eq_true c6
          obtain rfl := Option.some.inj H
          go_enter Try.func107, Try.ntmps107
          go_wp2
          go_ret
          exact ⟨zf, by repeat (first | exact Drawn0.refl _ | apply Drawn0.step)⟩
        · rw [if_neg c6] at H
          exact absurd H (by simp)
      · rw [if_neg c5] at H
        exact absurd H (by simp)
    · rw [if_neg c4] at H
      exact absurd H (by simp)
theorem spec_l3Letter.calls (a0 : ByteArray) (a1 : Int) (r : ByteArray) (w : World) (h : spec_l3Letter.f a0 a1 = some r) :
    Calls Try.prog 107 #[.string a0, .int .i64 a1] w fun e w' => e = .returned (.string r) ∧ Below w.heap.size w w' := by
 exact (spec_l3Letter.callsD a0 a1 r w h).mono fun e w' ⟨he, hw⟩ => ⟨he, hw.below⟩
theorem spec_l3Group.mono_l : ∀ k, (∀ y0 y1 y2 y3, LeO (spec_l3Group.l0 k y0 y1 y2 y3) (spec_l3Group.l0 (k + 1) y0 y1 y2 y3))
  | 0 => fun _ _ _ _ r h => by simp [spec_l3Group.l0] at h
  | k + 1 => by
    have ih0 := spec_l3Group.mono_l k
    · intro y0 y1 y2 y3
      unfold spec_l3Group.l0
      repeat' first | (with_reducible first | apply ih0 | exact LeO.refl _ | exact LeO.none _ | refine LeO.ite ?_ ?_ | refine LeO.bind ?_ (fun _ => ?_)) | exact LeO.none _ | refine LeO.ite ?_ ?_ | refine LeO.bind ?_ (fun _ => ?_)
theorem spec_l3Group.mono : ∀ a0 a1 k, LeO (spec_l3Group.f k a0 a1) (spec_l3Group.f (k + 1) a0 a1) := by
  intro a0 a1 k
  have ih0 := spec_l3Group.mono_l k
  unfold spec_l3Group.f
  repeat' first | (with_reducible first | apply ih0 | exact LeO.refl _ | exact LeO.none _ | refine LeO.ite ?_ ?_ | refine LeO.bind ?_ (fun _ => ?_)) | exact LeO.none _ | refine LeO.ite ?_ ?_ | refine LeO.bind ?_ (fun _ => ?_)
def spec_l3Group.T5 : Bool × List (List Nat × List Nat) := (true, [([], []), ([0], [0]), ([], []), ([1, 2], [1, 2]), ([3], [3]), ([], []), ([5], [5]), ([4, 6], [4, 6]), ([], []), ([8], [8]), ([9], [9]), ([10], [10]), ([], []), ([12], [12]), ([11, 13, 7], [11, 13]), ([7, 14], [7, 14])])
def spec_l3Group.B5 : List Nat := [0, 1, 0, 7, 15, 0, 32, 127, 0, 256, 768, 1792, 0, 4096, 16383, 32767]
theorem spec_l3Group.tab5 : rtab .any (opsOf Try.f113 5) = spec_l3Group.T5 := by kernel_rfl
theorem spec_l3Group.bits5 : waitsOk spec_l3Group.T5.2 spec_l3Group.B5 = true := by kernel_rfl
theorem spec_l3Group.calls (k : Nat) (A0_0 : Option Addr) (c0_0 : Nat) (l0_0 : List ByteArray) (a0_1 : Int) (r : List ByteArray) (w : World) (hr0_0 : Kd.C Kd.string w A0_0 l0_0.length l0_0) (hc0_0 : l0_0.length ≤ c0_0) (h : spec_l3Group.f k l0_0 a0_1 = some r) :
    Calls Try.prog 113 #[.agg #[.slice A0_0 l0_0.length c0_0, .int .i64 a0_1]] w fun e w' => ∃ v0_ : Value, e = .returned (v0_) ∧ Kd.R Kd.string 9 w' w.heap.size (fun _ => True) v0_ r ∧ Below w.heap.size w w' := by
 have hu79 := Try.underlying79; have HR0_0 := z0 hr0_0; have HC0_0 := z0 hc0_0; clear hr0_0 hc0_0; have HB := z0 (Below.refl w.heap.size w); have H : (spec_l3Group.l0 k (([] : List ByteArray)) 0 l0_0 a0_1) = some r := h; clear h; obtain ⟨y113, hy113⟩ : ∃ y_ : List ByteArray, y_ = (([] : List ByteArray)) := ⟨_, rfl⟩; replace H : (spec_l3Group.l0 k y113 0 l0_0 a0_1) = some r := zH2 hy113 H; have Ny113 := z0 hy113; clear hy113; have H' := z0 H; clear H; go_enter Try.func113, Try.ntmps113
 go_wp2_with (first | ((with_reducible refine gd 1 ?_); refine zbx 79 #[.slice A0_0 l0_0.length c0_0, .int .i64 a0_1] ?_; intro gb112 hg w2 hbox hb; have BK112 := z0 (hbox); have GE112 := zG hg HB; replace HB := zH HB hb; clear hb hbox hg) | ((with_reducible refine gd 5 ?_); refine Kd.R_lit Kd.string _ 9 ?hg (N := 5) ?hd (xs := ([] : List ByteArray)) (inner := []) (ok := fun _ => True) (okp := fun _ => True) ?hr ?hp (fun _ hk => hk) trivial (Below.refl _ _) (Nat.le_refl _) (by simp) ?_; (case hd => rfl); (case hg => rfl); (case hr => first | (go_simp; done) | (go_simp; rfl)); (case hp => exact (Reps.none _ _)); intro v114 w3 ho4 hb hg_ hnew_; clear hg_ hnew_; (first | rw [← Ny113.out] at ho4 | (simp only [Int.reduceToNat] at ho4; rw [← Ny113.out] at ho4)); have HO115 := z0 (Kd.R_lower ho4 (below_size (zb HB.out))); replace BK112 := zK BK112 hb; replace HB := zH HB hb; clear hb ho4))
 go_loopg [3, 4] k (fun kq v3 v4 w' => ∃ (x3_1 : List ByteArray) (x4_1 : Int), v4 = .int .i64 x4_1 ∧ Aside0 (spec_l3Group.l0 kq x3_1 x4_1 l0_0 a0_1 = some r) ∧ Aside0 (kq ≤ k) ∧ Aside0 (Kd.R Kd.string 9 w' w.heap.size (fun _ => True) v3 x3_1) ∧ Aside0 (w'.heap[gb112]? = some (.cells #[(.slice A0_0 l0_0.length c0_0), .int .i64 a0_1] 79 (0, 0))) ∧ Aside0 (Below w.heap.size w w'))
 case atStart => exact ⟨(y113), (0), zf, H', ⟨Nat.le_refl _⟩, ⟨zr HO115.out⟩, ⟨zl BK112.out⟩, ⟨zb HB.out⟩⟩
 case round =>
  clear H'
  try clear c1
  try clear p2
  obtain ⟨x3_1, x4_1, rfl, HA, HK1, HO_3, BK112, HB⟩ := hrel
  cases gk with
  | zero => exact absurd HA.out (by simp [spec_l3Group.l0])
  | succ k1 =>
   have H := HA.out; clear HA; simp only [spec_l3Group.l0] at H
   by_cases c5 : x4_1 < (l0_0.length : Int)
   ·rw [if_pos c5] at H; have c5b0 := decide_eq_true c5; clear c5; replace H := zn H; obtain ⟨c6, H⟩ := H; have c6b0 := decide_eq_true c6; clear c6; replace H := zi H; obtain ⟨t117, A7, H⟩ := H; replace H := zn H; obtain ⟨c8, H⟩ := H; have c8b0 := decide_eq_true c8; have c8b1 : decide (0 < l0_0.length) = true := decide_eq_true (by omega); clear c8; replace H := zi H; obtain ⟨t119, A9, H⟩ := H; have hcz10 := zc2 BK112.out
    try go_wp2
    replace HO_3 := z0 (Kd.R_drew HO_3.out); replace BK112 := z0 (blk_drew BK112.out); replace HB := z0 (below_drew1 HB.out); have p116 : 0 ≤ (x4_1 : Int) := zd; have q116 : x4_1 < (l0_0.length : Int) := zd; obtain ⟨ad116, e116, hx116_0⟩ := Kd.at_string HR0_0.out x4_1 p116 q116; have hw116_0 := hx116_0; cases e116; replace hx116_0 := (HB.out.cell (World.block_lt_of_cell? w _ hx116_0)).trans hx116_0; replace p116 := eq_true p116; replace q116 := eq_true q116; have p118 : 0 ≤ (0 : Int) := (by omega); have q118 : 0 < (l0_0.length : Int) := zd; obtain ⟨ad118, e118, hx118_0⟩ := Kd.at_string HR0_0.out 0 p118 q118; have hw118_0 := hx118_0; (try rw [show ((0 : Int)).toNat = 0 from rfl] at hw118_0); (try rw [show 0 * 1 = 0 from rfl] at hw118_0); (try rw [Addr.add_zero'] at hw118_0); obtain rfl : ad116 = ad118 := (by injection e118); have qi118 : (0 < l0_0.length) = True := eq_true (by omega); (try rw [show ((0 : Int)).toNat = 0 from rfl] at hx118_0); (try rw [Addr.add_zero'] at hx118_0); replace hx118_0 := (HB.out.cell (World.block_lt_of_cell? w _ hx118_0)).trans hx118_0; replace p118 := eq_true p118; replace q118 := eq_true q118; refine start_ (n := 16) (S := fun w' => w'.cell? ⟨gb112, 0, none⟩ = some (.slice (some ad116) l0_0.length c0_0) ∧ w'.cell? ⟨gb112, 1, none⟩ = some (.int .i64 a0_1) ∧ w'.cell? (ad116.add (x4_1).toNat) = some (.string (rdOf ByteArray.empty l0_0 x4_1)) ∧ w'.cell? ad116 = some (.string (rdOf ByteArray.empty l0_0 0))) (ds := []) (fb 16 0) (by kernel_rfl) rfl rfl (zd2 BK112.out ⟨((HB.out.cell (World.block_lt_of_cell? w _ hw116_0)).trans hw116_0), ((HB.out.cell (World.block_lt_of_cell? w _ hw118_0)).trans hw118_0)⟩) (fun hHeld => ?_); refine with_tabW spec_l3Group.tab5 spec_l3Group.bits5 (fun HT_ HW_ => ?_); generalize wr.drew = w11 at HO_3 BK112 HB hx116_0 hx118_0 hHeld ⊢; refine zu 0 1 ?_; refine zu 2 5 ?_; refine zu 5 37 ?_; refine zu 8 293 ?_; refine zu 12 4389 ?_; refine zx 1 4391 hHeld ?_; refine zu 3 4399 ?_; refine zx 4 4415 hHeld ?_; refine zx 6 4479 hHeld ?_; refine zx 9 4991 hHeld ?_; refine zu 10 6015 ?_; refine zx 11 8063 hHeld ?_; refine zx 13 16255 hHeld ?_; refine zone 7 16383 (fun K hK => ?_); refine zG2 Try.func107 #[.string (rdOf ByteArray.empty l0_0 x4_1), .int .i64 a0_1] ?_
    with_reducible refine (spec_l3Letter.calls (rdOf ByteArray.empty l0_0 x4_1) a0_1 t117 _ A7.out).mono ?_
    rintro e w12 ⟨rfl, hb⟩; refine ⟨_, rfl, ?_⟩; replace HO_3 := zA HO_3 hb; replace BK112 := zK BK112 hb; replace HB := zH HB hb; (try clear hb); refine hK.out _ _ (zd2 BK112.out ⟨((HB.out.cell (World.block_lt_of_cell? w _ hw116_0)).trans hw116_0), ((HB.out.cell (World.block_lt_of_cell? w _ hw118_0)).trans hw118_0)⟩) (fun hHeld => ?_); clear hK K; refine znm ?_; refine zone 14 32767 (fun K hK => ?_); refine zG2 Try.func107 #[.string (rdOf ByteArray.empty l0_0 0), .int .i64 a0_1] ?_
    with_reducible refine (spec_l3Letter.calls (rdOf ByteArray.empty l0_0 0) a0_1 t119 _ A9.out).mono ?_
    rintro e w13 ⟨rfl, hb⟩; refine ⟨_, rfl, ?_⟩; replace HO_3 := zA HO_3 hb; replace BK112 := zK BK112 hb; replace HB := zH HB hb; (try clear hb); refine hK.out _ _ (zd2 BK112.out ⟨((HB.out.cell (World.block_lt_of_cell? w _ hw116_0)).trans hw116_0), ((HB.out.cell (World.block_lt_of_cell? w _ hw118_0)).trans hw118_0)⟩) (fun hHeld => ?_); clear hK K; refine znm ?_; refine zu 15 65535 ?_; refine done_ (done_of HT_.out (by kernel_rfl)) ?_
    go_upto_if 28 with (fail)
    by_cases c14 : t117.toList = t119.toList
    ·rw [if_pos c14] at H; have c14b0 : (t117.toList == t119.toList) = true := beq_iff_eq.mpr c14; have c14b1 : (t117.toList != t119.toList) = false := bne_eq_false_iff_eq.mpr c14; clear c14; (first | rw [c14b0] | (simp only [i64_w, i32_w]; rw [c14b0]) | simp only [*, Bool.not_true, Bool.not_false] | skip); replace H := zn H; obtain ⟨c15, H⟩ := H; have LMc15 := z0 c15; clear c15; obtain ⟨y121, hy121⟩ : ∃ y_ : List ByteArray, y_ = (x3_1 ++ [rdOf ByteArray.empty l0_0 x4_1]) := ⟨_, rfl⟩; replace H : (spec_l3Group.l0 k1 y121 (wrap64 (x4_1 + 1)) l0_0 a0_1) = some r := zH2 hy121 H; have Ny121 := z0 hy121; clear hy121; have H' := z0 H; clear H; have hcz16 := zc2 BK112.out; have p120 : 0 ≤ (x4_1 : Int) := zd; have q120 : x4_1 < (l0_0.length : Int) := zd; obtain ⟨ad120, e120, hx120_0⟩ := Kd.at_string HR0_0.out x4_1 p120 q120; obtain rfl : ad116 = ad120 := (by injection e120); replace hx120_0 := (HB.out.cell (World.block_lt_of_cell? w _ hx120_0)).trans hx120_0; replace p120 := eq_true p120; replace q120 := eq_true q120
     go_wp2_with (first | ((with_reducible refine gate_builtin (b := .append) (xs := #[.tmp 29, .tmp 35]) rfl ?_); at_builtin; refine Kd.R_append Kd.string (w0 := w) w.heap.size rfl (.tmp 29) (.tmp 35) 23 9 (.string ⟨#[]⟩) 16 rfl Try.underlying23 info9 rfl (by decide) (by omega) u3 x3_1 (rdOf ByteArray.empty l0_0 x4_1) [.string (rdOf ByteArray.empty l0_0 x4_1)] (fun _ => True) (fun _ => False) rfl rfl ?aP (fun _ hk => hk.elim) ?aF ?aO ?aB ?aS ?aL ?_; (case aP => exact rfl); (case aB => exact (zb HB.out)); (case aF => exact (fun _ _ => trivial)); (case aO => exact (zr HO_3.out)); (case aS => exact (below_size (zb HB.out))); (case aL => have := LMc15.out; omega); intro v122 w17 ho hb hg hat; rw [← Ny121.out] at ho; replace BK112 := z0 (blk_grown (zl BK112.out) hg (Kd.R_ne HO_3.out BK112.out (by decide))); replace HB := z0 (hb); have HO123 := z0 (ho); clear HO_3; clear ho hb hg hat))
     go_roundg k1
     case measure => have := HK1.out; omega
     case rel => exact ⟨(y121), (wrap64 (x4_1 + 1)), zf, H', ⟨by have := HK1.out; omega⟩, ⟨zr HO123.out⟩, ⟨zl BK112.out⟩, ⟨zb HB.out⟩⟩
    ·rw [if_neg c14] at H; have c14b0 : (t117.toList == t119.toList) = false := beq_eq_false_iff_ne.mpr c14; have c14b1 : (t117.toList != t119.toList) = true := bne_iff_ne.mpr c14; (first | rw [c14b0] | (simp only [i64_w, i32_w]; rw [c14b0]) | simp only [*, Bool.not_true, Bool.not_false] | skip); have H' := z0 H; clear H; go_wp2; go_roundg k1
     case measure => have := HK1.out; omega
     case rel => exact ⟨(x3_1), (wrap64 (x4_1 + 1)), zf, H', ⟨by have := HK1.out; omega⟩, ⟨zr HO_3.out⟩, ⟨zl BK112.out⟩, ⟨zb HB.out⟩⟩
   ·rw [if_neg c5] at H; have c5b0 := decide_eq_false c5; clear c5; obtain rfl := Option.some.inj H; have hcz18 := zc2 BK112.out; go_wp2; go_ret; exact ⟨_, ze, zr HO_3.out, zb HB.out⟩
theorem spec_l3Rest.calls (a0 : ByteArray) (a1 a2 : Int) (r : ByteArray) (w : World) (h : spec_l3Rest.f a0 a1 a2 = some r) :
    Calls Try.prog 114 #[.string a0, .int .i64 a1, .int .i64 a2] w fun e w' => e = .returned (.string r) ∧ Below w.heap.size w w' := by
 unfold spec_l3Rest.f at h
 by_cases c0 : 0 ≤ a1 ∧ 0 ≤ a2
 ·rw [if_pos c0] at h; obtain ⟨c1, c2⟩ := c0
  by_cases c3 : (a0.size : Int) ≤ a1
  ·rw [if_pos c3] at h; obtain rfl := Option.some.inj h; go_enter Try.func114, Try.ntmps114; go_wp2; go_ret; exact ⟨rfl, Below.refl _ _⟩
  ·rw [if_neg c3] at h
   have c4 : a1 ≤ (a0.size : Int) := by omega
   by_cases c5 : a2 < ((a0.size - a1.toNat : Nat) : Int)
   ·rw [if_pos c5] at h; obtain rfl := Option.some.inj h
    have c6 : a2 ≤ ((a0.size - a1.toNat : Nat) : Int) := by omega
    go_enter Try.func114, Try.ntmps114; go_wp2; go_ret; exact ⟨rfl, Below.refl _ _⟩
   ·rw [if_neg c5] at h; obtain rfl := Option.some.inj h; go_enter Try.func114, Try.ntmps114; go_wp2; go_ret; exact ⟨rfl, Below.refl _ _⟩
 ·rw [if_neg c0] at h
  cases h
theorem spec_l3Put.mono_l : ∀ k, (∀ y0 y1 y2 y3 y4 y5 y6 y7 y8, LeO (spec_l3Put.l0 k y0 y1 y2 y3 y4 y5 y6 y7 y8) (spec_l3Put.l0 (k + 1) y0 y1 y2 y3 y4 y5 y6 y7 y8))
  | 0 => fun _ _ _ _ _ _ _ _ _ r h => by simp [spec_l3Put.l0] at h
  | k + 1 => by
    have ih0 := spec_l3Put.mono_l k
    · intro y0 y1 y2 y3 y4 y5 y6 y7 y8
      unfold spec_l3Put.l0
      repeat' first | (with_reducible first | apply ih0 | apply spec_l3Group.mono | exact LeO.refl _ | exact LeO.none _ | refine LeO.ite ?_ ?_ | refine LeO.bind ?_ (fun _ => ?_)) | exact LeO.none _ | refine LeO.ite ?_ ?_ | refine LeO.bind ?_ (fun _ => ?_)
theorem spec_l3Put.mono : ∀ a0 a1 a2 a3 a4 a5 a6 k, LeO (spec_l3Put.f k a0 a1 a2 a3 a4 a5 a6) (spec_l3Put.f (k + 1) a0 a1 a2 a3 a4 a5 a6) := by
  intro a0 a1 a2 a3 a4 a5 a6 k
  have ih0 := spec_l3Put.mono_l k
  unfold spec_l3Put.f
  repeat' first | (with_reducible first | apply ih0 | apply spec_l3Group.mono | exact LeO.refl _ | exact LeO.none _ | refine LeO.ite ?_ ?_ | refine LeO.bind ?_ (fun _ => ?_)) | exact LeO.none _ | refine LeO.ite ?_ ?_ | refine LeO.bind ?_ (fun _ => ?_)
def spec_l3Put.T13 : Bool × List (List Nat × List Nat) := (true, [([], []), ([0], [0]), ([], []), ([2], [2]), ([3], [3]), ([], []), ([5], [5]), ([6], [6]), ([], []), ([8], [8]), ([4, 7, 9], [4, 7, 9]), ([10], [10]), ([1, 11, 10], [1, 11]), ([0, 1, 2, 3, 4, 5, 6, 7, 8, 9, 10, 11, 12], []), ([13, 12, 12, 0, 1, 2, 3, 4, 5, 6, 7, 8, 9, 10, 11, 12], [12, 13])])
def spec_l3Put.B13 : List Nat := [0, 1, 0, 4, 12, 0, 32, 96, 0, 256, 1020, 2044, 4095, 8191, 16383]
theorem spec_l3Put.tab13 : rtab .any (opsOf Try.f81 13) = spec_l3Put.T13 := by kernel_rfl
theorem spec_l3Put.bits13 : waitsOk spec_l3Put.T13.2 spec_l3Put.B13 = true := by kernel_rfl
theorem spec_l3Put.calls (k : Nat) (a0_0 a0_1 a0_2 : ByteArray) (P0_3_ : Nat → Prop) (u9000_ : Value) (l0_3 : List ByteArray) (a0_4 : Int) (P1_0_ : Nat → Prop) (A1_0 : Option Addr) (c1_0 : Nat) (l1_0 : List ByteArray) (a1_1 : Int) (r1 r2 r3 : ByteArray) (r4 : List ByteArray) (r5 : Int) (r6 : List (S79)) (w0 w : World) (hB : Below w0.heap.size w0 w) (ho0_3 : Kd.R Kd.string 9 w w0.heap.size P0_3_ u9000_ l0_3) (hs1_0 : Kd.V Kd.string 9 w w0.heap.size (fun k_ => P1_0_ k_ ∧ some k_ ≠ (u9000_ : Value).ownBlock) (.slice A1_0 l1_0.length c1_0) l1_0) (h : spec_l3Put.f k a0_0 a0_1 a0_2 l0_3 a0_4 l1_0 a1_1 = some (r1, r2, r3, r4, r5, r6)) :
    Calls Try.prog 81 #[.agg #[.string a0_0, .string a0_1, .string a0_2, u9000_, .int .i64 a0_4], .agg #[.slice A1_0 l1_0.length c1_0, .int .i64 a1_1]] w fun e w' => ∃ v3_ v5_ : Value, e = .returned (.tuple #[.agg #[.string r1, .string r2, .string r3, v3_, .int .i64 r5], v5_]) ∧ Kd.R Kd.string 9 w' w0.heap.size (fun k_ => (P0_3_ k_ ∨ w.heap.size ≤ k_)) v3_ r4 ∧ Kd.N k79 79 w' w.heap.size (fun k_ => ((P0_3_ k_ ∨ P1_0_ k_) ∨ w.heap.size ≤ k_) ∧ some k_ ≠ (v3_ : Value).ownBlock) v5_ r6 ∧ Below w0.heap.size w0 w' ∧ Kept w w' (fun k_ => P0_3_ k_) := by
 have hu25 := Try.underlying25; have hu79 := Try.underlying79; have HO0_3 := z0 (show Kd.R Kd.string 9 w w0.heap.size (fun k_ => (P0_3_ k_ ∨ w.heap.size ≤ k_)) u9000_ l0_3 from Kd.R_mono ho0_3 (fun k_ hk => (.inl hk))); have HO1_0 := z0 (show Kd.V Kd.string 9 w w0.heap.size (fun k_ => ((P0_3_ k_ ∨ P1_0_ k_) ∨ w.heap.size ≤ k_) ∧ some k_ ≠ (u9000_ : Value).ownBlock) (.slice A1_0 l1_0.length c1_0) l1_0 from Kd.V_mono hs1_0 (fun k_ hk => ⟨.inl (.inr hk.1), hk.2⟩)); have HK := z0 (Kept.refl w (fun k_ => P0_3_ k_)); have HW0 := z0 hB.size; have HB := z0 hB; clear hB; have H : (spec_l3Put.l0 k (([] : List (S79))) (⟨#[49]⟩ : ByteArray) a0_0 a0_1 a0_2 l0_3 a0_4 l1_0 a1_1) = some (r1, r2, r3, r4, r5, r6) := h; clear h; obtain ⟨y127, hy127⟩ : ∃ y_ : List (S79), y_ = (([] : List (S79))) := ⟨_, rfl⟩; replace H : (spec_l3Put.l0 k y127 (⟨#[49]⟩ : ByteArray) a0_0 a0_1 a0_2 l0_3 a0_4 l1_0 a1_1) = some (r1, r2, r3, r4, r5, r6) := zH2 hy127 H; have Ny127 := z0 hy127; clear hy127; have H' := z0 H; clear H; obtain ⟨Ao3, co3, eo3⟩ := Kd.R_slice HO0_3.out; subst eo3; go_enter Try.func81, Try.ntmps81
 go_wp2_with (first | ((with_reducible refine gd 2 ?_); refine zbx 25 #[.string a0_0, .string a0_1, .string a0_2, .slice Ao3 l0_3.length co3, .int .i64 a0_4] ?_; intro gb124 hg w4 hbox hb; replace HO0_3 := zA HO0_3 hb; replace HO1_0 := z0 (Kd.V_below (Kd.V_elderB (zV HO1_0.out) gb124 (Nat.le_of_eq hg.symm)) hb); have BK124 := z0 (hbox); have GW124 := z0 ((by rw [hg]; exact (by first | exact HK.out.1 | exact (show Kept w _ (fun k_ => P0_3_ k_) from zk HK.out).1) : w.heap.size ≤ gb124)); replace HK := z0 (Kept.below (zk HK.out) hb); have GE124 := zG hg HB; replace HB := zH HB hb; clear hb hbox hg) | ((with_reducible refine gd 3 ?_); refine zbx 79 #[.slice A1_0 l1_0.length c1_0, .int .i64 a1_1] ?_; intro gb125 hg w5 hbox hb; replace HO0_3 := zA HO0_3 hb; replace HO1_0 := z0 (Kd.V_below (Kd.V_elderB (zV HO1_0.out) gb125 (Nat.le_of_eq hg.symm)) hb); have BK125 := z0 (hbox); have GW125 := z0 ((by rw [hg]; exact (by first | exact HK.out.1 | exact (show Kept w _ (fun k_ => P0_3_ k_) from zk HK.out).1) : w.heap.size ≤ gb125)); replace HK := z0 (Kept.below (zk HK.out) hb); have GE125 := zG hg HB; replace HB := zH HB hb; have NB124_125 := zLt hg BK124; have NB125_124 := zGt hg BK124; replace BK124 := zK BK124 hb; clear hb hbox hg) | ((with_reducible refine gd 4 ?_); refine zbx 25 #[.string ⟨#[]⟩, .string ⟨#[]⟩, .string ⟨#[]⟩, .slice none 0 0, .int .i64 0] ?_; intro gb126 hg w6 hbox hb; replace HO0_3 := zA HO0_3 hb; replace HO1_0 := z0 (Kd.V_below (Kd.V_elderB (zV HO1_0.out) gb126 (Nat.le_of_eq hg.symm)) hb); have BK126 := z0 (hbox); have GW126 := z0 ((by rw [hg]; exact (by first | exact HK.out.1 | exact (show Kept w _ (fun k_ => P0_3_ k_) from zk HK.out).1) : w.heap.size ≤ gb126)); replace HK := z0 (Kept.below (zk HK.out) hb); have GE126 := zG hg HB; replace HB := zH HB hb; have NB124_126 := zLt hg BK124; have NB126_124 := zGt hg BK124; replace BK124 := zK BK124 hb; have NB125_126 := zLt hg BK125; have NB126_125 := zGt hg BK125; replace BK125 := zK BK125 hb; clear hb hbox hg) | ((with_reducible refine gd 10 ?_); refine Kd.N_lit k79 _ 79 ?hg (N' := 10) ?hd (xs := ([] : List (S79))) (inner := []) (ok := (fun k_ => ((P0_3_ k_ ∨ P1_0_ k_) ∨ w.heap.size ≤ k_) ∧ some k_ ≠ (.slice Ao3 l0_3.length co3 : Value).ownBlock ∧ k_ ≠ gb124 ∧ k_ ≠ gb125 ∧ k_ ≠ gb126)) (okp := (fun k_ => ((P0_3_ k_ ∨ P1_0_ k_) ∨ w.heap.size ≤ k_) ∧ some k_ ≠ (.slice Ao3 l0_3.length co3 : Value).ownBlock ∧ k_ ≠ gb124 ∧ k_ ≠ gb125 ∧ k_ ≠ gb126)) ?hr ?hp (fun _ hk => hk) ((show ∀ k_, w6.heap.size ≤ k_ → (fun k_ => ((P0_3_ k_ ∨ P1_0_ k_) ∨ w.heap.size ≤ k_) ∧ some k_ ≠ (.slice Ao3 l0_3.length co3 : Value).ownBlock ∧ k_ ≠ gb124 ∧ k_ ≠ gb125 ∧ k_ ≠ gb126) k_ from fun k_ hk => ⟨(.inr (Nat.le_trans (by first | exact HK.out.1 | exact (show Kept w _ (fun k_ => P0_3_ k_) from zk HK.out).1) hk)), Kd.fresh' (Kd.R_lt (zr HO0_3.out)) k_ hk, Kd.freshB (g := gb124) (o := .cells #[.string a0_0, .string a0_1, .string a0_2, .slice Ao3 l0_3.length co3, .int .i64 a0_4] 25 (0, 0)) (zl BK124.out) k_ hk, Kd.freshB (g := gb125) (o := .cells #[.slice A1_0 l1_0.length c1_0, .int .i64 a1_1] 79 (0, 0)) (zl BK125.out) k_ hk, Kd.freshB (g := gb126) (o := .cells #[.string ⟨#[]⟩, .string ⟨#[]⟩, .string ⟨#[]⟩, .slice none 0 0, .int .i64 0] 25 (0, 0)) (zl BK126.out) k_ hk⟩) _ (Nat.le_refl _)) (Below.refl _ _) (Nat.le_refl _) (by simp) ?_; (case hd => rfl); (case hg => rfl); (case hr => first | (go_simp; done) | (go_simp; rfl)); (case hp => exact (Reps.none _ _)); intro v128 w7 ho8 hb hg_ hnew_; clear hg_ hnew_; (first | rw [← Ny127.out] at ho8 | (simp only [Int.reduceToNat] at ho8; rw [← Ny127.out] at ho8)); replace HO0_3 := zA HO0_3 hb; replace HO1_0 := z0 (Kd.V_elder' (zV HO1_0.out) (Kd.N_base ho8) hb); have HO129 := z0 (Kd.N_lower ho8 (by first | exact HK.out.1 | exact (show Kept w _ (fun k_ => P0_3_ k_) from zk HK.out).1)); replace BK124 := zK BK124 hb; replace BK125 := zK BK125 hb; replace BK126 := zK BK126 hb; replace HK := z0 (Kept.below (zk HK.out) hb); replace HB := zH HB hb; clear hb ho8))
 go_loopg [6, 7] k (fun kq v6 v7 w' => ∃ (x6_1 : List (S79)) (x7_1 : ByteArray) (x125000_1 : ByteArray) (x125001_1 : ByteArray) (x125002_1 : ByteArray) (x125003_1 : List ByteArray) (x126000_1 : List ByteArray) (u125003 : Value) (u126000 : Value), v7 = .string x7_1 ∧ Aside0 (spec_l3Put.l0 kq x6_1 x7_1 x125000_1 x125001_1 x125002_1 x125003_1 a0_4 x126000_1 a1_1 = some (r1, r2, r3, r4, r5, r6)) ∧ Aside0 (kq ≤ k) ∧ Aside0 (Kd.N k79 79 w' w.heap.size (fun k_ => ((P0_3_ k_ ∨ P1_0_ k_) ∨ w.heap.size ≤ k_) ∧ some k_ ≠ (u125003 : Value).ownBlock ∧ k_ ≠ gb124 ∧ k_ ≠ gb125 ∧ k_ ≠ gb126) v6 x6_1) ∧ Aside0 (Kd.R Kd.string 9 w' w0.heap.size (fun k_ => (P0_3_ k_ ∨ w.heap.size ≤ k_)) u125003 x125003_1) ∧ Aside0 (Kd.V Kd.string 9 w' w0.heap.size (fun k_ => ((P0_3_ k_ ∨ P1_0_ k_) ∨ w.heap.size ≤ k_) ∧ some k_ ≠ (v6 : Value).ownBlock ∧ some k_ ≠ (u125003 : Value).ownBlock ∧ k_ ≠ gb124 ∧ k_ ≠ gb125 ∧ k_ ≠ gb126) u126000 x126000_1) ∧ Aside0 (w'.heap[gb124]? = some (.cells #[.string x125000_1, .string x125001_1, .string x125002_1, u125003, .int .i64 a0_4] 25 (0, 0))) ∧ Aside0 (w'.heap[gb125]? = some (.cells #[u126000, .int .i64 a1_1] 79 (0, 0))) ∧ Aside0 (w'.heap[gb126]? = some (.cells #[.string ⟨#[]⟩, .string ⟨#[]⟩, .string ⟨#[]⟩, (.slice none 0 0), .int .i64 0] 25 (0, 0))) ∧ Aside0 (Kept w w' (fun k_ => P0_3_ k_)) ∧ Aside0 (Below w0.heap.size w0 w'))
 case atStart => exact ⟨(y127), ((⟨#[49]⟩ : ByteArray)), (a0_0), (a0_1), (a0_2), (l0_3), (l1_0), (.slice Ao3 l0_3.length co3), (.slice A1_0 l1_0.length c1_0), zf, H', ⟨Nat.le_refl _⟩, ⟨zN HO129.out⟩, ⟨zr HO0_3.out⟩, ⟨Kd.V_mono (zV HO1_0.out) (fun _ hk => ⟨hk.1.1.1.1.1, ⟨hk.2, ⟨hk.1.1.1.1.2, ⟨hk.1.1.1.2, ⟨hk.1.1.2, hk.1.2⟩⟩⟩⟩⟩)⟩, ⟨zl BK124.out⟩, ⟨zl BK125.out⟩, ⟨zl BK126.out⟩, ⟨zk HK.out⟩, ⟨zb HB.out⟩⟩
 case round =>
  clear H'
  try clear c1
  try clear p2
  try clear c8
  obtain ⟨x6_1, x7_1, x125000_1, x125001_1, x125002_1, x125003_1, x126000_1, u125003, u126000, rfl, HA, HK1, HO_6, HO_125003, HO_126000, BK124, BK125, BK126, HK, HB⟩ := hrel
  cases gk with
  | zero => exact absurd HA.out (by simp [spec_l3Put.l0])
  | succ k1 =>
   have H := HA.out; clear HA; simp only [spec_l3Put.l0] at H
   by_cases c9 : (x126000_1.length : Int) > 0
   ·rw [if_pos c9] at H; have c9b0 : decide (0 < (x126000_1.length : Int)) = true := decide_eq_true c9; have c9b1 : decide (0 < x126000_1.length) = true := decide_eq_true (by omega); clear c9; replace H := zi H; obtain ⟨t130, A10, H⟩ := H; replace H := zn H; obtain ⟨c11, H⟩ := H; have c11b0 := decide_eq_true c11; have c11b1 : decide (0 < t130.length) = true := decide_eq_true (by omega); clear c11; replace H := zi H; obtain ⟨t134, A12, H⟩ := H; replace H := zn H; obtain ⟨c13, H⟩ := H; have c13b0 := eq_true c13; have c13b1 := decide_eq_true c13
    try have c13b2 : (9223372036854775807 < x125000_1.size + t134.size) = False := eq_false (Nat.not_lt.2 c13)
    replace H := zn H; obtain ⟨c14, H⟩ := H; have c14b0 := eq_true c14; have c14b1 := decide_eq_true c14
    try have c14b2 : (9223372036854775807 < x125002_1.size + x7_1.size) = False := eq_false (Nat.not_lt.2 c14)
    have hnb15 := NB125_124.out; have hnc15 := NB124_125.out; have hnb16 := NB125_126.out; have hnc16 := NB126_125.out; have hcz17 := zc2 BK125.out; obtain ⟨Ao18, co18, eo18⟩ := Kd.V_slice HO_126000.out; subst eo18
    try go_wp2_with (first | ((with_reducible refine gc 113 ?_); refine zL (some 16) Try.func113 #[.agg #[.slice Ao18 x126000_1.length co18, .int .i64 a1_1]] ?_; (with_reducible refine (spec_l3Group.calls k1 _ _ x126000_1 a1_1 t130 _ (zC ((Kd.V_reads' HO_126000.out).2.2)) ((Kd.V_reads' HO_126000.out).2.1) A10.out).mono ?_); rintro e w19 ⟨v131, rfl, ho0, hb⟩; refine zv ?_; replace HO_6 := z0 (Kd.N_elder' (zN HO_6.out) (Kd.R_base ho0) hb); replace HO_126000 := z0 (Kd.V_elder' (zV HO_126000.out) (Kd.R_base ho0) hb); have HO132 := z0 (Kd.R_lower (Kd.R_new' (Kd.R_newM (M := fun k_ => (P0_3_ k_ ∨ w.heap.size ≤ k_)) ho0 (by first | exact HK.out.1 | exact (show Kept w _ (fun k_ => P0_3_ k_) from zk HK.out).1) (fun k_ h_ => .inr h_)) (Kd.R_lt (zr HO_125003.out))) (below_size (zb HB.out))); replace HO_125003 := z0 (Kd.R_elder' (zr HO_125003.out) (Kd.R_base ho0) hb); replace BK124 := zK BK124 hb; replace BK125 := zK BK125 hb; replace BK126 := zK BK126 hb; replace HK := z0 (Kept.below (zk HK.out) hb); replace HB := zH HB hb; (try clear hb ho0)))
    replace HO_6 := z0 (Kd.N_drew HO_6.out); replace HO_125003 := z0 (Kd.R_drew HO_125003.out); replace HO_126000 := z0 (Kd.V_drew HO_126000.out); replace HO132 := z0 (Kd.R_drew HO132.out); replace BK124 := z0 (blk_drew BK124.out); replace BK125 := z0 (blk_drew BK125.out); replace BK126 := z0 (blk_drew BK126.out); replace HK := z0 (Kept.drew HK.out); replace HB := z0 (below_drew1 HB.out); obtain ⟨Ao21, co21, eo21⟩ := Kd.R_slice HO132.out; (first | subst eo21 | (injection eo21 with f1_ f2_ f3_; have f4_ := f1_.symm; have f5_ := f3_.symm; clear f1_ f2_ f3_; subst f4_; subst f5_)); have p133 : 0 ≤ (0 : Int) := (by omega); have q133 : 0 < (t130.length : Int) := zd; obtain ⟨ad133, e133, hx133_0⟩ := Kd.at_string (Kd.R_reads' HO132.out).2.2 0 p133 q133; cases e133; have qi133 : (0 < t130.length) = True := eq_true (by omega); (try rw [show ((0 : Int)).toNat = 0 from rfl] at hx133_0); (try rw [Addr.add_zero'] at hx133_0); replace p133 := eq_true p133; replace q133 := eq_true q133; refine start_ (n := 7) (S := fun w' => w'.cell? ⟨gb125, 0, none⟩ = some (.slice Ao18 x126000_1.length co18) ∧ w'.cell? ⟨gb125, 1, none⟩ = some (.int .i64 a1_1) ∧ w'.cell? ad133 = some (.string (rdOf ByteArray.empty t130 0))) (ds := []) (fb 7 0) (by kernel_rfl) rfl rfl (zd2 BK125.out hx133_0) (fun hHeld => ?_); generalize w19.drew = w20 at HO_6 HO_125003 HO_126000 HO132 BK124 BK125 BK126 HK HB hx133_0 hHeld ⊢; refine zu 0 1 ?_; refine zu 1 3 ?_; refine zu 3 11 ?_; refine zx 2 15 hHeld ?_; refine zx 4 31 hHeld ?_; refine zone 5 63 (fun K hK => ?_); refine zG2 Try.func107 #[.string (rdOf ByteArray.empty t130 0), .int .i64 a1_1] ?_
    with_reducible refine (spec_l3Letter.calls (rdOf ByteArray.empty t130 0) a1_1 t134 _ A12.out).mono ?_
    rintro e w22 ⟨rfl, hb⟩; have HS2_ := (hb.cell (World.block_lt_of_cell? _ _ (hHeld.2.2))).trans (hHeld.2.2); refine ⟨_, rfl, ?_⟩; replace HO_6 := z0 (Kd.N_below (zN HO_6.out) hb); replace HO_125003 := zA HO_125003 hb; replace HO_126000 := z0 (Kd.V_below (zV HO_126000.out) hb); replace HO132 := zA HO132 hb; replace BK124 := zK BK124 hb; replace BK125 := zK BK125 hb; replace BK126 := zK BK126 hb; replace HK := z0 (Kept.below (zk HK.out) hb); replace HB := zH HB hb; (try clear hb); refine hK.out _ _ (zd2 BK125.out HS2_) (fun hHeld => ?_); clear hK K; refine znm ?_; refine zu 6 127 ?_; refine done_ (by kernel_rfl) ?_; have hnb23 := NB124_126.out; have hnc23 := NB126_124.out; have hcz24 := zc5 BK124.out
    go_upto_if 35 with (fail)
    by_cases c25 : (t130.length : Int) > 1
    ·rw [if_pos c25] at H; have c25b0 : decide (1 < (t130.length : Int)) = true := decide_eq_true c25; have c25b1 : decide (1 < t130.length) = true := decide_eq_true (by omega); clear c25; (first | rw [c25b0] | (simp only [i64_w, i32_w]; rw [c25b0]) | simp only [*, Bool.not_true, Bool.not_false] | skip); replace H := zn H; obtain ⟨c26, H⟩ := H; have c26b0 := eq_true c26; have c26b1 := decide_eq_true c26
     try have c26b2 : (9223372036854775807 < x125001_1.size + 1) = False := eq_false (Nat.not_lt.2 c26)
     replace H := zn H; obtain ⟨c27, H⟩ := H; have LMc27 := z0 c27; clear c27; obtain ⟨y135, hy135⟩ : ∃ y_ : List (S79), y_ = (x6_1 ++ [(⟨t130, wrap64 (a1_1 + 1)⟩ : S79)]) := ⟨_, rfl⟩; replace H : (if 0 ≤ (t130.length : Int) then (if (t130.length : Int) ≤ (x126000_1.length : Int) then (spec_l3Put.l0 k1 y135 (⟨#[48]⟩ : ByteArray) (x125000_1 ++ t134) (x125001_1 ++ (⟨#[49]⟩ : ByteArray)) (x125002_1 ++ x7_1) x125003_1 a0_4 (x126000_1.drop ((t130.length : Int) : Int).toNat) a1_1) else (none)) else (none)) = some (r1, r2, r3, r4, r5, r6) := zH2 hy135 H; have Ny135 := z0 hy135; clear hy135; replace H := zn H; obtain ⟨c28, H⟩ := H; have c28b0 := eq_true c28; have c28b1 := decide_eq_true c28; clear c28; replace H := zn H; obtain ⟨c29, H⟩ := H; have c29b0 := eq_true c29; have c29b1 := decide_eq_true c29; clear c29; obtain ⟨y138, hy138⟩ : ∃ y_ : List ByteArray, y_ = (x126000_1.drop ((t130.length : Int) : Int).toNat) := ⟨_, rfl⟩; replace H : (spec_l3Put.l0 k1 y135 (⟨#[48]⟩ : ByteArray) (x125000_1 ++ t134) (x125001_1 ++ (⟨#[49]⟩ : ByteArray)) (x125002_1 ++ x7_1) x125003_1 a0_4 y138 a1_1) = some (r1, r2, r3, r4, r5, r6) := zH2 hy138 H; have Ny138 := z0 hy138; clear hy138; have H' := z0 H; clear H; have hnb30 := NB124_125.out; have hnc30 := NB125_124.out; have hnb31 := NB124_126.out; have hnc31 := NB126_124.out; have hcz32 := zc5 BK124.out
     go_wp2_with (first | ((with_reducible refine gs 9 39 ?_); refine store_event (t := 9) (p := 39) (v := ?vo_w33) (w1 := (((w22.setCell ⟨gb124, 0, none⟩ (.string (x125000_1 ++ t134))).setCell ⟨gb124, 2, none⟩ (.string (x125002_1 ++ x7_1))).setCell ⟨gb124, 1, none⟩ (.string (x125001_1 ++ (⟨#[49]⟩ : ByteArray))))) ?hg ?ho ?hn ?hr ?_; (case ho => rfl); (case hg => rfl); (case hn => rfl); (case hr => first | (go_simp; done) | (go_simp; rfl)); intro w33 hw; replace HO_6 : Aside0 (Kd.N k79 79 w33 w.heap.size (fun k_ => ((P0_3_ k_ ∨ P1_0_ k_) ∨ w.heap.size ≤ k_) ∧ some k_ ≠ (u125003 : Value).ownBlock ∧ some k_ ≠ (.slice (some ad133) t130.length co21 : Value).ownBlock ∧ k_ ≠ gb124 ∧ k_ ≠ gb125 ∧ k_ ≠ gb126) u6 x6_1) := ⟨(by rw [hw]; exact (Kd.N_mono (zNf (Kd.N_mono HO_6.out (fun k_ hk => (⟨hk, hk.1.2.2.1⟩ : _ ∧ k_ ≠ gb124)))) (fun _ hk => ⟨hk.1.1.1, ⟨hk.1.1.2.1, ⟨hk.1.2, ⟨hk.1.1.2.2.1, ⟨hk.1.1.2.2.2.1, hk.1.1.2.2.2.2⟩⟩⟩⟩⟩)))⟩; replace HO_125003 : Aside0 (Kd.R Kd.string 9 w33 w0.heap.size (fun k_ => (P0_3_ k_ ∨ w.heap.size ≤ k_) ∧ some k_ ≠ (.slice (some ad133) t130.length co21 : Value).ownBlock) u125003 x125003_1) := ⟨(by rw [hw]; exact (Kd.R_mono (zt HO_125003.out BK124.out) (fun _ hk => ⟨hk.1.1, hk.1.2⟩)))⟩; replace HO_126000 : Aside0 (Kd.V Kd.string 9 w33 w0.heap.size (fun k_ => ((P0_3_ k_ ∨ P1_0_ k_) ∨ w.heap.size ≤ k_) ∧ some k_ ≠ (u6 : Value).ownBlock ∧ some k_ ≠ (u125003 : Value).ownBlock ∧ some k_ ≠ (.slice (some ad133) t130.length co21 : Value).ownBlock ∧ k_ ≠ gb124 ∧ k_ ≠ gb125 ∧ k_ ≠ gb126) (.slice Ao18 x126000_1.length co18) x126000_1) := ⟨(by rw [hw]; exact (Kd.V_mono (zVf (Kd.V_mono HO_126000.out (fun k_ hk => (⟨hk, hk.1.2.2.2.1⟩ : _ ∧ k_ ≠ gb124)))) (fun _ hk => ⟨hk.1.1.1, ⟨hk.1.1.2.1, ⟨hk.1.1.2.2.1, ⟨hk.1.2, ⟨hk.1.1.2.2.2.1, ⟨hk.1.1.2.2.2.2.1, hk.1.1.2.2.2.2.2⟩⟩⟩⟩⟩⟩)))⟩; replace HO132 : Aside0 (Kd.R Kd.string 9 w33 w0.heap.size (fun k_ => (P0_3_ k_ ∨ w.heap.size ≤ k_) ∧ some k_ ≠ (u125003 : Value).ownBlock) (.slice (some ad133) t130.length co21) t130) := ⟨(by rw [hw]; exact (Kd.R_mono (zt HO132.out BK124.out) (fun _ hk => ⟨hk.1.1.1, hk.1.2⟩)))⟩; replace BK124 : Aside0 (w33.heap[gb124]? = some (.cells #[.string (x125000_1 ++ t134), .string (x125001_1 ++ (⟨#[49]⟩ : ByteArray)), .string (x125002_1 ++ x7_1), u125003, .int .i64 a0_4] 25 (0, 0))) := ⟨(by rw [hw]; exact (zp BK124.out))⟩; replace BK125 : Aside0 (w33.heap[gb125]? = some (.cells #[.slice Ao18 x126000_1.length co18, .int .i64 a1_1] 79 (0, 0))) := ⟨(by rw [hw]; exact (zy BK125.out))⟩; replace BK126 : Aside0 (w33.heap[gb126]? = some (.cells #[.string ⟨#[]⟩, .string ⟨#[]⟩, .string ⟨#[]⟩, .slice none 0 0, .int .i64 0] 25 (0, 0))) := ⟨(by rw [hw]; exact (zy BK126.out))⟩; replace HK : Aside0 (Kept w w33 (fun k_ => P0_3_ k_)) := ⟨(by rw [hw]; exact (zk HK.out))⟩; replace HB : Aside0 (Below w0.heap.size w0 w33) := ⟨(by rw [hw]; exact (zb HB.out))⟩; clear hw; have hnb34 := NB125_126.out; have hnc34 := NB126_125.out; have hcz35 := zc2 BK125.out) | ((with_reducible refine gate_builtin (b := .append) (xs := #[.tmp 40, .tmp 46]) rfl ?_); at_builtin; refine Kd.N_append k79 w.heap.size rfl (.tmp 40) (.tmp 46) 80 79 (.agg #[(.slice none 0 0), (.int .i64 0)]) 32 rfl Try.underlying80 info79 rfl (by decide) (by omega) u6 x6_1 (⟨t130, wrap64 (a1_1 + 1)⟩ : S79) [.slice (some ad133) t130.length co21, .int .i64 (wrap64 (a1_1 + 1))] (fun k_ => ((P0_3_ k_ ∨ P1_0_ k_) ∨ w.heap.size ≤ k_) ∧ some k_ ≠ (u125003 : Value).ownBlock ∧ k_ ≠ gb124 ∧ k_ ≠ gb125 ∧ k_ ≠ gb126) (fun k_ => ((fun k_ => ((P0_3_ k_ ∨ P1_0_ k_) ∨ w.heap.size ≤ k_) ∧ some k_ ≠ (u125003 : Value).ownBlock ∧ k_ ≠ gb124 ∧ k_ ≠ gb125 ∧ k_ ≠ gb126)) k_ ∧ some k_ ≠ (u6 : Value).ownBlock) rfl rfl ?aP (fun _ hk => hk) ?aF ?aO (Below.refl _ _) ?aS ?aL ?_; (case aP => exact (k79_mkF _ _ (⟨t130, wrap64 (a1_1 + 1)⟩ : S79) (Kd.R_reads' (Kd.R_mono (ok' := (fun k_ => ((fun k_ => ((P0_3_ k_ ∨ P1_0_ k_) ∨ w.heap.size ≤ k_) ∧ some k_ ≠ (u125003 : Value).ownBlock ∧ k_ ≠ gb124 ∧ k_ ≠ gb125 ∧ k_ ≠ gb126)) k_ ∧ some k_ ≠ (u6 : Value).ownBlock)) (Kd.R_types (Kd.R_types (Kd.R_types (Kd.R_apart' (HO132.out) (Kd.N_typed HO_6.out) (by decide)) BK124.out (by decide)) BK125.out (by decide)) BK126.out (by decide)) (fun k_ hk => ⟨⟨(Or.imp_left (fun h_ => (.inl h_)) (hk.1.1.1.1.1)), ⟨hk.1.1.1.1.2, ⟨hk.1.1.2, ⟨hk.1.2, hk.2⟩⟩⟩⟩, hk.1.1.1.2⟩))).2.1 (Kd.R_F (Kd.R_mono (ok' := (fun k_ => ((fun k_ => ((P0_3_ k_ ∨ P1_0_ k_) ∨ w.heap.size ≤ k_) ∧ some k_ ≠ (u125003 : Value).ownBlock ∧ k_ ≠ gb124 ∧ k_ ≠ gb125 ∧ k_ ≠ gb126)) k_ ∧ some k_ ≠ (u6 : Value).ownBlock)) (Kd.R_types (Kd.R_types (Kd.R_types (Kd.R_apart' (HO132.out) (Kd.N_typed HO_6.out) (by decide)) BK124.out (by decide)) BK125.out (by decide)) BK126.out (by decide)) (fun k_ hk => ⟨⟨(Or.imp_left (fun h_ => (.inl h_)) (hk.1.1.1.1.1)), ⟨hk.1.1.1.1.2, ⟨hk.1.1.2, ⟨hk.1.2, hk.2⟩⟩⟩⟩, hk.1.1.1.2⟩))))); (case aF => exact (fun k_ hk => ⟨(.inr (Nat.le_trans (by first | exact HK.out.1 | exact (show Kept w _ (fun k_ => P0_3_ k_) from zk HK.out).1) hk)), Kd.fresh' (Kd.R_lt (zr HO_125003.out)) k_ hk, Kd.freshB (g := gb124) (o := .cells #[.string (x125000_1 ++ t134), .string (x125001_1 ++ (⟨#[49]⟩ : ByteArray)), .string (x125002_1 ++ x7_1), u125003, .int .i64 a0_4] 25 (0, 0)) (zl BK124.out) k_ hk, Kd.freshB (g := gb125) (o := .cells #[.slice Ao18 x126000_1.length co18, .int .i64 a1_1] 79 (0, 0)) (zl BK125.out) k_ hk, Kd.freshB (g := gb126) (o := .cells #[.string ⟨#[]⟩, .string ⟨#[]⟩, .string ⟨#[]⟩, .slice none 0 0, .int .i64 0] 25 (0, 0)) (zl BK126.out) k_ hk⟩)); (case aO => exact (Kd.N_mono (zN HO_6.out) (fun _ hk => ⟨hk.1, ⟨hk.2.1, ⟨hk.2.2.2.1, ⟨hk.2.2.2.2.1, hk.2.2.2.2.2⟩⟩⟩⟩))); (case aS => exact (by first | exact HK.out.1 | exact (show Kept w _ (fun k_ => P0_3_ k_) from zk HK.out).1)); (case aL => have := LMc27.out; omega); intro v136 w36 ho hb hg hat; rw [← Ny135.out] at ho; replace HO_125003 := z0 (Kd.R_over' (zr HO_125003.out) (Kd.N_typed (zN HO_6.out)) (by decide) hg); replace HO_126000 := z0 (Kd.V_afterv (ok := (fun k_ => ((P0_3_ k_ ∨ P1_0_ k_) ∨ w.heap.size ≤ k_) ∧ some k_ ≠ (u125003 : Value).ownBlock ∧ some k_ ≠ (.slice (some ad133) t130.length co21 : Value).ownBlock ∧ k_ ≠ gb124 ∧ k_ ≠ gb125 ∧ k_ ≠ gb126)) (Kd.V_mono (zV HO_126000.out) (fun _ hk => ⟨⟨hk.1, ⟨hk.2.2.1, ⟨hk.2.2.2.1, ⟨hk.2.2.2.2.1, ⟨hk.2.2.2.2.2.1, hk.2.2.2.2.2.2⟩⟩⟩⟩⟩, hk.2.1⟩)) hg hat); replace BK124 := z0 (blk_grown (zl BK124.out) hg (Kd.N_ne HO_6.out BK124.out (by decide))); replace BK125 := z0 (blk_grown (zl BK125.out) hg (Kd.N_away HO_6.out (fun _ hk => hk.2.2.2.2.1))); replace BK126 := z0 (blk_grown (zl BK126.out) hg (Kd.N_ne HO_6.out BK126.out (by decide))); replace HB := z0 (below_weaken (zb HB.out) HW0.out hb); replace HK := z0 (Kept.of_grown (S := (fun k_ => P0_3_ k_)) hg (zk HK.out) (fun k_ e_ => .inr (Kd.N_base HO_6.out k_ e_))); have HO137 := z0 (ho); clear HO_6 HO132; clear ho hb hg hat; have hcz37 := zc2 BK125.out; have q38 : ((t130.length : Int) : Int) ≤ ((x126000_1.length : Int) : Int) := zd; obtain ⟨i038, hi038, _, hsz38, _⟩ := info_parts info9; have hroom38 : x126000_1.length ≤ co18 := (Kd.V_reads' HO_126000.out).2.1; have hC38 : Kd.F Kd.string _ _ Ao18 x126000_1.length x126000_1 := (Kd.V_at (base := w0.heap.size) HO_126000.out).2.2; have q038 : (0 : Int) ≤ ((t130.length : Int) : Int) := zd; have hcut38 := cut_from (P := Try.prog) 23 9 .i64 Try.underlying23 hi038 1 hsz38 Ao18 x126000_1.length co18 (t130.length : Int) q038 q38; have hr38 := Kd.F_cut (m := ((t130.length : Int) : Int).toNat) (c := co18) hC38 (by omega) hroom38; obtain ⟨A38, hA38⟩ : ∃ A1, A1 = (if co18 = ((t130.length : Int) : Int).toNat then Ao18 else (Ao18 : Option Addr).map (·.add (((t130.length : Int) : Int).toNat * 1))) := ⟨_, rfl⟩; obtain ⟨c38, hc38⟩ : ∃ c1, c1 = co18 - ((t130.length : Int) : Int).toNat := ⟨_, rfl⟩; have hy38 : y138.length = x126000_1.length - ((t130.length : Int) : Int).toNat := (by rw [Ny138.out, List.length_drop] <;> omega); rw [show (x126000_1).drop ((t130.length : Int) : Int).toNat = y138 from Ny138.out.symm] at hr38; replace hr38 : Kd.F Kd.string _ _ A38 y138.length y138 := (by rw [hA38]; exact hr38); rw [← hy38, ← hA38, ← hc38] at hcut38; have HO142 := z0 (show Kd.V Kd.string 9 _ w0.heap.size _ (.slice A38 y138.length c38) y138 from Kd.V_mk (by rw [hy38, hc38]; exact Nat.sub_le_sub_right hroom38 _) hr38); have HC142 := z0 (show y138.length ≤ c38 from by rw [hy38, hc38]; exact Nat.sub_le_sub_right hroom38 _); clear hr38 hC38 hroom38 hi038 hsz38 hc38; have KY38 := z0 hy38; have KA38 := z0 hA38; clear hy38 hA38; replace q38 := eq_true q38))
     go_roundg k1
     case measure => have := HK1.out; omega
     case rel => exact ⟨(y135), ((⟨#[48]⟩ : ByteArray)), (x125000_1 ++ t134), (x125001_1 ++ (⟨#[49]⟩ : ByteArray)), (x125002_1 ++ x7_1), (x125003_1), (y138), (u125003), (.slice A38 y138.length c38), zf, H', ⟨by have := HK1.out; omega⟩, ⟨Kd.N_mono (zNf (Kd.N_mono HO137.out (fun k_ hk => (⟨hk, hk.2.2.2.1⟩ : _ ∧ k_ ≠ gb125)))) (fun _ hk => ⟨hk.1.1, ⟨hk.1.2.1, ⟨hk.1.2.2.1, ⟨hk.1.2.2.2.1, hk.1.2.2.2.2⟩⟩⟩⟩)⟩, ⟨Kd.R_mono (zt HO_125003.out BK125.out) (fun _ hk => hk.1.1)⟩, ⟨Kd.V_mono (zVf (Kd.V_mono HO142.out (fun k_ hk => (⟨hk, hk.1.2.2.2.2.1⟩ : _ ∧ k_ ≠ gb125)))) (fun _ hk => ⟨hk.1.1.1, ⟨hk.1.2, ⟨hk.1.1.2.1, ⟨hk.1.1.2.2.2.1, ⟨hk.1.1.2.2.2.2.1, hk.1.1.2.2.2.2.2⟩⟩⟩⟩⟩)⟩, ⟨zy BK124.out⟩, ⟨zp BK125.out⟩, ⟨zy BK126.out⟩, ⟨zk HK.out⟩, ⟨zb HB.out⟩⟩
    ·rw [if_neg c25] at H; have c25b0 : decide (1 < (t130.length : Int)) = false := decide_eq_false c25; have c25b1 : decide (1 < t130.length) = false := decide_eq_false (by omega); clear c25; (first | rw [c25b0] | (simp only [i64_w, i32_w]; rw [c25b0]) | simp only [*, Bool.not_true, Bool.not_false] | skip); replace H := zn H; obtain ⟨c39, H⟩ := H; have c39b0 := eq_true c39; have c39b1 := decide_eq_true c39
     try have c39b2 : (9223372036854775807 < x125001_1.size + 1) = False := eq_false (Nat.not_lt.2 c39)
     replace H := zi H; obtain ⟨t144, A40, H⟩ := H; replace H := zn H; obtain ⟨c41, H⟩ := H; have LMc41 := z0 c41; clear c41; obtain ⟨y145, hy145⟩ : ∃ y_ : List ByteArray, y_ = (x125003_1 ++ [t144]) := ⟨_, rfl⟩; replace H : (if 0 ≤ (t130.length : Int) then (if (t130.length : Int) ≤ (x126000_1.length : Int) then (spec_l3Put.l0 k1 x6_1 (⟨#[48]⟩ : ByteArray) (x125000_1 ++ t134) (x125001_1 ++ (⟨#[48]⟩ : ByteArray)) (x125002_1 ++ x7_1) y145 a0_4 (x126000_1.drop ((t130.length : Int) : Int).toNat) a1_1) else (none)) else (none)) = some (r1, r2, r3, r4, r5, r6) := zH2 hy145 H; have Ny145 := z0 hy145; clear hy145; replace H := zn H; obtain ⟨c42, H⟩ := H; have c42b0 := eq_true c42; have c42b1 := decide_eq_true c42; clear c42; replace H := zn H; obtain ⟨c43, H⟩ := H; have c43b0 := eq_true c43; have c43b1 := decide_eq_true c43; clear c43; obtain ⟨y148, hy148⟩ : ∃ y_ : List ByteArray, y_ = (x126000_1.drop ((t130.length : Int) : Int).toNat) := ⟨_, rfl⟩; replace H : (spec_l3Put.l0 k1 x6_1 (⟨#[48]⟩ : ByteArray) (x125000_1 ++ t134) (x125001_1 ++ (⟨#[48]⟩ : ByteArray)) (x125002_1 ++ x7_1) y145 a0_4 y148 a1_1) = some (r1, r2, r3, r4, r5, r6) := zH2 hy148 H; have Ny148 := z0 hy148; clear hy148; have H' := z0 H; clear H; have hnb44 := NB124_125.out; have hnc44 := NB125_124.out; have hnb45 := NB124_126.out; have hnc45 := NB126_124.out; have hcz46 := zc5 BK124.out
     try go_wp2
     have n0_ : Aside0 (Kd.N k79 79 (((w22.setCell ⟨gb124, 0, none⟩ (.string (x125000_1 ++ t134))).setCell ⟨gb124, 2, none⟩ (.string (x125002_1 ++ x7_1))).setCell ⟨gb124, 1, none⟩ (.string (x125001_1 ++ (⟨#[48]⟩ : ByteArray)))) w.heap.size (fun k_ => ((P0_3_ k_ ∨ P1_0_ k_) ∨ w.heap.size ≤ k_) ∧ some k_ ≠ (u125003 : Value).ownBlock ∧ some k_ ≠ (.slice (some ad133) t130.length co21 : Value).ownBlock ∧ k_ ≠ gb124 ∧ k_ ≠ gb125 ∧ k_ ≠ gb126) u6 x6_1) := ⟨Kd.N_mono (zNf (Kd.N_mono HO_6.out (fun k_ hk => (⟨hk, hk.1.2.2.1⟩ : _ ∧ k_ ≠ gb124)))) (fun _ hk => ⟨hk.1.1.1, ⟨hk.1.1.2.1, ⟨hk.1.2, ⟨hk.1.1.2.2.1, ⟨hk.1.1.2.2.2.1, hk.1.1.2.2.2.2⟩⟩⟩⟩⟩)⟩; have n1_ : Aside0 (Kd.R Kd.string 9 (((w22.setCell ⟨gb124, 0, none⟩ (.string (x125000_1 ++ t134))).setCell ⟨gb124, 2, none⟩ (.string (x125002_1 ++ x7_1))).setCell ⟨gb124, 1, none⟩ (.string (x125001_1 ++ (⟨#[48]⟩ : ByteArray)))) w0.heap.size (fun k_ => (P0_3_ k_ ∨ w.heap.size ≤ k_) ∧ some k_ ≠ (.slice (some ad133) t130.length co21 : Value).ownBlock) u125003 x125003_1) := ⟨Kd.R_mono (zt HO_125003.out BK124.out) (fun _ hk => ⟨hk.1.1, hk.1.2⟩)⟩; have n2_ : Aside0 (Kd.V Kd.string 9 (((w22.setCell ⟨gb124, 0, none⟩ (.string (x125000_1 ++ t134))).setCell ⟨gb124, 2, none⟩ (.string (x125002_1 ++ x7_1))).setCell ⟨gb124, 1, none⟩ (.string (x125001_1 ++ (⟨#[48]⟩ : ByteArray)))) w0.heap.size (fun k_ => ((P0_3_ k_ ∨ P1_0_ k_) ∨ w.heap.size ≤ k_) ∧ some k_ ≠ (u6 : Value).ownBlock ∧ some k_ ≠ (u125003 : Value).ownBlock ∧ some k_ ≠ (.slice (some ad133) t130.length co21 : Value).ownBlock ∧ k_ ≠ gb124 ∧ k_ ≠ gb125 ∧ k_ ≠ gb126) (.slice Ao18 x126000_1.length co18) x126000_1) := ⟨Kd.V_mono (zVf (Kd.V_mono HO_126000.out (fun k_ hk => (⟨hk, hk.1.2.2.2.1⟩ : _ ∧ k_ ≠ gb124)))) (fun _ hk => ⟨hk.1.1.1, ⟨hk.1.1.2.1, ⟨hk.1.1.2.2.1, ⟨hk.1.2, ⟨hk.1.1.2.2.2.1, ⟨hk.1.1.2.2.2.2.1, hk.1.1.2.2.2.2.2⟩⟩⟩⟩⟩⟩)⟩; have n3_ : Aside0 (Kd.R Kd.string 9 (((w22.setCell ⟨gb124, 0, none⟩ (.string (x125000_1 ++ t134))).setCell ⟨gb124, 2, none⟩ (.string (x125002_1 ++ x7_1))).setCell ⟨gb124, 1, none⟩ (.string (x125001_1 ++ (⟨#[48]⟩ : ByteArray)))) w0.heap.size (fun k_ => (P0_3_ k_ ∨ w.heap.size ≤ k_) ∧ some k_ ≠ (u125003 : Value).ownBlock) (.slice (some ad133) t130.length co21) t130) := ⟨Kd.R_mono (zt HO132.out BK124.out) (fun _ hk => ⟨hk.1.1.1, hk.1.2⟩)⟩; have n4_ : Aside0 ((((w22.setCell ⟨gb124, 0, none⟩ (.string (x125000_1 ++ t134))).setCell ⟨gb124, 2, none⟩ (.string (x125002_1 ++ x7_1))).setCell ⟨gb124, 1, none⟩ (.string (x125001_1 ++ (⟨#[48]⟩ : ByteArray)))).heap[gb124]? = some (.cells #[.string (x125000_1 ++ t134), .string (x125001_1 ++ (⟨#[48]⟩ : ByteArray)), .string (x125002_1 ++ x7_1), u125003, .int .i64 a0_4] 25 (0, 0))) := ⟨zp BK124.out⟩; have n5_ : Aside0 ((((w22.setCell ⟨gb124, 0, none⟩ (.string (x125000_1 ++ t134))).setCell ⟨gb124, 2, none⟩ (.string (x125002_1 ++ x7_1))).setCell ⟨gb124, 1, none⟩ (.string (x125001_1 ++ (⟨#[48]⟩ : ByteArray)))).heap[gb125]? = some (.cells #[.slice Ao18 x126000_1.length co18, .int .i64 a1_1] 79 (0, 0))) := ⟨zy BK125.out⟩; have n6_ : Aside0 ((((w22.setCell ⟨gb124, 0, none⟩ (.string (x125000_1 ++ t134))).setCell ⟨gb124, 2, none⟩ (.string (x125002_1 ++ x7_1))).setCell ⟨gb124, 1, none⟩ (.string (x125001_1 ++ (⟨#[48]⟩ : ByteArray)))).heap[gb126]? = some (.cells #[.string ⟨#[]⟩, .string ⟨#[]⟩, .string ⟨#[]⟩, .slice none 0 0, .int .i64 0] 25 (0, 0))) := ⟨zy BK126.out⟩; have n7_ : Aside0 (Kept w (((w22.setCell ⟨gb124, 0, none⟩ (.string (x125000_1 ++ t134))).setCell ⟨gb124, 2, none⟩ (.string (x125002_1 ++ x7_1))).setCell ⟨gb124, 1, none⟩ (.string (x125001_1 ++ (⟨#[48]⟩ : ByteArray)))) (fun k_ => P0_3_ k_)) := ⟨zk HK.out⟩; have n8_ : Aside0 (Below w0.heap.size w0 (((w22.setCell ⟨gb124, 0, none⟩ (.string (x125000_1 ++ t134))).setCell ⟨gb124, 2, none⟩ (.string (x125002_1 ++ x7_1))).setCell ⟨gb124, 1, none⟩ (.string (x125001_1 ++ (⟨#[48]⟩ : ByteArray))))) := ⟨zb HB.out⟩; (try clear HO_6); (try clear HO_125003); (try clear HO_126000); (try clear HO132); (try clear BK124); (try clear BK125); (try clear BK126); (try clear HK); (try clear HB); generalize (((w22.setCell ⟨gb124, 0, none⟩ (.string (x125000_1 ++ t134))).setCell ⟨gb124, 2, none⟩ (.string (x125002_1 ++ x7_1))).setCell ⟨gb124, 1, none⟩ (.string (x125001_1 ++ (⟨#[48]⟩ : ByteArray)))) = w47 at n0_ n1_ n2_ n3_ n4_ n5_ n6_ n7_ n8_ ⊢; have HO_6 := n0_; have HO_125003 := n1_; have HO_126000 := n2_; have HO132 := n3_; have BK124 := n4_; have BK125 := n5_; have BK126 := n6_; have HK := n7_; have HB := n8_; clear n0_ n1_ n2_ n3_ n4_ n5_ n6_ n7_ n8_; replace HO_6 := z0 (Kd.N_drew HO_6.out); replace HO_125003 := z0 (Kd.R_drew HO_125003.out); replace HO_126000 := z0 (Kd.V_drew HO_126000.out); replace HO132 := z0 (Kd.R_drew HO132.out); replace BK124 := z0 (blk_drew BK124.out); replace BK125 := z0 (blk_drew BK125.out); replace BK126 := z0 (blk_drew BK126.out); replace HK := z0 (Kept.drew HK.out); replace HB := z0 (below_drew1 HB.out); have p143 : 0 ≤ (0 : Int) := (by omega); have q143 : 0 < (t130.length : Int) := zd; obtain ⟨ad143, e143, hx143_0⟩ := Kd.at_string (Kd.R_reads' HO132.out).2.2 0 p143 q143; obtain rfl : ad133 = ad143 := (by injection e143); have qi143 : (0 < t130.length) = True := eq_true (by omega); (try rw [show ((0 : Int)).toNat = 0 from rfl] at hx143_0); (try rw [Addr.add_zero'] at hx143_0); replace p143 := eq_true p143; replace q143 := eq_true q143; refine start_ (n := 15) (S := fun w' => w'.cell? ⟨gb124, 0, none⟩ = some (.string (x125000_1 ++ t134)) ∧ w'.cell? ⟨gb124, 1, none⟩ = some (.string (x125001_1 ++ (⟨#[48]⟩ : ByteArray))) ∧ w'.cell? ⟨gb124, 2, none⟩ = some (.string (x125002_1 ++ x7_1)) ∧ w'.cell? ⟨gb124, 3, none⟩ = some (u125003) ∧ w'.cell? ⟨gb124, 4, none⟩ = some (.int .i64 a0_4) ∧ w'.cell? ⟨gb125, 0, none⟩ = some (.slice Ao18 x126000_1.length co18) ∧ w'.cell? ⟨gb125, 1, none⟩ = some (.int .i64 a1_1) ∧ w'.cell? ad133 = some (.string (rdOf ByteArray.empty t130 0))) (ds := [12, 14]) (fb 15 0) (by kernel_rfl) rfl rfl (zd5 BK124.out ⟨(blk_cell BK125.out 0).trans rfl, (blk_cell BK125.out 1).trans rfl, hx143_0⟩) (fun hHeld => ?_); refine with_tabW spec_l3Put.tab13 spec_l3Put.bits13 (fun HT_ HW_ => ?_); generalize w47.drew = w48 at HO_6 HO_125003 HO_126000 HO132 BK124 BK125 BK126 HK HB hx143_0 hHeld ⊢; refine zu 0 1 ?_; refine zu 2 5 ?_; refine zu 3 13 ?_; refine zu 5 45 ?_; refine zu 8 301 ?_; refine zx 1 303 hHeld ?_; refine zx 4 319 hHeld ?_; refine zx 6 383 hHeld ?_; refine zu 7 511 ?_; refine zx 9 1023 hHeld ?_; refine zone 10 2047 (fun K hK => ?_); refine zG2 Try.func114 #[.string (rdOf ByteArray.empty t130 0), .int .i64 (wrap64 (a1_1 + 1)), .int .i64 a0_4] ?_
     with_reducible refine (spec_l3Rest.calls (rdOf ByteArray.empty t130 0) (wrap64 (a1_1 + 1)) a0_4 t144 _ A40.out).mono ?_
     rintro e w49 ⟨rfl, hb⟩; have HS7_ := (hb.cell (World.block_lt_of_cell? _ _ (hHeld.2.2.2.2.2.2.2))).trans (hHeld.2.2.2.2.2.2.2); refine ⟨_, rfl, ?_⟩; replace HO_6 := z0 (Kd.N_below (zN HO_6.out) hb); replace HO_125003 := zA HO_125003 hb; replace HO_126000 := z0 (Kd.V_below (zV HO_126000.out) hb); replace HO132 := zA HO132 hb; replace BK124 := zK BK124 hb; replace BK125 := zK BK125 hb; replace BK126 := zK BK126 hb; replace HK := z0 (Kept.below (zk HK.out) hb); replace HB := zH HB hb; (try clear hb); refine hK.out _ _ (zd5 BK124.out ⟨(blk_cell BK125.out 0).trans rfl, (blk_cell BK125.out 1).trans rfl, HS7_⟩) (fun hHeld => ?_); clear hK K; refine znm ?_; refine zone 11 4095 (fun K hK => ?_); refine value_ (w1 := ?_) (v := ?_) (by rfl) rfl ?_ ?_; rotate_left 2
     ·go_simp
      constructor
      ·rfl
      ·rfl
     refine hK.out _ _ ⟨(blk_cell (blk_alloc BK124.out _) 0).trans rfl, (blk_cell (blk_alloc BK124.out _) 1).trans rfl, (blk_cell (blk_alloc BK124.out _) 2).trans rfl, (blk_cell (blk_alloc BK124.out _) 3).trans rfl, (blk_cell (blk_alloc BK124.out _) 4).trans rfl, (blk_cell (blk_alloc BK125.out _) 0).trans rfl, (blk_cell (blk_alloc BK125.out _) 1).trans rfl, (World.cell?_alloc_lt _ _ _ (World.block_lt_of_cell? _ _ (hHeld.2.2.2.2.2.2.2))).trans (hHeld.2.2.2.2.2.2.2)⟩ (fun hHeld => ?_); clear hK K; refine znm ?_; refine last_ (i := 12) (N := some 64) (fb 15 8191) rfl rfl (one_of HT_.out (by kernel_rfl)) (by decide) (fun K hK => ?_); refine Kd.R_append_step Kd.string (w0 := w0) w0.heap.size (by rfl) (.tmp 53) (.tmp 63) 23 9 (.string ⟨#[]⟩) 16 rfl Try.underlying23 info9 rfl (by decide) (by omega) u125003 x125003_1 t144 [.string t144] (fun k_ => (P0_3_ k_ ∨ w.heap.size ≤ k_) ∧ some k_ ≠ (.slice (some ad133) t130.length co21 : Value).ownBlock) (fun _ => False) rfl rfl ?aP (fun _ hk => hk.elim) ?aF ?aO ?aB ?aS ?aL ?_; (case aP => exact rfl); (case aB => exact (zb HB.out)); (case aF => exact (fun k_ hk => ⟨(.inr (Nat.le_trans (by first | exact HK.out.1 | exact (show Kept w _ (fun k_ => P0_3_ k_) from zk HK.out).1) hk)), Kd.fresh' (Kd.R_lt (zr HO132.out)) k_ hk⟩)); (case aO => exact (zr HO_125003.out)); (case aS => exact (below_size (zb HB.out))); (case aL => have := LMc41.out; omega); intro v146 w50 ho hb hg hat; rw [← Ny145.out] at ho; replace HO_6 := z0 (Kd.N_afterv (ok := (fun k_ => ((P0_3_ k_ ∨ P1_0_ k_) ∨ w.heap.size ≤ k_) ∧ some k_ ≠ (.slice (some ad133) t130.length co21 : Value).ownBlock ∧ k_ ≠ gb124 ∧ k_ ≠ gb125 ∧ k_ ≠ gb126)) (Kd.N_mono (zN HO_6.out) (fun _ hk => ⟨⟨hk.1, ⟨hk.2.2.1, ⟨hk.2.2.2.1, ⟨hk.2.2.2.2.1, hk.2.2.2.2.2⟩⟩⟩⟩, hk.2.1⟩)) hg hat); replace HO_126000 := z0 (Kd.V_afterv (ok := (fun k_ => ((P0_3_ k_ ∨ P1_0_ k_) ∨ w.heap.size ≤ k_) ∧ some k_ ≠ (u6 : Value).ownBlock ∧ some k_ ≠ (.slice (some ad133) t130.length co21 : Value).ownBlock ∧ k_ ≠ gb124 ∧ k_ ≠ gb125 ∧ k_ ≠ gb126)) (Kd.V_mono (zV HO_126000.out) (fun _ hk => ⟨⟨hk.1, ⟨hk.2.1, ⟨hk.2.2.2.1, ⟨hk.2.2.2.2.1, ⟨hk.2.2.2.2.2.1, hk.2.2.2.2.2.2⟩⟩⟩⟩⟩, hk.2.2.1⟩)) hg hat); replace BK124 := z0 (blk_grown (zl BK124.out) hg (Kd.R_ne HO_125003.out BK124.out (by decide))); replace BK125 := z0 (blk_grown (zl BK125.out) hg (Kd.R_ne HO_125003.out BK125.out (by decide))); replace BK126 := z0 (blk_grown (zl BK126.out) hg (Kd.R_ne HO_125003.out BK126.out (by decide))); replace HO132 := z0 (Kd.R_after (ok := (fun k_ => (P0_3_ k_ ∨ w.heap.size ≤ k_))) (zr HO132.out) hg hat); replace HB := z0 (hb); replace HK := z0 (Kept.of_grown (S := (fun k_ => P0_3_ k_)) hg (zk HK.out) (fun k_ e_ => (HO_125003.out.1 k_ e_).1)); have HO147 := z0 (ho); clear HO_125003; clear ho hb hg hat; obtain ⟨Ao51, co51, eo51⟩ := Kd.R_slice HO147.out; (first | subst eo51 | (injection eo51 with f1_ f2_ f3_; have f4_ := f1_.symm; have f5_ := f3_.symm; clear f1_ f2_ f3_; subst f4_; subst f5_)); refine hK.out _ _ ?_; clear hK K; refine znm ?_; refine zu 13 16383 ?_; refine last_ (i := 14) (N := none) (fb 15 32767) rfl rfl (one_of HT_.out (by kernel_rfl)) (by decide) (fun K hK => ?_); have hs52 : w50.cell? ⟨gb124, 3, none⟩ = some (u125003) := (blk_cell BK124.out 3).trans rfl; have hfs52 := blk_frozen BK124.out 3; have hns52_1 := NB125_124.out; have hns52_2 := NB126_124.out; have hms52_1 := NB124_125.out; have hms52_2 := NB124_126.out; refine skip_ (w1 := ?_) (by rfl) rfl ?_ ?_; rotate_left
     ·go_simp
      rfl
     refine hK.out _ _ ?_; clear hK K; refine done_ (done_of HT_.out (by kernel_rfl)) ?_; have n0_ : Aside0 (Kd.N k79 79 (w50.setCell ⟨gb124, 3, none⟩ (.slice Ao51 y145.length co51)) w.heap.size (fun k_ => ((P0_3_ k_ ∨ P1_0_ k_) ∨ w.heap.size ≤ k_) ∧ some k_ ≠ (.slice (some ad133) t130.length co21 : Value).ownBlock ∧ some k_ ≠ (.slice Ao51 y145.length co51 : Value).ownBlock ∧ k_ ≠ gb124 ∧ k_ ≠ gb125 ∧ k_ ≠ gb126) u6 x6_1) := ⟨Kd.N_mono (zNf (Kd.N_mono HO_6.out (fun k_ hk => (⟨hk, hk.1.2.2.1⟩ : _ ∧ k_ ≠ gb124)))) (fun _ hk => ⟨hk.1.1.1, ⟨hk.1.1.2.1, ⟨hk.1.2, ⟨hk.1.1.2.2.1, ⟨hk.1.1.2.2.2.1, hk.1.1.2.2.2.2⟩⟩⟩⟩⟩)⟩; have n1_ : Aside0 (Kd.V Kd.string 9 (w50.setCell ⟨gb124, 3, none⟩ (.slice Ao51 y145.length co51)) w0.heap.size (fun k_ => ((P0_3_ k_ ∨ P1_0_ k_) ∨ w.heap.size ≤ k_) ∧ some k_ ≠ (u6 : Value).ownBlock ∧ some k_ ≠ (.slice (some ad133) t130.length co21 : Value).ownBlock ∧ some k_ ≠ (.slice Ao51 y145.length co51 : Value).ownBlock ∧ k_ ≠ gb124 ∧ k_ ≠ gb125 ∧ k_ ≠ gb126) (.slice Ao18 x126000_1.length co18) x126000_1) := ⟨Kd.V_mono (zVf (Kd.V_mono HO_126000.out (fun k_ hk => (⟨hk, hk.1.2.2.2.1⟩ : _ ∧ k_ ≠ gb124)))) (fun _ hk => ⟨hk.1.1.1, ⟨hk.1.1.2.1, ⟨hk.1.1.2.2.1, ⟨hk.1.2, ⟨hk.1.1.2.2.2.1, ⟨hk.1.1.2.2.2.2.1, hk.1.1.2.2.2.2.2⟩⟩⟩⟩⟩⟩)⟩; have n2_ : Aside0 (Kd.R Kd.string 9 (w50.setCell ⟨gb124, 3, none⟩ (.slice Ao51 y145.length co51)) w0.heap.size (fun k_ => (P0_3_ k_ ∨ w.heap.size ≤ k_) ∧ some k_ ≠ (.slice Ao51 y145.length co51 : Value).ownBlock) (.slice (some ad133) t130.length co21) t130) := ⟨Kd.R_mono (zt HO132.out BK124.out) (fun _ hk => ⟨hk.1.1, hk.1.2⟩)⟩; have n3_ : Aside0 (Kd.R Kd.string 9 (w50.setCell ⟨gb124, 3, none⟩ (.slice Ao51 y145.length co51)) w0.heap.size (fun k_ => (P0_3_ k_ ∨ w.heap.size ≤ k_) ∧ some k_ ≠ (.slice (some ad133) t130.length co21 : Value).ownBlock) (.slice Ao51 y145.length co51) y145) := ⟨Kd.R_mono (zt HO147.out BK124.out) (fun _ hk => ⟨hk.1.1, hk.1.2⟩)⟩; have n4_ : Aside0 ((w50.setCell ⟨gb124, 3, none⟩ (.slice Ao51 y145.length co51)).heap[gb124]? = some (.cells #[.string (x125000_1 ++ t134), .string (x125001_1 ++ (⟨#[48]⟩ : ByteArray)), .string (x125002_1 ++ x7_1), .slice Ao51 y145.length co51, .int .i64 a0_4] 25 (0, 0))) := ⟨zp BK124.out⟩; have n5_ : Aside0 ((w50.setCell ⟨gb124, 3, none⟩ (.slice Ao51 y145.length co51)).heap[gb125]? = some (.cells #[.slice Ao18 x126000_1.length co18, .int .i64 a1_1] 79 (0, 0))) := ⟨zy BK125.out⟩; have n6_ : Aside0 ((w50.setCell ⟨gb124, 3, none⟩ (.slice Ao51 y145.length co51)).heap[gb126]? = some (.cells #[.string ⟨#[]⟩, .string ⟨#[]⟩, .string ⟨#[]⟩, .slice none 0 0, .int .i64 0] 25 (0, 0))) := ⟨zy BK126.out⟩; have n7_ : Aside0 (Kept w (w50.setCell ⟨gb124, 3, none⟩ (.slice Ao51 y145.length co51)) (fun k_ => P0_3_ k_)) := ⟨zk HK.out⟩; have n8_ : Aside0 (Below w0.heap.size w0 (w50.setCell ⟨gb124, 3, none⟩ (.slice Ao51 y145.length co51))) := ⟨zb HB.out⟩; (try clear HO_6); (try clear HO_126000); (try clear HO132); (try clear HO147); (try clear BK124); (try clear BK125); (try clear BK126); (try clear HK); (try clear HB); generalize (w50.setCell ⟨gb124, 3, none⟩ (.slice Ao51 y145.length co51)) = w53 at n0_ n1_ n2_ n3_ n4_ n5_ n6_ n7_ n8_ ⊢; have HO_6 := n0_; have HO_126000 := n1_; have HO132 := n2_; have HO147 := n3_; have BK124 := n4_; have BK125 := n5_; have BK126 := n6_; have HK := n7_; have HB := n8_; clear n0_ n1_ n2_ n3_ n4_ n5_ n6_ n7_ n8_; have hnb54 := NB125_126.out; have hnc54 := NB126_125.out; have hcz55 := zc2 BK125.out; have q56 : ((t130.length : Int) : Int) ≤ ((x126000_1.length : Int) : Int) := zd; obtain ⟨i056, hi056, _, hsz56, _⟩ := info_parts info9; have hroom56 : x126000_1.length ≤ co18 := (Kd.V_reads' HO_126000.out).2.1; have hC56 : Kd.F Kd.string _ _ Ao18 x126000_1.length x126000_1 := (Kd.V_at (base := w0.heap.size) HO_126000.out).2.2; have q056 : (0 : Int) ≤ ((t130.length : Int) : Int) := zd; have hcut56 := cut_from (P := Try.prog) 23 9 .i64 Try.underlying23 hi056 1 hsz56 Ao18 x126000_1.length co18 (t130.length : Int) q056 q56; have hr56 := Kd.F_cut (m := ((t130.length : Int) : Int).toNat) (c := co18) hC56 (by omega) hroom56; obtain ⟨A56, hA56⟩ : ∃ A1, A1 = (if co18 = ((t130.length : Int) : Int).toNat then Ao18 else (Ao18 : Option Addr).map (·.add (((t130.length : Int) : Int).toNat * 1))) := ⟨_, rfl⟩; obtain ⟨c56, hc56⟩ : ∃ c1, c1 = co18 - ((t130.length : Int) : Int).toNat := ⟨_, rfl⟩; have hy56 : y148.length = x126000_1.length - ((t130.length : Int) : Int).toNat := (by rw [Ny148.out, List.length_drop] <;> omega); rw [show (x126000_1).drop ((t130.length : Int) : Int).toNat = y148 from Ny148.out.symm] at hr56; replace hr56 : Kd.F Kd.string _ _ A56 y148.length y148 := (by rw [hA56]; exact hr56); rw [← hy56, ← hA56, ← hc56] at hcut56; have HO152 := z0 (show Kd.V Kd.string 9 _ w0.heap.size _ (.slice A56 y148.length c56) y148 from Kd.V_mk (by rw [hy56, hc56]; exact Nat.sub_le_sub_right hroom56 _) hr56); have HC152 := z0 (show y148.length ≤ c56 from by rw [hy56, hc56]; exact Nat.sub_le_sub_right hroom56 _); clear hr56 hC56 hroom56 hi056 hsz56 hc56; have KY56 := z0 hy56; have KA56 := z0 hA56; clear hy56 hA56; replace q56 := eq_true q56
     try go_wp2
     go_roundg k1
     case measure => have := HK1.out; omega
     case rel => exact ⟨(x6_1), ((⟨#[48]⟩ : ByteArray)), (x125000_1 ++ t134), (x125001_1 ++ (⟨#[48]⟩ : ByteArray)), (x125002_1 ++ x7_1), (y145), (y148), (.slice Ao51 y145.length co51), (.slice A56 y148.length c56), zf, H', ⟨by have := HK1.out; omega⟩, ⟨Kd.N_mono (zNf (Kd.N_mono HO_6.out (fun k_ hk => (⟨hk, hk.2.2.2.2.1⟩ : _ ∧ k_ ≠ gb125)))) (fun _ hk => ⟨hk.1.1, ⟨hk.1.2.2.1, ⟨hk.1.2.2.2.1, ⟨hk.1.2.2.2.2.1, hk.1.2.2.2.2.2⟩⟩⟩⟩)⟩, ⟨Kd.R_mono (zt HO147.out BK125.out) (fun _ hk => hk.1.1)⟩, ⟨Kd.V_mono (zVf (Kd.V_mono HO152.out (fun k_ hk => (⟨hk, hk.2.2.2.2.2.1⟩ : _ ∧ k_ ≠ gb125)))) (fun _ hk => ⟨hk.1.1, ⟨hk.1.2.1, ⟨hk.1.2.2.2.1, ⟨hk.1.2.2.2.2.1, ⟨hk.1.2.2.2.2.2.1, hk.1.2.2.2.2.2.2⟩⟩⟩⟩⟩)⟩, ⟨zy BK124.out⟩, ⟨zp BK125.out⟩, ⟨zy BK126.out⟩, ⟨zk HK.out⟩, ⟨zb HB.out⟩⟩
   ·rw [if_neg c9] at H; have c9b0 : decide (0 < (x126000_1.length : Int)) = false := decide_eq_false c9; have c9b1 : decide (0 < x126000_1.length) = false := decide_eq_false (by omega); clear c9; simp only [Option.some.injEq, Prod.mk.injEq] at H; obtain ⟨rfl, rfl, rfl, rfl, rfl, rfl⟩ := H; have hnb57 := NB125_124.out; have hnc57 := NB124_125.out; have hnb58 := NB125_126.out; have hnc58 := NB126_125.out; have hcz59 := zc2 BK125.out; obtain ⟨Ao60, co60, eo60⟩ := Kd.V_slice HO_126000.out; subst eo60; have hnb61 := NB124_126.out; have hnc61 := NB126_124.out; have hcz62 := zc5 BK124.out; have hcz63 := zc5 BK126.out; obtain ⟨Ao64, co64, eo64⟩ := Kd.R_slice HO_125003.out; subst eo64; go_wp2; refine bodyPost_ret (results_ct rfl _ _ gb126 25 #[.string x125000_1, .string x125001_1, .string x125002_1, .slice Ao64 x125003_1.length co64, .int .i64 a0_4] (0, 0) _ rfl (zp BK126.out) Try.underlying25 rfl (by kernel_rfl)) rfl ?_; exact ⟨_, _, ze, Kd.R_mono (zt HO_125003.out BK126.out) (fun _ hk => hk.1), Kd.N_mono (zNf (Kd.N_mono HO_6.out (fun k_ hk => (⟨hk, hk.2.2.2.2⟩ : _ ∧ k_ ≠ gb126)))) (fun _ hk => ⟨hk.1.1, hk.1.2.1⟩), zb HB.out, zk HK.out⟩
theorem spec_SieveOf.mono_l : ∀ k, (∀ y0 y1 y2, LeO (spec_SieveOf.j0 k y0 y1 y2) (spec_SieveOf.j0 (k + 1) y0 y1 y2)) ∧ (∀ y0 y1 y2 y3 y4 y5, LeO (spec_SieveOf.l0 k y0 y1 y2 y3 y4 y5) (spec_SieveOf.l0 (k + 1) y0 y1 y2 y3 y4 y5))
  | 0 => ⟨fun _ _ _ r h => by simp [spec_SieveOf.j0] at h, fun _ _ _ _ _ _ r h => by simp [spec_SieveOf.l0] at h⟩
  | k + 1 => by
    obtain ⟨ih0, ih1⟩ := spec_SieveOf.mono_l k
    refine ⟨?_, ?_⟩
    · intro y0 y1 y2
      unfold spec_SieveOf.j0
      repeat' first | (with_reducible first | apply ih0 | apply ih1 | apply spec_KeysOk.mono | apply spec_l3Put.mono | exact LeO.refl _ | exact LeO.none _ | refine LeO.ite ?_ ?_ | refine LeO.bind ?_ (fun _ => ?_)) | exact LeO.none _ | refine LeO.ite ?_ ?_ | refine LeO.bind ?_ (fun _ => ?_)
    · intro y0 y1 y2 y3 y4 y5
      unfold spec_SieveOf.l0
      repeat' first | (with_reducible first | apply ih0 | apply ih1 | apply spec_KeysOk.mono | apply spec_l3Put.mono | exact LeO.refl _ | exact LeO.none _ | refine LeO.ite ?_ ?_ | refine LeO.bind ?_ (fun _ => ?_)) | exact LeO.none _ | refine LeO.ite ?_ ?_ | refine LeO.bind ?_ (fun _ => ?_)
theorem spec_SieveOf.mono : ∀ a0 a1 k, LeO (spec_SieveOf.f k a0 a1) (spec_SieveOf.f (k + 1) a0 a1) := by
  intro a0 a1 k
  obtain ⟨ih0, ih1⟩ := spec_SieveOf.mono_l k
  unfold spec_SieveOf.f
  repeat' first | (with_reducible first | apply ih0 | apply ih1 | apply spec_KeysOk.mono | apply spec_l3Put.mono | exact LeO.refl _ | exact LeO.none _ | refine LeO.ite ?_ ?_ | refine LeO.bind ?_ (fun _ => ?_)) | exact LeO.none _ | refine LeO.ite ?_ ?_ | refine LeO.bind ?_ (fun _ => ?_)
def spec_SieveOf.T7 : Bool × List (List Nat × List Nat) := (true, [([], []), ([], []), ([1], [1]), ([2], [2]), ([0, 3], [0, 3]), ([4], [4]), ([5], [5]), ([5], [5]), ([6, 4, 0, 1, 2, 3, 4, 5, 6], [6]), ([7, 8, 0, 1, 2, 3, 4, 5, 6, 7, 8], [7])])
def spec_SieveOf.B7 : List Nat := [0, 0, 2, 6, 15, 31, 63, 63, 127, 511]
theorem spec_SieveOf.tab7 : rtab .any (opsOf Try.f36 7) = spec_SieveOf.T7 := by kernel_rfl
theorem spec_SieveOf.bits7 : waitsOk spec_SieveOf.T7.2 spec_SieveOf.B7 = true := by kernel_rfl
theorem spec_SieveOf.calls (k : Nat) (P0_ : Nat → Prop) (A0 : Option Addr) (c0 : Nat) (l0 : List ByteArray) (a1 : Int) (r1 r2 r3 : ByteArray) (r4 : List ByteArray) (r5 : Int) (r6 : Bool) (w : World) (hs0 : Kd.V Kd.string 9 w w.heap.size (fun k_ => P0_ k_) (.slice A0 l0.length c0) l0) (h : spec_SieveOf.f k l0 a1 = some (r1, r2, r3, r4, r5, r6)) :
    Calls Try.prog 36 #[.slice A0 l0.length c0, .int .i64 a1] w fun e w' => ∃ v3_ : Value, e = .returned (.tuple #[.agg #[.string r1, .string r2, .string r3, v3_, .int .i64 r5], .bool r6]) ∧ Kd.R Kd.string 9 w' w.heap.size (fun k_ => (w.heap.size ≤ k_)) v3_ r4 ∧ Below w.heap.size w w' := by
 have hu25 := Try.underlying25; have hu79 := Try.underlying79; have HO0 := z0 (show Kd.V Kd.string 9 w w.heap.size (fun k_ => (P0_ k_ ∨ w.heap.size ≤ k_)) (.slice A0 l0.length c0) l0 from Kd.V_mono hs0 (fun k_ hk => .inl hk)); have HB := z0 (Below.refl w.heap.size w); have H : ((spec_KeysOk.f k l0).bind fun t154 => (if t154 = true then ((spec_l6In.f a1 0 5).bind fun t155 => (spec_SieveOf.j0 k l0 a1 (!t155))) else (spec_SieveOf.j0 k l0 a1 true))) = some (r1, r2, r3, r4, r5, r6) := h; clear h; have HC3 := z0 H; clear H; go_enter Try.func36, Try.ntmps36
 go_upto_region 1 with (first | ((with_reducible refine gd 4 ?_); refine zbx 25 #[.string ⟨#[]⟩, .string ⟨#[]⟩, .string ⟨#[]⟩, .slice none 0 0, .int .i64 0] ?_; intro gb153 hg w4 hbox hb; replace HO0 := z0 (Kd.V_below (Kd.V_elderB (zV HO0.out) gb153 (Nat.le_of_eq hg.symm)) hb); have BK153 := z0 (hbox); have GE153 := zG hg HB; replace HB := zH HB hb; clear hb hbox hg))
 (try simp only [Act.put, List.setIfInBounds_toArray, List.set_cons_zero, List.set_cons_succ])
 go_cut [16] (fun v16 wc => ∃ (kq : Nat) (x16_2 : Bool), v16 = .bool x16_2 ∧ Aside0 (spec_SieveOf.j0 kq l0 a1 x16_2 = some (r1, r2, r3, r4, r5, r6)) ∧ Aside0 (kq ≤ k) ∧ Aside0 (Kd.V Kd.string 9 wc w.heap.size (fun k_ => (P0_ k_ ∨ w.heap.size ≤ k_) ∧ k_ ≠ gb153) (.slice A0 l0.length c0) l0) ∧ Aside0 (wc.heap[gb153]? = some (.cells #[.string ⟨#[]⟩, .string ⟨#[]⟩, .string ⟨#[]⟩, (.slice none 0 0), .int .i64 0] 25 (0, 0))) ∧ Aside0 (Below w.heap.size w wc))
 case first =>
  have H := HC3.out; clear HC3; replace H := zi H; obtain ⟨t154, A5, H⟩ := H
  by_cases c6 : t154 = true
  ·subst c6
   have H1 : ((spec_l6In.f a1 0 5).bind fun t155 => (spec_SieveOf.j0 k l0 a1 (!t155))) = some (r1, r2, r3, r4, r5, r6) := by rw [if_pos rfl] at H; exact H
   clear H; have H := H1; clear H1; replace H := zi H; obtain ⟨t155, A7, H⟩ := H; have H' := z0 H; clear H
   go_wp2_with (first | ((with_reducible refine gc 80 ?_); refine zL (some 10) Try.func80 #[.slice A0 l0.length c0] ?_; (with_reducible refine (spec_KeysOk.calls k _ _ l0 true _ ?side1 ?side2 A5.out).mono ?_); (case side1 => repeat (first | exact (Kd.V_reads' HO0.out).2.2 | (with_reducible refine Kd.C_alloc ?_ _) | (with_reducible refine Kd.C_drewN ?_ _) | (with_reducible refine Kd.C_drew ?_))); (case side2 => exact (Kd.V_reads' HO0.out).2.1); rintro e w' ⟨rfl, ⟨nd, rfl⟩⟩; refine ⟨_, rfl, ?_⟩) | (go_at_call 76; (with_reducible refine (spec_l6In.calls a1 0 5 t155 _ A7.out).mono ?_); rintro e w' ⟨rfl, ⟨nd, rfl⟩⟩))
   go_meet
   case rel => exact ⟨_, (!t155), zf, H', ⟨by first | omega | exact Nat.le_refl _⟩, ⟨zV HO0.out⟩, ⟨zl BK153.out⟩, ⟨zb HB.out⟩⟩
  ·replace c6 := Bool.eq_false_iff.mpr c6; subst c6
   have H1 : (spec_SieveOf.j0 k l0 a1 true) = some (r1, r2, r3, r4, r5, r6) := by rw [if_neg (show ¬ (false = true) by decide)] at H; exact H
   clear H; have H := H1; clear H1; have H' := z0 H; clear H
   go_wp2_with (first | ((with_reducible refine gc 80 ?_); refine zL (some 10) Try.func80 #[.slice A0 l0.length c0] ?_; (with_reducible refine (spec_KeysOk.calls k _ _ l0 false _ ?side1 ?side2 A5.out).mono ?_); (case side1 => repeat (first | exact (Kd.V_reads' HO0.out).2.2 | (with_reducible refine Kd.C_alloc ?_ _) | (with_reducible refine Kd.C_drewN ?_ _) | (with_reducible refine Kd.C_drew ?_))); (case side2 => exact (Kd.V_reads' HO0.out).2.1); rintro e w' ⟨rfl, ⟨nd, rfl⟩⟩; refine ⟨_, rfl, ?_⟩))
   go_meet
   case rel => exact ⟨_, (true), zf, H', ⟨by first | omega | exact Nat.le_refl _⟩, ⟨zV HO0.out⟩, ⟨zl BK153.out⟩, ⟨zb HB.out⟩⟩
 case rest =>
  clear HC3
  try clear p2
  try clear c3
  try clear c6
  obtain ⟨kq, x16_2, rfl, HA, HJ2, HO_0, BK153, HB⟩ := hcut
  cases kq with
  | zero => exact absurd HA.out (by simp [spec_SieveOf.j0])
  | succ kj2 =>
   have H := HA.out; clear HA; simp only [spec_SieveOf.j0] at H
   by_cases c8 : x16_2 = true
   ·subst c8
    have H1 : (some ((⟨#[]⟩ : ByteArray), (⟨#[]⟩ : ByteArray), (⟨#[]⟩ : ByteArray), ([] : List ByteArray), 0, false)) = some (r1, r2, r3, r4, r5, r6) := by rw [if_pos rfl] at H; exact H
    clear H; have H := H1; clear H1; simp only [Option.some.injEq, Prod.mk.injEq] at H; obtain ⟨rfl, rfl, rfl, rfl, rfl, rfl⟩ := H; have hcz9 := zc5 BK153.out; go_wp2; refine bodyPost_ret (results_ct rfl _ _ gb153 25 #[.string ⟨#[]⟩, .string ⟨#[]⟩, .string ⟨#[]⟩, .slice none 0 0, .int .i64 0] (0, 0) _ rfl (zp BK153.out) Try.underlying25 rfl (by kernel_rfl)) rfl ?_; exact ⟨_, ze, by first | exact Kd.R_nil _ _ _ _ _ | exact Kd.N_nil _ _ _ _ _ | exact Kd.V_nil _ _ _ _ _ | exact Kd.Q_nil _ _ _ _ _ | exact Kd.S_nil _ _ _ _ _, zb HB.out⟩
   ·replace c8 := Bool.eq_false_iff.mpr c8; subst c8
    have H1 : (spec_SieveOf.l0 kj2 (([(⟨l0, 0⟩ : S79)] : List (S79))) (⟨#[]⟩ : ByteArray) (⟨#[]⟩ : ByteArray) (⟨#[]⟩ : ByteArray) (([] : List ByteArray)) a1) = some (r1, r2, r3, r4, r5, r6) := by rw [if_neg (show ¬ (false = true) by decide)] at H; exact H
    clear H; have H := H1; clear H1; obtain ⟨y156, hy156⟩ : ∃ y_ : List ByteArray, y_ = (([] : List ByteArray)) := ⟨_, rfl⟩; replace H : (spec_SieveOf.l0 kj2 (([(⟨l0, 0⟩ : S79)] : List (S79))) (⟨#[]⟩ : ByteArray) (⟨#[]⟩ : ByteArray) (⟨#[]⟩ : ByteArray) y156 a1) = some (r1, r2, r3, r4, r5, r6) := zH2 hy156 H; have Ny156 := z0 hy156; clear hy156; obtain ⟨y160, hy160⟩ : ∃ y_ : List (S79), y_ = (([(⟨l0, 0⟩ : S79)] : List (S79))) := ⟨_, rfl⟩; replace H : (spec_SieveOf.l0 kj2 y160 (⟨#[]⟩ : ByteArray) (⟨#[]⟩ : ByteArray) (⟨#[]⟩ : ByteArray) y156 a1) = some (r1, r2, r3, r4, r5, r6) := zH2 hy160 H; have Ny160 := z0 hy160; clear hy160; have H' := z0 H; clear H
    go_wp2_with (first | ((with_reducible refine gd 18 ?_); refine Kd.R_lit Kd.string _ 9 ?hg (N := 18) ?hd (xs := ([] : List ByteArray)) (inner := []) (ok := fun _ => True) (okp := fun _ => True) ?hr ?hp (fun _ hk => hk) trivial (Below.refl _ _) (Nat.le_refl _) (by simp) ?_; (case hd => rfl); (case hg => rfl); (case hr => first | (go_simp; done) | (go_simp; rfl)); (case hp => exact (Reps.none _ _)); intro v157 w10 ho11 hb hg_ hnew_; clear hg_ hnew_; (first | rw [← Ny156.out] at ho11 | (simp only [Int.reduceToNat] at ho11; rw [← Ny156.out] at ho11)); replace HO_0 := z0 (Kd.V_elder' (zV HO_0.out) (Kd.R_base ho11) hb); have HO158 := z0 (Kd.R_lower (Kd.R_newM (M := fun k_ => (w.heap.size ≤ k_)) ho11 (below_size (zb HB.out)) (fun k_ h_ => h_)) (below_size (zb HB.out))); replace BK153 := zK BK153 hb; replace HB := zH HB hb; clear hb ho11; obtain ⟨Ao12, co12, eo12⟩ := Kd.R_slice HO158.out; subst eo12) | ((with_reducible refine gd 6 ?_); refine zbx 25 #[.string ⟨#[]⟩, .string ⟨#[]⟩, .string ⟨#[]⟩, .slice none 0 0, .int .i64 0] ?_; intro gb159 hg w13 hbox hb; replace HO_0 := z0 (Kd.V_below (Kd.V_elderB (zV HO_0.out) gb159 (Nat.le_of_eq hg.symm)) hb); replace HO158 := zA HO158 hb; have BK159 := z0 (hbox); have GE159 := zG hg HB; replace HB := zH HB hb; have NB153_159 := zLt hg BK153; have NB159_153 := zGt hg BK153; replace BK153 := zK BK153 hb; clear hb hbox hg; have hnb14 := NB159_153.out; have hnc14 := NB153_159.out; have hcz15 := zc5 BK159.out) | ((with_reducible refine gd 23 ?_); refine Kd.N_lit k79 _ 79 ?hg (N' := 23) ?hd (xs := ([(⟨l0, 0⟩ : S79)] : List (S79))) (inner := [.slice A0 l0.length c0, .int .i64 0]) (ok := (fun k_ => (P0_ k_ ∨ w.heap.size ≤ k_) ∧ some k_ ≠ (.slice Ao12 y156.length co12 : Value).ownBlock ∧ k_ ≠ gb153 ∧ k_ ≠ gb159)) (okp := (fun k_ => (P0_ k_ ∨ w.heap.size ≤ k_) ∧ some k_ ≠ (.slice Ao12 y156.length co12 : Value).ownBlock ∧ k_ ≠ gb153 ∧ k_ ≠ gb159)) ?hr ?hp (fun _ hk => hk) ((show ∀ k_, (((((w13.setCell ⟨gb159, 0, none⟩ (.string ⟨#[]⟩)).setCell ⟨gb159, 1, none⟩ (.string ⟨#[]⟩)).setCell ⟨gb159, 2, none⟩ (.string ⟨#[]⟩)).setCell ⟨gb159, 3, none⟩ (.slice Ao12 y156.length co12)).setCell ⟨gb159, 4, none⟩ (.int .i64 a1)).heap.size ≤ k_ → (fun k_ => (P0_ k_ ∨ w.heap.size ≤ k_) ∧ some k_ ≠ (.slice Ao12 y156.length co12 : Value).ownBlock ∧ k_ ≠ gb153 ∧ k_ ≠ gb159) k_ from fun k_ hk => ⟨(.inr (Nat.le_trans (below_size (zb HB.out)) hk)), Kd.fresh' (Kd.R_lt (zs HO158.out BK159.out)) k_ hk, Kd.freshB (g := gb153) (o := .cells #[.string ⟨#[]⟩, .string ⟨#[]⟩, .string ⟨#[]⟩, .slice none 0 0, .int .i64 0] 25 (0, 0)) (zy BK153.out) k_ hk, Kd.freshB (g := gb159) (o := .cells #[.string ⟨#[]⟩, .string ⟨#[]⟩, .string ⟨#[]⟩, .slice Ao12 y156.length co12, .int .i64 a1] 25 (0, 0)) (zp BK159.out) k_ hk⟩) _ (Nat.le_refl _)) (Below.refl _ _) (Nat.le_refl _) (by simp) ?_; (case hd => rfl); (case hg => rfl); (case hr => first | (go_simp; done) | (go_simp; rfl)); (case hp => exact (Reps.c2 (show Kd.FK k79 _ _ (⟨l0, 0⟩ : S79) [.slice A0 l0.length c0, .int .i64 0] from (k79_mkF _ _ (⟨l0, 0⟩ : S79) (Kd.V_reads' (Kd.V_mono (ok' := (fun k_ => (P0_ k_ ∨ w.heap.size ≤ k_) ∧ some k_ ≠ (.slice Ao12 y156.length co12 : Value).ownBlock ∧ k_ ≠ gb153 ∧ k_ ≠ gb159)) (Kd.V_mono (Kd.V_far (p := ⟨gb159, 4, none⟩) (Kd.V_far (p := ⟨gb159, 3, none⟩) (Kd.V_far (p := ⟨gb159, 2, none⟩) (Kd.V_far (p := ⟨gb159, 1, none⟩) (Kd.V_far (p := ⟨gb159, 0, none⟩) (Kd.V_mono HO_0.out (fun k_ hk => (⟨hk, hk.2⟩ : _ ∧ k_ ≠ gb159))) (fun _ hk => hk.2) (.string ⟨#[]⟩)) (fun _ hk => hk.2) (.string ⟨#[]⟩)) (fun _ hk => hk.2) (.string ⟨#[]⟩)) (fun _ hk => hk.2) (.slice Ao12 y156.length co12)) (fun _ hk => hk.2) (.int .i64 a1)) (fun _ h_ => h_.1)) (fun k_ hk => ⟨hk.1.1.1, ⟨hk.1.2, ⟨hk.1.1.2, hk.2⟩⟩⟩))).2.1 (Kd.V_F (Kd.V_mono (ok' := (fun k_ => (P0_ k_ ∨ w.heap.size ≤ k_) ∧ some k_ ≠ (.slice Ao12 y156.length co12 : Value).ownBlock ∧ k_ ≠ gb153 ∧ k_ ≠ gb159)) (Kd.V_mono (Kd.V_far (p := ⟨gb159, 4, none⟩) (Kd.V_far (p := ⟨gb159, 3, none⟩) (Kd.V_far (p := ⟨gb159, 2, none⟩) (Kd.V_far (p := ⟨gb159, 1, none⟩) (Kd.V_far (p := ⟨gb159, 0, none⟩) (Kd.V_mono HO_0.out (fun k_ hk => (⟨hk, hk.2⟩ : _ ∧ k_ ≠ gb159))) (fun _ hk => hk.2) (.string ⟨#[]⟩)) (fun _ hk => hk.2) (.string ⟨#[]⟩)) (fun _ hk => hk.2) (.string ⟨#[]⟩)) (fun _ hk => hk.2) (.slice Ao12 y156.length co12)) (fun _ hk => hk.2) (.int .i64 a1)) (fun _ h_ => h_.1)) (fun k_ hk => ⟨hk.1.1.1, ⟨hk.1.2, ⟨hk.1.1.2, hk.2⟩⟩⟩))))) (Reps.none _ _))); intro v161 w16 ho17 hb hg_ hnew_; clear hg_ hnew_; (first | rw [← Ny160.out] at ho17 | (simp only [Int.reduceToNat] at ho17; rw [← Ny160.out] at ho17)); replace HO_0 := z0 (Kd.V_elder' (by (with_reducible repeat (first | apply Kd.V_alloc | apply Kd.V_drewN | apply Kd.V_drew)); exact (Kd.V_mono (Kd.V_far (p := ⟨gb159, 4, none⟩) (Kd.V_far (p := ⟨gb159, 3, none⟩) (Kd.V_far (p := ⟨gb159, 2, none⟩) (Kd.V_far (p := ⟨gb159, 1, none⟩) (Kd.V_far (p := ⟨gb159, 0, none⟩) (Kd.V_mono HO_0.out (fun k_ hk => (⟨hk, hk.2⟩ : _ ∧ k_ ≠ gb159))) (fun _ hk => hk.2) (.string ⟨#[]⟩)) (fun _ hk => hk.2) (.string ⟨#[]⟩)) (fun _ hk => hk.2) (.string ⟨#[]⟩)) (fun _ hk => hk.2) (.slice Ao12 y156.length co12)) (fun _ hk => hk.2) (.int .i64 a1)) (fun _ h_ => h_.1))) (Kd.N_base ho17) hb); replace HO158 := zAs HO158 BK159 hb; have HO162 := z0 (Kd.N_lower ho17 (below_size (zb HB.out))); replace BK153 := zKy BK153 hb; replace BK159 := z0 (blk_below (zpc BK159.out #[.string ⟨#[]⟩, .string ⟨#[]⟩, .string ⟨#[]⟩, .slice Ao12 y156.length co12, .int .i64 a1]) hb); replace HB := zH HB hb; clear hb ho17))
    go_loopg [7] kj2 (fun kq v7 w' => ∃ (x7_2 : List (S79)) (x160000_2 : ByteArray) (x160001_2 : ByteArray) (x160002_2 : ByteArray) (x160003_2 : List ByteArray) (x160004_2 : Int) (u160003 : Value), Aside0 (spec_SieveOf.l0 kq x7_2 x160000_2 x160001_2 x160002_2 x160003_2 x160004_2 = some (r1, r2, r3, r4, r5, r6)) ∧ Aside0 (kq ≤ kj2) ∧ Aside0 (Kd.N k79 79 w' w.heap.size (fun k_ => (P0_ k_ ∨ w.heap.size ≤ k_) ∧ some k_ ≠ (u160003 : Value).ownBlock ∧ k_ ≠ gb153 ∧ k_ ≠ gb159) v7 x7_2) ∧ Aside0 (Kd.R Kd.string 9 w' w.heap.size (fun k_ => (w.heap.size ≤ k_)) u160003 x160003_2) ∧ Aside0 (w'.heap[gb153]? = some (.cells #[.string ⟨#[]⟩, .string ⟨#[]⟩, .string ⟨#[]⟩, (.slice none 0 0), .int .i64 0] 25 (0, 0))) ∧ Aside0 (w'.heap[gb159]? = some (.cells #[.string x160000_2, .string x160001_2, .string x160002_2, u160003, .int .i64 x160004_2] 25 (0, 0))) ∧ Aside0 (Below w.heap.size w w'))
    case atStart => exact ⟨(y160), ((⟨#[]⟩ : ByteArray)), ((⟨#[]⟩ : ByteArray)), ((⟨#[]⟩ : ByteArray)), (y156), (a1), (.slice Ao12 y156.length co12), H', ⟨Nat.le_refl _⟩, ⟨zN HO162.out⟩, ⟨Kd.R_mono (zr HO158.out) (fun _ hk => hk.1)⟩, ⟨zl BK153.out⟩, ⟨zl BK159.out⟩, ⟨zb HB.out⟩⟩
    case round =>
     clear H'
     try clear c1
     try clear c2
     try clear p2
     try clear c3
     try clear c6
     try clear c8
     try clear c14
     try clear hcz15
     try clear hcz9
     try clear p2
     obtain ⟨x7_2, x160000_2, x160001_2, x160002_2, x160003_2, x160004_2, u160003, HA, HK2, HO_7, HO_160003, BK153, BK159, HB⟩ := hrel
     cases gk with
     | zero => exact absurd HA.out (by simp [spec_SieveOf.l0])
     | succ k2 =>
      have H := HA.out; clear HA; simp only [spec_SieveOf.l0] at H
      by_cases c18 : (x7_2.length : Int) > 0
      ·rw [if_pos c18] at H; have c18b0 : decide (0 < (x7_2.length : Int)) = true := decide_eq_true c18; have c18b1 : decide (0 < x7_2.length) = true := decide_eq_true (by omega); clear c18; obtain ⟨y163, hy163⟩ : ∃ y_ : List (S79), y_ = (([] : List (S79))) := ⟨_, rfl⟩; replace H : (if 0 < (x7_2.length : Int) then ((spec_l3Put.f k2 x160000_2 x160001_2 x160002_2 x160003_2 x160004_2 ((rd_T79 x7_2 0).f0) ((rd_T79 x7_2 0).f1)).bind fun bt167 => ((some (([] : List (S79)) : List (S79))).bind fun y177 => (if 1 ≤ (x7_2.length : Int) then ((some (x7_2.drop 1 : List (S79))).bind fun y180 => (if y177.length + y180.length < 4398046511104 then ((some (y177 ++ y180 : List (S79))).bind fun y185 => (if y185.length + bt167.2.2.2.2.2.length < 4398046511104 then (spec_SieveOf.l0 k2 (y185 ++ bt167.2.2.2.2.2) bt167.1 bt167.2.1 bt167.2.2.1 bt167.2.2.2.1 bt167.2.2.2.2.1) else (none))) else (none))) else (none)))) else (none)) = some (r1, r2, r3, r4, r5, r6) := zH2 hy163 H; have Ny163 := z0 hy163; clear hy163; replace H := zn H; obtain ⟨c19, H⟩ := H; have c19b0 := decide_eq_true c19; have c19b1 : decide (0 < x7_2.length) = true := decide_eq_true (by omega); clear c19; replace H := zi H; obtain ⟨⟨t167, t168, t169, t170, t173, t174⟩, A20, H⟩ := H; (try dsimp only at H); obtain ⟨y177, hy177⟩ : ∃ y_ : List (S79), y_ = (([] : List (S79))) := ⟨_, rfl⟩; replace H : (if 1 ≤ (x7_2.length : Int) then ((some (x7_2.drop 1 : List (S79))).bind fun y180 => (if y177.length + y180.length < 4398046511104 then ((some (y177 ++ y180 : List (S79))).bind fun y185 => (if y185.length + t174.length < 4398046511104 then (spec_SieveOf.l0 k2 (y185 ++ t174) t167 t168 t169 t170 t173) else (none))) else (none))) else (none)) = some (r1, r2, r3, r4, r5, r6) := zH2 hy177 H; have Ny177 := z0 hy177; clear hy177; replace H := zn H; obtain ⟨c21, H⟩ := H; have c21b0 := eq_true c21; have c21b1 := decide_eq_true c21; clear c21; obtain ⟨y180, hy180⟩ : ∃ y_ : List (S79), y_ = (x7_2.drop 1) := ⟨_, rfl⟩; replace H : (if y177.length + y180.length < 4398046511104 then ((some (y177 ++ y180 : List (S79))).bind fun y185 => (if y185.length + t174.length < 4398046511104 then (spec_SieveOf.l0 k2 (y185 ++ t174) t167 t168 t169 t170 t173) else (none))) else (none)) = some (r1, r2, r3, r4, r5, r6) := zH2 hy180 H; have Ny180 := z0 hy180; clear hy180; replace H := zn H; obtain ⟨c22, H⟩ := H; have LMc22 := z0 c22; clear c22; obtain ⟨y185, hy185⟩ : ∃ y_ : List (S79), y_ = (y177 ++ y180) := ⟨_, rfl⟩; replace H : (if y185.length + t174.length < 4398046511104 then (spec_SieveOf.l0 k2 (y185 ++ t174) t167 t168 t169 t170 t173) else (none)) = some (r1, r2, r3, r4, r5, r6) := zH2 hy185 H; have Ny185 := z0 hy185; clear hy185; replace H := zn H; obtain ⟨c23, H⟩ := H; have LMc23 := z0 c23; clear c23; obtain ⟨y188, hy188⟩ : ∃ y_ : List (S79), y_ = (y185 ++ t174) := ⟨_, rfl⟩; replace H : (spec_SieveOf.l0 k2 y188 t167 t168 t169 t170 t173) = some (r1, r2, r3, r4, r5, r6) := zH2 hy188 H; have Ny188 := z0 hy188; clear hy188; have H' := z0 H; clear H; obtain ⟨Ao24, co24, eo24⟩ := Kd.N_slice HO_7.out; subst eo24
       try go_wp2_with (first | ((with_reducible refine gd 27 ?_); refine Kd.N_lit k79 _ 79 ?hg (N' := 27) ?hd (xs := ([] : List (S79))) (inner := []) (ok := (fun k_ => (P0_ k_ ∨ w.heap.size ≤ k_) ∧ some k_ ≠ (.slice Ao24 x7_2.length co24 : Value).ownBlock ∧ some k_ ≠ (u160003 : Value).ownBlock ∧ k_ ≠ gb153 ∧ k_ ≠ gb159)) (okp := (fun k_ => (P0_ k_ ∨ w.heap.size ≤ k_) ∧ some k_ ≠ (.slice Ao24 x7_2.length co24 : Value).ownBlock ∧ some k_ ≠ (u160003 : Value).ownBlock ∧ k_ ≠ gb153 ∧ k_ ≠ gb159)) ?hr ?hp (fun _ hk => hk) ((show ∀ k_, wr.heap.size ≤ k_ → (fun k_ => (P0_ k_ ∨ w.heap.size ≤ k_) ∧ some k_ ≠ (.slice Ao24 x7_2.length co24 : Value).ownBlock ∧ some k_ ≠ (u160003 : Value).ownBlock ∧ k_ ≠ gb153 ∧ k_ ≠ gb159) k_ from fun k_ hk => ⟨(.inr (Nat.le_trans (below_size (zb HB.out)) hk)), Kd.fresh' (Kd.N_lt (zN HO_7.out)) k_ hk, Kd.fresh' (Kd.R_lt (zr HO_160003.out)) k_ hk, Kd.freshB (g := gb153) (o := .cells #[.string ⟨#[]⟩, .string ⟨#[]⟩, .string ⟨#[]⟩, .slice none 0 0, .int .i64 0] 25 (0, 0)) (zl BK153.out) k_ hk, Kd.freshB (g := gb159) (o := .cells #[.string x160000_2, .string x160001_2, .string x160002_2, u160003, .int .i64 x160004_2] 25 (0, 0)) (zl BK159.out) k_ hk⟩) _ (Nat.le_refl _)) (Below.refl _ _) (Nat.le_refl _) (by simp) ?_; (case hd => rfl); (case hg => rfl); (case hr => first | (go_simp; done) | (go_simp; rfl)); (case hp => exact (Reps.none _ _)); intro v164 w25 ho26 hb hg_ hnew_; clear hg_ hnew_; (first | rw [← Ny163.out] at ho26 | (simp only [Int.reduceToNat] at ho26; rw [← Ny163.out] at ho26)); replace HO_7 := z0 (Kd.N_elder' (zN HO_7.out) (Kd.N_base ho26) hb); replace HO_160003 := zA HO_160003 hb; have HO165 := z0 (Kd.N_lower ho26 (below_size (zb HB.out))); replace BK153 := zK BK153 hb; replace BK159 := zK BK159 hb; replace HB := zH HB hb; clear hb ho26))
       replace HO_7 := z0 (Kd.N_drew HO_7.out); replace HO_160003 := z0 (Kd.R_drew HO_160003.out); replace HO165 := z0 (Kd.N_drew HO165.out); replace BK153 := z0 (blk_drew BK153.out); replace BK159 := z0 (blk_drew BK159.out); replace HB := z0 (below_drew1 HB.out); have p166 : 0 ≤ (0 : Int) := (by omega); have q166 : 0 < (x7_2.length : Int) := zd; obtain ⟨ad166, A166_0, c166_0, e166, hx166_0, hx166_1, hl166_0, hi166_0⟩ := at_T79 (Kd.N_reads' HO_7.out).2.2 0 p166 q166; cases e166; obtain ⟨ce166, hce166, hMe166, hcc166⟩ := Kd.N_get HO_7.out z79 0 p166 (by first | exact q166 | exact zd | (have e_ := (Kd.N_reads' HO_7.out).1; omega)); obtain ⟨ua166_0, uc166_0, rfl, ul166_0, ge166_0⟩ := k79_openF hMe166; have hv166_0 := hcc166 0 _ rfl; rw [Nat.add_zero] at hv166_0; replace hv166_0 := Option.some.inj (hv166_0.symm.trans hx166_0)
       injection hv166_0 with hva_ hvn_ hvc_
       rw [hva_] at ge166_0; rw [hvc_] at ul166_0; have HL166_0 := z0 (show Kd.V Kd.string 9 _ w.heap.size _ _ ((rd_T79 x7_2 0).f0) from Kd.V_mk ul166_0 ge166_0); clear hva_ hvn_ hvc_ ge166_0 ul166_0; clear hcc166 hce166; have qi166 : (0 < x7_2.length) = True := eq_true (by omega); (try rw [show ((0 : Int)).toNat = 0 from rfl] at hx166_0); (try rw [show 0 * 2 = 0 from rfl] at hx166_0); (try rw [Addr.add_zero'] at hx166_0); (try rw [show ((0 : Int)).toNat = 0 from rfl] at hx166_1); (try rw [show 0 * 2 = 0 from rfl] at hx166_1); (try rw [Addr.add_zero'] at hx166_1); have HR166_0 := z0 hi166_0; have HC166_0 := z0 hl166_0; clear hi166_0 hl166_0; replace p166 := eq_true p166; replace q166 := eq_true q166; obtain ⟨Ao28, co28, eo28⟩ := Kd.R_slice HO_160003.out; (first | subst eo28 | (injection eo28 with f1_ f2_ f3_; have f4_ := f1_.symm; have f5_ := f3_.symm; clear f1_ f2_ f3_; subst f4_; subst f5_)); refine start_ (n := 10) (S := fun w' => w'.cell? ⟨gb159, 0, none⟩ = some (.string x160000_2) ∧ w'.cell? ⟨gb159, 1, none⟩ = some (.string x160001_2) ∧ w'.cell? ⟨gb159, 2, none⟩ = some (.string x160002_2) ∧ w'.cell? ⟨gb159, 3, none⟩ = some (.slice Ao28 x160003_2.length co28) ∧ w'.cell? ⟨gb159, 4, none⟩ = some (.int .i64 x160004_2) ∧ w'.cell? ad166 = some (.slice A166_0 ((rd_T79 x7_2 0).f0).length c166_0) ∧ w'.cell? ⟨ad166.block, ad166.off + 1, none⟩ = some (.int .i64 ((rd_T79 x7_2 0).f1))) (ds := [8]) (fb 10 0) (by kernel_rfl) rfl rfl (zd5 BK159.out ⟨hx166_0, hx166_1⟩) (fun hHeld => ?_); refine with_tabW spec_SieveOf.tab7 spec_SieveOf.bits7 (fun HT_ HW_ => ?_); generalize w25.drew = w27 at HO_7 HO_160003 HO165 BK153 BK159 HB HL166_0 HR166_0 hx166_0 hx166_1 hHeld ⊢; refine zu 1 2 ?_; refine zu 2 6 ?_; refine zx 0 7 hHeld ?_; refine zx 3 15 hHeld ?_; refine zone 4 31 (fun K hK => ?_); refine zG2 Try.func81 #[.agg #[.string x160000_2, .string x160001_2, .string x160002_2, .slice Ao28 x160003_2.length co28, .int .i64 x160004_2], .agg #[.slice A166_0 ((rd_T79 x7_2 0).f0).length c166_0, .int .i64 ((rd_T79 x7_2 0).f1)]] ?_
       with_reducible refine (spec_l3Put.calls k2 x160000_2 x160001_2 x160002_2 (fun k_ => some k_ = (.slice Ao28 x160003_2.length co28 : Value).ownBlock) (.slice Ao28 x160003_2.length co28) x160003_2 x160004_2 (fun k_ => ((((P0_ k_ ∨ w.heap.size ≤ k_) ∧ (some k_ ≠ (.slice Ao28 x160003_2.length co28 : Value).ownBlock ∧ (k_ ≠ gb153 ∧ k_ ≠ gb159))) ∧ some k_ ≠ (v164 : Value).ownBlock) ∧ some k_ ≠ (.slice (some ad166) x7_2.length co24 : Value).ownBlock)) _ _ ((rd_T79 x7_2 0).f0) ((rd_T79 x7_2 0).f1) t167 t168 t169 t170 t173 t174 w _ ?side1 ?side2 ?side3 A20.out).mono ?_
       (case side1 => repeat (first | (with_reducible first | exact HB.out | apply below_alloc | apply pw_below_drewN | apply below_drew1 | refine below_set ?_ GE153.out | refine below_set ?_ GE159.out) | exact HB.out)); (case side2 => exact Kd.R_tight rfl HO_160003.out); (case side3 => exact Kd.V_mono (HL166_0.out) (fun k_ hk_ => ⟨hk_, hk_.1.1.2.1⟩)); rintro e w29 ⟨v171, v175, rfl, ho0, ho1, hb, hkp⟩; have HS5_ := cell_kept (hHeld.2.2.2.2.2.1) hkp (by first | (rw [add_block]; exact (fun hs_ => (((HO_7.out).1 _ rfl).1.2.1) hs_)) | (show ¬ _; simp only [add_block]; exact (fun hs_ => (((HO_7.out).1 _ rfl).1.2.1) hs_)) | exact (fun hs_ => (((HO_7.out).1 _ rfl).1.2.1) hs_)); have HS6_ := cell_kept (hHeld.2.2.2.2.2.2) hkp (by first | (rw [add_block]; exact (fun hs_ => (((HO_7.out).1 _ rfl).1.2.1) hs_)) | (show ¬ _; simp only [add_block]; exact (fun hs_ => (((HO_7.out).1 _ rfl).1.2.1) hs_)) | exact (fun hs_ => (((HO_7.out).1 _ rfl).1.2.1) hs_)); refine ⟨_, rfl, ?_⟩; have HO172 := z0 (Kd.R_mono (ok' := fun k_ => (w.heap.size ≤ k_)) ho0 (fun k_ hk_ => Or.elim hk_ (fun hs_ => (HO_160003.out.1 k_ (hs_).symm)) (fun hn_ => (Nat.le_trans (below_size (zb HB.out)) hn_)))); have HO176 := z0 (Kd.N_lower (Kd.N_mono (ok' := fun k_ => (P0_ k_ ∨ w.heap.size ≤ k_) ∧ some k_ ≠ (v171 : Value).ownBlock ∧ some k_ ≠ (.slice (some ad166) x7_2.length co24 : Value).ownBlock ∧ some k_ ≠ (v164 : Value).ownBlock ∧ k_ ≠ gb153 ∧ k_ ≠ gb159) ho1 (fun k_ hk_ => ⟨Or.elim hk_.1 (fun hs_ => Or.elim hs_ (fun hs_ => (.inr ((HO_160003.out.1 k_ (hs_).symm)))) (fun hs_ => hs_.1.1.1)) (fun hn_ => (.inr (Nat.le_trans (below_size (zb HB.out)) hn_))), hk_.2, Or.elim hk_.1 (fun hs_ => Or.elim hs_ (fun hs_ => fun e_ => (((HO_7.out).1 k_ e_.symm).1.2.1) hs_) (fun hs_ => hs_.2)) (fun hn_ => (Kd.fresh' (Kd.N_lt (zN HO_7.out)) k_ hn_)), Or.elim hk_.1 (fun hs_ => Or.elim hs_ (fun hs_ => fun e_ => (((HO165.out).1 k_ e_.symm).2.2.1) hs_) (fun hs_ => hs_.1.2)) (fun hn_ => (Kd.fresh' (Kd.N_lt (zN HO165.out)) k_ hn_)), Or.elim hk_.1 (fun hs_ => Or.elim hs_ (fun hs_ => fun e_ => (Kd.R_ne HO_160003.out BK153.out (by decide)) (by rw [← e_]; exact hs_)) (fun hs_ => hs_.1.1.2.2.1)) (fun hn_ => (Kd.freshB (g := gb153) (o := .cells #[.string ⟨#[]⟩, .string ⟨#[]⟩, .string ⟨#[]⟩, .slice none 0 0, .int .i64 0] 25 (0, 0)) (zl BK153.out) k_ hn_)), Or.elim hk_.1 (fun hs_ => Or.elim hs_ (fun hs_ => fun e_ => (Kd.R_ne HO_160003.out BK159.out (by decide)) (by rw [← e_]; exact hs_)) (fun hs_ => hs_.1.1.2.2.2)) (fun hn_ => (Kd.freshB (g := gb159) (o := .cells #[.string x160000_2, .string x160001_2, .string x160002_2, .slice Ao28 x160003_2.length co28, .int .i64 x160004_2] 25 (0, 0)) (zl BK159.out) k_ hn_))⟩)) (below_size (zb HB.out))); replace HO_7 := z0 (Kd.N_mono (ok' := fun k_ => (P0_ k_ ∨ w.heap.size ≤ k_) ∧ some k_ ≠ (v164 : Value).ownBlock ∧ k_ ≠ gb153 ∧ k_ ≠ gb159 ∧ some k_ ≠ (v171 : Value).ownBlock ∧ some k_ ≠ (v175 : Value).ownBlock) (Kd.N_keptB (HO_7.out) hkp (fun k_ hk_ hs_ => (hk_.1.2.1) hs_)) (fun k_ hk_ => ⟨hk_.1.1.1, hk_.1.2, hk_.1.1.2.2.1, hk_.1.1.2.2.2, fun e_ => Or.elim (ho0.1 k_ e_.symm) (fun hs_ => hk_.2.1 hs_) (fun hn_ => Nat.not_le.2 hk_.2.2 hn_), fun e_ => Nat.not_le.2 hk_.2.2 (Kd.N_base ho1 k_ e_.symm)⟩)); replace BK153 := z0 (blk_kept (zl BK153.out) hkp (fun hs_ => (fun e_ => (Kd.R_ne HO_160003.out BK153.out (by decide)) e_) hs_)); replace BK159 := z0 (blk_kept (zl BK159.out) hkp (fun hs_ => (fun e_ => (Kd.R_ne HO_160003.out BK159.out (by decide)) e_) hs_)); replace HO165 := z0 (Kd.N_mono (ok' := fun k_ => (P0_ k_ ∨ w.heap.size ≤ k_) ∧ some k_ ≠ (.slice (some ad166) x7_2.length co24 : Value).ownBlock ∧ k_ ≠ gb153 ∧ k_ ≠ gb159 ∧ some k_ ≠ (v171 : Value).ownBlock ∧ some k_ ≠ (v175 : Value).ownBlock) (Kd.N_keptB (HO165.out) hkp (fun k_ hk_ hs_ => (hk_.2.2.1) hs_)) (fun k_ hk_ => ⟨hk_.1.1, hk_.1.2.1, hk_.1.2.2.2.1, hk_.1.2.2.2.2, fun e_ => Or.elim (ho0.1 k_ e_.symm) (fun hs_ => hk_.2.1 hs_) (fun hn_ => Nat.not_le.2 hk_.2.2 hn_), fun e_ => Nat.not_le.2 hk_.2.2 (Kd.N_base ho1 k_ e_.symm)⟩)); replace HB := z0 (hb); clear HO_160003 HL166_0; (try clear hb); (try clear hkp); (try clear ho0); (try clear ho1); obtain ⟨Ao33, co33, eo33⟩ := Kd.R_slice HO172.out; (first | subst eo33 | (injection eo33 with f1_ f2_ f3_; have f4_ := f1_.symm; have f5_ := f3_.symm; clear f1_ f2_ f3_; subst f4_; subst f5_)); refine hK.out _ _ (zd5 BK159.out ⟨HS5_, HS6_⟩) (fun hHeld => ?_); clear hK K; refine znm ?_; refine zu 5 63 ?_; refine zu 6 127 ?_; refine zu 7 255 ?_; refine last_ (i := 8) (N := none) (fb 10 511) rfl rfl (one_of HT_.out (by kernel_rfl)) (by decide) (fun K hK => ?_); have hs30 : w29.cell? ⟨gb159, 0, none⟩ = some (.string x160000_2) := (blk_cell BK159.out 0).trans rfl; have hfs30 := blk_frozen BK159.out 0; have hns30_0 := NB153_159.out; have hms30_0 := NB159_153.out; have hs31 : w29.cell? ⟨gb159, 1, none⟩ = some (.string x160001_2) := (blk_cell BK159.out 1).trans rfl; have hfs31 := blk_frozen BK159.out 1; have hns31_0 := NB153_159.out; have hms31_0 := NB159_153.out; have hs32 : w29.cell? ⟨gb159, 2, none⟩ = some (.string x160002_2) := (blk_cell BK159.out 2).trans rfl; have hfs32 := blk_frozen BK159.out 2; have hns32_0 := NB153_159.out; have hms32_0 := NB159_153.out; have hs34 : w29.cell? ⟨gb159, 3, none⟩ = some (.slice Ao28 x160003_2.length co28) := (blk_cell BK159.out 3).trans rfl; have hfs34 := blk_frozen BK159.out 3; have hns34_0 := NB153_159.out; have hms34_0 := NB159_153.out; have hs35 : w29.cell? ⟨gb159, 4, none⟩ = some (.int .i64 x160004_2) := (blk_cell BK159.out 4).trans rfl; have hfs35 := blk_frozen BK159.out 4; have hns35_0 := NB153_159.out; have hms35_0 := NB159_153.out; refine skip_ (w1 := ?_) (by rfl) rfl ?_ ?_; rotate_left
       ·go_simp
        rfl
       refine hK.out _ _ ?_; clear hK K; refine zu 9 1023 ?_; refine done_ (done_of HT_.out (by kernel_rfl)) ?_
       try go_wp2_with (first | ((with_reducible refine gd 36 ?_); refine Kd.N_lit k79 _ 79 ?hg (N' := 36) ?hd (xs := ([] : List (S79))) (inner := []) (ok := (fun k_ => (P0_ k_ ∨ w.heap.size ≤ k_) ∧ some k_ ≠ (.slice (some ad166) x7_2.length co24 : Value).ownBlock ∧ some k_ ≠ (v164 : Value).ownBlock ∧ some k_ ≠ (.slice Ao33 t170.length co33 : Value).ownBlock ∧ some k_ ≠ (v175 : Value).ownBlock ∧ k_ ≠ gb153 ∧ k_ ≠ gb159)) (okp := (fun k_ => (P0_ k_ ∨ w.heap.size ≤ k_) ∧ some k_ ≠ (.slice (some ad166) x7_2.length co24 : Value).ownBlock ∧ some k_ ≠ (v164 : Value).ownBlock ∧ some k_ ≠ (.slice Ao33 t170.length co33 : Value).ownBlock ∧ some k_ ≠ (v175 : Value).ownBlock ∧ k_ ≠ gb153 ∧ k_ ≠ gb159)) ?hr ?hp (fun _ hk => hk) ((show ∀ k_, (((((w29.setCell ⟨gb159, 0, none⟩ (.string t167)).setCell ⟨gb159, 1, none⟩ (.string t168)).setCell ⟨gb159, 2, none⟩ (.string t169)).setCell ⟨gb159, 3, none⟩ (.slice Ao33 t170.length co33)).setCell ⟨gb159, 4, none⟩ (.int .i64 t173)).heap.size ≤ k_ → (fun k_ => (P0_ k_ ∨ w.heap.size ≤ k_) ∧ some k_ ≠ (.slice (some ad166) x7_2.length co24 : Value).ownBlock ∧ some k_ ≠ (v164 : Value).ownBlock ∧ some k_ ≠ (.slice Ao33 t170.length co33 : Value).ownBlock ∧ some k_ ≠ (v175 : Value).ownBlock ∧ k_ ≠ gb153 ∧ k_ ≠ gb159) k_ from fun k_ hk => ⟨(.inr (Nat.le_trans (below_size (zb HB.out)) hk)), Kd.fresh' (Kd.N_lt (by (with_reducible repeat (first | apply Kd.N_alloc | apply Kd.N_drewN | apply Kd.N_drew)); exact (Kd.N_mono (Kd.N_far (p := ⟨gb159, 4, none⟩) (Kd.N_far (p := ⟨gb159, 3, none⟩) (Kd.N_far (p := ⟨gb159, 2, none⟩) (Kd.N_far (p := ⟨gb159, 1, none⟩) (Kd.N_far (p := ⟨gb159, 0, none⟩) (Kd.N_mono HO_7.out (fun k_ hk => (⟨hk, hk.2.2.2.1⟩ : _ ∧ k_ ≠ gb159))) (fun _ hk => hk.2) (.string t167)) (fun _ hk => hk.2) (.string t168)) (fun _ hk => hk.2) (.string t169)) (fun _ hk => hk.2) (.slice Ao33 t170.length co33)) (fun _ hk => hk.2) (.int .i64 t173)) (fun _ h_ => h_.1)))) k_ hk, Kd.fresh' (Kd.N_lt (by (with_reducible repeat (first | apply Kd.N_alloc | apply Kd.N_drewN | apply Kd.N_drew)); exact (Kd.N_mono (Kd.N_far (p := ⟨gb159, 4, none⟩) (Kd.N_far (p := ⟨gb159, 3, none⟩) (Kd.N_far (p := ⟨gb159, 2, none⟩) (Kd.N_far (p := ⟨gb159, 1, none⟩) (Kd.N_far (p := ⟨gb159, 0, none⟩) (Kd.N_mono HO165.out (fun k_ hk => (⟨hk, hk.2.2.2.1⟩ : _ ∧ k_ ≠ gb159))) (fun _ hk => hk.2) (.string t167)) (fun _ hk => hk.2) (.string t168)) (fun _ hk => hk.2) (.string t169)) (fun _ hk => hk.2) (.slice Ao33 t170.length co33)) (fun _ hk => hk.2) (.int .i64 t173)) (fun _ h_ => h_.1)))) k_ hk, Kd.fresh' (Kd.R_lt (zs HO172.out BK159.out)) k_ hk, Kd.fresh' (Kd.N_lt (by (with_reducible repeat (first | apply Kd.N_alloc | apply Kd.N_drewN | apply Kd.N_drew)); exact (Kd.N_mono (Kd.N_far (p := ⟨gb159, 4, none⟩) (Kd.N_far (p := ⟨gb159, 3, none⟩) (Kd.N_far (p := ⟨gb159, 2, none⟩) (Kd.N_far (p := ⟨gb159, 1, none⟩) (Kd.N_far (p := ⟨gb159, 0, none⟩) (Kd.N_mono HO176.out (fun k_ hk => (⟨hk, hk.2.2.2.2.2⟩ : _ ∧ k_ ≠ gb159))) (fun _ hk => hk.2) (.string t167)) (fun _ hk => hk.2) (.string t168)) (fun _ hk => hk.2) (.string t169)) (fun _ hk => hk.2) (.slice Ao33 t170.length co33)) (fun _ hk => hk.2) (.int .i64 t173)) (fun _ h_ => h_.1)))) k_ hk, Kd.freshB (g := gb153) (o := .cells #[.string ⟨#[]⟩, .string ⟨#[]⟩, .string ⟨#[]⟩, .slice none 0 0, .int .i64 0] 25 (0, 0)) (zy BK153.out) k_ hk, Kd.freshB (g := gb159) (o := .cells #[.string t167, .string t168, .string t169, .slice Ao33 t170.length co33, .int .i64 t173] 25 (0, 0)) (zp BK159.out) k_ hk⟩) _ (Nat.le_refl _)) (Below.refl _ _) (Nat.le_refl _) (by simp) ?_; (case hd => rfl); (case hg => rfl); (case hr => first | (go_simp; done) | (go_simp; rfl)); (case hp => exact (Reps.none _ _)); intro v178 w36 ho37 hb hg_ hnew_; clear hg_ hnew_; (first | rw [← Ny177.out] at ho37 | (simp only [Int.reduceToNat] at ho37; rw [← Ny177.out] at ho37)); replace HO_7 := z0 (Kd.N_elder' (by (with_reducible repeat (first | apply Kd.N_alloc | apply Kd.N_drewN | apply Kd.N_drew)); exact (Kd.N_mono (Kd.N_far (p := ⟨gb159, 4, none⟩) (Kd.N_far (p := ⟨gb159, 3, none⟩) (Kd.N_far (p := ⟨gb159, 2, none⟩) (Kd.N_far (p := ⟨gb159, 1, none⟩) (Kd.N_far (p := ⟨gb159, 0, none⟩) (Kd.N_mono HO_7.out (fun k_ hk => (⟨hk, hk.2.2.2.1⟩ : _ ∧ k_ ≠ gb159))) (fun _ hk => hk.2) (.string t167)) (fun _ hk => hk.2) (.string t168)) (fun _ hk => hk.2) (.string t169)) (fun _ hk => hk.2) (.slice Ao33 t170.length co33)) (fun _ hk => hk.2) (.int .i64 t173)) (fun _ h_ => h_.1))) (Kd.N_base ho37) hb); replace HO165 := z0 (Kd.N_elder' (by (with_reducible repeat (first | apply Kd.N_alloc | apply Kd.N_drewN | apply Kd.N_drew)); exact (Kd.N_mono (Kd.N_far (p := ⟨gb159, 4, none⟩) (Kd.N_far (p := ⟨gb159, 3, none⟩) (Kd.N_far (p := ⟨gb159, 2, none⟩) (Kd.N_far (p := ⟨gb159, 1, none⟩) (Kd.N_far (p := ⟨gb159, 0, none⟩) (Kd.N_mono HO165.out (fun k_ hk => (⟨hk, hk.2.2.2.1⟩ : _ ∧ k_ ≠ gb159))) (fun _ hk => hk.2) (.string t167)) (fun _ hk => hk.2) (.string t168)) (fun _ hk => hk.2) (.string t169)) (fun _ hk => hk.2) (.slice Ao33 t170.length co33)) (fun _ hk => hk.2) (.int .i64 t173)) (fun _ h_ => h_.1))) (Kd.N_base ho37) hb); replace HO172 := zAs HO172 BK159 hb; replace HO176 := z0 (Kd.N_elder' (by (with_reducible repeat (first | apply Kd.N_alloc | apply Kd.N_drewN | apply Kd.N_drew)); exact (Kd.N_mono (Kd.N_far (p := ⟨gb159, 4, none⟩) (Kd.N_far (p := ⟨gb159, 3, none⟩) (Kd.N_far (p := ⟨gb159, 2, none⟩) (Kd.N_far (p := ⟨gb159, 1, none⟩) (Kd.N_far (p := ⟨gb159, 0, none⟩) (Kd.N_mono HO176.out (fun k_ hk => (⟨hk, hk.2.2.2.2.2⟩ : _ ∧ k_ ≠ gb159))) (fun _ hk => hk.2) (.string t167)) (fun _ hk => hk.2) (.string t168)) (fun _ hk => hk.2) (.string t169)) (fun _ hk => hk.2) (.slice Ao33 t170.length co33)) (fun _ hk => hk.2) (.int .i64 t173)) (fun _ h_ => h_.1))) (Kd.N_base ho37) hb); have HO179 := z0 (Kd.N_lower ho37 (below_size (zb HB.out))); replace BK153 := zKy BK153 hb; replace BK159 := z0 (blk_below (zpc BK159.out #[.string t167, .string t168, .string t169, .slice Ao33 t170.length co33, .int .i64 t173]) hb); replace HB := zH HB hb; clear hb ho37; have q38 : (1 : Int) ≤ ((x7_2.length : Int) : Int) := zd; obtain ⟨i038, hi038, _, hsz38, _⟩ := info_parts info79; have hroom38 : x7_2.length ≤ co24 := (Kd.N_reads' HO_7.out).2.1; have hC38 : Kd.F k79 _ _ (some ad166) x7_2.length x7_2 := (Kd.V_at (base := w.heap.size) (Kd.N_V HO_7.out)).2.2; have hcut38 := cut_from (P := Try.prog) 80 79 .i64 Try.underlying80 hi038 2 hsz38 (some ad166) x7_2.length co24 1 (by omega) q38; have hr38 := Kd.F_cut (m := (1 : Int).toNat) (c := co24) hC38 (by omega) hroom38; obtain ⟨A38, hA38⟩ : ∃ A1, A1 = (if co24 = (1 : Int).toNat then (some ad166) else ((some ad166) : Option Addr).map (·.add ((1 : Int).toNat * 2))) := ⟨_, rfl⟩; obtain ⟨c38, hc38⟩ : ∃ c1, c1 = co24 - (1 : Int).toNat := ⟨_, rfl⟩; have hy38 : y180.length = x7_2.length - (1 : Int).toNat := (by rw [Ny180.out, List.length_drop] <;> omega); rw [show (x7_2).drop (1 : Int).toNat = y180 from Ny180.out.symm] at hr38; replace hr38 : Kd.F k79 _ _ A38 y180.length y180 := (by rw [hA38]; exact hr38); rw [← hy38, ← hA38, ← hc38] at hcut38; have HO184 := z0 (show Kd.V k79 79 _ w.heap.size _ (.slice A38 y180.length c38) y180 from Kd.V_mk (by rw [hy38, hc38]; exact Nat.sub_le_sub_right hroom38 _) hr38); have HC184 := z0 (show y180.length ≤ c38 from by rw [hy38, hc38]; exact Nat.sub_le_sub_right hroom38 _); clear hr38 hC38 hroom38 hi038 hsz38 hc38; have KY38 := z0 hy38; have KA38 := z0 hA38; clear hy38 hA38; replace q38 := eq_true q38) | ((with_reducible refine gate_builtin (b := .append) (xs := #[.tmp 36, .tmp 38]) rfl ?_); at_builtin; refine Kd.N_append_rows k79 (w0 := w) w.heap.size rfl (.tmp 36) (.tmp 38) 80 79 (.agg #[(.slice none 0 0), (.int .i64 0)]) 32 rfl Try.underlying80 info79 rfl (by decide) (by omega) v178 y177 y180 _ _ _ (fun k_ => (P0_ k_ ∨ w.heap.size ≤ k_) ∧ some k_ ≠ (v164 : Value).ownBlock ∧ some k_ ≠ (.slice Ao33 t170.length co33 : Value).ownBlock ∧ some k_ ≠ (v175 : Value).ownBlock ∧ k_ ≠ gb153 ∧ k_ ≠ gb159) (fun k_ => ((fun k_ => (P0_ k_ ∨ w.heap.size ≤ k_) ∧ some k_ ≠ (v164 : Value).ownBlock ∧ some k_ ≠ (.slice Ao33 t170.length co33 : Value).ownBlock ∧ some k_ ≠ (v175 : Value).ownBlock ∧ k_ ≠ gb153 ∧ k_ ≠ gb159)) k_ ∧ some k_ ≠ (v178 : Value).ownBlock) rfl rfl ?aO ?aR (fun _ hk => hk) ?aF ?aB ?aS ?aL ?_; (case aR => exact (by skip; exact Kd.V_F (Kd.V_mono (ok' := (fun k_ => ((fun k_ => (P0_ k_ ∨ w.heap.size ≤ k_) ∧ some k_ ≠ (v164 : Value).ownBlock ∧ some k_ ≠ (.slice Ao33 t170.length co33 : Value).ownBlock ∧ some k_ ≠ (v175 : Value).ownBlock ∧ k_ ≠ gb153 ∧ k_ ≠ gb159)) k_ ∧ some k_ ≠ (v178 : Value).ownBlock)) (HO184.out) (fun k_ hk => ⟨⟨hk.1.1, ⟨hk.1.2.1, ⟨hk.1.2.2.2.2.1, ⟨hk.1.2.2.2.2.2, ⟨hk.1.2.2.1, hk.1.2.2.2.1⟩⟩⟩⟩⟩, hk.2⟩)))); (case aB => exact (zb HB.out)); (case aF => exact (fun k_ hk => ⟨(.inr (Nat.le_trans (below_size (zb HB.out)) hk)), Kd.fresh' (Kd.N_lt (zN HO165.out)) k_ hk, Kd.fresh' (Kd.R_lt (zr HO172.out)) k_ hk, Kd.fresh' (Kd.N_lt (zN HO176.out)) k_ hk, Kd.freshB (g := gb153) (o := .cells #[.string ⟨#[]⟩, .string ⟨#[]⟩, .string ⟨#[]⟩, .slice none 0 0, .int .i64 0] 25 (0, 0)) (zl BK153.out) k_ hk, Kd.freshB (g := gb159) (o := .cells #[.string t167, .string t168, .string t169, .slice Ao33 t170.length co33, .int .i64 t173] 25 (0, 0)) (zl BK159.out) k_ hk⟩)); (case aO => exact (Kd.N_mono (zN HO179.out) (fun _ hk => ⟨hk.1, ⟨hk.2.2.1, ⟨hk.2.2.2.1, ⟨hk.2.2.2.2.1, ⟨hk.2.2.2.2.2.1, hk.2.2.2.2.2.2⟩⟩⟩⟩⟩))); (case aS => exact (below_size (zb HB.out))); (case aL => have := LMc22.out; omega); intro v186 w39 ho hb hg hat; rw [← Ny185.out] at ho; replace HO_7 := z0 (Kd.N_afterv (ok := (fun k_ => (P0_ k_ ∨ w.heap.size ≤ k_) ∧ some k_ ≠ (v164 : Value).ownBlock ∧ some k_ ≠ (.slice Ao33 t170.length co33 : Value).ownBlock ∧ some k_ ≠ (v175 : Value).ownBlock ∧ k_ ≠ gb153 ∧ k_ ≠ gb159)) (Kd.N_mono (zN HO_7.out) (fun _ hk => ⟨⟨hk.1.1, ⟨hk.1.2.1, ⟨hk.1.2.2.2.2.1, ⟨hk.1.2.2.2.2.2, ⟨hk.1.2.2.1, hk.1.2.2.2.1⟩⟩⟩⟩⟩, hk.2⟩)) hg hat); replace BK153 := z0 (blk_grown (zl BK153.out) hg (Kd.N_ne HO179.out BK153.out (by decide))); replace BK159 := z0 (blk_grown (zl BK159.out) hg (Kd.N_ne HO179.out BK159.out (by decide))); replace HO165 := z0 (Kd.N_afterv (ok := (fun k_ => (P0_ k_ ∨ w.heap.size ≤ k_) ∧ some k_ ≠ (.slice (some ad166) x7_2.length co24 : Value).ownBlock ∧ some k_ ≠ (.slice Ao33 t170.length co33 : Value).ownBlock ∧ some k_ ≠ (v175 : Value).ownBlock ∧ k_ ≠ gb153 ∧ k_ ≠ gb159)) (Kd.N_mono (zN HO165.out) (fun _ hk => ⟨⟨hk.1.1, ⟨hk.1.2.1, ⟨hk.1.2.2.2.2.1, ⟨hk.1.2.2.2.2.2, ⟨hk.1.2.2.1, hk.1.2.2.2.1⟩⟩⟩⟩⟩, hk.2⟩)) hg hat); replace HO172 := z0 (Kd.R_over' (zr HO172.out) (Kd.N_typed (zN HO179.out)) (by decide) hg); replace HO176 := z0 (Kd.N_afterv (ok := (fun k_ => (P0_ k_ ∨ w.heap.size ≤ k_) ∧ some k_ ≠ (.slice (some ad166) x7_2.length co24 : Value).ownBlock ∧ some k_ ≠ (v164 : Value).ownBlock ∧ some k_ ≠ (.slice Ao33 t170.length co33 : Value).ownBlock ∧ k_ ≠ gb153 ∧ k_ ≠ gb159)) (Kd.N_mono (zN HO176.out) (fun _ hk => ⟨⟨hk.1.1, ⟨hk.1.2.2.1, ⟨hk.1.2.2.2.1, ⟨hk.1.2.1, ⟨hk.1.2.2.2.2.1, hk.1.2.2.2.2.2⟩⟩⟩⟩⟩, hk.2⟩)) hg hat); replace HO184 := z0 (Kd.V_afterv (ok := (fun k_ => (P0_ k_ ∨ w.heap.size ≤ k_) ∧ some k_ ≠ (v164 : Value).ownBlock ∧ some k_ ≠ (.slice Ao33 t170.length co33 : Value).ownBlock ∧ some k_ ≠ (v175 : Value).ownBlock ∧ k_ ≠ gb153 ∧ k_ ≠ gb159)) (Kd.V_mono (zV HO184.out) (fun _ hk => ⟨⟨hk.1.1, ⟨hk.1.2.1, ⟨hk.1.2.2.2.2.1, ⟨hk.1.2.2.2.2.2, ⟨hk.1.2.2.1, hk.1.2.2.2.1⟩⟩⟩⟩⟩, hk.2⟩)) hg hat); replace HB := z0 (hb); have HO187 := z0 (ho); clear HO179; clear ho hb hg hat; obtain ⟨Ao41, co41, eo41⟩ := Kd.N_slice HO176.out; subst eo41) | ((with_reducible refine gate_builtin (b := .append) (xs := #[.tmp 39, .tmp 40]) rfl ?_); at_builtin; refine Kd.N_append_rows k79 (w0 := w) w.heap.size rfl (.tmp 39) (.tmp 40) 80 79 (.agg #[(.slice none 0 0), (.int .i64 0)]) 32 rfl Try.underlying80 info79 rfl (by decide) (by omega) v186 y185 t174 _ _ _ (fun k_ => (P0_ k_ ∨ w.heap.size ≤ k_) ∧ some k_ ≠ (v164 : Value).ownBlock ∧ some k_ ≠ (.slice Ao33 t170.length co33 : Value).ownBlock ∧ k_ ≠ gb153 ∧ k_ ≠ gb159) (fun k_ => ((fun k_ => (P0_ k_ ∨ w.heap.size ≤ k_) ∧ some k_ ≠ (v164 : Value).ownBlock ∧ some k_ ≠ (.slice Ao33 t170.length co33 : Value).ownBlock ∧ k_ ≠ gb153 ∧ k_ ≠ gb159)) k_ ∧ some k_ ≠ (v186 : Value).ownBlock) rfl rfl ?aO ?aR (fun _ hk => hk) ?aF ?aB ?aS ?aL ?_; (case aR => exact (by skip; exact Kd.N_F (Kd.N_mono (ok' := (fun k_ => ((fun k_ => (P0_ k_ ∨ w.heap.size ≤ k_) ∧ some k_ ≠ (v164 : Value).ownBlock ∧ some k_ ≠ (.slice Ao33 t170.length co33 : Value).ownBlock ∧ k_ ≠ gb153 ∧ k_ ≠ gb159)) k_ ∧ some k_ ≠ (v186 : Value).ownBlock)) (HO176.out) (fun k_ hk => ⟨⟨hk.1.1, ⟨hk.1.2.2.1, ⟨hk.1.2.2.2.1, ⟨hk.1.2.2.2.2.1, hk.1.2.2.2.2.2⟩⟩⟩⟩, hk.2⟩)))); (case aB => exact (zb HB.out)); (case aF => exact (fun k_ hk => ⟨(.inr (Nat.le_trans (below_size (zb HB.out)) hk)), Kd.fresh' (Kd.N_lt (zN HO165.out)) k_ hk, Kd.fresh' (Kd.R_lt (zr HO172.out)) k_ hk, Kd.freshB (g := gb153) (o := .cells #[.string ⟨#[]⟩, .string ⟨#[]⟩, .string ⟨#[]⟩, .slice none 0 0, .int .i64 0] 25 (0, 0)) (zl BK153.out) k_ hk, Kd.freshB (g := gb159) (o := .cells #[.string t167, .string t168, .string t169, .slice Ao33 t170.length co33, .int .i64 t173] 25 (0, 0)) (zl BK159.out) k_ hk⟩)); (case aO => exact (Kd.N_mono (zN HO187.out) (fun _ hk => ⟨hk.1, ⟨hk.2.1, ⟨hk.2.2.1, ⟨hk.2.2.2.2.1, hk.2.2.2.2.2⟩⟩⟩⟩))); (case aS => exact (below_size (zb HB.out))); (case aL => have := LMc23.out; omega); intro v189 w40 ho hb hg hat; rw [← Ny188.out] at ho; replace HO_7 := z0 (Kd.N_afterv (ok := (fun k_ => (P0_ k_ ∨ w.heap.size ≤ k_) ∧ some k_ ≠ (v164 : Value).ownBlock ∧ some k_ ≠ (.slice Ao33 t170.length co33 : Value).ownBlock ∧ some k_ ≠ (.slice Ao41 t174.length co41 : Value).ownBlock ∧ k_ ≠ gb153 ∧ k_ ≠ gb159)) (zN HO_7.out) hg hat); replace BK153 := z0 (blk_grown (zl BK153.out) hg (Kd.N_ne HO187.out BK153.out (by decide))); replace BK159 := z0 (blk_grown (zl BK159.out) hg (Kd.N_ne HO187.out BK159.out (by decide))); replace HO165 := z0 (Kd.N_afterv (ok := (fun k_ => (P0_ k_ ∨ w.heap.size ≤ k_) ∧ some k_ ≠ (.slice (some ad166) x7_2.length co24 : Value).ownBlock ∧ some k_ ≠ (.slice Ao33 t170.length co33 : Value).ownBlock ∧ some k_ ≠ (.slice Ao41 t174.length co41 : Value).ownBlock ∧ k_ ≠ gb153 ∧ k_ ≠ gb159)) (zN HO165.out) hg hat); replace HO172 := z0 (Kd.R_over' (zr HO172.out) (Kd.N_typed (zN HO187.out)) (by decide) hg); replace HO176 := z0 (Kd.N_afterv (ok := (fun k_ => (P0_ k_ ∨ w.heap.size ≤ k_) ∧ some k_ ≠ (.slice (some ad166) x7_2.length co24 : Value).ownBlock ∧ some k_ ≠ (v164 : Value).ownBlock ∧ some k_ ≠ (.slice Ao33 t170.length co33 : Value).ownBlock ∧ k_ ≠ gb153 ∧ k_ ≠ gb159)) (zN HO176.out) hg hat); replace HO184 := z0 (Kd.V_afterv (ok := (fun k_ => (P0_ k_ ∨ w.heap.size ≤ k_) ∧ some k_ ≠ (v164 : Value).ownBlock ∧ some k_ ≠ (.slice Ao33 t170.length co33 : Value).ownBlock ∧ some k_ ≠ (.slice Ao41 t174.length co41 : Value).ownBlock ∧ k_ ≠ gb153 ∧ k_ ≠ gb159)) (zV HO184.out) hg hat); replace HB := z0 (hb); have HO190 := z0 (ho); clear HO187; clear ho hb hg hat))
       go_roundg k2
       case measure => have := HJ2.out; have := HK2.out; omega
       case rel => exact ⟨(y188), (t167), (t168), (t169), (t170), (t173), (.slice Ao33 t170.length co33), H', ⟨by have := HJ2.out; have := HK2.out; omega⟩, ⟨Kd.N_mono (zN HO190.out) (fun _ hk => ⟨hk.1, ⟨hk.2.2.1, ⟨hk.2.2.2.1, hk.2.2.2.2⟩⟩⟩)⟩, ⟨zr HO172.out⟩, ⟨zl BK153.out⟩, ⟨zl BK159.out⟩, ⟨zb HB.out⟩⟩
      ·rw [if_neg c18] at H; have c18b0 : decide (0 < (x7_2.length : Int)) = false := decide_eq_false c18; have c18b1 : decide (0 < x7_2.length) = false := decide_eq_false (by omega); clear c18; simp only [Option.some.injEq, Prod.mk.injEq] at H; obtain ⟨rfl, rfl, rfl, rfl, rfl, rfl⟩ := H; obtain ⟨Ao42, co42, eo42⟩ := Kd.N_slice HO_7.out; subst eo42; have hnb43 := NB159_153.out; have hnc43 := NB153_159.out; have hcz44 := zc5 BK159.out; have hcz45 := zc5 BK153.out; obtain ⟨Ao46, co46, eo46⟩ := Kd.R_slice HO_160003.out; subst eo46; go_wp2; refine bodyPost_ret (results_ct rfl _ _ gb153 25 #[.string x160000_2, .string x160001_2, .string x160002_2, .slice Ao46 x160003_2.length co46, .int .i64 x160004_2] (0, 0) _ rfl (zp BK153.out) Try.underlying25 rfl (by kernel_rfl)) rfl ?_; exact ⟨_, ze, Kd.R_mono (zt HO_160003.out BK153.out) (fun _ hk => hk.1), zb HB.out⟩
end Go.Proofs.Ytifgcajpkgamgaa.Q
end
section
set_option linter.unusedVariables false
set_option linter.unusedSimpArgs false
namespace Go.Proofs.Ytifgcajpkgamgaa.Pb
open Go Go.RowKit Go.Proofs.YtifgcajpkgamgaaW.PrintWords Go.Proofs.YtifgcajpkgamgaaW.PrintLast Go.Proofs.YtifgcajpkgamgaaW.PrintMore Go.Proofs.Ytifgcajpkgamgaa.Trie Go.Proofs.Ytifgcajpkgamgaa.Q
def bitc (c : UInt8) : Bool := c == 48 || c == 49
def bitsB (l : List UInt8) : Bool := l.all bitc && decide (l.length ≤ 400)
theorem bitc_48 {c : UInt8} (h : c = 48) : bitc c = true := by subst h; rfl
theorem bitc_49 {c : UInt8} (h : c = 49) : bitc c = true := by subst h; rfl
theorem bitc_no {c : UInt8} (h : ¬ c = 48) (h2 : ¬ c = 49) : bitc c = false := by simp [bitc, h, h2]
theorem bt_is {s : ByteArray} {i : Nat} {n : Nat} (hn : n < 256) : bt s (i : Int) = (n : Int) ↔ (L s).getD i 0 = UInt8.ofNat n := by
 rw [bt_L]
 constructor
 ·intro h
  have h1 : ((L s).getD i 0).toNat = n := by omega
  rw [← h1]; simp
 ·intro h
  rw [h]
  simp; omega
theorem all_drop {p : UInt8 → Bool} {l : List UInt8} {i : Nat} (h : i < l.length) : (l.drop i).all p = (p (l.getD i 0) && (l.drop (i + 1)).all p) := by
 rw [drop_cons 0 h, List.all_cons]
theorem spec_BitsOk_l0 (x : ByteArray) (hx : x.size ≤ 140737488355328) (d : Nat) : ∀ i : Nat, i ≤ (L x).length → (L x).length - i = d →
  Ev (fun k => spec_BitsOk.l0 k x (i : Int)) (((L x).drop i).all bitc && decide ((L x).length ≤ 400)) := by
 have hs := size_L x
 induction d with
 | zero =>
  intro i h1 h2
  refine ev_succ ?_
  simp only [spec_BitsOk.l0]
  refine ev_neg (by omega) (ev_some ?_)
  rw [List.drop_eq_nil_of_le (by omega)]
  simp only [List.all_nil, Bool.true_and]
  rw [hs]; congr 1; simp; omega
 | succ d ih =>
  intro i h1 h2
  have hi : i < (L x).length := by omega
  refine ev_succ ?_
  simp only [spec_BitsOk.l0]
  refine ev_pos (by omega) (ev_pos (by omega) ?_)
  rw [w64 (by omega) (by omega), all_drop hi]
  have := ih (i + 1) (by omega) (by omega)
  by_cases c1 : (L x).getD i 0 = 48
  ·refine ev_pos ((bt_is (n := 48) (by omega)).2 c1) ?_
   rw [bitc_48 c1, Bool.true_and]
   exact this
  ·refine ev_neg (fun q => c1 ((bt_is (n := 48) (by omega)).1 q)) ?_
   by_cases c2 : (L x).getD i 0 = 49
   ·refine ev_pos ((bt_is (n := 49) (by omega)).2 c2) ?_
    rw [bitc_49 c2, Bool.true_and]
    exact this
   ·refine ev_neg (fun q => c2 ((bt_is (n := 49) (by omega)).1 q)) (ev_some ?_)
    rw [bitc_no c1 c2]; rfl
theorem spec_BitsOk_ev (x : ByteArray) (hx : x.size ≤ 140737488355328) : Ev (fun k => spec_BitsOk.f k x) (bitsB (L x)) := by
 have := spec_BitsOk_l0 x hx (L x).length 0 (by omega) (by omega)
 simpa [spec_BitsOk.f, bitsB] using this
theorem impl_BitsOk_l0 (x : ByteArray) (hx : x.size ≤ 140737488355328) (d : Nat) : ∀ i : Nat, i ≤ (L x).length → (L x).length - i = d →
  Ev (fun k => impl_BitsOk.l0 k x ((L x).length : Int) (i : Int)) (((L x).drop i).all bitc && decide ((L x).length ≤ 400)) := by
 have hs := size_L x
 induction d with
 | zero =>
  intro i h1 h2
  refine ev_succ ?_
  simp only [impl_BitsOk.l0]
  refine ev_neg (by omega) (ev_some ?_)
  rw [List.drop_eq_nil_of_le (by omega)]
  simp only [List.all_nil, Bool.true_and]
  rw [hs]; congr 1; simp; omega
 | succ d ih =>
  intro i h1 h2
  have hi : i < (L x).length := by omega
  refine ev_succ ?_
  simp only [impl_BitsOk.l0]
  refine ev_pos (by omega) (ev_pos (by omega) (ev_pos (by omega) ?_))
  rw [w64 (by omega) (by omega), all_drop hi]
  have := ih (i + 1) (by omega) (by omega)
  by_cases c1 : (L x).getD i 0 = 48
  ·refine ev_pos ((bt_is (n := 48) (by omega)).2 c1) ?_
   rw [bitc_48 c1, Bool.true_and]
   exact this
  ·refine ev_neg (fun q => c1 ((bt_is (n := 48) (by omega)).1 q)) ?_
   by_cases c2 : (L x).getD i 0 = 49
   ·refine ev_pos ((bt_is (n := 49) (by omega)).2 c2) ?_
    rw [bitc_49 c2, Bool.true_and]
    exact this
   ·refine ev_neg (fun q => c2 ((bt_is (n := 49) (by omega)).1 q)) (ev_some ?_)
    rw [bitc_no c1 c2]; rfl
theorem impl_BitsOk_ev (x : ByteArray) (hx : x.size ≤ 140737488355328) : Ev (fun k => impl_BitsOk.f k x) (bitsB (L x)) := by
 have := impl_BitsOk_l0 x hx (L x).length 0 (by omega) (by omega)
 simpa [impl_BitsOk.f, bitsB, size_L] using this
theorem spec_l6In_eq (a b c : Int) : spec_l6In.f a b c = some (decide (b ≤ a ∧ a ≤ c)) := by
 unfold spec_l6In.f
 by_cases h : a ≥ b
 ·rw [if_pos h]; congr 1; simp only [decide_eq_decide]; constructor <;> intro q <;> omega
 ·rw [if_neg h]; congr 1; symm; simp only [decide_eq_false_iff_not]; omega
theorem impl_in_eq (a b c : Int) : impl_in.f a b c = some (decide (b ≤ a ∧ a ≤ c)) := by
 unfold impl_in.f
 by_cases h : b ≤ a
 ·rw [if_pos h]; congr 1; simp only [decide_eq_decide]; constructor <;> intro q <;> omega
 ·rw [if_neg h]; congr 1; symm; simp only [decide_eq_false_iff_not]; omega
theorem onesB_le (l : List UInt8) (n : Nat) : onesB l n ≤ l.length := by
 unfold onesB
 have h1 := List.countP_le_length (p := fun c : UInt8 => c == 49) (l := l.take n)
 have h2 := List.length_take (i := n) (l := l)
 omega
theorem onesB_over (l : List UInt8) {n : Nat} (h : l.length ≤ n) : onesB l n = onesB l l.length := by
 unfold onesB
 rw [List.take_of_length_le h, List.take_of_length_le (Nat.le_refl _)]
theorem onesB_zero (l : List UInt8) : onesB l 0 = 0 := by simp [onesB]
theorem spec_l1Ones_l0 (x : ByteArray) (hx : x.size ≤ 140737488355328) (at_ : Int) (ha : at_ ≤ 9223372036854775807) (d : Nat) : ∀ (i n : Nat), (L x).length - i = d → n ≤ i →
  Ev (fun k => spec_l1Ones.l0 k x at_ (n : Int) (i : Int)) (if (i : Int) < at_ then ((n + onesB (L x) at_.toNat - onesB (L x) i : Nat) : Int) else (n : Int)) := by
 have hs := size_L x
 induction d with
 | zero =>
  intro i n h2 hn
  by_cases q : (i : Int) < at_
  ·rw [if_pos q]
   refine ev_succ ?_
   simp only [spec_l1Ones.l0]
   refine ev_pos q ?_
   refine ev_succ ?_
   simp only [spec_l1Ones.j1]
   refine ev_neg (by simp; omega) (ev_some ?_)
   rw [onesB_over (L x) (n := i) (by omega), onesB_over (L x) (n := at_.toNat) (by omega)]
   omega
  ·rw [if_neg q]
   refine ev_succ ?_
   simp only [spec_l1Ones.l0]
   refine ev_neg q ?_
   refine ev_succ ?_
   simp only [spec_l1Ones.j1]
   exact ev_neg (by simp) (ev_some rfl)
 | succ d ih =>
  intro i n h2 hn
  by_cases q : (i : Int) < at_
  ·rw [if_pos q]
   have hi : i < (L x).length := by omega
   refine ev_succ ?_
   simp only [spec_l1Ones.l0]
   refine ev_pos q ?_
   refine ev_succ ?_
   simp only [spec_l1Ones.j1]
   refine ev_pos (by simp; omega) (ev_pos (by omega) (ev_pos (by omega) ?_))
   have hstep := onesB_succ (L x) hi
   have hmono : onesB (L x) (i + 1) ≤ onesB (L x) at_.toNat := by
    unfold onesB
    exact (List.take_prefix_take_left (by omega)).sublist.countP_le
   rw [w64 (i := (i : Int) + 1) (by omega) (by omega)]
   by_cases c : (L x).getD i 0 = 49
   ·refine ev_pos ((bt_is (n := 49) (by omega)).2 c) ?_
    rw [getD_lt 0 hi] at c
    rw [if_pos c] at hstep
    rw [w64 (by omega) (by omega)]
    have := ih (i + 1) (n + 1) (by omega) (by omega)
    refine ev_eq this ?_
    by_cases q2 : ((i + 1 : Nat) : Int) < at_
    ·rw [if_pos q2]; omega
    ·rw [if_neg q2]
     have : at_.toNat = i + 1 := by omega
     rw [this] at hmono ⊢
     omega
   ·refine ev_neg (fun q => c ((bt_is (n := 49) (by omega)).1 q)) ?_
    rw [getD_lt 0 hi] at c
    rw [if_neg c] at hstep
    have := ih (i + 1) n (by omega) (by omega)
    refine ev_eq this ?_
    by_cases q2 : ((i + 1 : Nat) : Int) < at_
    ·rw [if_pos q2]; omega
    ·rw [if_neg q2]
     have : at_.toNat = i + 1 := by omega
     rw [this] at hmono ⊢
     omega
  ·rw [if_neg q]
   refine ev_succ ?_
   simp only [spec_l1Ones.l0]
   refine ev_neg q ?_
   refine ev_succ ?_
   simp only [spec_l1Ones.j1]
   exact ev_neg (by simp) (ev_some rfl)
theorem spec_l1Ones_ev (x : ByteArray) (hx : x.size ≤ 140737488355328) (at_ : Int) (ha : at_ ≤ 9223372036854775807) : Ev (fun k => spec_l1Ones.f k x at_) ((onesB (L x) at_.toNat : Nat) : Int) := by
 refine ev_eq (spec_l1Ones_l0 x hx at_ ha (L x).length 0 0 (by omega) (by omega)) ?_
 rw [onesB_zero]
 split
 ·omega
 ·have : at_.toNat = 0 := by omega
  rw [this, onesB_zero]
theorem count_L {x a : ByteArray} {c : UInt8} (h : L a = [c]) : strings_Count.f x a = some (((L x).count c : Nat) : Int) := by
 unfold strings_Count.f
 have h1 : a.size = 1 := by rw [size_L, h]; rfl
 rw [if_pos h1]
 have h2 : a.data.toList = [c] := h
 rw [h2]
 rfl
theorem onesB_count (l : List UInt8) (n : Nat) : (l.take n).count 49 = onesB l n := rfl
theorem spec_l1One_l0 (x : ByteArray) (hx : x.size ≤ 140737488355328) (d : Nat) : ∀ (i m : Nat), i ≤ (L x).length → (L x).length - i = d → (m : Int) ≤ 9223372036854775807 →
  Ev (fun k => spec_l1One.l0 k x (m : Int) (i : Int)) ((i + pos ((L x).drop i) m : Nat) : Int) := by
 have hs := size_L x
 induction d with
 | zero =>
  intro i m h1 h2 hm
  refine ev_succ ?_
  simp only [spec_l1One.l0]
  refine ev_neg (by omega) (ev_some ?_)
  rw [List.drop_eq_nil_of_le (by omega)]
  simp only [pos]; omega
 | succ d ih =>
  intro i m h1 h2 hm
  have hi : i < (L x).length := by omega
  refine ev_succ ?_
  simp only [spec_l1One.l0]
  refine ev_pos (by omega) (ev_pos (by omega) ?_)
  rw [w64 (i := (i : Int) + 1) (by omega) (by omega), drop_cons 0 hi]
  by_cases c : (L x).getD i 0 = 49
  ·refine ev_pos ((bt_is (n := 49) (by omega)).2 c) ?_
   rw [pos, if_pos c]
   by_cases q : m = 0
   ·refine ev_pos (by omega) (ev_some ?_)
    rw [if_pos q]; omega
   ·refine ev_neg (by omega) ?_
    rw [if_neg q, w64 (by omega) (by omega)]
    have := ih (i + 1) (m - 1) (by omega) (by omega) (by omega)
    rw [show ((m - 1 : Nat) : Int) = (m : Int) - 1 by omega] at this
    exact ev_eq this (by omega)
  ·refine ev_neg (fun q => c ((bt_is (n := 49) (by omega)).1 q)) ?_
   rw [pos, if_neg c]
   exact ev_eq (ih (i + 1) m (by omega) (by omega) hm) (by omega)
theorem spec_l1One_ev (x : ByteArray) (hx : x.size ≤ 140737488355328) (m : Nat) (hm : (m : Int) ≤ 9223372036854775807) : Ev (fun k => spec_l1One.f k x (m : Int)) ((pos (L x) m : Nat) : Int) := by
 exact ev_eq (spec_l1One_l0 x hx (L x).length 0 m (by omega) (by omega) hm) (by simp)
def oneI (l : List UInt8) (m : Nat) : Int := if pos l m < l.length then (pos l m : Int) else -1
theorem impl_one_l0 (x : ByteArray) (hx : x.size ≤ 140737488355328) (d : Nat) : ∀ (i m : Nat), i ≤ (L x).length → (L x).length - i = d → (m : Int) ≤ 9223372036854775807 →
  Ev (fun k => impl_one.l0 k x (m : Int) ((L x).length : Int) (i : Int)) (if i + pos ((L x).drop i) m < (L x).length then ((i + pos ((L x).drop i) m : Nat) : Int) else -1) := by
 have hs := size_L x
 induction d with
 | zero =>
  intro i m h1 h2 hm
  refine ev_succ ?_
  simp only [impl_one.l0]
  refine ev_neg (by omega) (ev_some ?_)
  rw [if_neg (by omega)]
 | succ d ih =>
  intro i m h1 h2 hm
  have hi : i < (L x).length := by omega
  refine ev_succ ?_
  simp only [impl_one.l0]
  refine ev_pos (by omega) (ev_pos (by omega) (ev_pos (by omega) ?_))
  rw [w64 (i := (i : Int) + 1) (by omega) (by omega), drop_cons 0 hi]
  by_cases c : (L x).getD i 0 = 49
  ·refine ev_pos ((bt_is (n := 49) (by omega)).2 c) ?_
   rw [pos, if_pos c]
   by_cases q : m = 0
   ·refine ev_pos (by omega) (ev_some ?_)
    rw [if_pos q, if_pos (by omega)]; omega
   ·refine ev_neg (by omega) ?_
    rw [if_neg q, w64 (by omega) (by omega)]
    have := ih (i + 1) (m - 1) (by omega) (by omega) (by omega)
    rw [show ((m - 1 : Nat) : Int) = (m : Int) - 1 by omega] at this
    refine ev_eq this ?_
    rw [show i + (1 + pos ((L x).drop (i + 1)) (m - 1)) = i + 1 + pos ((L x).drop (i + 1)) (m - 1) by omega]
  ·refine ev_neg (fun q => c ((bt_is (n := 49) (by omega)).1 q)) ?_
   rw [pos, if_neg c]
   refine ev_eq (ih (i + 1) m (by omega) (by omega) hm) ?_
   rw [show i + (1 + pos ((L x).drop (i + 1)) m) = i + 1 + pos ((L x).drop (i + 1)) m by omega]
theorem impl_one_ev (x : ByteArray) (hx : x.size ≤ 140737488355328) (m : Nat) (hm : (m : Int) ≤ 9223372036854775807) : Ev (fun k => impl_one.f k x (m : Int)) (oneI (L x) m) := by
 have := impl_one_l0 x hx (L x).length 0 m (by omega) (by omega) hm
 have e : impl_one.f = fun k x m => impl_one.l0 k x m ((L x).length : Int) 0 := by
  funext k x m
  unfold impl_one.f
  rw [size_L]
 rw [e]
 refine ev_eq this ?_
 unfold oneI
 simp
def letc (c : UInt8) : Bool := decide (97 ≤ c.toNat) && decide (c.toNat ≤ 100)
def kokB (l : List UInt8) : Bool := l.all letc && decide (l.length ≤ 5)
theorem kokB_iff {l : List UInt8} : kokB l = true ↔ KOk l := by
 unfold kokB
 rw [Bool.and_eq_true, List.all_eq_true, decide_eq_true_eq]
 constructor
 ·rintro ⟨h1, h2⟩
  exact ⟨h2, fun c hc => by have := h1 c hc; simpa [letc] using this⟩
 ·rintro ⟨h1, h2⟩
  exact ⟨fun c hc => by have := h2 c hc; simpa [letc] using this, h1⟩
theorem spec_KeyOk_l0 (x : ByteArray) (hx : x.size ≤ 140737488355328) (d : Nat) : ∀ i : Nat, i ≤ (L x).length → (L x).length - i = d →
  Ev (fun k => spec_KeyOk.l0 k x (i : Int)) (((L x).drop i).all letc && decide ((L x).length ≤ 5)) := by
 have hs := size_L x
 induction d with
 | zero =>
  intro i h1 h2
  refine ev_succ ?_
  simp only [spec_KeyOk.l0]
  refine ev_neg (by omega) (ev_some ?_)
  rw [List.drop_eq_nil_of_le (by omega)]
  simp only [List.all_nil, Bool.true_and]
  rw [hs]; congr 1; simp; omega
 | succ d ih =>
  intro i h1 h2
  have hi : i < (L x).length := by omega
  refine ev_succ ?_
  simp only [spec_KeyOk.l0]
  refine ev_pos (by omega) (ev_pos (by omega) ?_)
  have hr := bt_range x (i : Int)
  rw [w64 (i := bt x (i : Int)) (by omega) (by omega), w64 (i := (i : Int) + 1) (by omega) (by omega), all_drop hi]
  have := ih (i + 1) (by omega) (by omega)
  have e := bt_L x i
  refine ev_bindc (spec_l6In_eq _ _ _) ?_
  by_cases c1 : 97 ≤ bt x (i : Int) ∧ bt x (i : Int) ≤ 100
  ·refine ev_pos (by simpa using c1) ?_
   have hc : letc ((L x).getD i 0) = true := by simp only [letc, Bool.and_eq_true, decide_eq_true_eq]; omega
   rw [hc, Bool.true_and]
   exact this
  ·refine ev_neg (by simpa using c1) (ev_some ?_)
   have hc : letc ((L x).getD i 0) = false := by
    rw [Bool.eq_false_iff]
    simp only [letc, ne_eq, Bool.and_eq_true, decide_eq_true_eq]; omega
   rw [hc]; rfl
theorem spec_KeyOk_ev (x : ByteArray) (hx : x.size ≤ 140737488355328) : Ev (fun k => spec_KeyOk.f k x) (kokB (L x)) := by
 have := spec_KeyOk_l0 x hx (L x).length 0 (by omega) (by omega)
 simpa [spec_KeyOk.f, kokB] using this
theorem impl_KeyOk_l0 (x : ByteArray) (hx : x.size ≤ 140737488355328) (d : Nat) : ∀ i : Nat, i ≤ (L x).length → (L x).length - i = d →
  Ev (fun k => impl_KeyOk.l0 k x ((L x).length : Int) (i : Int)) (((L x).drop i).all letc && decide ((L x).length ≤ 5)) := by
 have hs := size_L x
 induction d with
 | zero =>
  intro i h1 h2
  refine ev_succ ?_
  simp only [impl_KeyOk.l0]
  refine ev_neg (by omega) (ev_some ?_)
  rw [List.drop_eq_nil_of_le (by omega)]
  simp only [List.all_nil, Bool.true_and]
  rw [hs]; congr 1; simp; omega
 | succ d ih =>
  intro i h1 h2
  have hi : i < (L x).length := by omega
  refine ev_succ ?_
  simp only [impl_KeyOk.l0]
  refine ev_pos (by omega) (ev_pos (by omega) (ev_pos (by omega) ?_))
  rw [w64 (i := (i : Int) + 1) (by omega) (by omega), all_drop hi]
  have := ih (i + 1) (by omega) (by omega)
  have e := bt_L x i
  by_cases c1 : bt x (i : Int) < 97
  ·refine ev_pos c1 (ev_some ?_)
   have hc : letc ((L x).getD i 0) = false := by
    rw [Bool.eq_false_iff]
    simp only [letc, ne_eq, Bool.and_eq_true, decide_eq_true_eq]; omega
   rw [hc]; rfl
  ·refine ev_neg c1 ?_
   by_cases c2 : bt x (i : Int) > 100
   ·refine ev_pos c2 (ev_some ?_)
    have hc : letc ((L x).getD i 0) = false := by
     rw [Bool.eq_false_iff]
     simp only [letc, ne_eq, Bool.and_eq_true, decide_eq_true_eq]; omega
    rw [hc]; rfl
   ·refine ev_neg c2 ?_
    have hc : letc ((L x).getD i 0) = true := by simp only [letc, Bool.and_eq_true, decide_eq_true_eq]; omega
    rw [hc, Bool.true_and]
    exact this
theorem impl_KeyOk_ev (x : ByteArray) (hx : x.size ≤ 140737488355328) : Ev (fun k => impl_KeyOk.f k x) (kokB (L x)) := by
 have := impl_KeyOk_l0 x hx (L x).length 0 (by omega) (by omega)
 simpa [impl_KeyOk.f, kokB, size_L] using this
def goB : Option Key → List Key → Bool
 | _, [] => true
 | p, k :: t => kokB k && (match p with | none => true | some q => decide (q < k)) && goB (some k) t
def keysB (K : List Key) : Bool := goB none K && decide (K.length ≤ 24)
theorem goB_some {p : Key} {l : List Key} : goB (some p) l = true ↔ (∀ k ∈ l, KOk k) ∧ (p :: l).Pairwise (· < ·) := by
 induction l generalizing p with
 | nil => simp [goB]
 | cons k t ih =>
  unfold goB
  simp only [Bool.and_eq_true, decide_eq_true_eq]
  rw [ih, kokB_iff]
  constructor
  ·rintro ⟨⟨h1, h2⟩, h3, h4⟩
   refine ⟨fun x hx => ?_, ?_⟩
   ·rcases List.mem_cons.1 hx with rfl | hx
    ·exact h1
    ·exact h3 x hx
   ·refine List.pairwise_cons.2 ⟨fun x hx => ?_, h4⟩
    rcases List.mem_cons.1 hx with rfl | hx
    ·exact h2
    ·exact key_trans h2 ((List.pairwise_cons.1 h4).1 x hx)
  ·rintro ⟨h1, h2⟩
   have h3 := List.pairwise_cons.1 h2
   exact ⟨⟨h1 k (by simp), h3.1 k (by simp)⟩, fun x hx => h1 x (by simp [hx]), h3.2⟩
structure KsOk (K : List Key) : Prop where
 ok : ∀ k ∈ K, KOk k
 sorted : K.Pairwise (· < ·)
 few : K.length ≤ 24
theorem keysB_iff {K : List Key} : keysB K = true ↔ KsOk K := by
 unfold keysB
 rw [Bool.and_eq_true, decide_eq_true_eq]
 have h : goB none K = true ↔ (∀ k ∈ K, KOk k) ∧ K.Pairwise (· < ·) := by
  cases K with
  | nil => simp [goB]
  | cons k t =>
   unfold goB
   simp only [Bool.and_eq_true, Bool.and_true]
   rw [goB_some, kokB_iff]
   constructor
   ·rintro ⟨h1, h2, h3⟩
    refine ⟨fun x hx => ?_, h3⟩
    rcases List.mem_cons.1 hx with rfl | hx
    ·exact h1
    ·exact h2 x hx
   ·rintro ⟨h1, h2⟩
    exact ⟨h1 k (by simp), fun x hx => h1 x (by simp [hx]), h2⟩
 rw [h]
 exact ⟨fun ⟨⟨a, b⟩, c⟩ => ⟨a, b, c⟩, fun ⟨a, b, c⟩ => ⟨⟨a, b⟩, c⟩⟩
structure SzL (l : List ByteArray) : Prop where
 len : l.length ≤ 8796093022208
 each : ∀ s ∈ l, s.size ≤ 140737488355328
theorem SzL.getD {l : List ByteArray} (h : SzL l) (i : Nat) : (l.getD i ByteArray.empty).size ≤ 140737488355328 := by
 by_cases hi : i < l.length
 ·rw [getD_lt _ hi]; exact h.each _ (List.getElem_mem hi)
 ·rw [List.getD_eq_getElem?_getD, List.getElem?_eq_none (by omega)]
  exact Nat.zero_le _
theorem rdOf_nat (l : List ByteArray) (i : Nat) : rdOf ByteArray.empty l (i : Int) = l.getD i ByteArray.empty := rfl
theorem L_rd (l : List ByteArray) (i : Nat) : L (rdOf ByteArray.empty l (i : Int)) = (LL l).getD i [] := by
 rw [rdOf_nat, LL_getD]
theorem rd_size {l : List ByteArray} (h : SzL l) (i : Nat) : (rdOf ByteArray.empty l (i : Int)).size ≤ 140737488355328 := by
 rw [rdOf_nat]; exact h.getD i
def prev (K : List Key) (i : Nat) : Option Key := if i = 0 then none else some (K.getD (i - 1) [])
theorem goB_drop {K : List Key} {i : Nat} (hi : i < K.length) : goB (prev K i) (K.drop i) = (kokB (K.getD i []) && (if i = 0 then true else decide (K.getD (i - 1) [] < K.getD i [])) && goB (prev K (i + 1)) (K.drop (i + 1))) := by
 rw [drop_cons [] hi]
 unfold prev
 by_cases q : i = 0
 ·subst q
  simp [goB]
 ·simp only [if_neg q, if_neg (show ¬ i + 1 = 0 by omega), Nat.add_sub_cancel]
  rw [goB]
theorem spec_KeysOk_l0 (l : List ByteArray) (hl : SzL l) (d : Nat) : ∀ i : Nat, i ≤ l.length → l.length - i = d →
  Ev (fun k => spec_KeysOk.l0 k l (i : Int)) (goB (prev (LL l) i) ((LL l).drop i) && decide (l.length ≤ 24)) := by
 have hn := LL_length l
 have hlen := hl.len
 induction d with
 | zero =>
  intro i h1 h2
  refine ev_succ ?_
  simp only [spec_KeysOk.l0]
  refine ev_neg (by omega) (ev_some ?_)
  rw [List.drop_eq_nil_of_le (by omega)]
  simp only [goB, Bool.true_and]
  congr 1; simp; omega
 | succ d ih =>
  intro i h1 h2
  have hi : i < l.length := by omega
  refine ev_succ ?_
  simp only [spec_KeysOk.l0]
  refine ev_pos (by omega) (ev_pos (by omega) ?_)
  rw [w64 (i := (i : Int) + 1) (by omega) (by omega), goB_drop (by omega)]
  have hrec := ih (i + 1) (by omega) (by omega)
  have hk := spec_KeyOk_ev _ (rd_size hl i)
  rw [L_rd] at hk
  refine Ev.bind hk ?_
  cases hkk : kokB ((LL l).getD i []) with
  | false => exact ev_neg (by simp) (ev_some (by simp))
  | true =>
   refine ev_pos rfl ?_
   by_cases q : i = 0
   ·refine ev_neg (by omega) ?_
    rw [if_pos q]
    simpa using hrec
   ·refine ev_pos (by omega) ?_
    have e : (i : Int) - 1 = ((i - 1 : Nat) : Int) := by omega
    rw [w64 (i := (i : Int) - 1) (by omega) (by omega), e]
    refine ev_pos (by omega) (ev_pos (by omega) ?_)
    rw [less_L, toList_L, toList_L, L_rd, L_rd, if_neg q]
    by_cases c : (LL l).getD (i - 1) [] < (LL l).getD i []
    ·refine ev_pos (by simpa using c) ?_
     simp only [decide_eq_true c, Bool.true_and]
     exact hrec
    ·refine ev_neg (by simpa using c) (ev_some ?_)
     simp only [decide_eq_false c, Bool.and_false, Bool.false_and]
theorem spec_KeysOk_ev (l : List ByteArray) (hl : SzL l) : Ev (fun k => spec_KeysOk.f k l) (keysB (LL l)) := by
 have := spec_KeysOk_l0 l hl l.length 0 (by omega) (by omega)
 simpa [spec_KeysOk.f, keysB, prev, LL_length] using this
theorem impl_KeysOk_l0 (l : List ByteArray) (hl : SzL l) (d : Nat) : ∀ i : Nat, i ≤ l.length → l.length - i = d →
  Ev (fun k => impl_KeysOk.l0 k l l (l.length : Int) (i : Int)) (goB (prev (LL l) i) ((LL l).drop i) && decide (l.length ≤ 24)) := by
 have hn := LL_length l
 have hlen := hl.len
 induction d with
 | zero =>
  intro i h1 h2
  refine ev_succ ?_
  simp only [impl_KeysOk.l0]
  refine ev_neg (by omega) (ev_some ?_)
  rw [List.drop_eq_nil_of_le (by omega)]
  simp only [goB, Bool.true_and]
  congr 1; simp; omega
 | succ d ih =>
  intro i h1 h2
  have hi : i < l.length := by omega
  refine ev_succ ?_
  simp only [impl_KeysOk.l0]
  refine ev_pos (by omega) (ev_pos (by omega) (ev_pos (by omega) ?_))
  rw [w64 (i := (i : Int) + 1) (by omega) (by omega), goB_drop (by omega)]
  have hrec := ih (i + 1) (by omega) (by omega)
  have hk := impl_KeyOk_ev _ (rd_size hl i)
  rw [L_rd] at hk
  refine Ev.bind hk ?_
  cases hkk : kokB ((LL l).getD i []) with
  | false => exact ev_neg (by simp) (ev_some (by simp))
  | true =>
   refine ev_pos rfl ?_
   by_cases q : i = 0
   ·refine ev_neg (by omega) ?_
    rw [if_pos q]
    simpa using hrec
   ·refine ev_pos (by omega) ?_
    have e : (i : Int) - 1 = ((i - 1 : Nat) : Int) := by omega
    rw [w64 (i := (i : Int) - 1) (by omega) (by omega), e]
    refine ev_pos (by omega) (ev_pos (by omega) ?_)
    rw [less_L, toList_L, toList_L, L_rd, L_rd, if_neg q]
    by_cases c : (LL l).getD (i - 1) [] < (LL l).getD i []
    ·refine ev_pos (by simpa using c) ?_
     simp only [decide_eq_true c, Bool.true_and]
     exact hrec
    ·refine ev_neg (by simpa using c) (ev_some ?_)
     simp only [decide_eq_false c, Bool.and_false, Bool.false_and]
theorem impl_KeysOk_ev (l : List ByteArray) (hl : SzL l) : Ev (fun k => impl_KeysOk.f k l) (keysB (LL l)) := by
 have := impl_KeysOk_l0 l hl l.length 0 (by omega) (by omega)
 simpa [impl_KeysOk.f, keysB, prev, LL_length] using this
structure By (b : List Int) : Prop where
 byte : ∀ x ∈ b, 0 ≤ x ∧ x ≤ 255
 few : b.length ≤ 2000
theorem By.rd {b : List Int} (h : By b) (i : Int) : 0 ≤ rd b i ∧ rd b i ≤ 255 := by
 unfold Go.Proofs.YtifgcajpkgamgaaW.PrintWords.rd
 rw [List.getD_eq_getElem?_getD]
 cases hx : b[i.toNat]? with
 | none => simp
 | some x =>
  have := h.byte x (List.mem_of_getElem? hx)
  simpa using this
theorem wf_byte {x : Int} (h : (Lit.int .u8 x).wf = true) : 0 ≤ x ∧ x ≤ 255 := by
 simp [Lit.wf, IntKind.min, IntKind.max, IntKind.signed, IntKind.bits] at h
 omega
theorem open_ev (l : List Int) (hl : l.length ≤ maxLen) (hw : ∀ x ∈ l, (Lit.int .u8 x).wf = true) : ∃ b, spec_l6Open.f l = some (b, 0) ∧ By b := by
 unfold spec_l6Open.f
 by_cases h : (l.length : Int) > 2000
 ·rw [if_pos h, if_pos (by omega)]
  refine ⟨l.take 2000, rfl, fun x hx => wf_byte (hw x (List.mem_of_mem_take hx)), ?_⟩
  rw [List.length_take]; omega
 ·rw [if_neg h]
  exact ⟨l, rfl, fun x hx => wf_byte (hw x hx), by omega⟩
theorem bits_xor_nat (a b : Nat) (ha : a < 2 ^ 62) (hb : b < 2 ^ 62) : bits .xor .i64 (a : Int) (b : Int) = ((a ^^^ b : Nat) : Int) := by
 have hj : 62 ≤ IntKind.i64.bits := by decide
 have hp : 2 ^ 62 ≤ 2 ^ IntKind.i64.bits := Nat.pow_le_pow_right (by decide) hj
 have ha' : a % 2 ^ IntKind.i64.bits = a := Nat.mod_eq_of_lt (Nat.lt_of_lt_of_le ha hp)
 have hb' : b % 2 ^ IntKind.i64.bits = b := Nat.mod_eq_of_lt (Nat.lt_of_lt_of_le hb hp)
 simp only [bits, BitVec.ofInt_natCast, BitVec.toNat_xor, BitVec.toNat_ofNat, ha', hb']
 have h := Nat.xor_lt_two_pow ha hb
 rw [IntKind.wrap_i64]
 omega
theorem tmod_range {x n : Int} (hx : 0 ≤ x) (hn : 1 ≤ n) : 0 ≤ Int.tmod x n ∧ Int.tmod x n < n := by
 rw [Int.tmod_eq_emod_of_nonneg hx]
 exact ⟨Int.emod_nonneg _ (by omega), Int.emod_lt_of_pos _ (by omega)⟩
theorem pick_ev {b : List Int} (hb : By b) (p : Int) (h0 : 0 ≤ p) (h1 : p ≤ 1000000) (n : Int) (hn : n ≤ 1000000) :
  ∃ r, Ev (fun k => spec_l6Rd_pick.f k b p n) (r, p + 1) ∧ 0 ≤ r ∧ (1 ≤ n → r < n) ∧ (n < 1 → r = 0) := by
 have hl := hb.few
 unfold spec_l6Rd_pick.f
 rw [w64 (i := p + 1) (by omega) (by omega)]
 by_cases c1 : n < 1
 ·refine ⟨0, ev_pos c1 (ev_succ ?_), by omega, by omega, fun _ => rfl⟩
  simp only [spec_l6Rd_pick.j0]
  exact ev_pos (by simp) (ev_some rfl)
 ·by_cases c2 : (b.length : Int) = 0
  ·refine ⟨0, ev_neg c1 (ev_succ ?_), by omega, by omega, fun _ => rfl⟩
   simp only [spec_l6Rd_pick.j0]
   exact ev_pos (by simpa using c2) (ev_some rfl)
  ·have e1 : p + 1 - 1 = p := by omega
   by_cases c3 : p < (b.length : Int)
   ·have hr := hb.rd p
    refine ⟨Int.tmod (rd b p) n, ev_neg c1 (ev_succ ?_), (tmod_range hr.1 (by omega)).1, fun _ => (tmod_range hr.1 (by omega)).2, by omega⟩
    simp only [spec_l6Rd_pick.j0]
    refine ev_neg (by simpa using c2) ?_
    rw [e1, w64 (i := p) (by omega) (by omega)]
    refine ev_pos c3 (ev_pos h0 (ev_neg (by omega) (ev_some ?_)))
    rw [w64 (by omega) (by omega)]
   ·have hm := tmod_range h0 (show (1 : Int) ≤ b.length by omega)
    have e2 : wrap64 (wrap64 (p * 7) + 3) = p * 7 + 3 := by rw [w64 (i := p * 7) (by omega) (by omega), w64 (by omega) (by omega)]
    have hm2 := tmod_range (show 0 ≤ p * 7 + 3 by omega) (show (1 : Int) ≤ b.length by omega)
    have hr1 := hb.rd (Int.tmod p b.length)
    have hr2 := hb.rd (Int.tmod (p * 7 + 3) b.length)
    have ed : Int.tdiv p b.length = p / b.length := Int.tdiv_eq_ediv_of_nonneg h0
    have hd0 : 0 ≤ p / (b.length : Int) := Int.ediv_nonneg h0 (by omega)
    have hd1 : p / (b.length : Int) ≤ p := Int.ediv_le_self _ h0
    generalize hA : rd b (Int.tmod p b.length) = A at *
    generalize hB : rd b (Int.tmod (p * 7 + 3) b.length) = B at *
    generalize hD : p / (b.length : Int) = D at *
    have eX : wrap64 (wrap64 (wrap64 (wrap64 (wrap64 A * 131) + wrap64 (wrap64 B * 1117)) + wrap64 (p * 29)) + wrap64 (wrap64 D * 53)) = A * 131 + B * 1117 + p * 29 + D * 53 := by
     rw [w64 (i := A) (by omega) (by omega), w64 (i := B) (by omega) (by omega), w64 (i := D) (by omega) (by omega), w64 (i := A * 131) (by omega) (by omega), w64 (i := B * 1117) (by omega) (by omega), w64 (i := p * 29) (by omega) (by omega), w64 (i := D * 53) (by omega) (by omega), w64 (i := A * 131 + B * 1117) (by omega) (by omega), w64 (i := A * 131 + B * 1117 + p * 29) (by omega) (by omega), w64 (by omega) (by omega)]
    obtain ⟨X, hX⟩ : ∃ X : Nat, A * 131 + B * 1117 + p * 29 + D * 53 = (X : Int) := ⟨(A * 131 + B * 1117 + p * 29 + D * 53).toNat, by omega⟩
    have hXb : X < 2 ^ 62 := by omega
    have hY : Int.tdiv (X : Int) 64 = ((X / 64 : Nat) : Int) := by rw [Int.tdiv_eq_ediv_of_nonneg (by omega)]; omega
    have hxor := bits_xor_nat X (X / 64) hXb (by omega)
    refine ⟨Int.tmod (((X ^^^ (X / 64) : Nat) : Int)) n, ev_neg c1 (ev_succ ?_), (tmod_range (by omega) (by omega)).1, fun _ => (tmod_range (by omega) (by omega)).2, by omega⟩
    simp only [spec_l6Rd_pick.j0]
    refine ev_neg (by simpa using c2) ?_
    rw [e1, w64 (i := p) (by omega) (by omega), e2, ed, hA, hB, eX, hX, hY, w64 (i := ((X / 64 : Nat) : Int)) (by omega) (by omega), hxor]
    exact ev_neg c3 (ev_neg c2 (ev_pos hm.1 (ev_pos hm.2 (ev_pos hm2.1 (ev_pos hm2.2 (ev_neg (by omega) (ev_some rfl)))))))
theorem of_ev {b : List Int} (hb : By b) (p : Int) (h0 : 0 ≤ p) (h1 : p ≤ 1000000) (l : List ByteArray) (hl : l ≠ []) (hn : l.length ≤ 1000) :
  ∃ s, Ev (fun k => spec_l6Rd_of.f k b p l) (s, p + 1) ∧ s ∈ l := by
 have hpos : 0 < l.length := List.length_pos_iff.2 hl
 obtain ⟨r, hr, g0, g1, _⟩ := pick_ev hb p h0 h1 (l.length : Int) (by omega)
 have g1 := g1 (by omega)
 obtain ⟨j, rfl⟩ : ∃ j : Nat, r = (j : Int) := ⟨r.toNat, by omega⟩
 refine ⟨l.getD j ByteArray.empty, ?_, ?_⟩
 ·unfold spec_l6Rd_of.f
  refine Ev.bind hr ?_
  exact ev_pos g0 (ev_pos g1 (ev_some rfl))
 ·rw [getD_lt _ (by omega)]
  exact List.getElem_mem _
theorem kok_nil : KOk [] := ⟨by simp, by simp⟩
theorem kok_snoc {l : Key} (h : KOk l) {c : UInt8} (hc : 97 ≤ c.toNat ∧ c.toNat ≤ 100) (hl : l.length < 5) : KOk (l ++ [c]) := by
 refine ⟨by simp; omega, fun x hx => ?_⟩
 rcases List.mem_append.1 hx with h1 | h1
 ·exact h.alph x h1
 ·simp at h1; subst h1; exact hc
theorem kok_take {l : Key} (h : KOk l) (n : Nat) : KOk (l.take n) := ⟨by rw [List.length_take]; have := h.len; omega, fun c hc => h.alph c (List.mem_of_mem_take hc)⟩
theorem key_l0_ev {b : List Int} (hb : By b) (d : Nat) : ∀ (x3 : ByteArray) (p : Int), 0 ≤ p → p + d ≤ 900000 → KOk (L x3) → (L x3).length + d ≤ 5 →
  ∃ s, Ev (fun k => spec_l71Key.l0 k x3 (d : Int) b p) (s, p + d) ∧ KOk (L s) := by
 induction d with
 | zero =>
  intro x3 p h0 h1 h2 h3
  refine ⟨x3, ev_succ ?_, h2⟩
  simp only [spec_l71Key.l0]
  exact ev_neg (by omega) (ev_some (by simp))
 | succ d ih =>
  intro x3 p h0 h1 h2 h3
  obtain ⟨t, ht, hm⟩ := of_ev hb p h0 (by omega) ([(⟨#[97]⟩ : ByteArray), (⟨#[98]⟩ : ByteArray), (⟨#[97]⟩ : ByteArray), (⟨#[99]⟩ : ByteArray), (⟨#[100]⟩ : ByteArray)]) (by simp) (by simp)
  have hts : ∃ c : UInt8, L t = [c] ∧ 97 ≤ c.toNat ∧ c.toNat ≤ 100 := by
   simp only [List.mem_cons, List.not_mem_nil, or_false] at hm
   rcases hm with rfl | rfl | rfl | rfl | rfl <;> exact ⟨_, rfl, by decide, by decide⟩
  obtain ⟨c, hc, hcr⟩ := hts
  have hz : t.size = 1 := by rw [size_L, hc]; rfl
  have hx := size_L x3
  have hL : L (x3 ++ t) = L x3 ++ [c] := by rw [L_append, hc]
  obtain ⟨s, hr, g⟩ := ih (x3 ++ t) (p + 1) (by omega) (by omega) (by rw [hL]; exact kok_snoc h2 hcr (by omega)) (by rw [hL, List.length_append]; simp only [List.length_cons, List.length_nil]; omega)
  refine ⟨s, ev_succ ?_, g⟩
  simp only [spec_l71Key.l0]
  refine ev_pos (by omega) (Ev.bind ht (ev_pos (by rw [hz]; omega) ?_))
  rw [w64 (by omega) (by omega), show ((d + 1 : Nat) : Int) - 1 = (d : Int) by omega, show p + ((d + 1 : Nat) : Int) = p + 1 + (d : Int) by omega]
  exact hr
theorem key_ev {b : List Int} (hb : By b) (p : Int) (h0 : 0 ≤ p) (h1 : p ≤ 800000) :
  ∃ s q, Ev (fun k => spec_l71Key.f k b p) (s, q) ∧ KOk (L s) ∧ p < q ∧ q ≤ p + 10 := by
 obtain ⟨r, hr, g0, g1, _⟩ := pick_ev hb p h0 (by omega) 6 (by omega)
 have g1 := g1 (by omega)
 obtain ⟨n, rfl⟩ : ∃ n : Nat, r = (n : Int) := ⟨r.toNat, by omega⟩
 obtain ⟨s, hs, g⟩ := key_l0_ev hb n (⟨#[]⟩ : ByteArray) (p + 1) (by omega) (by omega) (by exact kok_nil) (by show 0 + n ≤ 5; omega)
 refine ⟨s, p + 1 + n, ?_, g, by omega, by omega⟩
 unfold spec_l71Key.f
 exact Ev.bind hr hs
theorem near_gen (Pd : Key → Prop) (hK : ∀ k, KOk k → Pd k) (hT : ∀ k n, Pd k → Pd (k.take n)) (hS : ∀ (k : Key) (c : UInt8), Pd k → k.length < 5 → (97 ≤ c.toNat ∧ c.toNat ≤ 100) → Pd (k ++ [c])) (hLn : ∀ k, Pd k → k.length ≤ 1000) {b : List Int} (hb : By b) (p : Int) (h0 : 0 ≤ p) (h1 : p ≤ 700000) (l : List ByteArray) (hl : l.length ≤ 1000) (hk : ∀ x ∈ l, Pd (L x)) :
  ∃ s q, Ev (fun k => spec_l71Near.f k b p l) (s, q) ∧ Pd (L s) ∧ p < q ∧ q ≤ p + 20 := by
 have plain : ∀ p' : Int, 0 ≤ p' → p' ≤ 700010 → ∃ s q, Ev (fun k => spec_l71Near.j0 k l true b p') (s, q) ∧ Pd (L s) ∧ p' < q ∧ q ≤ p' + 10 := by
  intro p' a0 a1
  obtain ⟨s, q, hs, g, q0, q1⟩ := key_ev hb p' a0 (by omega)
  refine ⟨s, q, ev_succ ?_, hK _ g, q0, q1⟩
  simp only [spec_l71Near.j0]
  exact ev_pos (by simp) (Ev.bind hs (ev_some rfl))
 by_cases c0 : (l.length : Int) = 0
 ·obtain ⟨s, q, hs, g, q0, q1⟩ := plain p h0 (by omega)
  refine ⟨s, q, ?_, g, q0, by omega⟩
  unfold spec_l71Near.f
  exact ev_pos c0 hs
 ·obtain ⟨r, hr, _, _, _⟩ := pick_ev hb p h0 (by omega) 4 (by omega)
  by_cases c1 : r = 0
  ·obtain ⟨s, q, hs, g, q0, q1⟩ := plain (p + 1) (by omega) (by omega)
   refine ⟨s, q, ?_, g, by omega, by omega⟩
   unfold spec_l71Near.f
   refine ev_neg c0 (Ev.bind hr ?_)
   simp only [c1]
   exact hs
  ·have hrb : (r == 0) = false := by simpa using c1
   obtain ⟨i, hi, i0, i1, _⟩ := pick_ev hb (p + 1) (by omega) (by omega) (l.length : Int) (by omega)
   have i1 := i1 (by omega)
   obtain ⟨j, rfl⟩ : ∃ j : Nat, i = (j : Int) := ⟨i.toNat, by omega⟩
   obtain ⟨x, hx⟩ : ∃ x, rdOf ByteArray.empty l (j : Int) = x := ⟨_, rfl⟩
   have hxk : Pd (L x) := by
    refine hk x ?_
    rw [← hx, show rdOf ByteArray.empty l (j : Int) = l.getD j ByteArray.empty from rfl, getD_lt _ (by omega)]
    exact List.getElem_mem _
   have hxs := size_L x
   have hxl := hLn _ hxk
   obtain ⟨m, hm, m0, m1, _⟩ := pick_ev hb (p + 1 + 1) (by omega) (by omega) 4 (by omega)
   have go : ∀ s q, Ev (fun k => (if m = 0 then ((spec_l6Rd_pick.f k b (p + 1 + 1 + 1) (wrap64 ((x.size : Int) + 1))).bind fun bt135 => (if 0 ≤ bt135.1 then (if bt135.1 ≤ (x.size : Int) then (some (x.extract 0 (bt135.1 : Int).toNat, bt135.2)) else (none)) else (none))) else (if m = 1 then (if (x.size : Int) < 5 then ((spec_l6Rd_of.f k b (p + 1 + 1 + 1) (([(⟨#[97]⟩ : ByteArray), (⟨#[98]⟩ : ByteArray), (⟨#[100]⟩ : ByteArray)] : List ByteArray))).bind fun bt140 => (if x.size + bt140.1.size ≤ 9223372036854775807 then (some (x ++ bt140.1, bt140.2)) else (none))) else (some (x, p + 1 + 1 + 1))) else (some (x, p + 1 + 1 + 1))))) (s, q) → Ev (fun k => spec_l71Near.f k b p l) (s, q) := by
    intro s q h
    unfold spec_l71Near.f
    refine ev_neg c0 (Ev.bind hr ?_)
    simp only [hrb]
    refine ev_succ ?_
    simp only [spec_l71Near.j0]
    refine ev_neg (by simp) (Ev.bind hi (ev_pos i0 (ev_pos i1 (Ev.bind hm ?_))))
    simp only [hx]
    exact h
   by_cases d0 : m = 0
   ·obtain ⟨z, hz, z0, z1, _⟩ := pick_ev hb (p + 1 + 1 + 1) (by omega) (by omega) ((x.size : Int) + 1) (by omega)
    have z1 := z1 (by omega)
    refine ⟨x.extract 0 z.toNat, p + 1 + 1 + 1 + 1, go _ _ ?_, ?_, by omega, by omega⟩
    ·refine ev_pos d0 ?_
     rw [w64 (i := (x.size : Int) + 1) (by omega) (by omega)]
     exact Ev.bind hz (ev_pos z0 (ev_pos (by simp only []; omega) (ev_some rfl)))
    ·rw [L_extract, List.drop_zero]
     exact hT _ _ hxk
   ·by_cases d1 : m = 1
    ·by_cases d2 : (x.size : Int) < 5
     ·obtain ⟨t, ht, hm⟩ := of_ev hb (p + 1 + 1 + 1) (by omega) (by omega) ([(⟨#[97]⟩ : ByteArray), (⟨#[98]⟩ : ByteArray), (⟨#[100]⟩ : ByteArray)]) (by simp) (by simp)
      have hts : ∃ c : UInt8, L t = [c] ∧ 97 ≤ c.toNat ∧ c.toNat ≤ 100 := by
       simp only [List.mem_cons, List.not_mem_nil, or_false] at hm
       rcases hm with rfl | rfl | rfl <;> exact ⟨_, rfl, by decide, by decide⟩
      obtain ⟨c, hc, hcr⟩ := hts
      have hz : t.size = 1 := by rw [size_L, hc]; rfl
      refine ⟨x ++ t, p + 1 + 1 + 1 + 1, go _ _ ?_, ?_, by omega, by omega⟩
      ·exact ev_neg d0 (ev_pos d1 (ev_pos d2 (Ev.bind ht (ev_pos (by rw [hz]; omega) (ev_some rfl)))))
      ·rw [L_append, hc]
       exact hS _ _ hxk (by omega) hcr
     ·exact ⟨x, p + 1 + 1 + 1, go _ _ (ev_neg d0 (ev_pos d1 (ev_neg d2 (ev_some rfl)))), hxk, by omega, by omega⟩
    ·exact ⟨x, p + 1 + 1 + 1, go _ _ (ev_neg d0 (ev_neg d1 (ev_some rfl))), hxk, by omega, by omega⟩
theorem near_ev {b : List Int} (hb : By b) (p : Int) (h0 : 0 ≤ p) (h1 : p ≤ 700000) (l : List ByteArray) (hl : l.length ≤ 1000) (hk : ∀ x ∈ l, KOk (L x)) :
  ∃ s q, Ev (fun k => spec_l71Near.f k b p l) (s, q) ∧ KOk (L s) ∧ p < q ∧ q ≤ p + 20 :=
 near_gen KOk (fun _ h => h) (fun _ n h => kok_take h n) (fun _ _ h hl hc => kok_snoc h hc hl) (fun _ h => by have := h.len; omega) hb p h0 h1 l hl hk
theorem pre_L (x y : ByteArray) (h : (y.size : Int) ≤ (x.size : Int)) : ((x.extract 0 ((y.size : Int) : Int).toNat).toList == y.toList) = (L y).isPrefixOf (L x) := by
 rw [toList_L, toList_L, L_extract, List.drop_zero, Bool.eq_iff_iff, List.isPrefixOf_iff_prefix, beq_iff_eq]
 have hy := size_L y
 rw [show ((y.size : Nat) : Int).toNat = (L y).length by omega]
 constructor
 ·intro q; rw [← q]; exact List.take_prefix _ _
 ·rintro ⟨s, hs⟩
  rw [← hs, List.take_left]
theorem pre_long (x y : ByteArray) (h : ¬ (y.size : Int) ≤ (x.size : Int)) : (L y).isPrefixOf (L x) = false := by
 rw [← Bool.not_eq_true, List.isPrefixOf_iff_prefix]
 intro q
 have := q.length_le
 have hy := size_L y
 have hx := size_L x
 omega
theorem impl_KeyBegins_eq (x y : ByteArray) : impl_KeyBegins.f x y = some ((L y).isPrefixOf (L x)) := by
 unfold impl_KeyBegins.f strings_HasPrefix.f stringslite_HasPrefix.f
 by_cases h : (y.size : Int) ≤ (x.size : Int)
 ·rw [if_pos h, if_pos (by omega), if_pos h, pre_L x y h]; rfl
 ·rw [if_neg h, pre_long x y h]; rfl
theorem pos_one : ∀ (l : List UInt8) (m : Nat), pos l m < l.length → l.getD (pos l m) 0 = 49 ∧ onesB l (pos l m) = m := by
 intro l
 induction l with
 | nil => intro m h; simp [pos] at h
 | cons c l ih =>
  intro m h
  rw [pos] at h ⊢
  by_cases q : c = 49
  ·rw [if_pos q] at h ⊢
   by_cases z : m = 0
   ·rw [if_pos z]
    exact ⟨by simp [q], by simp [onesB, z]⟩
   ·rw [if_neg z] at h ⊢
    have := ih (m - 1) (by simp only [List.length_cons] at h; omega)
    rw [show 1 + pos l (m - 1) = pos l (m - 1) + 1 by omega]
    refine ⟨by simpa using this.1, ?_⟩
    have h2 := this.2
    unfold onesB at h2 ⊢
    rw [List.take_succ_cons, List.countP_cons, h2]
    simp [q]; omega
  ·rw [if_neg q] at h ⊢
   have := ih m (by simp only [List.length_cons] at h; omega)
   rw [show 1 + pos l m = pos l m + 1 by omega]
   refine ⟨by simpa using this.1, ?_⟩
   have h2 := this.2
   unfold onesB at h2 ⊢
   rw [List.take_succ_cons, List.countP_cons, h2]
   simp [q]
theorem onesB_self (l : List UInt8) (n : Nat) : onesB l n ≤ n := by
 unfold onesB
 have h1 := List.countP_le_length (p := fun c : UInt8 => c == 49) (l := l.take n)
 have h2 := List.length_take (i := n) (l := l)
 omega
theorem many_ev (C : Nat) (hC : C ≤ 1000000) : ∀ (n : Nat) (x0 x5 : ByteArray), n ≤ 1000000 → (1 ≤ n → x0.size ≤ C) → x5.size + n * x0.size ≤ C →
  ∃ r, Ev (fun k => spec_l6Many.l0 k x0 (n : Int) x5) r ∧ r.size ≤ C := by
 intro n
 induction n using Nat.strongRecOn with
 | _ n ih =>
  intro x0 x5 hn h0 h1
  by_cases c : (n : Int) > 0
  ·have h0' := h0 (by omega)
   have hsz : (x0 ++ x0).size = x0.size + x0.size := ByteArray.size_append
   have hd : wrap64 (Int.tdiv (n : Int) 2) = ((n / 2 : Nat) : Int) := by
    rw [Int.tdiv_eq_ediv_of_nonneg (by omega)]
    unfold wrap64
    omega
   have hnC : n ≤ C ∨ x0.size = 0 := by
    by_cases z : x0.size = 0
    ·exact .inr z
    ·exact .inl (by have : n ≤ n * x0.size := Nat.le_mul_of_pos_right n (by omega); omega)
   have hmul : (n / 2) * (x0.size + x0.size) ≤ n * x0.size := by
    have : (n / 2) * 2 ≤ n := Nat.div_mul_le_self n 2
    calc (n / 2) * (x0.size + x0.size) = ((n / 2) * 2) * x0.size := by rw [Nat.mul_assoc, Nat.two_mul]
     _ ≤ n * x0.size := Nat.mul_le_mul_right _ this
   have hb : 1 ≤ n / 2 → x0.size + x0.size ≤ C := by
    intro q
    have : 1 * (x0.size + x0.size) ≤ (n / 2) * (x0.size + x0.size) := Nat.mul_le_mul_right _ q
    omega
   by_cases od : Int.tmod (n : Int) 2 = 1
   ·have hodd : n * x0.size = (n / 2) * (x0.size + x0.size) + x0.size := by
     rw [Int.tmod_eq_emod_of_nonneg (by omega)] at od
     have : n = (n / 2) * 2 + 1 := by omega
     conv => lhs; rw [this]
     rw [Nat.add_mul, Nat.mul_assoc, Nat.two_mul, Nat.one_mul]
    have hsz2 : (x5 ++ x0).size = x5.size + x0.size := ByteArray.size_append
    obtain ⟨r, hr, hs⟩ := ih (n / 2) (by omega) (x0 ++ x0) (x5 ++ x0) (by omega) (by rw [hsz]; exact hb) (by rw [hsz, hsz2]; omega)
    refine ⟨r, ev_succ ?_, hs⟩
    simp only [spec_l6Many.l0]
    refine ev_pos c (ev_pos od (ev_pos (by omega) (ev_pos (by omega) ?_)))
    rw [hd]; exact hr
   ·obtain ⟨r, hr, hs⟩ := ih (n / 2) (by omega) (x0 ++ x0) x5 (by omega) (by rw [hsz]; exact hb) (by rw [hsz]; omega)
    refine ⟨r, ev_succ ?_, hs⟩
    simp only [spec_l6Many.l0]
    refine ev_pos c (ev_neg od (ev_pos (by omega) ?_))
    rw [hd]; exact hr
  ·refine ⟨x5, ev_succ ?_, by omega⟩
   simp only [spec_l6Many.l0]
   exact ev_neg c (ev_some rfl)
def putN (k : Key) : List Key → List Key
 | [] => [k]
 | y :: l => if k < y then k :: y :: l else y :: putN k l
def putB (K : List Key) (k : Key) : List Key := if k ∈ K then K else putN k K
theorem L_eq_iff {a b : ByteArray} : a.toList = b.toList ↔ L a = L b := by rw [toList_L, toList_L]
theorem l2Put_true (x0 : List ByteArray) (x1 : ByteArray) (hn : x0.length ≤ 2000000) (d : Nat) : ∀ (x5 : List ByteArray) (i : Nat), i ≤ x0.length → x0.length - i = d → x5.length ≤ i + 1 →
  ∃ r, Ev (fun k => spec_l2Put.l0 k x0 x1 x5 true (i : Int)) r ∧ LL r = if L x1 ∈ (LL x0).drop i then LL x0 else LL x5 ++ (LL x0).drop i := by
 have hz := LL_length x0
 induction d with
 | zero =>
  intro x5 i h1 h2 h3
  refine ⟨x5, ev_succ ?_, ?_⟩
  ·simp only [spec_l2Put.l0]
   exact ev_neg (by omega) (ev_pos trivial (ev_some rfl))
  ·rw [List.drop_eq_nil_of_le (by omega)]; simp
 | succ d ih =>
  intro x5 i h1 h2 h3
  have hr := L_rd x0 i
  obtain ⟨y, hy⟩ : ∃ y, rdOf ByteArray.empty x0 (i : Int) = y := ⟨_, rfl⟩
  rw [hy] at hr
  have hdrop : (LL x0).drop i = L y :: (LL x0).drop (i + 1) := by rw [drop_cons [] (by omega), ← hr]
  by_cases e : L y = L x1
  ·refine ⟨x0, ev_succ ?_, ?_⟩
   ·simp only [spec_l2Put.l0, hy]
    exact ev_pos (by omega) (ev_pos (by omega) (ev_pos (L_eq_iff.2 e) (ev_some rfl)))
   ·rw [hdrop, if_pos (by simp [e])]
  ·obtain ⟨r, hr, he⟩ := ih (x5 ++ [y]) (i + 1) (by omega) (by omega) (by simp; omega)
   refine ⟨r, ev_succ ?_, ?_⟩
   ·simp only [spec_l2Put.l0, hy]
    refine ev_pos (by omega) (ev_pos (by omega) (ev_neg (fun q => e (L_eq_iff.1 q)) (ev_pos trivial (ev_pos (by omega) ?_))))
    rw [w64 (by omega) (by omega)]; exact hr
   ·rw [he, hdrop]
    have hm : (L x1 ∈ L y :: (LL x0).drop (i + 1)) ↔ L x1 ∈ (LL x0).drop (i + 1) := by
     rw [List.mem_cons]
     exact ⟨fun h => h.resolve_left (fun q => e q.symm), .inr⟩
    by_cases m : L x1 ∈ (LL x0).drop (i + 1)
    ·rw [if_pos m, if_pos (hm.2 m)]
    ·rw [if_neg m, if_neg (fun q => m (hm.1 q)), LL_append]
     simp [LL]
theorem l2Put_false (x0 : List ByteArray) (x1 : ByteArray) (hn : x0.length ≤ 2000000) (d : Nat) : ∀ (x5 : List ByteArray) (i : Nat), i ≤ x0.length → x0.length - i = d → x5.length ≤ i →
  ∃ r, Ev (fun k => spec_l2Put.l0 k x0 x1 x5 false (i : Int)) r ∧ LL r = if L x1 ∈ (LL x0).drop i then LL x0 else LL x5 ++ putN (L x1) ((LL x0).drop i) := by
 have hz := LL_length x0
 induction d with
 | zero =>
  intro x5 i h1 h2 h3
  refine ⟨x5 ++ [x1], ev_succ ?_, ?_⟩
  ·simp only [spec_l2Put.l0]
   exact ev_neg (by omega) (ev_neg (by simp) (ev_pos (by omega) (ev_some rfl)))
  ·rw [List.drop_eq_nil_of_le (by omega), LL_append]
   simp [putN, LL]
 | succ d ih =>
  intro x5 i h1 h2 h3
  have hr := L_rd x0 i
  obtain ⟨y, hy⟩ : ∃ y, rdOf ByteArray.empty x0 (i : Int) = y := ⟨_, rfl⟩
  rw [hy] at hr
  have hdrop : (LL x0).drop i = L y :: (LL x0).drop (i + 1) := by rw [drop_cons [] (by omega), ← hr]
  by_cases e : L y = L x1
  ·refine ⟨x0, ev_succ ?_, ?_⟩
   ·simp only [spec_l2Put.l0, hy]
    exact ev_pos (by omega) (ev_pos (by omega) (ev_pos (L_eq_iff.2 e) (ev_some rfl)))
   ·rw [hdrop, if_pos (by simp [e])]
  ·have hm : (L x1 ∈ L y :: (LL x0).drop (i + 1)) ↔ L x1 ∈ (LL x0).drop (i + 1) := by
    rw [List.mem_cons]
    exact ⟨fun h => h.resolve_left (fun q => e q.symm), .inr⟩
   by_cases lt : L x1 < L y
   ·obtain ⟨r, hr, he⟩ := l2Put_true x0 x1 hn d (x5 ++ [x1] ++ [y]) (i + 1) (by omega) (by omega) (by simp; omega)
    refine ⟨r, ev_succ ?_, ?_⟩
    ·simp only [spec_l2Put.l0, hy]
     refine ev_pos (by omega) (ev_pos (by omega) (ev_neg (fun q => e (L_eq_iff.1 q)) (ev_neg (by simp) (ev_pos (by rw [less_L, decide_eq_true_eq, toList_L, toList_L]; exact lt) (ev_pos (by omega) (ev_bindc rfl (ev_pos (by simp; omega) ?_)))))))
     rw [w64 (by omega) (by omega)]; exact hr
    ·rw [he, hdrop]
     by_cases m : L x1 ∈ (LL x0).drop (i + 1)
     ·rw [if_pos m, if_pos (hm.2 m)]
     ·rw [if_neg m, if_neg (fun q => m (hm.1 q)), putN, if_pos lt, LL_append, LL_append]
      simp [LL]
   ·obtain ⟨r, hr, he⟩ := ih (x5 ++ [y]) (i + 1) (by omega) (by omega) (by simp; omega)
    refine ⟨r, ev_succ ?_, ?_⟩
    ·simp only [spec_l2Put.l0, hy]
     refine ev_pos (by omega) (ev_pos (by omega) (ev_neg (fun q => e (L_eq_iff.1 q)) (ev_neg (by simp) (ev_neg (by rw [less_L, decide_eq_true_eq, toList_L, toList_L]; exact lt) (ev_pos (by omega) ?_)))))
     rw [w64 (by omega) (by omega)]; exact hr
    ·rw [he, hdrop]
     by_cases m : L x1 ∈ (LL x0).drop (i + 1)
     ·rw [if_pos m, if_pos (hm.2 m)]
     ·rw [if_neg m, if_neg (fun q => m (hm.1 q)), putN, if_neg lt, LL_append]
      simp [LL]
theorem l2Put_ev (x0 : List ByteArray) (x1 : ByteArray) (hn : x0.length ≤ 2000000) : ∃ r, Ev (fun k => spec_l2Put.f k x0 x1) r ∧ LL r = putB (LL x0) (L x1) := by
 obtain ⟨r, hr, he⟩ := l2Put_false x0 x1 hn x0.length [] 0 (by omega) (by omega) (by simp)
 refine ⟨r, hr, ?_⟩
 rw [he, List.drop_zero]
 simp [putB, LL]
theorem putN_mem {k x : Key} {K : List Key} : x ∈ putN k K ↔ x = k ∨ x ∈ K := by
 induction K with
 | nil => simp [putN]
 | cons y l ih =>
  rw [putN]
  split
  ·simp
  ·simp only [List.mem_cons, ih]
   constructor
   ·rintro (h | h | h)
    ·exact .inr (.inl h)
    ·exact .inl h
    ·exact .inr (.inr h)
   ·rintro (h | h | h)
    ·exact .inr (.inl h)
    ·exact .inl h
    ·exact .inr (.inr h)
theorem putB_mem {k x : Key} {K : List Key} : x ∈ putB K k ↔ x = k ∨ x ∈ K := by
 unfold putB
 split
 ·rename_i h
  exact ⟨.inr, fun q => q.elim (fun e => e ▸ h) id⟩
 ·exact putN_mem
theorem putN_length {k : Key} {K : List Key} : (putN k K).length = K.length + 1 := by
 induction K with
 | nil => rfl
 | cons y l ih => rw [putN]; split <;> simp [ih]
theorem putB_length {k : Key} {K : List Key} : (putB K k).length ≤ K.length + 1 := by
 unfold putB
 split
 ·omega
 ·rw [putN_length]; omega
theorem putN_sorted {k : Key} {K : List Key} (hK : K.Pairwise (· < ·)) (hk : k ∉ K) : (putN k K).Pairwise (· < ·) := by
 induction K with
 | nil => simp [putN]
 | cons y l ih =>
  have h2 := List.pairwise_cons.1 hK
  rw [putN]
  by_cases c : k < y
  ·rw [if_pos c]
   refine List.pairwise_cons.2 ⟨fun x hx => ?_, hK⟩
   rcases List.mem_cons.1 hx with rfl | hx
   ·exact c
   ·exact key_trans c (h2.1 x hx)
  ·rw [if_neg c]
   refine List.pairwise_cons.2 ⟨fun x hx => ?_, ih h2.2 (fun q => hk (by simp [q]))⟩
   rcases putN_mem.1 hx with e | hx
   ·rw [e]
    rcases key_le_total k y with h | h | h
    ·exact absurd h c
    ·exact absurd (by simp [h]) hk
    ·exact h
   ·exact h2.1 x hx
theorem putB_sorted {k : Key} {K : List Key} (hK : K.Pairwise (· < ·)) : (putB K k).Pairwise (· < ·) := by
 unfold putB
 split
 ·exact hK
 ·rename_i h; exact putN_sorted hK h
structure SOk (K : List Key) : Prop where
 ok : ∀ k ∈ K, KOk k
 sorted : K.Pairwise (· < ·)
theorem sok_put {K : List Key} (h : SOk K) {k : Key} (hk : KOk k) : SOk (putB K k) :=
 ⟨fun x hx => (putB_mem.1 hx).elim (fun e => e ▸ hk) (h.ok x), putB_sorted h.sorted⟩
theorem LL_mem {l : List ByteArray} {x : ByteArray} (h : x ∈ l) : L x ∈ LL l := List.mem_map_of_mem h
theorem keys_l0_ev {b : List Int} (hb : By b) (d : Nat) : ∀ (x5 : List ByteArray) (p : Int), 0 ≤ p → p + 20 * d ≤ 600000 → SOk (LL x5) → x5.length + d ≤ 100 →
  ∃ s q, Ev (fun k => spec_l71Keys.l0 k x5 (d : Int) b p) (s, q) ∧ SOk (LL s) ∧ s.length ≤ x5.length + d ∧ p ≤ q ∧ q ≤ p + 20 * d := by
 induction d with
 | zero =>
  intro x5 p h0 h1 h2 h3
  refine ⟨x5, p, ev_succ ?_, h2, by omega, by omega, by omega⟩
  simp only [spec_l71Keys.l0]
  exact ev_neg (by omega) (ev_some rfl)
 | succ d ih =>
  intro x5 p h0 h1 h2 h3
  obtain ⟨s, q, hs, ks, q0, q1⟩ := near_ev hb p h0 (by omega) x5 (by omega) (fun x hx => h2.ok _ (LL_mem hx))
  obtain ⟨r, hr, he⟩ := l2Put_ev x5 s (by omega)
  have hl : r.length ≤ x5.length + 1 := by
   have := putB_length (k := L s) (K := LL x5)
   rw [← he, LL_length, LL_length] at this; exact this
  obtain ⟨s', q', hs', k', l', a0, a1⟩ := ih r q (by omega) (by omega) (by rw [he]; exact sok_put h2 ks) (by omega)
  refine ⟨s', q', ev_succ ?_, k', by omega, by omega, by omega⟩
  simp only [spec_l71Keys.l0]
  refine ev_pos (by omega) (Ev.bind hs (Ev.bind hr ?_))
  rw [w64 (by omega) (by omega), show ((d + 1 : Nat) : Int) - 1 = (d : Int) by omega]
  exact hs'
theorem keys_ev {b : List Int} (hb : By b) (p : Int) (h0 : 0 ≤ p) (h1 : p ≤ 100000) (n : Nat) (hn : n ≤ 30) :
  ∃ s q, Ev (fun k => spec_l71Keys.f k b p (n : Int)) (s, q) ∧ SOk (LL s) ∧ s.length ≤ n ∧ p ≤ q ∧ q ≤ p + 1000 := by
 obtain ⟨r, hr, g0, g1, _⟩ := pick_ev hb p h0 (by omega) ((n : Int) + 1) (by omega)
 have g1 := g1 (by omega)
 obtain ⟨m, rfl⟩ : ∃ m : Nat, r = (m : Int) := ⟨r.toNat, by omega⟩
 obtain ⟨s, q, hs, k, l, a0, a1⟩ := keys_l0_ev hb m [] (p + 1) (by omega) (by omega) ⟨by simp [LL], by simp [LL]⟩ (by simp; omega)
 refine ⟨s, q, ?_, k, by simp at l; omega, by omega, by omega⟩
 unfold spec_l71Keys.f
 rw [w64 (i := (n : Int) + 1) (by omega) (by omega)]
 exact Ev.bind hr hs
theorem sz_l0 (l : List ByteArray) (hn : l.length ≤ 9223372036854775807) (hs : ∀ s ∈ l, s.size ≤ 9223372036854775807) (d : Nat) : ∀ (i : Nat) (a : Int), i ≤ l.length → l.length - i = d → 0 ≤ a → a ≤ 1048576 →
  ∃ r, Ev (fun k => laws_szStringS.l0 k l a (i : Int)) r ∧ (0 ≤ r → ∀ s ∈ l.drop i, s.size ≤ 1048576) := by
 induction d with
 | zero =>
  intro i a h1 h2 h3 h4
  refine ⟨a, ev_succ ?_, fun _ => by rw [List.drop_eq_nil_of_le (by omega)]; simp⟩
  simp only [laws_szStringS.l0]
  exact ev_neg (by omega) (ev_some rfl)
 | succ d ih =>
  intro i a h1 h2 h3 h4
  have hg : rdOf ByteArray.empty l (i : Int) = l.getD i ByteArray.empty := rfl
  have hmem : l.getD i ByteArray.empty ∈ l := by rw [getD_lt _ (by omega)]; exact List.getElem_mem _
  have hz := hs _ hmem
  by_cases c : a - ((l.getD i ByteArray.empty).size : Int) < 0
  ·refine ⟨-1, ev_succ ?_, fun h => by omega⟩
   simp only [laws_szStringS.l0]
   rw [hg, w64 (i := a - ((l.getD i ByteArray.empty).size : Int)) (by omega) (by omega)]
   exact ev_pos (by omega) (ev_pos (by omega) (ev_pos c (ev_some rfl)))
  ·obtain ⟨r, hr, g⟩ := ih (i + 1) (a - ((l.getD i ByteArray.empty).size : Int)) (by omega) (by omega) (by omega) (by omega)
   refine ⟨r, ev_succ ?_, fun h s hm => ?_⟩
   ·simp only [laws_szStringS.l0]
    rw [hg, w64 (i := a - ((l.getD i ByteArray.empty).size : Int)) (by omega) (by omega)]
    refine ev_pos (by omega) (ev_pos (by omega) (ev_neg c ?_))
    rw [w64 (by omega) (by omega)]; exact hr
   ·rw [drop_cons ByteArray.empty (by omega)] at hm
    rcases List.mem_cons.1 hm with e | hm
    ·rw [e]; omega
    ·exact g h s hm
theorem to_l0 (l : List ByteArray) (hn : l.length ≤ 1048576) (d : Nat) : ∀ (i : Nat) (x3 : List ByteArray), i ≤ l.length → l.length - i = d → x3.length = l.length → x3.take i = l.take i →
  Ev (fun k => laws_toStringS.l0 k l x3 (i : Int)) l := by
 induction d with
 | zero =>
  intro i x3 h1 h2 h3 h4
  refine ev_succ ?_
  simp only [laws_toStringS.l0]
  refine ev_neg (by omega) (ev_some ?_)
  rw [List.take_of_length_le (by omega), List.take_of_length_le (by omega)] at h4
  exact h4
 | succ d ih =>
  intro i x3 h1 h2 h3 h4
  refine ev_succ ?_
  simp only [laws_toStringS.l0]
  refine ev_pos (by omega) (ev_pos (by omega) (ev_pos (by omega) ?_))
  rw [w64 (by omega) (by omega), Int.toNat_natCast]
  refine ih (i + 1) _ (by omega) (by omega) (by simp [h3]) ?_
  have hg : rdOf ByteArray.empty l (i : Int) = l[i]'(by omega) := getD_lt _ (by omega)
  rw [hg]
  apply List.ext_getElem
  ·simp; omega
  ·intro j hj hj'
   simp only [List.length_take, List.length_set] at hj
   rw [List.getElem_take, List.getElem_take, List.getElem_set]
   by_cases e : i = j
   ·subst e; rw [if_pos rfl]
   ·rw [if_neg e]
    have hj2 : j < (x3.take i).length := by simp; omega
    have h5 : (x3.take i)[j]'hj2 = (l.take i)[j]'(by simp; omega) := by simp only [h4]
    rwa [List.getElem_take, List.getElem_take] at h5
theorem to_ev (l : List ByteArray) (hn : l.length ≤ 1048576) : Ev (fun k => laws_toStringS.f k l) l := by
 unfold laws_toStringS.f
 refine ev_pos (by omega) (ev_pos (by omega) ?_)
 exact to_l0 l hn l.length 0 _ (by omega) (by omega) (by simp) (by simp)
end Go.Proofs.Ytifgcajpkgamgaa.Pb
end
section
namespace Go.Proofs
open Go.Shelf
def Try.lays194_ren : Go.Shelf.Ren := ⟨fun | 194 => 88 | n => n, fun | 31 => 23 | 9 => 9 | 3 => 3 | 4 => 4 | 0 => 0 | n => n, fun | n => n⟩
theorem Try.lays194 : Go.Proofs.Lays.n194 Try.prog Try.lays194_ren := {
 mixed := by kernel_rfl
 f194 := Try.func88.trans (congrArg some (by kernel_rfl))
 t0 := Try.underlying0
 a0 := Try.isAgg0
 z0 := Try.sizeOf0
 v0 := Try.zeroValue0
 t3 := Try.underlying3
 a3 := Try.isAgg3
 z3 := Try.sizeOf3
 v3 := Try.zeroValue3
 t4 := Try.underlying4
 a4 := Try.isAgg4
 z4 := Try.sizeOf4
 v4 := Try.zeroValue4
 t9 := Try.underlying9
 a9 := Try.isAgg9
 z9 := Try.sizeOf9
 v9 := Try.zeroValue9
 t31 := Try.underlying23
 a31 := Try.isAgg23
 z31 := Try.sizeOf23
 v31 := Try.zeroValue23 }
open Go.RowKit Go.Lib Go.Sort in
theorem Try.slices_Compact_string (blk off cap : Nat) (zs : List (List UInt8)) (w : World) (hH : Holds encStr w blk off zs.toArray) (hsz : zs.length ≤ 9223372036854775807) (hcap : zs.length ≤ cap) :
  Calls Try.prog 88 #[.slice (some ⟨blk, off, none⟩) zs.length cap] w fun e w' => e = .returned (.slice (some ⟨blk, off, none⟩) (Lib.compact zs).length cap) ∧ ∃ q, w' = putRow encStr (Sort.ahead w q) blk off (Lib.compact zs ++ List.replicate (zs.length - (Lib.compact zs).length) []).toArray := Any.slices_Compact_string Try.lays194 blk off cap zs w hH hsz hcap
open Go.RowKit Go.Lib Go.Sort in
theorem Try.slices_Compact_string_empty (a : Option Addr) (cap : Nat) (w : World) :
  Calls Try.prog 88 #[.slice a 0 cap] w fun e w' => e = .returned (.slice a 0 cap) ∧ w' = w := Any.slices_Compact_string_empty Try.lays194 a cap w
def Try.lays190_ren : Go.Shelf.Ren := ⟨fun | 190 => 87 | 125 => 117 | 258 => 116 | 128 => 136 | 129 => 137 | 302 => 127 | 303 => 128 | 304 => 129 | 305 => 130 | 306 => 131 | 307 => 132 | 308 => 133 | 309 => 134 | 310 => 135 | 333 => 141 | 329 => 142 | 330 => 143 | 334 => 144 | 335 => 145 | 336 => 146 | 344 => 151 | n => n, fun | 31 => 23 | 9 => 9 | 3 => 3 | 46 => 120 | 0 => 0 | 51 => 134 | 53 => 136 | 4 => 4 | 183 => 127 | 182 => 126 | 131 => 131 | 5 => 5 | 218 => 139 | 222 => 143 | 228 => 145 | 229 => 99 | n => n, fun | n => n⟩
theorem Try.lays190 : Go.Proofs.Lays.n190 Try.prog Try.lays190_ren := {
 mixed := by kernel_rfl
 f125 := Try.func117.trans (congrArg some (by kernel_rfl))
 f128 := Try.func136.trans (congrArg some (by kernel_rfl))
 f129 := Try.func137.trans (congrArg some (by kernel_rfl))
 f190 := Try.func87.trans (congrArg some (by kernel_rfl))
 f258 := Try.func116.trans (congrArg some (by kernel_rfl))
 f302 := Try.func127.trans (congrArg some (by kernel_rfl))
 f303 := Try.func128.trans (congrArg some (by kernel_rfl))
 f304 := Try.func129.trans (congrArg some (by kernel_rfl))
 f305 := Try.func130.trans (congrArg some (by kernel_rfl))
 f306 := Try.func131.trans (congrArg some (by kernel_rfl))
 f307 := Try.func132.trans (congrArg some (by kernel_rfl))
 f308 := Try.func133.trans (congrArg some (by kernel_rfl))
 f309 := Try.func134.trans (congrArg some (by kernel_rfl))
 f310 := Try.func135.trans (congrArg some (by kernel_rfl))
 f329 := Try.func142.trans (congrArg some (by kernel_rfl))
 f330 := Try.func143.trans (congrArg some (by kernel_rfl))
 f333 := Try.func141.trans (congrArg some (by kernel_rfl))
 f334 := Try.func144.trans (congrArg some (by kernel_rfl))
 f335 := Try.func145.trans (congrArg some (by kernel_rfl))
 f336 := Try.func146.trans (congrArg some (by kernel_rfl))
 f344 := Try.func151.trans (congrArg some (by kernel_rfl))
 t0 := Try.underlying0
 a0 := Try.isAgg0
 z0 := Try.sizeOf0
 v0 := Try.zeroValue0
 t3 := Try.underlying3
 a3 := Try.isAgg3
 z3 := Try.sizeOf3
 v3 := Try.zeroValue3
 t4 := Try.underlying4
 a4 := Try.isAgg4
 z4 := Try.sizeOf4
 v4 := Try.zeroValue4
 t5 := Try.underlying5
 a5 := Try.isAgg5
 z5 := Try.sizeOf5
 v5 := Try.zeroValue5
 t9 := Try.underlying9
 a9 := Try.isAgg9
 z9 := Try.sizeOf9
 v9 := Try.zeroValue9
 t31 := Try.underlying23
 a31 := Try.isAgg23
 z31 := Try.sizeOf23
 v31 := Try.zeroValue23
 t46 := Try.underlying120
 a46 := Try.isAgg120
 z46 := Try.sizeOf120
 v46 := Try.zeroValue120
 t51 := Try.underlying134
 a51 := Try.isAgg134
 z51 := Try.sizeOf134
 v51 := Try.zeroValue134
 t53 := Try.underlying136
 a53 := Try.isAgg136
 z53 := Try.sizeOf136
 v53 := Try.zeroValue136
 t131 := Try.underlying131
 a131 := Try.isAgg131
 z131 := Try.sizeOf131
 v131 := Try.zeroValue131
 t182 := Try.underlying126
 a182 := Try.isAgg126
 z182 := Try.sizeOf126
 v182 := Try.zeroValue126
 t183 := Try.underlying127
 a183 := Try.isAgg127
 z183 := Try.sizeOf127
 v183 := Try.zeroValue127
 t218 := Try.underlying139
 a218 := Try.isAgg139
 z218 := Try.sizeOf139
 v218 := Try.zeroValue139
 t222 := Try.underlying143
 a222 := Try.isAgg143
 z222 := Try.sizeOf143
 v222 := Try.zeroValue143
 t228 := Try.underlying145
 a228 := Try.isAgg145
 z228 := Try.sizeOf145
 v228 := Try.zeroValue145
 t229 := Try.underlying99
 a229 := Try.isAgg99
 z229 := Try.sizeOf99
 v229 := Try.zeroValue99 }
open Go.Sort Go.RowKit in
theorem Try.slices_Sort_string (blk off cap : Nat) (ss : List (List UInt8)) (w : World) (hH : Holds encStr w blk off ss.toArray) (hblk : blk < w.heap.size) (hsz : ss.length < 4611686018427387904) :
  Calls Try.prog 87 #[.slice (some ⟨blk, off, none⟩) ss.length cap] w fun e w' =>
   e = .returned (.tuple #[]) ∧ ∃ n os, w' = grow (putRow encStr (Sort.ahead w n) blk off (ss.mergeSort fun x y => decide (x ≤ y)).toArray) os := Any.slices_Sort_string Try.lays190 blk off cap ss w hH hblk hsz
end Go.Proofs
end
