/- What the laws of the set SM need: the kit's printed words, the printed functions with their proofs, and plain facts on them. -/
import Derived.Shelf.Slices.CompactS
import Derived.Test.YtifgcajpkgamgaaProg
import Derived.Shelf.Sort.Plain
import Derived.Shelf.Slices.In.SortNone
import Derived.Sort.OwnSorted
import Derived.Test.YtifgcajpkgamgaaBSMe
section
namespace Go.Proofs.Ytifgcajpkgamgaa.Q
open Go.RowKit Go.Proofs.YtifgcajpkgamgaaW.PrintWords Go.Proofs.YtifgcajpkgamgaaW.PrintLast Go.Proofs.YtifgcajpkgamgaaW.PrintMore
attribute [local go_sem] max2_int min2_int max_two min_two max_three min_three max_four min_four   
set_option linter.unusedVariables false
set_option linter.unusedSimpArgs false
set_option maxHeartbeats 8000000
set_option maxRecDepth 100000
theorem spec_l3Form.mono : ∀ a0 a1 a2 a3 a4 k, LeO (spec_l3Form.f k a0 a1 a2 a3 a4) (spec_l3Form.f (k + 1) a0 a1 a2 a3 a4) := by
  intro a0 a1 a2 a3 a4 k
  unfold spec_l3Form.f
  repeat' first | (with_reducible first | apply spec_BitsOk.mono | apply spec_l1Ones.mono | exact LeO.refl _ | exact LeO.none _ | refine LeO.ite ?_ ?_ | refine LeO.bind ?_ (fun _ => ?_)) | exact LeO.none _ | refine LeO.ite ?_ ?_ | refine LeO.bind ?_ (fun _ => ?_)
theorem spec_l3Form.calls (k : Nat) (a0_0 a0_1 a0_2 : ByteArray) (A0_3 : Option Addr) (c0_3 : Nat) (l0_3 : List ByteArray) (a0_4 : Int) (r : Bool) (w : World) (hr0_3 : Kd.C Kd.string w A0_3 l0_3.length l0_3) (hc0_3 : l0_3.length ≤ c0_3) (h : spec_l3Form.f k a0_0 a0_1 a0_2 l0_3 a0_4 = some r) :
    Calls Try.prog 93 #[.agg #[.string a0_0, .string a0_1, .string a0_2, .slice A0_3 l0_3.length c0_3, .int .i64 a0_4]] w fun e w' => e = .returned (.bool r) ∧ Below w.heap.size w w' := by
 have hu25 := Try.underlying25; have HR0_3 := z0 hr0_3; have HC0_3 := z0 hc0_3; clear hr0_3 hc0_3; have HB := z0 (Below.refl w.heap.size w); have H : ((spec_BitsOk.f k a0_1).bind fun t433 => (if t433 = true then ((spec_BitsOk.f k a0_2).bind fun t434 => (if t434 = true then (if (a0_1.size : Int) = (a0_0.size : Int) then (if (a0_2.size : Int) = (a0_0.size : Int) then ((spec_l1Ones.f k a0_1 (a0_0.size : Int)).bind fun t435 => (if (l0_3.length : Int) = (wrap64 ((a0_0.size : Int) - t435)) then ((spec_l6In.f a0_4 0 5).bind fun t436 => (some t436)) else (some false))) else (some false)) else (some false)) else (some false))) else (some false))) = some r := h; clear h; replace H := zi H; obtain ⟨t433, A2, H⟩ := H
 by_cases c3 : t433 = true
 ·subst c3
  have H1 : ((spec_BitsOk.f k a0_2).bind fun t434 => (if t434 = true then (if (a0_1.size : Int) = (a0_0.size : Int) then (if (a0_2.size : Int) = (a0_0.size : Int) then ((spec_l1Ones.f k a0_1 (a0_0.size : Int)).bind fun t435 => (if (l0_3.length : Int) = (wrap64 ((a0_0.size : Int) - t435)) then ((spec_l6In.f a0_4 0 5).bind fun t436 => (some t436)) else (some false))) else (some false)) else (some false)) else (some false))) = some r := by rw [if_pos rfl] at H; exact H
  clear H; have H := H1; clear H1; replace H := zi H; obtain ⟨t434, A4, H⟩ := H
  by_cases c5 : t434 = true
  ·subst c5
   have H1 : (if (a0_1.size : Int) = (a0_0.size : Int) then (if (a0_2.size : Int) = (a0_0.size : Int) then ((spec_l1Ones.f k a0_1 (a0_0.size : Int)).bind fun t435 => (if (l0_3.length : Int) = (wrap64 ((a0_0.size : Int) - t435)) then ((spec_l6In.f a0_4 0 5).bind fun t436 => (some t436)) else (some false))) else (some false)) else (some false)) = some r := by rw [if_pos rfl] at H; exact H
   clear H; have H := H1; clear H1
   by_cases c6 : (a0_1.size : Int) = (a0_0.size : Int)
   ·rw [if_pos c6] at H; have c6b0 : ((a0_1.size : Int) == (a0_0.size : Int)) = true := beq_iff_eq.mpr c6; have c6b1 : ((a0_1.size : Int) != (a0_0.size : Int)) = false := bne_eq_false_iff_eq.mpr c6
    have c6b2 : (a0_1.size == a0_0.size) = true := by first | simpa using c6 | (simp at c6 ⊢; omega)
    clear c6
    by_cases c7 : (a0_2.size : Int) = (a0_0.size : Int)
    ·rw [if_pos c7] at H; have c7b0 : ((a0_2.size : Int) == (a0_0.size : Int)) = true := beq_iff_eq.mpr c7; have c7b1 : ((a0_2.size : Int) != (a0_0.size : Int)) = false := bne_eq_false_iff_eq.mpr c7
     have c7b2 : (a0_2.size == a0_0.size) = true := by first | simpa using c7 | (simp at c7 ⊢; omega)
     clear c7; replace H := zi H; obtain ⟨t435, A8, H⟩ := H
     by_cases c9 : (l0_3.length : Int) = (wrap64 ((a0_0.size : Int) - t435))
     ·rw [if_pos c9] at H; have c9b0 : ((l0_3.length : Int) == (wrap64 ((a0_0.size : Int) - t435))) = true := beq_iff_eq.mpr c9; have c9b1 : ((l0_3.length : Int) != (wrap64 ((a0_0.size : Int) - t435))) = false := bne_eq_false_iff_eq.mpr c9; clear c9; replace H := zi H; obtain ⟨t436, A10, H⟩ := H; obtain rfl := Option.some.inj H; go_enter Try.func93, Try.ntmps93
      go_wp2_with (first | ((with_reducible refine gd 1 ?_); (try (refine gate_guard (by rfl) ?_; dsimp only)); refine zbx 25 #[.string a0_0, .string a0_1, .string a0_2, .slice A0_3 l0_3.length c0_3, .int .i64 a0_4] ?_; intro gb432 hg w11 hbox hb; have BK432 := z0 (hbox); have GE432 := zG hg HB; replace HB := zH HB hb; clear hb hbox hg; have hcz12 := zc5 BK432.out) | (go_at_call 121; (with_reducible refine (spec_BitsOk.calls k a0_1 true _ A2.out).mono ?_); rintro e w' ⟨rfl, ⟨nd, rfl⟩⟩; (try exact zdd)) | (go_at_call 121; (with_reducible refine (spec_BitsOk.calls k a0_2 true _ A4.out).mono ?_); rintro e w' ⟨rfl, ⟨nd, rfl⟩⟩; (try exact zdd)) | (go_at_call 70; (with_reducible refine (spec_l1Ones.calls k a0_1 (a0_0.size : Int) t435 _ A8.out).mono ?_); rintro e w' ⟨rfl, ⟨nd, rfl⟩⟩; (try exact zdd)) | (go_at_call 76; (with_reducible refine (spec_l6In.calls a0_4 0 5 t436 _ A10.out).mono ?_); rintro e w' ⟨rfl, ⟨nd, rfl⟩⟩; (try exact zdd)))
      repeat (go_quiet (first | ((with_reducible refine gd 1 ?_); (try (refine gate_guard (by rfl) ?_; dsimp only)); refine zbx 25 #[.string a0_0, .string a0_1, .string a0_2, .slice A0_3 l0_3.length c0_3, .int .i64 a0_4] ?_; intro gb432 hg w11 hbox hb; have BK432 := z0 (hbox); have GE432 := zG hg HB; replace HB := zH HB hb; clear hb hbox hg; have hcz12 := zc5 BK432.out) | (go_at_call 121; (with_reducible refine (spec_BitsOk.calls k a0_1 true _ A2.out).mono ?_); rintro e w' ⟨rfl, ⟨nd, rfl⟩⟩; (try exact zdd)) | (go_at_call 121; (with_reducible refine (spec_BitsOk.calls k a0_2 true _ A4.out).mono ?_); rintro e w' ⟨rfl, ⟨nd, rfl⟩⟩; (try exact zdd)) | (go_at_call 70; (with_reducible refine (spec_l1Ones.calls k a0_1 (a0_0.size : Int) t435 _ A8.out).mono ?_); rintro e w' ⟨rfl, ⟨nd, rfl⟩⟩; (try exact zdd)) | (go_at_call 76; (with_reducible refine (spec_l6In.calls a0_4 0 5 t436 _ A10.out).mono ?_); rintro e w' ⟨rfl, ⟨nd, rfl⟩⟩; (try exact zdd))); try go_wp2_with (first | ((with_reducible refine gd 1 ?_); (try (refine gate_guard (by rfl) ?_; dsimp only)); refine zbx 25 #[.string a0_0, .string a0_1, .string a0_2, .slice A0_3 l0_3.length c0_3, .int .i64 a0_4] ?_; intro gb432 hg w11 hbox hb; have BK432 := z0 (hbox); have GE432 := zG hg HB; replace HB := zH HB hb; clear hb hbox hg; have hcz12 := zc5 BK432.out) | (go_at_call 121; (with_reducible refine (spec_BitsOk.calls k a0_1 true _ A2.out).mono ?_); rintro e w' ⟨rfl, ⟨nd, rfl⟩⟩; (try exact zdd)) | (go_at_call 121; (with_reducible refine (spec_BitsOk.calls k a0_2 true _ A4.out).mono ?_); rintro e w' ⟨rfl, ⟨nd, rfl⟩⟩; (try exact zdd)) | (go_at_call 70; (with_reducible refine (spec_l1Ones.calls k a0_1 (a0_0.size : Int) t435 _ A8.out).mono ?_); rintro e w' ⟨rfl, ⟨nd, rfl⟩⟩; (try exact zdd)) | (go_at_call 76; (with_reducible refine (spec_l6In.calls a0_4 0 5 t436 _ A10.out).mono ?_); rintro e w' ⟨rfl, ⟨nd, rfl⟩⟩; (try exact zdd))))
      go_ret; exact ⟨ze, zb HB.out⟩
     ·rw [if_neg c9] at H; have c9b0 : ((l0_3.length : Int) == (wrap64 ((a0_0.size : Int) - t435))) = false := beq_eq_false_iff_ne.mpr c9; have c9b1 : ((l0_3.length : Int) != (wrap64 ((a0_0.size : Int) - t435))) = true := bne_iff_ne.mpr c9; obtain rfl := Option.some.inj H; go_enter Try.func93, Try.ntmps93
      go_wp2_with (first | ((with_reducible refine gd 1 ?_); (try (refine gate_guard (by rfl) ?_; dsimp only)); refine zbx 25 #[.string a0_0, .string a0_1, .string a0_2, .slice A0_3 l0_3.length c0_3, .int .i64 a0_4] ?_; intro gb432 hg w13 hbox hb; have BK432 := z0 (hbox); have GE432 := zG hg HB; replace HB := zH HB hb; clear hb hbox hg; have hcz14 := zc5 BK432.out) | (go_at_call 121; (with_reducible refine (spec_BitsOk.calls k a0_1 true _ A2.out).mono ?_); rintro e w' ⟨rfl, ⟨nd, rfl⟩⟩; (try exact zdd)) | (go_at_call 121; (with_reducible refine (spec_BitsOk.calls k a0_2 true _ A4.out).mono ?_); rintro e w' ⟨rfl, ⟨nd, rfl⟩⟩; (try exact zdd)) | (go_at_call 70; (with_reducible refine (spec_l1Ones.calls k a0_1 (a0_0.size : Int) t435 _ A8.out).mono ?_); rintro e w' ⟨rfl, ⟨nd, rfl⟩⟩; (try exact zdd)))
      repeat (go_quiet (first | ((with_reducible refine gd 1 ?_); (try (refine gate_guard (by rfl) ?_; dsimp only)); refine zbx 25 #[.string a0_0, .string a0_1, .string a0_2, .slice A0_3 l0_3.length c0_3, .int .i64 a0_4] ?_; intro gb432 hg w13 hbox hb; have BK432 := z0 (hbox); have GE432 := zG hg HB; replace HB := zH HB hb; clear hb hbox hg; have hcz14 := zc5 BK432.out) | (go_at_call 121; (with_reducible refine (spec_BitsOk.calls k a0_1 true _ A2.out).mono ?_); rintro e w' ⟨rfl, ⟨nd, rfl⟩⟩; (try exact zdd)) | (go_at_call 121; (with_reducible refine (spec_BitsOk.calls k a0_2 true _ A4.out).mono ?_); rintro e w' ⟨rfl, ⟨nd, rfl⟩⟩; (try exact zdd)) | (go_at_call 70; (with_reducible refine (spec_l1Ones.calls k a0_1 (a0_0.size : Int) t435 _ A8.out).mono ?_); rintro e w' ⟨rfl, ⟨nd, rfl⟩⟩; (try exact zdd))); try go_wp2_with (first | ((with_reducible refine gd 1 ?_); (try (refine gate_guard (by rfl) ?_; dsimp only)); refine zbx 25 #[.string a0_0, .string a0_1, .string a0_2, .slice A0_3 l0_3.length c0_3, .int .i64 a0_4] ?_; intro gb432 hg w13 hbox hb; have BK432 := z0 (hbox); have GE432 := zG hg HB; replace HB := zH HB hb; clear hb hbox hg; have hcz14 := zc5 BK432.out) | (go_at_call 121; (with_reducible refine (spec_BitsOk.calls k a0_1 true _ A2.out).mono ?_); rintro e w' ⟨rfl, ⟨nd, rfl⟩⟩; (try exact zdd)) | (go_at_call 121; (with_reducible refine (spec_BitsOk.calls k a0_2 true _ A4.out).mono ?_); rintro e w' ⟨rfl, ⟨nd, rfl⟩⟩; (try exact zdd)) | (go_at_call 70; (with_reducible refine (spec_l1Ones.calls k a0_1 (a0_0.size : Int) t435 _ A8.out).mono ?_); rintro e w' ⟨rfl, ⟨nd, rfl⟩⟩; (try exact zdd))))
      go_ret; exact ⟨ze, zb HB.out⟩
    ·rw [if_neg c7] at H; have c7b0 : ((a0_2.size : Int) == (a0_0.size : Int)) = false := beq_eq_false_iff_ne.mpr c7; have c7b1 : ((a0_2.size : Int) != (a0_0.size : Int)) = true := bne_iff_ne.mpr c7
     have c7b2 : (a0_2.size == a0_0.size) = false := by first | simpa using c7 | (simp at c7 ⊢; omega)
     obtain rfl := Option.some.inj H; go_enter Try.func93, Try.ntmps93
     go_wp2_with (first | ((with_reducible refine gd 1 ?_); (try (refine gate_guard (by rfl) ?_; dsimp only)); refine zbx 25 #[.string a0_0, .string a0_1, .string a0_2, .slice A0_3 l0_3.length c0_3, .int .i64 a0_4] ?_; intro gb432 hg w15 hbox hb; have BK432 := z0 (hbox); have GE432 := zG hg HB; replace HB := zH HB hb; clear hb hbox hg; have hcz16 := zc5 BK432.out) | (go_at_call 121; (with_reducible refine (spec_BitsOk.calls k a0_1 true _ A2.out).mono ?_); rintro e w' ⟨rfl, ⟨nd, rfl⟩⟩; (try exact zdd)) | (go_at_call 121; (with_reducible refine (spec_BitsOk.calls k a0_2 true _ A4.out).mono ?_); rintro e w' ⟨rfl, ⟨nd, rfl⟩⟩; (try exact zdd)))
     repeat (go_quiet (first | ((with_reducible refine gd 1 ?_); (try (refine gate_guard (by rfl) ?_; dsimp only)); refine zbx 25 #[.string a0_0, .string a0_1, .string a0_2, .slice A0_3 l0_3.length c0_3, .int .i64 a0_4] ?_; intro gb432 hg w15 hbox hb; have BK432 := z0 (hbox); have GE432 := zG hg HB; replace HB := zH HB hb; clear hb hbox hg; have hcz16 := zc5 BK432.out) | (go_at_call 121; (with_reducible refine (spec_BitsOk.calls k a0_1 true _ A2.out).mono ?_); rintro e w' ⟨rfl, ⟨nd, rfl⟩⟩; (try exact zdd)) | (go_at_call 121; (with_reducible refine (spec_BitsOk.calls k a0_2 true _ A4.out).mono ?_); rintro e w' ⟨rfl, ⟨nd, rfl⟩⟩; (try exact zdd))); try go_wp2_with (first | ((with_reducible refine gd 1 ?_); (try (refine gate_guard (by rfl) ?_; dsimp only)); refine zbx 25 #[.string a0_0, .string a0_1, .string a0_2, .slice A0_3 l0_3.length c0_3, .int .i64 a0_4] ?_; intro gb432 hg w15 hbox hb; have BK432 := z0 (hbox); have GE432 := zG hg HB; replace HB := zH HB hb; clear hb hbox hg; have hcz16 := zc5 BK432.out) | (go_at_call 121; (with_reducible refine (spec_BitsOk.calls k a0_1 true _ A2.out).mono ?_); rintro e w' ⟨rfl, ⟨nd, rfl⟩⟩; (try exact zdd)) | (go_at_call 121; (with_reducible refine (spec_BitsOk.calls k a0_2 true _ A4.out).mono ?_); rintro e w' ⟨rfl, ⟨nd, rfl⟩⟩; (try exact zdd))))
     go_ret; exact ⟨ze, zb HB.out⟩
   ·rw [if_neg c6] at H; have c6b0 : ((a0_1.size : Int) == (a0_0.size : Int)) = false := beq_eq_false_iff_ne.mpr c6; have c6b1 : ((a0_1.size : Int) != (a0_0.size : Int)) = true := bne_iff_ne.mpr c6
    have c6b2 : (a0_1.size == a0_0.size) = false := by first | simpa using c6 | (simp at c6 ⊢; omega)
    obtain rfl := Option.some.inj H; go_enter Try.func93, Try.ntmps93
    go_wp2_with (first | ((with_reducible refine gd 1 ?_); (try (refine gate_guard (by rfl) ?_; dsimp only)); refine zbx 25 #[.string a0_0, .string a0_1, .string a0_2, .slice A0_3 l0_3.length c0_3, .int .i64 a0_4] ?_; intro gb432 hg w17 hbox hb; have BK432 := z0 (hbox); have GE432 := zG hg HB; replace HB := zH HB hb; clear hb hbox hg; have hcz18 := zc5 BK432.out) | (go_at_call 121; (with_reducible refine (spec_BitsOk.calls k a0_1 true _ A2.out).mono ?_); rintro e w' ⟨rfl, ⟨nd, rfl⟩⟩; (try exact zdd)) | (go_at_call 121; (with_reducible refine (spec_BitsOk.calls k a0_2 true _ A4.out).mono ?_); rintro e w' ⟨rfl, ⟨nd, rfl⟩⟩; (try exact zdd)))
    repeat (go_quiet (first | ((with_reducible refine gd 1 ?_); (try (refine gate_guard (by rfl) ?_; dsimp only)); refine zbx 25 #[.string a0_0, .string a0_1, .string a0_2, .slice A0_3 l0_3.length c0_3, .int .i64 a0_4] ?_; intro gb432 hg w17 hbox hb; have BK432 := z0 (hbox); have GE432 := zG hg HB; replace HB := zH HB hb; clear hb hbox hg; have hcz18 := zc5 BK432.out) | (go_at_call 121; (with_reducible refine (spec_BitsOk.calls k a0_1 true _ A2.out).mono ?_); rintro e w' ⟨rfl, ⟨nd, rfl⟩⟩; (try exact zdd)) | (go_at_call 121; (with_reducible refine (spec_BitsOk.calls k a0_2 true _ A4.out).mono ?_); rintro e w' ⟨rfl, ⟨nd, rfl⟩⟩; (try exact zdd))); try go_wp2_with (first | ((with_reducible refine gd 1 ?_); (try (refine gate_guard (by rfl) ?_; dsimp only)); refine zbx 25 #[.string a0_0, .string a0_1, .string a0_2, .slice A0_3 l0_3.length c0_3, .int .i64 a0_4] ?_; intro gb432 hg w17 hbox hb; have BK432 := z0 (hbox); have GE432 := zG hg HB; replace HB := zH HB hb; clear hb hbox hg; have hcz18 := zc5 BK432.out) | (go_at_call 121; (with_reducible refine (spec_BitsOk.calls k a0_1 true _ A2.out).mono ?_); rintro e w' ⟨rfl, ⟨nd, rfl⟩⟩; (try exact zdd)) | (go_at_call 121; (with_reducible refine (spec_BitsOk.calls k a0_2 true _ A4.out).mono ?_); rintro e w' ⟨rfl, ⟨nd, rfl⟩⟩; (try exact zdd))))
    go_ret; exact ⟨ze, zb HB.out⟩
  ·replace c5 := Bool.eq_false_iff.mpr c5; subst c5
   have H1 : (some false) = some r := by rw [if_neg (show ¬ (false = true) by decide)] at H; exact H
   clear H; have H := H1; clear H1; obtain rfl := Option.some.inj H; go_enter Try.func93, Try.ntmps93
   go_wp2_with (first | ((with_reducible refine gd 1 ?_); (try (refine gate_guard (by rfl) ?_; dsimp only)); refine zbx 25 #[.string a0_0, .string a0_1, .string a0_2, .slice A0_3 l0_3.length c0_3, .int .i64 a0_4] ?_; intro gb432 hg w19 hbox hb; have BK432 := z0 (hbox); have GE432 := zG hg HB; replace HB := zH HB hb; clear hb hbox hg; have hcz20 := zc5 BK432.out) | (go_at_call 121; (with_reducible refine (spec_BitsOk.calls k a0_1 true _ A2.out).mono ?_); rintro e w' ⟨rfl, ⟨nd, rfl⟩⟩; (try exact zdd)) | (go_at_call 121; (with_reducible refine (spec_BitsOk.calls k a0_2 false _ A4.out).mono ?_); rintro e w' ⟨rfl, ⟨nd, rfl⟩⟩; (try exact zdd)))
   repeat (go_quiet (first | ((with_reducible refine gd 1 ?_); (try (refine gate_guard (by rfl) ?_; dsimp only)); refine zbx 25 #[.string a0_0, .string a0_1, .string a0_2, .slice A0_3 l0_3.length c0_3, .int .i64 a0_4] ?_; intro gb432 hg w19 hbox hb; have BK432 := z0 (hbox); have GE432 := zG hg HB; replace HB := zH HB hb; clear hb hbox hg; have hcz20 := zc5 BK432.out) | (go_at_call 121; (with_reducible refine (spec_BitsOk.calls k a0_1 true _ A2.out).mono ?_); rintro e w' ⟨rfl, ⟨nd, rfl⟩⟩; (try exact zdd)) | (go_at_call 121; (with_reducible refine (spec_BitsOk.calls k a0_2 false _ A4.out).mono ?_); rintro e w' ⟨rfl, ⟨nd, rfl⟩⟩; (try exact zdd))); try go_wp2_with (first | ((with_reducible refine gd 1 ?_); (try (refine gate_guard (by rfl) ?_; dsimp only)); refine zbx 25 #[.string a0_0, .string a0_1, .string a0_2, .slice A0_3 l0_3.length c0_3, .int .i64 a0_4] ?_; intro gb432 hg w19 hbox hb; have BK432 := z0 (hbox); have GE432 := zG hg HB; replace HB := zH HB hb; clear hb hbox hg; have hcz20 := zc5 BK432.out) | (go_at_call 121; (with_reducible refine (spec_BitsOk.calls k a0_1 true _ A2.out).mono ?_); rintro e w' ⟨rfl, ⟨nd, rfl⟩⟩; (try exact zdd)) | (go_at_call 121; (with_reducible refine (spec_BitsOk.calls k a0_2 false _ A4.out).mono ?_); rintro e w' ⟨rfl, ⟨nd, rfl⟩⟩; (try exact zdd))))
   go_ret; exact ⟨ze, zb HB.out⟩
 ·replace c3 := Bool.eq_false_iff.mpr c3; subst c3
  have H1 : (some false) = some r := by rw [if_neg (show ¬ (false = true) by decide)] at H; exact H
  clear H; have H := H1; clear H1; obtain rfl := Option.some.inj H; go_enter Try.func93, Try.ntmps93
  go_wp2_with (first | ((with_reducible refine gd 1 ?_); (try (refine gate_guard (by rfl) ?_; dsimp only)); refine zbx 25 #[.string a0_0, .string a0_1, .string a0_2, .slice A0_3 l0_3.length c0_3, .int .i64 a0_4] ?_; intro gb432 hg w21 hbox hb; have BK432 := z0 (hbox); have GE432 := zG hg HB; replace HB := zH HB hb; clear hb hbox hg; have hcz22 := zc5 BK432.out) | (go_at_call 121; (with_reducible refine (spec_BitsOk.calls k a0_1 false _ A2.out).mono ?_); rintro e w' ⟨rfl, ⟨nd, rfl⟩⟩; (try exact zdd)))
  repeat (go_quiet (first | ((with_reducible refine gd 1 ?_); (try (refine gate_guard (by rfl) ?_; dsimp only)); refine zbx 25 #[.string a0_0, .string a0_1, .string a0_2, .slice A0_3 l0_3.length c0_3, .int .i64 a0_4] ?_; intro gb432 hg w21 hbox hb; have BK432 := z0 (hbox); have GE432 := zG hg HB; replace HB := zH HB hb; clear hb hbox hg; have hcz22 := zc5 BK432.out) | (go_at_call 121; (with_reducible refine (spec_BitsOk.calls k a0_1 false _ A2.out).mono ?_); rintro e w' ⟨rfl, ⟨nd, rfl⟩⟩; (try exact zdd))); try go_wp2_with (first | ((with_reducible refine gd 1 ?_); (try (refine gate_guard (by rfl) ?_; dsimp only)); refine zbx 25 #[.string a0_0, .string a0_1, .string a0_2, .slice A0_3 l0_3.length c0_3, .int .i64 a0_4] ?_; intro gb432 hg w21 hbox hb; have BK432 := z0 (hbox); have GE432 := zG hg HB; replace HB := zH HB hb; clear hb hbox hg; have hcz22 := zc5 BK432.out) | (go_at_call 121; (with_reducible refine (spec_BitsOk.calls k a0_1 false _ A2.out).mono ?_); rintro e w' ⟨rfl, ⟨nd, rfl⟩⟩; (try exact zdd))))
  go_ret; exact ⟨ze, zb HB.out⟩
theorem spec_l3Sames.mono_l : ∀ k, (∀ y0 y1 y2, LeO (spec_l3Sames.l0 k y0 y1 y2) (spec_l3Sames.l0 (k + 1) y0 y1 y2))
  | 0 => fun _ _ _ r h => by simp [spec_l3Sames.l0] at h
  | k + 1 => by
    have ih0 := spec_l3Sames.mono_l k
    · intro y0 y1 y2
      unfold spec_l3Sames.l0
      repeat' first | (with_reducible first | apply ih0 | exact LeO.refl _ | exact LeO.none _ | refine LeO.ite ?_ ?_ | refine LeO.bind ?_ (fun _ => ?_)) | exact LeO.none _ | refine LeO.ite ?_ ?_ | refine LeO.bind ?_ (fun _ => ?_)
theorem spec_l3Sames.mono : ∀ a0 a1 k, LeO (spec_l3Sames.f k a0 a1) (spec_l3Sames.f (k + 1) a0 a1) := by
  intro a0 a1 k
  have ih0 := spec_l3Sames.mono_l k
  unfold spec_l3Sames.f
  repeat' first | (with_reducible first | apply ih0 | exact LeO.refl _ | exact LeO.none _ | refine LeO.ite ?_ ?_ | refine LeO.bind ?_ (fun _ => ?_)) | exact LeO.none _ | refine LeO.ite ?_ ?_ | refine LeO.bind ?_ (fun _ => ?_)
theorem spec_l3Sames.calls (k : Nat) (A0 : Option Addr) (c0 : Nat) (l0 : List ByteArray) (A1 : Option Addr) (c1 : Nat) (l1 : List ByteArray) (r : Bool) (w : World) (hr0 : Kd.C Kd.string w A0 l0.length l0) (hc0 : l0.length ≤ c0) (hr1 : Kd.C Kd.string w A1 l1.length l1) (hc1 : l1.length ≤ c1) (h : spec_l3Sames.f k l0 l1 = some r) :
    Calls Try.prog 94 #[.slice A0 l0.length c0, .slice A1 l1.length c1] w fun e w' => e = .returned (.bool r) ∧ Drawn0 w w' := by
 have HR0 := z0 hr0; have HC0 := z0 hc0; clear hr0 hc0; have HR1 := z0 hr1; have HC1 := z0 hc1; clear hr1 hc1; have H : (if (l0.length : Int) = (l1.length : Int) then (spec_l3Sames.l0 k l0 l1 0) else (some false)) = some r := h; clear h
 by_cases c3 : (l0.length : Int) = (l1.length : Int)
 ·rw [if_pos c3] at H; have c3b0 : ((l0.length : Int) == (l1.length : Int)) = true := beq_iff_eq.mpr c3; have c3b1 : ((l0.length : Int) != (l1.length : Int)) = false := bne_eq_false_iff_eq.mpr c3
  have c3b2 : (l0.length == l1.length) = true := by first | simpa using c3 | (simp at c3 ⊢; omega)
  clear c3; have H' := z0 H; clear H; go_enter Try.func94, Try.ntmps94; go_wp2
  repeat (go_quiet (fail); try go_wp2)
  go_loopg [5] k (fun kq v5 w' => ∃ (x5_1 : Int), v5 = .int .i64 x5_1 ∧ Aside0 (spec_l3Sames.l0 kq l0 l1 x5_1 = some r) ∧ Aside0 (kq ≤ k) ∧ Drawn0 w w')
  case atStart => exact ⟨(0), zf, H', ⟨Nat.le_refl _⟩, by repeat (first | exact Drawn0.refl _ | apply Drawn0.step)⟩
  case round =>
   clear H'
   try clear c1
   try clear p2
   try clear c3
   try clear c3b0
   try clear c3b1
   try clear c3b2
   obtain ⟨x5_1, rfl, HA, HK1, ⟨m1, rfl⟩⟩ := hrel
   cases gk with
   | zero => exact absurd HA.out (by simp [spec_l3Sames.l0])
   | succ k1 =>
    have H := HA.out; clear HA; simp only [spec_l3Sames.l0] at H
    by_cases c4 : x5_1 < (l0.length : Int)
    ·rw [if_pos c4] at H; have c4b0 := decide_eq_true c4; clear c4; replace H := zn H; obtain ⟨c5, H⟩ := H; have c5b0 := decide_eq_true c5; clear c5; replace H := zn H; obtain ⟨c6, H⟩ := H; have c6b0 := decide_eq_true c6; clear c6
     by_cases c7 : (rdOf ByteArray.empty l0 x5_1).toList = (rdOf ByteArray.empty l1 x5_1).toList
     ·rw [if_pos c7] at H; have c7b0 : ((rdOf ByteArray.empty l0 x5_1).toList == (rdOf ByteArray.empty l1 x5_1).toList) = true := beq_iff_eq.mpr c7; have c7b1 : ((rdOf ByteArray.empty l0 x5_1).toList != (rdOf ByteArray.empty l1 x5_1).toList) = false := bne_eq_false_iff_eq.mpr c7; clear c7; have H' := z0 H; clear H; have p437 : 0 ≤ (x5_1 : Int) := zd; have q437 : x5_1 < (l0.length : Int) := zd; obtain ⟨ad437, e437, hx437_0⟩ := Kd.at_string HR0.out x5_1 p437 q437; cases e437; replace p437 := eq_true p437; replace q437 := eq_true q437; have p438 : 0 ≤ (x5_1 : Int) := zd; have q438 : x5_1 < (l1.length : Int) := zd; obtain ⟨ad438, e438, hx438_0⟩ := Kd.at_string HR1.out x5_1 p438 q438; cases e438; replace p438 := eq_true p438; replace q438 := eq_true q438; go_wp2
      repeat (go_quiet (fail); try go_wp2)
      go_roundg k1
      case measure => have := HK1.out; omega
      case rel => exact ⟨(wrap64 (x5_1 + 1)), zf, H', ⟨by have := HK1.out; omega⟩, by repeat (first | exact Drawn0.refl _ | apply Drawn0.step)⟩
     ·rw [if_neg c7] at H; have c7b0 : ((rdOf ByteArray.empty l0 x5_1).toList == (rdOf ByteArray.empty l1 x5_1).toList) = false := beq_eq_false_iff_ne.mpr c7; have c7b1 : ((rdOf ByteArray.empty l0 x5_1).toList != (rdOf ByteArray.empty l1 x5_1).toList) = true := bne_iff_ne.mpr c7; obtain rfl := Option.some.inj H; have p437 : 0 ≤ (x5_1 : Int) := zd; have q437 : x5_1 < (l0.length : Int) := zd; obtain ⟨ad437, e437, hx437_0⟩ := Kd.at_string HR0.out x5_1 p437 q437; cases e437; replace p437 := eq_true p437; replace q437 := eq_true q437; have p438 : 0 ≤ (x5_1 : Int) := zd; have q438 : x5_1 < (l1.length : Int) := zd; obtain ⟨ad438, e438, hx438_0⟩ := Kd.at_string HR1.out x5_1 p438 q438; cases e438; replace p438 := eq_true p438; replace q438 := eq_true q438; go_wp2
      repeat (go_quiet (fail); try go_wp2)
      go_ret; exact ⟨zf, by repeat (first | exact Drawn0.refl _ | apply Drawn0.step)⟩
    ·rw [if_neg c4] at H; have c4b0 := decide_eq_false c4; clear c4; obtain rfl := Option.some.inj H; go_wp2
     repeat (go_quiet (fail); try go_wp2)
     go_ret; exact ⟨zf, by repeat (first | exact Drawn0.refl _ | apply Drawn0.step)⟩
 ·rw [if_neg c3] at H; have c3b0 : ((l0.length : Int) == (l1.length : Int)) = false := beq_eq_false_iff_ne.mpr c3; have c3b1 : ((l0.length : Int) != (l1.length : Int)) = true := bne_iff_ne.mpr c3
  have c3b2 : (l0.length == l1.length) = false := by first | simpa using c3 | (simp at c3 ⊢; omega)
  obtain rfl := Option.some.inj H; go_enter Try.func94, Try.ntmps94; go_wp2
  repeat (go_quiet (fail); try go_wp2)
  go_ret; exact ⟨zf, by repeat (first | exact Drawn0.refl _ | apply Drawn0.step)⟩
theorem spec_SieveOk.mono : ∀ a0 a1 a2 a3 a4 k, LeO (spec_SieveOk.f k a0 a1 a2 a3 a4) (spec_SieveOk.f (k + 1) a0 a1 a2 a3 a4) := by
  intro a0 a1 a2 a3 a4 k
  unfold spec_SieveOk.f
  repeat' first | (with_reducible first | apply spec_SieveOf.mono | apply spec_l3Form.mono | apply spec_l3Heads.mono | apply spec_l3Sames.mono | exact LeO.refl _ | exact LeO.none _ | refine LeO.ite ?_ ?_ | refine LeO.bind ?_ (fun _ => ?_)) | exact LeO.none _ | refine LeO.ite ?_ ?_ | refine LeO.bind ?_ (fun _ => ?_)
theorem spec_SieveOk.calls (k : Nat) (a0_0 a0_1 a0_2 : ByteArray) (A0_3 : Option Addr) (c0_3 : Nat) (l0_3 : List ByteArray) (a0_4 : Int) (r : Bool) (w : World) (hr0_3 : Kd.C Kd.string w A0_3 l0_3.length l0_3) (hc0_3 : l0_3.length ≤ c0_3) (h : spec_SieveOk.f k a0_0 a0_1 a0_2 l0_3 a0_4 = some r) :
    Calls Try.prog 46 #[.agg #[.string a0_0, .string a0_1, .string a0_2, .slice A0_3 l0_3.length c0_3, .int .i64 a0_4]] w fun e w' => e = .returned (.bool r) ∧ Below w.heap.size w w' := by
 have hu25 := Try.underlying25; have HR0_3 := z0 hr0_3; have HC0_3 := z0 hc0_3; clear hr0_3 hc0_3; have HB := z0 (Below.refl w.heap.size w); have H : ((spec_l3Form.f k a0_0 a0_1 a0_2 l0_3 a0_4).bind fun t440 => (if t440 = true then ((spec_l3Heads.f k a0_0 a0_1 a0_2 l0_3 a0_4).bind fun t441 => ((spec_SieveOf.f k t441 a0_4).bind fun bt444 => (if bt444.2.2.2.2.2 = true then (if bt444.1.toList = a0_0.toList then (if bt444.2.1.toList = a0_1.toList then (if bt444.2.2.1.toList = a0_2.toList then ((spec_l3Sames.f k bt444.2.2.2.1 l0_3).bind fun t453 => (some t453)) else (some false)) else (some false)) else (some false)) else (some false)))) else (some false))) = some r := h; clear h; replace H := zi H; obtain ⟨t440, A2, H⟩ := H
 by_cases c3 : t440 = true
 ·subst c3
  have H1 : ((spec_l3Heads.f k a0_0 a0_1 a0_2 l0_3 a0_4).bind fun t441 => ((spec_SieveOf.f k t441 a0_4).bind fun bt444 => (if bt444.2.2.2.2.2 = true then (if bt444.1.toList = a0_0.toList then (if bt444.2.1.toList = a0_1.toList then (if bt444.2.2.1.toList = a0_2.toList then ((spec_l3Sames.f k bt444.2.2.2.1 l0_3).bind fun t453 => (some t453)) else (some false)) else (some false)) else (some false)) else (some false)))) = some r := by rw [if_pos rfl] at H; exact H
  clear H; have H := H1; clear H1; replace H := zi H; obtain ⟨t441, A4, H⟩ := H; replace H := zi H; obtain ⟨⟨t444, t445, t446, t447, t450, t451⟩, A5, H⟩ := H; (try dsimp only at H)
  by_cases c6 : t451 = true
  ·subst c6
   have H1 : (if t444.toList = a0_0.toList then (if t445.toList = a0_1.toList then (if t446.toList = a0_2.toList then ((spec_l3Sames.f k t447 l0_3).bind fun t453 => (some t453)) else (some false)) else (some false)) else (some false)) = some r := by rw [if_pos rfl] at H; exact H
   clear H; have H := H1; clear H1
   by_cases c7 : t444.toList = a0_0.toList
   ·rw [if_pos c7] at H; have c7b0 : (t444.toList == a0_0.toList) = true := beq_iff_eq.mpr c7; have c7b1 : (t444.toList != a0_0.toList) = false := bne_eq_false_iff_eq.mpr c7; clear c7
    by_cases c8 : t445.toList = a0_1.toList
    ·rw [if_pos c8] at H; have c8b0 : (t445.toList == a0_1.toList) = true := beq_iff_eq.mpr c8; have c8b1 : (t445.toList != a0_1.toList) = false := bne_eq_false_iff_eq.mpr c8; clear c8
     by_cases c9 : t446.toList = a0_2.toList
     ·rw [if_pos c9] at H; have c9b0 : (t446.toList == a0_2.toList) = true := beq_iff_eq.mpr c9; have c9b1 : (t446.toList != a0_2.toList) = false := bne_eq_false_iff_eq.mpr c9; clear c9; replace H := zi H; obtain ⟨t453, A10, H⟩ := H; obtain rfl := Option.some.inj H; go_enter Try.func46, Try.ntmps46
      go_wp2_with (first | ((with_reducible refine gd 1 ?_); refine zbx 25 #[.string a0_0, .string a0_1, .string a0_2, .slice A0_3 l0_3.length c0_3, .int .i64 a0_4] ?_; intro gb439 hg w11 hbox hb; have BK439 := z0 (hbox); have GE439 := zG hg HB; replace HB := zH HB hb; clear hb hbox hg; have hcz12 := zc5 BK439.out) | ((with_reducible refine gc 93 ?_); refine zL (some 7) Try.func93 #[.agg #[.string a0_0, .string a0_1, .string a0_2, .slice A0_3 l0_3.length c0_3, .int .i64 a0_4]] ?_; (with_reducible refine (spec_l3Form.calls k a0_0 a0_1 a0_2 _ _ l0_3 a0_4 true _ (zC (Kd.C_below HR0_3.out HB.out)) HC0_3.out A2.out).mono ?_); rintro e w13 ⟨rfl, hb⟩; refine zv ?_; replace BK439 := zK BK439 hb; replace HB := zH HB hb; (try clear hb); have hcz14 := zc5 BK439.out) | ((with_reducible refine gc 82 ?_); refine zL (some 10) Try.func82 #[.agg #[.string a0_0, .string a0_1, .string a0_2, .slice A0_3 l0_3.length c0_3, .int .i64 a0_4]] ?_; (with_reducible refine (spec_l3Heads.calls k a0_0 a0_1 a0_2 _ _ l0_3 a0_4 t441 _ (zC (Kd.C_below HR0_3.out HB.out)) HC0_3.out A4.out).mono ?_); rintro e w15 ⟨v442, rfl, ho0, hb⟩; refine zv ?_; have HO443 := z0 (Kd.R_lower ho0 (below_size (zb HB.out))); replace BK439 := zK BK439 hb; replace HB := zH HB hb; (try clear hb ho0); have hcz16 := zc5 BK439.out; obtain ⟨Ao17, co17, eo17⟩ := Kd.R_slice HO443.out; subst eo17) | ((with_reducible refine gc 36 ?_); refine zL (some 15) Try.func36 #[.slice Ao17 t441.length co17, .int .i64 a0_4] ?_; (with_reducible refine (spec_SieveOf.calls k (fun k_ => some k_ = (.slice Ao17 t441.length co17 : Value).ownBlock) _ _ t441 a0_4 t444 t445 t446 t447 t450 true _ (Kd.R_V (Kd.R_tight rfl (Kd.R_types (HO443.out) BK439.out (by decide)))) A5.out).mono ?_); rintro e w18 ⟨v448, rfl, ho0, hb⟩; refine zv ?_; have HO449 := z0 (Kd.R_lower (Kd.R_new' (Kd.R_mono (ok' := fun k_ => True) ho0 (fun _ hk_ => trivial)) (Kd.R_lt (zr HO443.out))) (below_size (zb HB.out))); replace HO443 := z0 (Kd.R_elder' (zr HO443.out) (Kd.R_base ho0) hb); replace BK439 := zK BK439 hb; replace HB := zH HB hb; (try clear hb ho0)) | ((with_reducible refine gd 4 ?_); refine zbx 25 #[.string ⟨#[]⟩, .string ⟨#[]⟩, .string ⟨#[]⟩, .slice none 0 0, .int .i64 0] ?_; intro gb452 hg w19 hbox hb; replace HO443 := zA HO443 hb; replace HO449 := zA HO449 hb; have BK452 := z0 (hbox); have GE452 := zG hg HB; replace HB := zH HB hb; have NB439_452 := zLt hg BK439; have NB452_439 := zGt hg BK439; replace BK439 := zK BK439 hb; clear hb hbox hg; have hnb20 := NB452_439.out; have hnc20 := NB439_452.out; have hcz21 := zc5 BK452.out; obtain ⟨Ao22, co22, eo22⟩ := Kd.R_slice HO449.out; subst eo22; have hcz23 := zc5 BK439.out) | (go_at_call 94; (with_reducible refine (spec_l3Sames.calls k _ _ t447 _ _ l0_3 t453 _ ?side1 ?side2 ?side3 ?side4 A10.out).mono ?_); (case side1 => refine (Kd.R_reads' (e := 9) (base := w.heap.size) (ok := fun k_ => (True ∧ some k_ ≠ (.slice Ao17 t441.length co17 : Value).ownBlock)) (n := t447.length) (c := co22) ?_).2.2; exact (zs HO449.out BK452.out)); (case side2 => exact (Kd.R_reads' HO449.out).2.1); (case side3 => exact Kd.C_below HR0_3.out (zb HB.out)); (case side4 => exact HC0_3.out); rintro e w' ⟨rfl, ⟨nd, rfl⟩⟩))
      go_ret; exact ⟨ze, zb HB.out⟩
     ·rw [if_neg c9] at H; have c9b0 : (t446.toList == a0_2.toList) = false := beq_eq_false_iff_ne.mpr c9; have c9b1 : (t446.toList != a0_2.toList) = true := bne_iff_ne.mpr c9; obtain rfl := Option.some.inj H; go_enter Try.func46, Try.ntmps46
      go_wp2_with (first | ((with_reducible refine gd 1 ?_); refine zbx 25 #[.string a0_0, .string a0_1, .string a0_2, .slice A0_3 l0_3.length c0_3, .int .i64 a0_4] ?_; intro gb439 hg w24 hbox hb; have BK439 := z0 (hbox); have GE439 := zG hg HB; replace HB := zH HB hb; clear hb hbox hg; have hcz25 := zc5 BK439.out) | ((with_reducible refine gc 93 ?_); refine zL (some 7) Try.func93 #[.agg #[.string a0_0, .string a0_1, .string a0_2, .slice A0_3 l0_3.length c0_3, .int .i64 a0_4]] ?_; (with_reducible refine (spec_l3Form.calls k a0_0 a0_1 a0_2 _ _ l0_3 a0_4 true _ (zC (Kd.C_below HR0_3.out HB.out)) HC0_3.out A2.out).mono ?_); rintro e w26 ⟨rfl, hb⟩; refine zv ?_; replace BK439 := zK BK439 hb; replace HB := zH HB hb; (try clear hb); have hcz27 := zc5 BK439.out) | ((with_reducible refine gc 82 ?_); refine zL (some 10) Try.func82 #[.agg #[.string a0_0, .string a0_1, .string a0_2, .slice A0_3 l0_3.length c0_3, .int .i64 a0_4]] ?_; (with_reducible refine (spec_l3Heads.calls k a0_0 a0_1 a0_2 _ _ l0_3 a0_4 t441 _ (zC (Kd.C_below HR0_3.out HB.out)) HC0_3.out A4.out).mono ?_); rintro e w28 ⟨v442, rfl, ho0, hb⟩; refine zv ?_; have HO443 := z0 (Kd.R_lower ho0 (below_size (zb HB.out))); replace BK439 := zK BK439 hb; replace HB := zH HB hb; (try clear hb ho0); have hcz29 := zc5 BK439.out; obtain ⟨Ao30, co30, eo30⟩ := Kd.R_slice HO443.out; subst eo30) | ((with_reducible refine gc 36 ?_); refine zL (some 15) Try.func36 #[.slice Ao30 t441.length co30, .int .i64 a0_4] ?_; (with_reducible refine (spec_SieveOf.calls k (fun k_ => some k_ = (.slice Ao30 t441.length co30 : Value).ownBlock) _ _ t441 a0_4 t444 t445 t446 t447 t450 true _ (Kd.R_V (Kd.R_tight rfl (Kd.R_types (HO443.out) BK439.out (by decide)))) A5.out).mono ?_); rintro e w31 ⟨v448, rfl, ho0, hb⟩; refine zv ?_; have HO449 := z0 (Kd.R_lower (Kd.R_new' (Kd.R_mono (ok' := fun k_ => True) ho0 (fun _ hk_ => trivial)) (Kd.R_lt (zr HO443.out))) (below_size (zb HB.out))); replace HO443 := z0 (Kd.R_elder' (zr HO443.out) (Kd.R_base ho0) hb); replace BK439 := zK BK439 hb; replace HB := zH HB hb; (try clear hb ho0)) | ((with_reducible refine gd 4 ?_); refine zbx 25 #[.string ⟨#[]⟩, .string ⟨#[]⟩, .string ⟨#[]⟩, .slice none 0 0, .int .i64 0] ?_; intro gb452 hg w32 hbox hb; replace HO443 := zA HO443 hb; replace HO449 := zA HO449 hb; have BK452 := z0 (hbox); have GE452 := zG hg HB; replace HB := zH HB hb; have NB439_452 := zLt hg BK439; have NB452_439 := zGt hg BK439; replace BK439 := zK BK439 hb; clear hb hbox hg; have hnb33 := NB452_439.out; have hnc33 := NB439_452.out; have hcz34 := zc5 BK452.out; obtain ⟨Ao35, co35, eo35⟩ := Kd.R_slice HO449.out; subst eo35; have hcz36 := zc5 BK439.out))
      go_ret; exact ⟨ze, zb HB.out⟩
    ·rw [if_neg c8] at H; have c8b0 : (t445.toList == a0_1.toList) = false := beq_eq_false_iff_ne.mpr c8; have c8b1 : (t445.toList != a0_1.toList) = true := bne_iff_ne.mpr c8; obtain rfl := Option.some.inj H; go_enter Try.func46, Try.ntmps46
     go_wp2_with (first | ((with_reducible refine gd 1 ?_); refine zbx 25 #[.string a0_0, .string a0_1, .string a0_2, .slice A0_3 l0_3.length c0_3, .int .i64 a0_4] ?_; intro gb439 hg w37 hbox hb; have BK439 := z0 (hbox); have GE439 := zG hg HB; replace HB := zH HB hb; clear hb hbox hg; have hcz38 := zc5 BK439.out) | ((with_reducible refine gc 93 ?_); refine zL (some 7) Try.func93 #[.agg #[.string a0_0, .string a0_1, .string a0_2, .slice A0_3 l0_3.length c0_3, .int .i64 a0_4]] ?_; (with_reducible refine (spec_l3Form.calls k a0_0 a0_1 a0_2 _ _ l0_3 a0_4 true _ (zC (Kd.C_below HR0_3.out HB.out)) HC0_3.out A2.out).mono ?_); rintro e w39 ⟨rfl, hb⟩; refine zv ?_; replace BK439 := zK BK439 hb; replace HB := zH HB hb; (try clear hb); have hcz40 := zc5 BK439.out) | ((with_reducible refine gc 82 ?_); refine zL (some 10) Try.func82 #[.agg #[.string a0_0, .string a0_1, .string a0_2, .slice A0_3 l0_3.length c0_3, .int .i64 a0_4]] ?_; (with_reducible refine (spec_l3Heads.calls k a0_0 a0_1 a0_2 _ _ l0_3 a0_4 t441 _ (zC (Kd.C_below HR0_3.out HB.out)) HC0_3.out A4.out).mono ?_); rintro e w41 ⟨v442, rfl, ho0, hb⟩; refine zv ?_; have HO443 := z0 (Kd.R_lower ho0 (below_size (zb HB.out))); replace BK439 := zK BK439 hb; replace HB := zH HB hb; (try clear hb ho0); have hcz42 := zc5 BK439.out; obtain ⟨Ao43, co43, eo43⟩ := Kd.R_slice HO443.out; subst eo43) | ((with_reducible refine gc 36 ?_); refine zL (some 15) Try.func36 #[.slice Ao43 t441.length co43, .int .i64 a0_4] ?_; (with_reducible refine (spec_SieveOf.calls k (fun k_ => some k_ = (.slice Ao43 t441.length co43 : Value).ownBlock) _ _ t441 a0_4 t444 t445 t446 t447 t450 true _ (Kd.R_V (Kd.R_tight rfl (Kd.R_types (HO443.out) BK439.out (by decide)))) A5.out).mono ?_); rintro e w44 ⟨v448, rfl, ho0, hb⟩; refine zv ?_; have HO449 := z0 (Kd.R_lower (Kd.R_new' (Kd.R_mono (ok' := fun k_ => True) ho0 (fun _ hk_ => trivial)) (Kd.R_lt (zr HO443.out))) (below_size (zb HB.out))); replace HO443 := z0 (Kd.R_elder' (zr HO443.out) (Kd.R_base ho0) hb); replace BK439 := zK BK439 hb; replace HB := zH HB hb; (try clear hb ho0)) | ((with_reducible refine gd 4 ?_); refine zbx 25 #[.string ⟨#[]⟩, .string ⟨#[]⟩, .string ⟨#[]⟩, .slice none 0 0, .int .i64 0] ?_; intro gb452 hg w45 hbox hb; replace HO443 := zA HO443 hb; replace HO449 := zA HO449 hb; have BK452 := z0 (hbox); have GE452 := zG hg HB; replace HB := zH HB hb; have NB439_452 := zLt hg BK439; have NB452_439 := zGt hg BK439; replace BK439 := zK BK439 hb; clear hb hbox hg; have hnb46 := NB452_439.out; have hnc46 := NB439_452.out; have hcz47 := zc5 BK452.out; obtain ⟨Ao48, co48, eo48⟩ := Kd.R_slice HO449.out; subst eo48; have hcz49 := zc5 BK439.out))
     go_ret; exact ⟨ze, zb HB.out⟩
   ·rw [if_neg c7] at H; have c7b0 : (t444.toList == a0_0.toList) = false := beq_eq_false_iff_ne.mpr c7; have c7b1 : (t444.toList != a0_0.toList) = true := bne_iff_ne.mpr c7; obtain rfl := Option.some.inj H; go_enter Try.func46, Try.ntmps46
    go_wp2_with (first | ((with_reducible refine gd 1 ?_); refine zbx 25 #[.string a0_0, .string a0_1, .string a0_2, .slice A0_3 l0_3.length c0_3, .int .i64 a0_4] ?_; intro gb439 hg w50 hbox hb; have BK439 := z0 (hbox); have GE439 := zG hg HB; replace HB := zH HB hb; clear hb hbox hg; have hcz51 := zc5 BK439.out) | ((with_reducible refine gc 93 ?_); refine zL (some 7) Try.func93 #[.agg #[.string a0_0, .string a0_1, .string a0_2, .slice A0_3 l0_3.length c0_3, .int .i64 a0_4]] ?_; (with_reducible refine (spec_l3Form.calls k a0_0 a0_1 a0_2 _ _ l0_3 a0_4 true _ (zC (Kd.C_below HR0_3.out HB.out)) HC0_3.out A2.out).mono ?_); rintro e w52 ⟨rfl, hb⟩; refine zv ?_; replace BK439 := zK BK439 hb; replace HB := zH HB hb; (try clear hb); have hcz53 := zc5 BK439.out) | ((with_reducible refine gc 82 ?_); refine zL (some 10) Try.func82 #[.agg #[.string a0_0, .string a0_1, .string a0_2, .slice A0_3 l0_3.length c0_3, .int .i64 a0_4]] ?_; (with_reducible refine (spec_l3Heads.calls k a0_0 a0_1 a0_2 _ _ l0_3 a0_4 t441 _ (zC (Kd.C_below HR0_3.out HB.out)) HC0_3.out A4.out).mono ?_); rintro e w54 ⟨v442, rfl, ho0, hb⟩; refine zv ?_; have HO443 := z0 (Kd.R_lower ho0 (below_size (zb HB.out))); replace BK439 := zK BK439 hb; replace HB := zH HB hb; (try clear hb ho0); have hcz55 := zc5 BK439.out; obtain ⟨Ao56, co56, eo56⟩ := Kd.R_slice HO443.out; subst eo56) | ((with_reducible refine gc 36 ?_); refine zL (some 15) Try.func36 #[.slice Ao56 t441.length co56, .int .i64 a0_4] ?_; (with_reducible refine (spec_SieveOf.calls k (fun k_ => some k_ = (.slice Ao56 t441.length co56 : Value).ownBlock) _ _ t441 a0_4 t444 t445 t446 t447 t450 true _ (Kd.R_V (Kd.R_tight rfl (Kd.R_types (HO443.out) BK439.out (by decide)))) A5.out).mono ?_); rintro e w57 ⟨v448, rfl, ho0, hb⟩; refine zv ?_; have HO449 := z0 (Kd.R_lower (Kd.R_new' (Kd.R_mono (ok' := fun k_ => True) ho0 (fun _ hk_ => trivial)) (Kd.R_lt (zr HO443.out))) (below_size (zb HB.out))); replace HO443 := z0 (Kd.R_elder' (zr HO443.out) (Kd.R_base ho0) hb); replace BK439 := zK BK439 hb; replace HB := zH HB hb; (try clear hb ho0)) | ((with_reducible refine gd 4 ?_); refine zbx 25 #[.string ⟨#[]⟩, .string ⟨#[]⟩, .string ⟨#[]⟩, .slice none 0 0, .int .i64 0] ?_; intro gb452 hg w58 hbox hb; replace HO443 := zA HO443 hb; replace HO449 := zA HO449 hb; have BK452 := z0 (hbox); have GE452 := zG hg HB; replace HB := zH HB hb; have NB439_452 := zLt hg BK439; have NB452_439 := zGt hg BK439; replace BK439 := zK BK439 hb; clear hb hbox hg; have hnb59 := NB452_439.out; have hnc59 := NB439_452.out; have hcz60 := zc5 BK452.out; obtain ⟨Ao61, co61, eo61⟩ := Kd.R_slice HO449.out; subst eo61; have hcz62 := zc5 BK439.out))
    go_ret; exact ⟨ze, zb HB.out⟩
  ·replace c6 := Bool.eq_false_iff.mpr c6; subst c6
   have H1 : (some false) = some r := by rw [if_neg (show ¬ (false = true) by decide)] at H; exact H
   clear H; have H := H1; clear H1; obtain rfl := Option.some.inj H; go_enter Try.func46, Try.ntmps46
   go_wp2_with (first | ((with_reducible refine gd 1 ?_); refine zbx 25 #[.string a0_0, .string a0_1, .string a0_2, .slice A0_3 l0_3.length c0_3, .int .i64 a0_4] ?_; intro gb439 hg w63 hbox hb; have BK439 := z0 (hbox); have GE439 := zG hg HB; replace HB := zH HB hb; clear hb hbox hg; have hcz64 := zc5 BK439.out) | ((with_reducible refine gc 93 ?_); refine zL (some 7) Try.func93 #[.agg #[.string a0_0, .string a0_1, .string a0_2, .slice A0_3 l0_3.length c0_3, .int .i64 a0_4]] ?_; (with_reducible refine (spec_l3Form.calls k a0_0 a0_1 a0_2 _ _ l0_3 a0_4 true _ (zC (Kd.C_below HR0_3.out HB.out)) HC0_3.out A2.out).mono ?_); rintro e w65 ⟨rfl, hb⟩; refine zv ?_; replace BK439 := zK BK439 hb; replace HB := zH HB hb; (try clear hb); have hcz66 := zc5 BK439.out) | ((with_reducible refine gc 82 ?_); refine zL (some 10) Try.func82 #[.agg #[.string a0_0, .string a0_1, .string a0_2, .slice A0_3 l0_3.length c0_3, .int .i64 a0_4]] ?_; (with_reducible refine (spec_l3Heads.calls k a0_0 a0_1 a0_2 _ _ l0_3 a0_4 t441 _ (zC (Kd.C_below HR0_3.out HB.out)) HC0_3.out A4.out).mono ?_); rintro e w67 ⟨v442, rfl, ho0, hb⟩; refine zv ?_; have HO443 := z0 (Kd.R_lower ho0 (below_size (zb HB.out))); replace BK439 := zK BK439 hb; replace HB := zH HB hb; (try clear hb ho0); have hcz68 := zc5 BK439.out; obtain ⟨Ao69, co69, eo69⟩ := Kd.R_slice HO443.out; subst eo69) | ((with_reducible refine gc 36 ?_); refine zL (some 15) Try.func36 #[.slice Ao69 t441.length co69, .int .i64 a0_4] ?_; (with_reducible refine (spec_SieveOf.calls k (fun k_ => some k_ = (.slice Ao69 t441.length co69 : Value).ownBlock) _ _ t441 a0_4 t444 t445 t446 t447 t450 false _ (Kd.R_V (Kd.R_tight rfl (Kd.R_types (HO443.out) BK439.out (by decide)))) A5.out).mono ?_); rintro e w70 ⟨v448, rfl, ho0, hb⟩; refine zv ?_; have HO449 := z0 (Kd.R_lower (Kd.R_new' (Kd.R_mono (ok' := fun k_ => True) ho0 (fun _ hk_ => trivial)) (Kd.R_lt (zr HO443.out))) (below_size (zb HB.out))); replace HO443 := z0 (Kd.R_elder' (zr HO443.out) (Kd.R_base ho0) hb); replace BK439 := zK BK439 hb; replace HB := zH HB hb; (try clear hb ho0)) | ((with_reducible refine gd 4 ?_); refine zbx 25 #[.string ⟨#[]⟩, .string ⟨#[]⟩, .string ⟨#[]⟩, .slice none 0 0, .int .i64 0] ?_; intro gb452 hg w71 hbox hb; replace HO443 := zA HO443 hb; replace HO449 := zA HO449 hb; have BK452 := z0 (hbox); have GE452 := zG hg HB; replace HB := zH HB hb; have NB439_452 := zLt hg BK439; have NB452_439 := zGt hg BK439; replace BK439 := zK BK439 hb; clear hb hbox hg; have hnb72 := NB452_439.out; have hnc72 := NB439_452.out; have hcz73 := zc5 BK452.out; obtain ⟨Ao74, co74, eo74⟩ := Kd.R_slice HO449.out; subst eo74))
   go_ret; exact ⟨ze, zb HB.out⟩
 ·replace c3 := Bool.eq_false_iff.mpr c3; subst c3
  have H1 : (some false) = some r := by rw [if_neg (show ¬ (false = true) by decide)] at H; exact H
  clear H; have H := H1; clear H1; obtain rfl := Option.some.inj H; go_enter Try.func46, Try.ntmps46
  go_wp2_with (first | ((with_reducible refine gd 1 ?_); refine zbx 25 #[.string a0_0, .string a0_1, .string a0_2, .slice A0_3 l0_3.length c0_3, .int .i64 a0_4] ?_; intro gb439 hg w75 hbox hb; have BK439 := z0 (hbox); have GE439 := zG hg HB; replace HB := zH HB hb; clear hb hbox hg; have hcz76 := zc5 BK439.out) | ((with_reducible refine gc 93 ?_); refine zL (some 7) Try.func93 #[.agg #[.string a0_0, .string a0_1, .string a0_2, .slice A0_3 l0_3.length c0_3, .int .i64 a0_4]] ?_; (with_reducible refine (spec_l3Form.calls k a0_0 a0_1 a0_2 _ _ l0_3 a0_4 false _ (zC (Kd.C_below HR0_3.out HB.out)) HC0_3.out A2.out).mono ?_); rintro e w77 ⟨rfl, hb⟩; refine zv ?_; replace BK439 := zK BK439 hb; replace HB := zH HB hb; (try clear hb)))
  go_ret; exact ⟨ze, zb HB.out⟩
theorem spec_KeyBegins.calls (a0 a1 : ByteArray) (r : Bool) (w : World) (h : spec_KeyBegins.f a0 a1 = some r) :
    Calls Try.prog 72 #[.string a0, .string a1] w fun e w' => e = .returned (.bool r) ∧ Drawn0 w w' := by
 have H : (if (a1.size : Int) ≤ (a0.size : Int) then (if 0 ≤ (a1.size : Int) then (some ((a0.extract 0 ((a1.size : Int) : Int).toNat).toList == a1.toList)) else (none)) else (some false)) = some r := h; clear h
 by_cases c3 : (a1.size : Int) ≤ (a0.size : Int)
 ·rw [if_pos c3] at H; have c3b0 := decide_eq_true c3; have c3b1 : decide (a1.size ≤ a0.size) = true := decide_eq_true (Int.ofNat_le.mp c3); clear c3; replace H := zn H; obtain ⟨c4, H⟩ := H; have c4b0 := eq_true c4; have c4b1 := decide_eq_true c4; clear c4; have c5b0 := eq_true (zd : (a1.size : Int) ≤ (a0.size : Int)); obtain rfl := Option.some.inj H; go_enter Try.func72, Try.ntmps72; go_wp2; go_ret; exact ⟨zf, by repeat (first | exact Drawn0.refl _ | apply Drawn0.step)⟩
 ·rw [if_neg c3] at H; have c3b0 := decide_eq_false c3; have c3b1 : decide (a1.size ≤ a0.size) = false := decide_eq_false (fun h => c3 (Int.ofNat_le.mpr h)); clear c3; obtain rfl := Option.some.inj H; go_enter Try.func72, Try.ntmps72; go_wp2; go_ret; exact ⟨zf, by repeat (first | exact Drawn0.refl _ | apply Drawn0.step)⟩
theorem spec_l3Behind.mono_l : ∀ k, (∀ y0 y1 y2 y3, LeO (spec_l3Behind.l0 k y0 y1 y2 y3) (spec_l3Behind.l0 (k + 1) y0 y1 y2 y3))
  | 0 => fun _ _ _ _ r h => by simp [spec_l3Behind.l0] at h
  | k + 1 => by
    have ih0 := spec_l3Behind.mono_l k
    · intro y0 y1 y2 y3
      unfold spec_l3Behind.l0
      repeat' first | (with_reducible first | apply ih0 | exact LeO.refl _ | exact LeO.none _ | refine LeO.ite ?_ ?_ | refine LeO.bind ?_ (fun _ => ?_)) | exact LeO.none _ | refine LeO.ite ?_ ?_ | refine LeO.bind ?_ (fun _ => ?_)
theorem spec_l3Behind.mono : ∀ a0 a1 a2 k, LeO (spec_l3Behind.f k a0 a1 a2) (spec_l3Behind.f (k + 1) a0 a1 a2) := by
  intro a0 a1 a2 k
  have ih0 := spec_l3Behind.mono_l k
  unfold spec_l3Behind.f
  repeat' first | (with_reducible first | apply ih0 | exact LeO.refl _ | exact LeO.none _ | refine LeO.ite ?_ ?_ | refine LeO.bind ?_ (fun _ => ?_)) | exact LeO.none _ | refine LeO.ite ?_ ?_ | refine LeO.bind ?_ (fun _ => ?_)
theorem spec_l3Behind.calls (k : Nat) (A0 : Option Addr) (c0 : Nat) (l0 : List ByteArray) (A1 : Option Addr) (c1 : Nat) (l1 : List Bool) (a2 : ByteArray) (r : Int) (w : World) (hr0 : Kd.C Kd.string w A0 l0.length l0) (hc0 : l0.length ≤ c0) (hr1 : Kd.C Kd.bool w A1 l1.length l1) (hc1 : l1.length ≤ c1) (h : spec_l3Behind.f k l0 l1 a2 = some r) :
    Calls Try.prog 83 #[.slice A0 l0.length c0, .slice A1 l1.length c1, .string a2] w fun e w' => e = .returned (.int .i64 r) ∧ Drawn0 w w' := by
 have HR0 := z0 hr0; have HC0 := z0 hc0; clear hr0 hc0; have HR1 := z0 hr1; have HC1 := z0 hc1; clear hr1 hc1; have H : (spec_l3Behind.l0 k l0 l1 a2 0) = some r := h; clear h; have H' := z0 H; clear H; go_enter Try.func83, Try.ntmps83; go_wp2
 go_loopg [7] k (fun kq v7 w' => ∃ (x7_1 : Int), v7 = .int .i64 x7_1 ∧ Aside0 (spec_l3Behind.l0 kq l0 l1 a2 x7_1 = some r) ∧ Aside0 (kq ≤ k) ∧ Drawn0 w w')
 case atStart => exact ⟨(0), zf, H', ⟨Nat.le_refl _⟩, by repeat (first | exact Drawn0.refl _ | apply Drawn0.step)⟩
 case round =>
  clear H'
  try clear c1
  try clear p2
  obtain ⟨x7_1, rfl, HA, HK1, ⟨m1, rfl⟩⟩ := hrel
  cases gk with
  | zero => exact absurd HA.out (by simp [spec_l3Behind.l0])
  | succ k1 =>
   have H := HA.out; clear HA; simp only [spec_l3Behind.l0] at H
   by_cases c4 : x7_1 < (l0.length : Int)
   ·rw [if_pos c4] at H; have c4b0 := decide_eq_true c4; clear c4; replace H := zn H; obtain ⟨c5, H⟩ := H; have c5b0 := decide_eq_true c5; clear c5
    by_cases c6 : ((Op.bytesLess ((rdOf ByteArray.empty l0 x7_1).toList) a2.toList) = true)
    ·rw [if_pos c6] at H; have c6b0 : (Op.bytesLess ((rdOf ByteArray.empty l0 x7_1).toList) a2.toList) = true := c6; clear c6; replace H := zn H; obtain ⟨c7, H⟩ := H; have c7b0 := decide_eq_true c7; clear c7; obtain ⟨bq8, hbq8⟩ : ∃ b_ : Bool, b_ = (rdOf false l1 x7_1) := ⟨_, rfl⟩
     replace H : (if bq8 = true then (spec_l3Behind.l0 k1 l0 l1 a2 (wrap64 (x7_1 + 1))) else ((spec_KeyBegins.f a2 (rdOf ByteArray.empty l0 x7_1)).bind fun t613 => (if t613 = true then (some x7_1) else (spec_l3Behind.l0 k1 l0 l1 a2 (wrap64 (x7_1 + 1)))))) = some r := by rw [← hbq8] at H; exact H
     have Nbq8 := z0 hbq8; clear hbq8
     by_cases c9 : bq8 = true
     ·subst c9
      have H1 : (spec_l3Behind.l0 k1 l0 l1 a2 (wrap64 (x7_1 + 1))) = some r := by rw [if_pos rfl] at H; exact H
      clear H; have H := H1; clear H1; have H' := z0 H; clear H; have p610 : 0 ≤ (x7_1 : Int) := zd; have q610 : x7_1 < (l0.length : Int) := zd; obtain ⟨ad610, e610, hx610_0⟩ := Kd.at_string HR0.out x7_1 p610 q610; cases e610; replace p610 := eq_true p610; replace q610 := eq_true q610; have p611 : 0 ≤ (x7_1 : Int) := zd; have q611 : x7_1 < (l1.length : Int) := zd; obtain ⟨ad611, e611, hx611_0⟩ := Kd.at_bool HR1.out x7_1 p611 q611; (try rw [← Nbq8.out] at hx611_0); cases e611; replace p611 := eq_true p611; replace q611 := eq_true q611; go_wp2; go_roundg k1
      case measure => have := HK1.out; omega
      case rel => exact ⟨(wrap64 (x7_1 + 1)), zf, H', ⟨by have := HK1.out; omega⟩, by repeat (first | exact Drawn0.refl _ | apply Drawn0.step)⟩
     ·replace c9 := Bool.eq_false_iff.mpr c9; subst c9
      have H1 : ((spec_KeyBegins.f a2 (rdOf ByteArray.empty l0 x7_1)).bind fun t613 => (if t613 = true then (some x7_1) else (spec_l3Behind.l0 k1 l0 l1 a2 (wrap64 (x7_1 + 1))))) = some r := by rw [if_neg (show ¬ (false = true) by decide)] at H; exact H
      clear H; have H := H1; clear H1; replace H := zi H; obtain ⟨t613, A10, H⟩ := H
      by_cases c11 : t613 = true
      ·subst c11
       have H1 : (some x7_1) = some r := by rw [if_pos rfl] at H; exact H
       clear H; have H := H1; clear H1; obtain rfl := Option.some.inj H; have p610 : 0 ≤ (x7_1 : Int) := zd; have q610 : x7_1 < (l0.length : Int) := zd; obtain ⟨ad610, e610, hx610_0⟩ := Kd.at_string HR0.out x7_1 p610 q610; cases e610; replace p610 := eq_true p610; replace q610 := eq_true q610; have p611 : 0 ≤ (x7_1 : Int) := zd; have q611 : x7_1 < (l1.length : Int) := zd; obtain ⟨ad611, e611, hx611_0⟩ := Kd.at_bool HR1.out x7_1 p611 q611; (try rw [← Nbq8.out] at hx611_0); cases e611; replace p611 := eq_true p611; replace q611 := eq_true q611; have p612 : 0 ≤ (x7_1 : Int) := zd; have q612 : x7_1 < (l0.length : Int) := zd; obtain ⟨ad612, e612, hx612_0⟩ := Kd.at_string HR0.out x7_1 p612 q612; obtain rfl : ad610 = ad612 := (by injection e612); replace p612 := eq_true p612; replace q612 := eq_true q612
       go_wp2_with (first | (go_at_call 72; (with_reducible refine (spec_KeyBegins.calls a2 (rdOf ByteArray.empty l0 x7_1) true _ A10.out).mono ?_); rintro e w' ⟨rfl, ⟨nd, rfl⟩⟩))
       go_ret; exact ⟨zf, by repeat (first | exact Drawn0.refl _ | apply Drawn0.step)⟩
      ·replace c11 := Bool.eq_false_iff.mpr c11; subst c11
       have H1 : (spec_l3Behind.l0 k1 l0 l1 a2 (wrap64 (x7_1 + 1))) = some r := by rw [if_neg (show ¬ (false = true) by decide)] at H; exact H
       clear H; have H := H1; clear H1; have H' := z0 H; clear H; have p610 : 0 ≤ (x7_1 : Int) := zd; have q610 : x7_1 < (l0.length : Int) := zd; obtain ⟨ad610, e610, hx610_0⟩ := Kd.at_string HR0.out x7_1 p610 q610; cases e610; replace p610 := eq_true p610; replace q610 := eq_true q610; have p611 : 0 ≤ (x7_1 : Int) := zd; have q611 : x7_1 < (l1.length : Int) := zd; obtain ⟨ad611, e611, hx611_0⟩ := Kd.at_bool HR1.out x7_1 p611 q611; (try rw [← Nbq8.out] at hx611_0); cases e611; replace p611 := eq_true p611; replace q611 := eq_true q611; have p612 : 0 ≤ (x7_1 : Int) := zd; have q612 : x7_1 < (l0.length : Int) := zd; obtain ⟨ad612, e612, hx612_0⟩ := Kd.at_string HR0.out x7_1 p612 q612; obtain rfl : ad610 = ad612 := (by injection e612); replace p612 := eq_true p612; replace q612 := eq_true q612
       go_wp2_with (first | (go_at_call 72; (with_reducible refine (spec_KeyBegins.calls a2 (rdOf ByteArray.empty l0 x7_1) false _ A10.out).mono ?_); rintro e w' ⟨rfl, ⟨nd, rfl⟩⟩))
       go_roundg k1
       case measure => have := HK1.out; omega
       case rel => exact ⟨(wrap64 (x7_1 + 1)), zf, H', ⟨by have := HK1.out; omega⟩, by repeat (first | exact Drawn0.refl _ | apply Drawn0.step)⟩
    ·rw [if_neg c6] at H
     have c6b0 : (Op.bytesLess ((rdOf ByteArray.empty l0 x7_1).toList) a2.toList) = false := by simpa using c6
     clear c6; obtain rfl := Option.some.inj H; have p610 : 0 ≤ (x7_1 : Int) := zd; have q610 : x7_1 < (l0.length : Int) := zd; obtain ⟨ad610, e610, hx610_0⟩ := Kd.at_string HR0.out x7_1 p610 q610; cases e610; replace p610 := eq_true p610; replace q610 := eq_true q610; go_wp2; go_ret; exact ⟨zf, by repeat (first | exact Drawn0.refl _ | apply Drawn0.step)⟩
   ·rw [if_neg c4] at H; have c4b0 := decide_eq_false c4; clear c4; obtain rfl := Option.some.inj H; go_wp2; go_ret; exact ⟨zf, by repeat (first | exact Drawn0.refl _ | apply Drawn0.step)⟩
theorem spec_l3Whole.mono : ∀ a0 a1 a2 a3 a4 a5 k, LeO (spec_l3Whole.f k a0 a1 a2 a3 a4 a5) (spec_l3Whole.f (k + 1) a0 a1 a2 a3 a4 a5) := by
  intro a0 a1 a2 a3 a4 a5 k
  unfold spec_l3Whole.f
  repeat' first | (with_reducible first | apply spec_l1Ones.mono | exact LeO.refl _ | exact LeO.none _ | refine LeO.ite ?_ ?_ | refine LeO.bind ?_ (fun _ => ?_)) | exact LeO.none _ | refine LeO.ite ?_ ?_ | refine LeO.bind ?_ (fun _ => ?_)
theorem spec_l3Whole.calls (k : Nat) (a0_0 a0_1 a0_2 : ByteArray) (A0_3 : Option Addr) (c0_3 : Nat) (l0_3 : List ByteArray) (a0_4 a1 : Int) (r : Bool) (w : World) (hr0_3 : Kd.C Kd.string w A0_3 l0_3.length l0_3) (hc0_3 : l0_3.length ≤ c0_3) (h : spec_l3Whole.f k a0_0 a0_1 a0_2 l0_3 a0_4 a1 = some r) :
    Calls Try.prog 71 #[.agg #[.string a0_0, .string a0_1, .string a0_2, .slice A0_3 l0_3.length c0_3, .int .i64 a0_4], .int .i64 a1] w fun e w' => e = .returned (.bool r) ∧ Below w.heap.size w w' := by
 have hu25 := Try.underlying25; have HR0_3 := z0 hr0_3; have HC0_3 := z0 hc0_3; clear hr0_3 hc0_3; have HB := z0 (Below.refl w.heap.size w); have H : ((spec_l1Ones.f k a0_1 a1).bind fun t460 => (if 0 ≤ a1 then (if a1 < (a0_0.size : Int) then (if (bt a0_0 a1) = 45 then (some true) else (if 0 ≤ (wrap64 (a1 - t460)) then (if (wrap64 (a1 - t460)) < (l0_3.length : Int) then (some (decide (((rdOf ByteArray.empty l0_3 (wrap64 (a1 - t460))).size : Int) < a0_4))) else (none)) else (none))) else (none)) else (none))) = some r := h; clear h; replace H := zi H; obtain ⟨t460, A3, H⟩ := H; replace H := zn H; obtain ⟨c4, H⟩ := H; have c4b0 := decide_eq_true c4; clear c4; replace H := zn H; obtain ⟨c5, H⟩ := H; have c5b0 := decide_eq_true c5; clear c5
 by_cases c7 : (bt a0_0 a1) = 45
 ·rw [if_pos c7] at H; have c7b0 : ((bt a0_0 a1) == 45) = true := beq_iff_eq.mpr c7; have c7b1 : ((bt a0_0 a1) != 45) = false := bne_eq_false_iff_eq.mpr c7; clear c7; obtain rfl := Option.some.inj H; go_enter Try.func71, Try.ntmps71
  go_wp2_with (first | ((with_reducible refine gd 2 ?_); (try (refine gate_guard (by rfl) ?_; dsimp only)); refine zbx 25 #[.string a0_0, .string a0_1, .string a0_2, .slice A0_3 l0_3.length c0_3, .int .i64 a0_4] ?_; intro gb459 hg w8 hbox hb; have BK459 := z0 (hbox); have GE459 := zG hg HB; replace HB := zH HB hb; clear hb hbox hg; have hcz9 := zc5 BK459.out) | (go_at_call 70; (with_reducible refine (spec_l1Ones.calls k a0_1 a1 t460 _ A3.out).mono ?_); rintro e w' ⟨rfl, ⟨nd, rfl⟩⟩; (try exact zdd); have p6 : 0 ≤ (a1 : Int) := zd; have q6 : a1 < (a0_0.size : Int) := zd; have hx6 := bt_at a0_0 a1; replace p6 := eq_true p6; replace q6 := eq_true q6))
  repeat (go_quiet (first | ((with_reducible refine gd 2 ?_); (try (refine gate_guard (by rfl) ?_; dsimp only)); refine zbx 25 #[.string a0_0, .string a0_1, .string a0_2, .slice A0_3 l0_3.length c0_3, .int .i64 a0_4] ?_; intro gb459 hg w8 hbox hb; have BK459 := z0 (hbox); have GE459 := zG hg HB; replace HB := zH HB hb; clear hb hbox hg; have hcz9 := zc5 BK459.out) | (go_at_call 70; (with_reducible refine (spec_l1Ones.calls k a0_1 a1 t460 _ A3.out).mono ?_); rintro e w' ⟨rfl, ⟨nd, rfl⟩⟩; (try exact zdd); have p6 : 0 ≤ (a1 : Int) := zd; have q6 : a1 < (a0_0.size : Int) := zd; have hx6 := bt_at a0_0 a1; replace p6 := eq_true p6; replace q6 := eq_true q6)); try go_wp2_with (first | ((with_reducible refine gd 2 ?_); (try (refine gate_guard (by rfl) ?_; dsimp only)); refine zbx 25 #[.string a0_0, .string a0_1, .string a0_2, .slice A0_3 l0_3.length c0_3, .int .i64 a0_4] ?_; intro gb459 hg w8 hbox hb; have BK459 := z0 (hbox); have GE459 := zG hg HB; replace HB := zH HB hb; clear hb hbox hg; have hcz9 := zc5 BK459.out) | (go_at_call 70; (with_reducible refine (spec_l1Ones.calls k a0_1 a1 t460 _ A3.out).mono ?_); rintro e w' ⟨rfl, ⟨nd, rfl⟩⟩; (try exact zdd); have p6 : 0 ≤ (a1 : Int) := zd; have q6 : a1 < (a0_0.size : Int) := zd; have hx6 := bt_at a0_0 a1; replace p6 := eq_true p6; replace q6 := eq_true q6)))
  go_ret; exact ⟨ze, zb HB.out⟩
 ·rw [if_neg c7] at H; have c7b0 : ((bt a0_0 a1) == 45) = false := beq_eq_false_iff_ne.mpr c7; have c7b1 : ((bt a0_0 a1) != 45) = true := bne_iff_ne.mpr c7; obtain ⟨ji10, hji10⟩ : ∃ j_ : Int, (wrap64 (a1 - t460)) = j_ := ⟨_, rfl⟩
  replace H : (if 0 ≤ (ji10) then (if (ji10) < (l0_3.length : Int) then (some (decide (((rdOf ByteArray.empty l0_3 (ji10)).size : Int) < a0_4))) else (none)) else (none)) = some r := by first | (rw [hji10] at H; exact H) | (simp only [hji10] at H ⊢; exact H)
  (try rw [hji10] at A3); have hji10w : (IntKind.i64.wrap (a1 - t460)) = ji10 := (i64_w _).trans hji10; replace H := zn H; obtain ⟨c11, H⟩ := H; have c11b0 := decide_eq_true c11; clear c11; replace H := zn H; obtain ⟨c12, H⟩ := H; have c12b0 := decide_eq_true c12; clear c12; obtain rfl := Option.some.inj H; go_enter Try.func71, Try.ntmps71
  go_wp2_with (first | ((with_reducible refine gd 2 ?_); (try (refine gate_guard (by rfl) ?_; dsimp only)); refine zbx 25 #[.string a0_0, .string a0_1, .string a0_2, .slice A0_3 l0_3.length c0_3, .int .i64 a0_4] ?_; intro gb459 hg w13 hbox hb; have BK459 := z0 (hbox); have GE459 := zG hg HB; replace HB := zH HB hb; clear hb hbox hg; have hcz14 := zc5 BK459.out) | (go_at_call 70; (with_reducible refine (spec_l1Ones.calls k a0_1 a1 t460 _ A3.out).mono ?_); rintro e w' ⟨rfl, ⟨nd, rfl⟩⟩; (try exact zdd); have p6 : 0 ≤ (a1 : Int) := zd; have q6 : a1 < (a0_0.size : Int) := zd; have hx6 := bt_at a0_0 a1; replace p6 := eq_true p6; replace q6 := eq_true q6; have p461 : 0 ≤ ((ji10) : Int) := zd; have q461 : (ji10) < (l0_3.length : Int) := zd; obtain ⟨ad461, e461, hx461_0⟩ := Kd.at_string HR0_3.out (ji10) p461 q461; cases e461; replace hx461_0 := (HB.out.cell (World.block_lt_of_cell? w _ hx461_0)).trans hx461_0; replace p461 := eq_true p461; replace q461 := eq_true q461))
  repeat (go_quiet (first | ((with_reducible refine gd 2 ?_); (try (refine gate_guard (by rfl) ?_; dsimp only)); refine zbx 25 #[.string a0_0, .string a0_1, .string a0_2, .slice A0_3 l0_3.length c0_3, .int .i64 a0_4] ?_; intro gb459 hg w13 hbox hb; have BK459 := z0 (hbox); have GE459 := zG hg HB; replace HB := zH HB hb; clear hb hbox hg; have hcz14 := zc5 BK459.out) | (go_at_call 70; (with_reducible refine (spec_l1Ones.calls k a0_1 a1 t460 _ A3.out).mono ?_); rintro e w' ⟨rfl, ⟨nd, rfl⟩⟩; (try exact zdd); have p6 : 0 ≤ (a1 : Int) := zd; have q6 : a1 < (a0_0.size : Int) := zd; have hx6 := bt_at a0_0 a1; replace p6 := eq_true p6; replace q6 := eq_true q6; have p461 : 0 ≤ ((ji10) : Int) := zd; have q461 : (ji10) < (l0_3.length : Int) := zd; obtain ⟨ad461, e461, hx461_0⟩ := Kd.at_string HR0_3.out (ji10) p461 q461; cases e461; replace hx461_0 := (HB.out.cell (World.block_lt_of_cell? w _ hx461_0)).trans hx461_0; replace p461 := eq_true p461; replace q461 := eq_true q461)); try go_wp2_with (first | ((with_reducible refine gd 2 ?_); (try (refine gate_guard (by rfl) ?_; dsimp only)); refine zbx 25 #[.string a0_0, .string a0_1, .string a0_2, .slice A0_3 l0_3.length c0_3, .int .i64 a0_4] ?_; intro gb459 hg w13 hbox hb; have BK459 := z0 (hbox); have GE459 := zG hg HB; replace HB := zH HB hb; clear hb hbox hg; have hcz14 := zc5 BK459.out) | (go_at_call 70; (with_reducible refine (spec_l1Ones.calls k a0_1 a1 t460 _ A3.out).mono ?_); rintro e w' ⟨rfl, ⟨nd, rfl⟩⟩; (try exact zdd); have p6 : 0 ≤ (a1 : Int) := zd; have q6 : a1 < (a0_0.size : Int) := zd; have hx6 := bt_at a0_0 a1; replace p6 := eq_true p6; replace q6 := eq_true q6; have p461 : 0 ≤ ((ji10) : Int) := zd; have q461 : (ji10) < (l0_3.length : Int) := zd; obtain ⟨ad461, e461, hx461_0⟩ := Kd.at_string HR0_3.out (ji10) p461 q461; cases e461; replace hx461_0 := (HB.out.cell (World.block_lt_of_cell? w _ hx461_0)).trans hx461_0; replace p461 := eq_true p461; replace q461 := eq_true q461)))
  go_ret; exact ⟨by first | rfl | (simp [errW_none, errW_some] <;> rfl) | (simp only [← hji10]; first | rfl | (simp [errW_none, errW_some] <;> rfl)) | (simp [*, errW_none, errW_some] <;> rfl), zb HB.out⟩
theorem spec_l3Wholes.mono_l : ∀ k, (∀ y0 y1 y2 y3 y4 y5 y6 y7, LeO (spec_l3Wholes.f k y0 y1 y2 y3 y4 y5 y6 y7) (spec_l3Wholes.f (k + 1) y0 y1 y2 y3 y4 y5 y6 y7)) ∧ (∀ y0 y1 y2 y3 y4 y5 y6 y7, LeO (spec_l3Wholes.l0 k y0 y1 y2 y3 y4 y5 y6 y7) (spec_l3Wholes.l0 (k + 1) y0 y1 y2 y3 y4 y5 y6 y7)) ∧ (∀ y0 y1 y2 y3 y4 y5 y6 y7 y8, LeO (spec_l3Wholes.j1 k y0 y1 y2 y3 y4 y5 y6 y7 y8) (spec_l3Wholes.j1 (k + 1) y0 y1 y2 y3 y4 y5 y6 y7 y8))
  | 0 => ⟨fun _ _ _ _ _ _ _ _ r h => by simp [spec_l3Wholes.f] at h, fun _ _ _ _ _ _ _ _ r h => by simp [spec_l3Wholes.l0] at h, fun _ _ _ _ _ _ _ _ _ r h => by simp [spec_l3Wholes.j1] at h⟩
  | k + 1 => by
    obtain ⟨ih0, ih1, ih2⟩ := spec_l3Wholes.mono_l k
    refine ⟨?_, ?_, ?_⟩
    · intro y0 y1 y2 y3 y4 y5 y6 y7
      unfold spec_l3Wholes.f
      repeat' first | (with_reducible first | apply ih0 | apply ih1 | apply ih2 | apply spec_l3Kids.mono | apply spec_l3Whole.mono | exact LeO.refl _ | exact LeO.none _ | refine LeO.ite ?_ ?_ | refine LeO.bind ?_ (fun _ => ?_)) | exact LeO.none _ | refine LeO.ite ?_ ?_ | refine LeO.bind ?_ (fun _ => ?_)
    · intro y0 y1 y2 y3 y4 y5 y6 y7
      unfold spec_l3Wholes.l0
      repeat' first | (with_reducible first | apply ih0 | apply ih1 | apply ih2 | apply spec_l3Kids.mono | apply spec_l3Whole.mono | exact LeO.refl _ | exact LeO.none _ | refine LeO.ite ?_ ?_ | refine LeO.bind ?_ (fun _ => ?_)) | exact LeO.none _ | refine LeO.ite ?_ ?_ | refine LeO.bind ?_ (fun _ => ?_)
    · intro y0 y1 y2 y3 y4 y5 y6 y7 y8
      unfold spec_l3Wholes.j1
      repeat' first | (with_reducible first | apply ih0 | apply ih1 | apply ih2 | apply spec_l3Kids.mono | apply spec_l3Whole.mono | exact LeO.refl _ | exact LeO.none _ | refine LeO.ite ?_ ?_ | refine LeO.bind ?_ (fun _ => ?_)) | exact LeO.none _ | refine LeO.ite ?_ ?_ | refine LeO.bind ?_ (fun _ => ?_)
theorem spec_l3Wholes.mono : ∀ a0 a1 a2 a3 a4 a5 a6 a7 k, LeO (spec_l3Wholes.f k a0 a1 a2 a3 a4 a5 a6 a7) (spec_l3Wholes.f (k + 1) a0 a1 a2 a3 a4 a5 a6 a7) := by
  intro a0 a1 a2 a3 a4 a5 a6 a7 k
  obtain ⟨ih0, ih1, ih2⟩ := spec_l3Wholes.mono_l k
  exact ih0 a0 a1 a2 a3 a4 a5 a6 a7
theorem spec_l3Wholes.calls (k : Nat) : ∀ (a0_0 a0_1 a0_2 : ByteArray) (A0_3 : Option Addr) (c0_3 : Nat) (l0_3 : List ByteArray) (a0_4 a1 a2 : Int) (P3_ : Nat → Prop) (u9000_ : Value) (l3 r : List Bool) (w0 w : World) (hB : Below w0.heap.size w0 w) (hr0_3 : ∀ W_, Kept w W_ (fun k_ => P3_ k_) → Kd.C Kd.string W_ A0_3 l0_3.length l0_3) (hc0_3 : l0_3.length ≤ c0_3) (ho3 : Kd.R Kd.bool 4 w w0.heap.size P3_ u9000_ l3) (h : spec_l3Wholes.f k a0_0 a0_1 a0_2 l0_3 a0_4 a1 a2 l3 = some r),
    Calls Try.prog 84 #[.agg #[.string a0_0, .string a0_1, .string a0_2, .slice A0_3 l0_3.length c0_3, .int .i64 a0_4], .int .i64 a1, .int .i64 a2, u9000_] w fun e w' => ∃ v0_ : Value, e = .returned (v0_) ∧ Kd.R Kd.bool 4 w' w0.heap.size (fun k_ => (P3_ k_ ∨ w.heap.size ≤ k_)) v0_ r ∧ Below w0.heap.size w0 w' ∧ Kept w w' (fun k_ => P3_ k_) := by
 induction k using Nat.strongRecOn with
 | _ k ih =>
 intro a0_0 a0_1 a0_2 A0_3 c0_3 l0_3 a0_4 a1 a2 P3_ u9000_ l3 r w0 w hB hr0_3 hc0_3 ho3 h
 cases k with
 | zero => exact absurd h (by simp [spec_l3Wholes.f])
 | succ k =>
 simp only [spec_l3Wholes.f] at h; have hu25 := Try.underlying25; have HR0_3 := z0 hr0_3; have HC0_3 := z0 hc0_3; clear hr0_3 hc0_3; have HO3 := z0 (show Kd.R Kd.bool 4 w w0.heap.size (fun k_ => (P3_ k_ ∨ w.heap.size ≤ k_)) u9000_ l3 from Kd.R_mono ho3 (fun k_ hk => (.inl hk))); have HK := z0 (Kept.refl w (fun k_ => P3_ k_)); have HW0 := z0 hB.size; have HB := z0 hB; clear hB; have H : (spec_l3Wholes.l0 k a2 l3 a1 a0_0 a0_1 a0_2 l0_3 a0_4) = some r := h; clear h; have H' := z0 H; clear H; go_enter Try.func84, Try.ntmps84
 go_wp2_with (first | ((with_reducible refine gd 4 ?_); (try (refine gate_guard (by rfl) ?_; dsimp only)); refine zbx 25 #[.string a0_0, .string a0_1, .string a0_2, .slice A0_3 l0_3.length c0_3, .int .i64 a0_4] ?_; intro gb614 hg w5 hbox hb; replace HO3 := zA HO3 hb; have BK614 := z0 (hbox); have GW614 := z0 ((by rw [hg]; exact (by first | exact HK.out.1 | exact (show Kept w _ (fun k_ => P3_ k_) from zk HK.out).1) : w.heap.size ≤ gb614)); replace HK := z0 (Kept.below (zk HK.out) hb); have GE614 := zG hg HB; replace HB := zH HB hb; clear hb hbox hg))
 go_loopg [3, 9] k (fun kq v3 v9 w' => ∃ (x3_1 : List Bool) (x9_1 : Int), v9 = .int .i64 x9_1 ∧ Aside0 (spec_l3Wholes.l0 kq a2 x3_1 x9_1 a0_0 a0_1 a0_2 l0_3 a0_4 = some r) ∧ Aside0 (kq ≤ k) ∧ Aside0 (Kd.R Kd.bool 4 w' w0.heap.size (fun k_ => (P3_ k_ ∨ w.heap.size ≤ k_)) v3 x3_1) ∧ Aside0 (w'.heap[gb614]? = some (.cells #[.string a0_0, .string a0_1, .string a0_2, (.slice A0_3 l0_3.length c0_3), .int .i64 a0_4] 25 (0, 0))) ∧ Aside0 (Kept w w' (fun k_ => P3_ k_)) ∧ Aside0 (Below w0.heap.size w0 w'))
 case atStart => exact ⟨(l3), (a1), zf, H', ⟨Nat.le_refl _⟩, ⟨zr HO3.out⟩, ⟨zl BK614.out⟩, ⟨zk HK.out⟩, ⟨zb HB.out⟩⟩
 case round =>
  clear H'
  try clear p2
  obtain ⟨x3_1, x9_1, rfl, HA, HK1, HO_3, BK614, HK, HB⟩ := hrel
  cases gk with
  | zero => exact absurd HA.out (by simp [spec_l3Wholes.l0])
  | succ k1 =>
   have H := HA.out; clear HA; simp only [spec_l3Wholes.l0] at H; have HC6 := z0 H; clear H
   go_upto_region 2 with (fail)
   go_cut [22] (fun v22 wc => ∃ (kq : Nat) (x22_5 : Bool), v22 = .bool x22_5 ∧ Aside0 (spec_l3Wholes.j1 kq a2 x3_1 x9_1 x22_5 a0_0 a0_1 a0_2 l0_3 a0_4 = some r) ∧ Aside0 (kq ≤ k1) ∧ Aside0 (Kd.R Kd.bool 4 wc w0.heap.size (fun k_ => (P3_ k_ ∨ w.heap.size ≤ k_)) u3 x3_1) ∧ Aside0 (wc.heap[gb614]? = some (.cells #[.string a0_0, .string a0_1, .string a0_2, (.slice A0_3 l0_3.length c0_3), .int .i64 a0_4] 25 (0, 0))) ∧ Aside0 (Kept w wc (fun k_ => P3_ k_)) ∧ Aside0 (Below w0.heap.size w0 wc))
   case first =>
    have H := HC6.out; clear HC6
    by_cases c7 : x9_1 < a2
    ·rw [if_pos c7] at H; have c7b0 := decide_eq_true c7; clear c7; (first | rw [c7b0] | (simp only [i64_w, i32_w]; rw [c7b0]) | simp only [*, Bool.not_true, Bool.not_false] | skip); have H' := z0 H; clear H; have hcz8 := zc5 BK614.out; go_wp2; go_meet
     case rel => exact ⟨_, (decide (x9_1 < (a0_0.size : Int))), zf, H', ⟨by have := HK1.out; first | omega | exact Nat.le_refl _⟩, ⟨zr HO_3.out⟩, ⟨zl BK614.out⟩, ⟨zk HK.out⟩, ⟨zb HB.out⟩⟩
    ·rw [if_neg c7] at H; have c7b0 := decide_eq_false c7; clear c7; (first | rw [c7b0] | (simp only [i64_w, i32_w]; rw [c7b0]) | simp only [*, Bool.not_true, Bool.not_false] | skip); have H' := z0 H; clear H; go_wp2; go_meet
     case rel => exact ⟨_, (false), zf, H', ⟨by have := HK1.out; first | omega | exact Nat.le_refl _⟩, ⟨zr HO_3.out⟩, ⟨zl BK614.out⟩, ⟨zk HK.out⟩, ⟨zb HB.out⟩⟩
   case rest =>
    clear HC6
    try clear p2
    try clear c7
    try clear c7b0
    try clear c8
    try clear hcz8
    try clear p2
    obtain ⟨kq, x22_5, rfl, HA, HJ5, HO_3, BK614, HK, HB⟩ := hcut
    cases kq with
    | zero => exact absurd HA.out (by simp [spec_l3Wholes.j1])
    | succ kj5 =>
     have H := HA.out; clear HA; simp only [spec_l3Wholes.j1] at H
     by_cases c9 : x22_5 = true
     ·subst c9
      have H1 : (if 0 ≤ x9_1 then (if x9_1 < (a0_1.size : Int) then (if (bt a0_1 x9_1) = 49 then ((spec_l3Kids.f kj5 a0_0 a0_1 a0_2 l0_3 a0_4 x9_1).bind fun bt615 => ((spec_l3Wholes.f kj5 a0_0 a0_1 a0_2 l0_3 a0_4 bt615.1 bt615.2 x3_1).bind fun t617 => (spec_l3Wholes.l0 kj5 a2 t617 (wrap64 (x9_1 + 1)) a0_0 a0_1 a0_2 l0_3 a0_4))) else ((spec_l3Whole.f kj5 a0_0 a0_1 a0_2 l0_3 a0_4 x9_1).bind fun t620 => (if x3_1.length < 140737488355328 then (spec_l3Wholes.l0 kj5 a2 (x3_1 ++ [t620]) (wrap64 (x9_1 + 1)) a0_0 a0_1 a0_2 l0_3 a0_4) else (none)))) else (none)) else (none)) = some r := by rw [if_pos rfl] at H; exact H
      clear H; have H := H1; clear H1; replace H := zn H; obtain ⟨c10, H⟩ := H; have c10b0 := decide_eq_true c10; clear c10; replace H := zn H; obtain ⟨c11, H⟩ := H; have c11b0 := decide_eq_true c11; clear c11
      by_cases c13 : (bt a0_1 x9_1) = 49
      ·rw [if_pos c13] at H; have c13b0 : ((bt a0_1 x9_1) == 49) = true := beq_iff_eq.mpr c13; have c13b1 : ((bt a0_1 x9_1) != 49) = false := bne_eq_false_iff_eq.mpr c13; clear c13; replace H := zi H; obtain ⟨⟨t615, t616⟩, A14, H⟩ := H; (try dsimp only at H); replace H := zi H; obtain ⟨t617, A15, H⟩ := H; have H' := z0 H; clear H; have hcz16 := zc5 BK614.out; have p12 : 0 ≤ (x9_1 : Int) := zd; have q12 : x9_1 < (a0_1.size : Int) := zd; have hx12 := bt_at a0_1 x9_1; replace p12 := eq_true p12; replace q12 := eq_true q12
       go_wp2_with (first | ((with_reducible refine gc 108 ?_); refine zL (some 33) Try.func108 #[.agg #[.string a0_0, .string a0_1, .string a0_2, .slice A0_3 l0_3.length c0_3, .int .i64 a0_4], .int .i64 x9_1] ?_; (with_reducible refine (spec_l3Kids.calls kj5 a0_0 a0_1 a0_2 _ _ l0_3 a0_4 x9_1 t615 t616 _ (Kd.C_kept_now HR0_3.out (zk HK.out)) HC0_3.out A14.out).mono ?_); rintro e w17 ⟨rfl, hb⟩; refine zv ?_; replace HO_3 := zA HO_3 hb; replace BK614 := zK BK614 hb; replace HK := z0 (Kept.below (zk HK.out) hb); replace HB := zH HB hb; (try clear hb); have hcz18 := zc5 BK614.out; obtain ⟨Ao19, co19, eo19⟩ := Kd.R_slice HO_3.out; subst eo19) | ((with_reducible refine gc 84 ?_); refine zL (some 40) Try.func84 #[.agg #[.string a0_0, .string a0_1, .string a0_2, .slice A0_3 l0_3.length c0_3, .int .i64 a0_4], .int .i64 t615, .int .i64 t616, .slice Ao19 x3_1.length co19] ?_; (with_reducible refine (ih kj5 (by have := HK1.out; have := HJ5.out; omega) a0_0 a0_1 a0_2 _ _ l0_3 a0_4 t615 t616 (fun k_ => some k_ = (.slice Ao19 x3_1.length co19 : Value).ownBlock) (.slice Ao19 x3_1.length co19) x3_1 t617 w0 _ ?side1 ?side2 ?side3 ?side4 A15.out).mono ?_); (case side1 => repeat (first | (with_reducible first | exact HB.out | apply below_alloc | apply pw_below_drewN | apply below_drew1 | refine below_set ?_ GE614.out) | exact HB.out)); (case side2 => exact Kd.C_kept_call HR0_3.out (zk HK.out) (fun k_ hs_ => (fun e_ => (HO_3.out.1 k_ e_.symm)) hs_)); (case side3 => exact HC0_3.out); (case side4 => exact Kd.R_tight rfl HO_3.out); rintro e w20 ⟨v618, rfl, ho0, hb, hkp⟩; refine ⟨_, rfl, ?_⟩; replace BK614 := z0 (blk_kept (zl BK614.out) hkp (fun hs_ => (fun e_ => (Kd.R_ne HO_3.out BK614.out (by decide)) e_) hs_)); have HO619 := z0 (Kd.R_mono (ok' := fun k_ => (P3_ k_ ∨ w.heap.size ≤ k_)) ho0 (fun k_ hk_ => Or.elim hk_ (fun hs_ => (HO_3.out.1 k_ (hs_).symm)) (fun hn_ => (.inr (Nat.le_trans (by first | exact HK.out.1 | exact (show Kept w _ (fun k_ => P3_ k_) from zk HK.out).1) hn_))))); replace HK := z0 (Kept.then_ (S := (fun k_ => P3_ k_)) (zk HK.out) hkp (fun k_ hs_ => (fun e_ => (HO_3.out.1 k_ e_.symm)) hs_)); replace HB := z0 (hb); clear HO_3; (try clear hb); (try clear hkp); (try clear ho0)))
       go_roundg kj5
       case measure => have := HK1.out; have := HJ5.out; omega
       case rel => exact ⟨(t617), (wrap64 (x9_1 + 1)), zf, H', ⟨by have := HK1.out; have := HJ5.out; omega⟩, ⟨zr HO619.out⟩, ⟨zl BK614.out⟩, ⟨zk HK.out⟩, ⟨zb HB.out⟩⟩
      ·rw [if_neg c13] at H; have c13b0 : ((bt a0_1 x9_1) == 49) = false := beq_eq_false_iff_ne.mpr c13; have c13b1 : ((bt a0_1 x9_1) != 49) = true := bne_iff_ne.mpr c13; replace H := zi H; obtain ⟨t620, A21, H⟩ := H; replace H := zn H; obtain ⟨c22, H⟩ := H; have LMc22 := z0 c22; clear c22; obtain ⟨y621, hy621⟩ : ∃ y_ : List Bool, y_ = (x3_1 ++ [t620]) := ⟨_, rfl⟩; replace H : (spec_l3Wholes.l0 kj5 a2 y621 (wrap64 (x9_1 + 1)) a0_0 a0_1 a0_2 l0_3 a0_4) = some r := zH2 hy621 H; have Ny621 := z0 hy621; clear hy621; have H' := z0 H; clear H; have hcz23 := zc5 BK614.out; have p12 : 0 ≤ (x9_1 : Int) := zd; have q12 : x9_1 < (a0_1.size : Int) := zd; have hx12 := bt_at a0_1 x9_1; replace p12 := eq_true p12; replace q12 := eq_true q12
       go_wp2_with (first | ((with_reducible refine gc 71 ?_); refine zL (some 44) Try.func71 #[.agg #[.string a0_0, .string a0_1, .string a0_2, .slice A0_3 l0_3.length c0_3, .int .i64 a0_4], .int .i64 x9_1] ?_; (with_reducible refine (spec_l3Whole.calls kj5 a0_0 a0_1 a0_2 _ _ l0_3 a0_4 x9_1 t620 _ (Kd.C_kept_now HR0_3.out (zk HK.out)) HC0_3.out A21.out).mono ?_); rintro e w24 ⟨rfl, hb⟩; refine zv ?_; replace HO_3 := zA HO_3 hb; replace BK614 := zK BK614 hb; replace HK := z0 (Kept.below (zk HK.out) hb); replace HB := zH HB hb; (try clear hb)) | ((with_reducible refine gate_builtin (b := .append) (xs := #[.tmp 41, .tmp 45]) rfl ?_); (try (refine gate_guard (by rfl) ?_; dsimp only)); at_builtin; refine Kd.R_append Kd.bool (w0 := w0) w0.heap.size rfl (.tmp 41) (.tmp 45) 84 4 (.bool false) 1 rfl Try.underlying84 info4 rfl (by decide) (by omega) u3 x3_1 t620 [.bool t620] (fun k_ => (P3_ k_ ∨ w.heap.size ≤ k_)) (fun _ => False) rfl rfl ?aP (fun _ hk => hk.elim) ?aF ?aO ?aB ?aS ?aL ?_; (case aP => exact rfl); (case aB => exact (zb HB.out)); (case aF => exact (fun k_ hk => (.inr (Nat.le_trans (by first | exact HK.out.1 | exact (show Kept w _ (fun k_ => P3_ k_) from zk HK.out).1) hk)))); (case aO => exact (zr HO_3.out)); (case aS => exact (below_size (zb HB.out))); (case aL => have := LMc22.out; omega); intro v622 w25 ho hb hg hat; rw [← Ny621.out] at ho; replace BK614 := z0 (blk_grown (zl BK614.out) hg (Kd.R_ne HO_3.out BK614.out (by decide))); replace HB := z0 (hb); replace HK := z0 (Kept.of_grown (S := (fun k_ => P3_ k_)) hg (zk HK.out) (fun k_ e_ => (HO_3.out.1 k_ e_))); have HO623 := z0 (ho); clear HO_3; clear ho hb hg hat))
       go_roundg kj5
       case measure => have := HK1.out; have := HJ5.out; omega
       case rel => exact ⟨(y621), (wrap64 (x9_1 + 1)), zf, H', ⟨by have := HK1.out; have := HJ5.out; omega⟩, ⟨zr HO623.out⟩, ⟨zl BK614.out⟩, ⟨zk HK.out⟩, ⟨zb HB.out⟩⟩
     ·replace c9 := Bool.eq_false_iff.mpr c9; subst c9
      have H1 : (some x3_1) = some r := by rw [if_neg (show ¬ (false = true) by decide)] at H; exact H
      clear H; have H := H1; clear H1; obtain rfl := Option.some.inj H; go_wp2; go_ret; exact ⟨_, ze, zr HO_3.out, zb HB.out, zk HK.out⟩
theorem spec_SieveMeets.mono_l : ∀ k, (∀ y0 y1 y2 y3 y4 y5 y6 y7, LeO (spec_SieveMeets.j0 k y0 y1 y2 y3 y4 y5 y6 y7) (spec_SieveMeets.j0 (k + 1) y0 y1 y2 y3 y4 y5 y6 y7))
  | 0 => fun _ _ _ _ _ _ _ _ r h => by simp [spec_SieveMeets.j0] at h
  | k + 1 => by
    have ih0 := spec_SieveMeets.mono_l k
    · intro y0 y1 y2 y3 y4 y5 y6 y7
      unfold spec_SieveMeets.j0
      repeat' first | (with_reducible first | apply ih0 | apply spec_KeyOk.mono | apply spec_SieveOk.mono | apply spec_l1One.mono | apply spec_l3Behind.mono | apply spec_l3Heads.mono | apply spec_l3Wholes.mono | exact LeO.refl _ | exact LeO.none _ | refine LeO.ite ?_ ?_ | refine LeO.bind ?_ (fun _ => ?_)) | exact LeO.none _ | refine LeO.ite ?_ ?_ | refine LeO.bind ?_ (fun _ => ?_)
theorem spec_SieveMeets.mono : ∀ a0 a1 a2 a3 a4 a5 a6 k, LeO (spec_SieveMeets.f k a0 a1 a2 a3 a4 a5 a6) (spec_SieveMeets.f (k + 1) a0 a1 a2 a3 a4 a5 a6) := by
  intro a0 a1 a2 a3 a4 a5 a6 k
  have ih0 := spec_SieveMeets.mono_l k
  unfold spec_SieveMeets.f
  repeat' first | (with_reducible first | apply ih0 | apply spec_KeyOk.mono | apply spec_SieveOk.mono | apply spec_l1One.mono | apply spec_l3Behind.mono | apply spec_l3Heads.mono | apply spec_l3Wholes.mono | exact LeO.refl _ | exact LeO.none _ | refine LeO.ite ?_ ?_ | refine LeO.bind ?_ (fun _ => ?_)) | exact LeO.none _ | refine LeO.ite ?_ ?_ | refine LeO.bind ?_ (fun _ => ?_)
def spec_SieveMeets.T4 : Bool × List (List Nat × List Nat) := (true, [([], []), ([], []), ([], []), ([2], [2]), ([3], [3]), ([], []), ([1, 4, 5, 4], [1, 4, 5]), ([], []), ([0, 6, 7, 6], [0, 6, 7]), ([8, 8, 0, 1, 2, 3, 4, 5, 6, 7, 8], [8])])
def spec_SieveMeets.B4 : List Nat := [0, 0, 0, 4, 12, 0, 62, 0, 255, 511]
theorem spec_SieveMeets.tab4 : rtab .any (opsOf Try.f38 4) = spec_SieveMeets.T4 := by kernel_rfl
theorem spec_SieveMeets.bits4 : waitsOk spec_SieveMeets.T4.2 spec_SieveMeets.B4 = true := by kernel_rfl
theorem spec_SieveMeets.calls (k : Nat) (a0_0 a0_1 a0_2 : ByteArray) (A0_3 : Option Addr) (c0_3 : Nat) (l0_3 : List ByteArray) (a0_4 : Int) (a1 a2 : ByteArray) (r : Bool) (w : World) (hr0_3 : Kd.C Kd.string w A0_3 l0_3.length l0_3) (hc0_3 : l0_3.length ≤ c0_3) (h : spec_SieveMeets.f k a0_0 a0_1 a0_2 l0_3 a0_4 a1 a2 = some r) :
    Calls Try.prog 38 #[.agg #[.string a0_0, .string a0_1, .string a0_2, .slice A0_3 l0_3.length c0_3, .int .i64 a0_4], .string a1, .string a2] w fun e w' => e = .returned (.bool r) ∧ Below w.heap.size w w' := by
 have hu25 := Try.underlying25; have HR0_3 := z0 hr0_3; have HC0_3 := z0 hc0_3; clear hr0_3 hc0_3; have HB := z0 (Below.refl w.heap.size w); have H : ((spec_SieveOk.f k a0_0 a0_1 a0_2 l0_3 a0_4).bind fun t625 => (if t625 = true then ((spec_KeyOk.f k a1).bind fun t626 => (if t626 = true then ((spec_KeyOk.f k a2).bind fun t627 => (if t627 = true then (spec_SieveMeets.j0 k a1 a2 (Op.bytesLess a2.toList a1.toList) a0_0 a0_1 a0_2 l0_3 a0_4) else (spec_SieveMeets.j0 k a1 a2 true a0_0 a0_1 a0_2 l0_3 a0_4))) else (spec_SieveMeets.j0 k a1 a2 true a0_0 a0_1 a0_2 l0_3 a0_4))) else (spec_SieveMeets.j0 k a1 a2 true a0_0 a0_1 a0_2 l0_3 a0_4))) = some r := h; clear h; have HC4 := z0 H; clear H; go_enter Try.func38, Try.ntmps38
 go_upto_region 1 with (first | ((with_reducible refine gd 3 ?_); refine zbx 25 #[.string a0_0, .string a0_1, .string a0_2, .slice A0_3 l0_3.length c0_3, .int .i64 a0_4] ?_; intro gb624 hg w5 hbox hb; have BK624 := z0 (hbox); have GE624 := zG hg HB; replace HB := zH HB hb; clear hb hbox hg))
 (try simp only [Act.put, List.setIfInBounds_toArray, List.set_cons_zero, List.set_cons_succ])
 go_cut [26] (fun v26 wc => ∃ (kq : Nat) (x26_3 : Bool), v26 = .bool x26_3 ∧ Aside0 (spec_SieveMeets.j0 kq a1 a2 x26_3 a0_0 a0_1 a0_2 l0_3 a0_4 = some r) ∧ Aside0 (kq ≤ k) ∧ Aside0 (wc.heap[gb624]? = some (.cells #[.string a0_0, .string a0_1, .string a0_2, (.slice A0_3 l0_3.length c0_3), .int .i64 a0_4] 25 (0, 0))) ∧ Aside0 (Below w.heap.size w wc))
 case first =>
  have H := HC4.out; clear HC4; replace H := zi H; obtain ⟨t625, A6, H⟩ := H
  by_cases c7 : t625 = true
  ·subst c7
   have H1 : ((spec_KeyOk.f k a1).bind fun t626 => (if t626 = true then ((spec_KeyOk.f k a2).bind fun t627 => (if t627 = true then (spec_SieveMeets.j0 k a1 a2 (Op.bytesLess a2.toList a1.toList) a0_0 a0_1 a0_2 l0_3 a0_4) else (spec_SieveMeets.j0 k a1 a2 true a0_0 a0_1 a0_2 l0_3 a0_4))) else (spec_SieveMeets.j0 k a1 a2 true a0_0 a0_1 a0_2 l0_3 a0_4))) = some r := by rw [if_pos rfl] at H; exact H
   clear H; have H := H1; clear H1; replace H := zi H; obtain ⟨t626, A8, H⟩ := H
   by_cases c9 : t626 = true
   ·subst c9
    have H1 : ((spec_KeyOk.f k a2).bind fun t627 => (if t627 = true then (spec_SieveMeets.j0 k a1 a2 (Op.bytesLess a2.toList a1.toList) a0_0 a0_1 a0_2 l0_3 a0_4) else (spec_SieveMeets.j0 k a1 a2 true a0_0 a0_1 a0_2 l0_3 a0_4))) = some r := by rw [if_pos rfl] at H; exact H
    clear H; have H := H1; clear H1; replace H := zi H; obtain ⟨t627, A10, H⟩ := H
    by_cases c11 : t627 = true
    ·subst c11
     have H1 : (spec_SieveMeets.j0 k a1 a2 (Op.bytesLess a2.toList a1.toList) a0_0 a0_1 a0_2 l0_3 a0_4) = some r := by rw [if_pos rfl] at H; exact H
     clear H; have H := H1; clear H1; have H' := z0 H; clear H; have hcz12 := zc5 BK624.out
     go_wp2_with (first | ((with_reducible refine gc 46 ?_); refine zL (some 10) Try.func46 #[.agg #[.string a0_0, .string a0_1, .string a0_2, .slice A0_3 l0_3.length c0_3, .int .i64 a0_4]] ?_; (with_reducible refine (spec_SieveOk.calls k a0_0 a0_1 a0_2 _ _ l0_3 a0_4 true _ (zC (Kd.C_below HR0_3.out HB.out)) HC0_3.out A6.out).mono ?_); rintro e w13 ⟨rfl, hb⟩; refine zv ?_; replace BK624 := zK BK624 hb; replace HB := zH HB hb; (try clear hb)) | (go_at_call 31; (with_reducible refine (spec_KeyOk.calls k a1 true _ A8.out).mono ?_); rintro e w' ⟨rfl, ⟨nd, rfl⟩⟩) | (go_at_call 31; (with_reducible refine (spec_KeyOk.calls k a2 true _ A10.out).mono ?_); rintro e w' ⟨rfl, ⟨nd, rfl⟩⟩))
     go_meet
     case rel => exact ⟨_, ((Op.bytesLess a2.toList a1.toList)), zf, H', ⟨by first | omega | exact Nat.le_refl _⟩, ⟨zl BK624.out⟩, ⟨zb HB.out⟩⟩
    ·replace c11 := Bool.eq_false_iff.mpr c11; subst c11
     have H1 : (spec_SieveMeets.j0 k a1 a2 true a0_0 a0_1 a0_2 l0_3 a0_4) = some r := by rw [if_neg (show ¬ (false = true) by decide)] at H; exact H
     clear H; have H := H1; clear H1; have H' := z0 H; clear H; have hcz14 := zc5 BK624.out
     go_wp2_with (first | ((with_reducible refine gc 46 ?_); refine zL (some 10) Try.func46 #[.agg #[.string a0_0, .string a0_1, .string a0_2, .slice A0_3 l0_3.length c0_3, .int .i64 a0_4]] ?_; (with_reducible refine (spec_SieveOk.calls k a0_0 a0_1 a0_2 _ _ l0_3 a0_4 true _ (zC (Kd.C_below HR0_3.out HB.out)) HC0_3.out A6.out).mono ?_); rintro e w15 ⟨rfl, hb⟩; refine zv ?_; replace BK624 := zK BK624 hb; replace HB := zH HB hb; (try clear hb)) | (go_at_call 31; (with_reducible refine (spec_KeyOk.calls k a1 true _ A8.out).mono ?_); rintro e w' ⟨rfl, ⟨nd, rfl⟩⟩) | (go_at_call 31; (with_reducible refine (spec_KeyOk.calls k a2 false _ A10.out).mono ?_); rintro e w' ⟨rfl, ⟨nd, rfl⟩⟩))
     go_meet
     case rel => exact ⟨_, (true), zf, H', ⟨by first | omega | exact Nat.le_refl _⟩, ⟨zl BK624.out⟩, ⟨zb HB.out⟩⟩
   ·replace c9 := Bool.eq_false_iff.mpr c9; subst c9
    have H1 : (spec_SieveMeets.j0 k a1 a2 true a0_0 a0_1 a0_2 l0_3 a0_4) = some r := by rw [if_neg (show ¬ (false = true) by decide)] at H; exact H
    clear H; have H := H1; clear H1; have H' := z0 H; clear H; have hcz16 := zc5 BK624.out
    go_wp2_with (first | ((with_reducible refine gc 46 ?_); refine zL (some 10) Try.func46 #[.agg #[.string a0_0, .string a0_1, .string a0_2, .slice A0_3 l0_3.length c0_3, .int .i64 a0_4]] ?_; (with_reducible refine (spec_SieveOk.calls k a0_0 a0_1 a0_2 _ _ l0_3 a0_4 true _ (zC (Kd.C_below HR0_3.out HB.out)) HC0_3.out A6.out).mono ?_); rintro e w17 ⟨rfl, hb⟩; refine zv ?_; replace BK624 := zK BK624 hb; replace HB := zH HB hb; (try clear hb)) | (go_at_call 31; (with_reducible refine (spec_KeyOk.calls k a1 false _ A8.out).mono ?_); rintro e w' ⟨rfl, ⟨nd, rfl⟩⟩))
    go_meet
    case rel => exact ⟨_, (true), zf, H', ⟨by first | omega | exact Nat.le_refl _⟩, ⟨zl BK624.out⟩, ⟨zb HB.out⟩⟩
  ·replace c7 := Bool.eq_false_iff.mpr c7; subst c7
   have H1 : (spec_SieveMeets.j0 k a1 a2 true a0_0 a0_1 a0_2 l0_3 a0_4) = some r := by rw [if_neg (show ¬ (false = true) by decide)] at H; exact H
   clear H; have H := H1; clear H1; have H' := z0 H; clear H; have hcz18 := zc5 BK624.out
   go_wp2_with (first | ((with_reducible refine gc 46 ?_); refine zL (some 10) Try.func46 #[.agg #[.string a0_0, .string a0_1, .string a0_2, .slice A0_3 l0_3.length c0_3, .int .i64 a0_4]] ?_; (with_reducible refine (spec_SieveOk.calls k a0_0 a0_1 a0_2 _ _ l0_3 a0_4 false _ (zC (Kd.C_below HR0_3.out HB.out)) HC0_3.out A6.out).mono ?_); rintro e w19 ⟨rfl, hb⟩; refine zv ?_; replace BK624 := zK BK624 hb; replace HB := zH HB hb; (try clear hb)))
   go_meet
   case rel => exact ⟨_, (true), zf, H', ⟨by first | omega | exact Nat.le_refl _⟩, ⟨zl BK624.out⟩, ⟨zb HB.out⟩⟩
 case rest =>
  clear HC4
  try clear c1
  try clear p2
  try clear c3
  try clear c4
  try clear c7
  try clear c9
  try clear c11
  try clear hcz12
  try clear hcz14
  try clear hcz16
  try clear hcz18
  obtain ⟨kq, x26_3, rfl, HA, HJ3, BK624, HB⟩ := hcut
  cases kq with
  | zero => exact absurd HA.out (by simp [spec_SieveMeets.j0])
  | succ kj3 =>
   have H := HA.out; clear HA; simp only [spec_SieveMeets.j0] at H
   by_cases c20 : x26_3 = true
   ·subst c20
    have H1 : (some false) = some r := by rw [if_pos rfl] at H; exact H
    clear H; have H := H1; clear H1; obtain rfl := Option.some.inj H; go_wp2; go_ret; exact ⟨ze, zb HB.out⟩
   ·replace c20 := Bool.eq_false_iff.mpr c20; subst c20
    have H1 : ((spec_l3Heads.f kj3 a0_0 a0_1 a0_2 l0_3 a0_4).bind fun t628 => ((spec_l1One.f kj3 a0_2 1).bind fun t631 => ((spec_l3Wholes.f kj3 a0_0 a0_1 a0_2 l0_3 a0_4 0 t631 (([] : List Bool))).bind fun t635 => ((spec_l3Behind.f kj3 t628 t635 a1).bind fun t638 => (if t638 < (t628.length : Int) then (if 0 ≤ t638 then (some (!(Op.bytesLess a2.toList ((rdOf ByteArray.empty t628 t638).toList)))) else (none)) else (some false)))))) = some r := by rw [if_neg (show ¬ (false = true) by decide)] at H; exact H
    clear H; have H := H1; clear H1; replace H := zi H; obtain ⟨t628, A21, H⟩ := H; replace H := zi H; obtain ⟨t631, A22, H⟩ := H; obtain ⟨y632, hy632⟩ : ∃ y_ : List Bool, y_ = (([] : List Bool)) := ⟨_, rfl⟩; replace H : ((spec_l3Wholes.f kj3 a0_0 a0_1 a0_2 l0_3 a0_4 0 t631 y632).bind fun t635 => ((spec_l3Behind.f kj3 t628 t635 a1).bind fun t638 => (if t638 < (t628.length : Int) then (if 0 ≤ t638 then (some (!(Op.bytesLess a2.toList ((rdOf ByteArray.empty t628 t638).toList)))) else (none)) else (some false)))) = some r := zH2 hy632 H; have Ny632 := z0 hy632; clear hy632; replace H := zi H; obtain ⟨t635, A23, H⟩ := H; replace H := zi H; obtain ⟨t638, A24, H⟩ := H
    by_cases c25 : t638 < (t628.length : Int)
    ·rw [if_pos c25] at H; have c25b0 := decide_eq_true c25; clear c25; replace H := zn H; obtain ⟨c26, H⟩ := H; have c26b0 := decide_eq_true c26; clear c26; obtain rfl := Option.some.inj H; have hcz27 := zc5 BK624.out
     try go_wp2_with (first | ((with_reducible refine gc 82 ?_); refine zL (some 28) Try.func82 #[.agg #[.string a0_0, .string a0_1, .string a0_2, .slice A0_3 l0_3.length c0_3, .int .i64 a0_4]] ?_; (with_reducible refine (spec_l3Heads.calls kj3 a0_0 a0_1 a0_2 _ _ l0_3 a0_4 t628 _ (zC (Kd.C_below HR0_3.out HB.out)) HC0_3.out A21.out).mono ?_); rintro e w28 ⟨v629, rfl, ho0, hb⟩; refine zv ?_; have HO630 := z0 (Kd.R_lower ho0 (below_size (zb HB.out))); replace BK624 := zK BK624 hb; replace HB := zH HB hb; (try clear hb ho0); obtain ⟨Ao29, co29, eo29⟩ := Kd.R_slice HO630.out; subst eo29))
     replace HO630 := z0 (Kd.R_drew HO630.out); replace BK624 := z0 (blk_drew BK624.out); replace HB := z0 (below_drew1 HB.out); refine start_ (n := 10) (S := fun w' => w'.cell? ⟨gb624, 0, none⟩ = some (.string a0_0) ∧ w'.cell? ⟨gb624, 1, none⟩ = some (.string a0_1) ∧ w'.cell? ⟨gb624, 2, none⟩ = some (.string a0_2) ∧ w'.cell? ⟨gb624, 3, none⟩ = some (.slice A0_3 l0_3.length c0_3) ∧ w'.cell? ⟨gb624, 4, none⟩ = some (.int .i64 a0_4)) (ds := []) (fb 10 0) (by kernel_rfl) rfl rfl (zb5 BK624.out) (fun hHeld => ?_); refine with_tabW spec_SieveMeets.tab4 spec_SieveMeets.bits4 (fun HT_ HW_ => ?_); generalize w28.drew = w30 at HO630 BK624 HB hHeld ⊢; refine zu 0 1 ?_; refine zu 2 5 ?_; refine zu 7 133 ?_; refine zx 1 135 hHeld ?_; refine zx 3 143 hHeld ?_; refine join_ (σ := Value) 3 (fb 10 191) (fun s_ => [(33, .int .i64 t631), (34, s_)]) (fun s_ w' => (w'.cell? ⟨gb624, 0, none⟩ = some (.string a0_0) ∧ w'.cell? ⟨gb624, 1, none⟩ = some (.string a0_1) ∧ w'.cell? ⟨gb624, 2, none⟩ = some (.string a0_2) ∧ w'.cell? ⟨gb624, 3, none⟩ = some (.slice A0_3 l0_3.length c0_3) ∧ w'.cell? ⟨gb624, 4, none⟩ = some (.int .i64 a0_4)) ∧ (Kd.R Kd.string 9 w' w.heap.size (fun _ => True) (.slice Ao29 t628.length co29) t628) ∧ (Kd.R Kd.bool 4 w' w.heap.size (fun _ => True) s_ y632) ∧ (w'.heap[gb624]? = some (.cells #[.string a0_0, .string a0_1, .string a0_2, .slice A0_3 l0_3.length c0_3, .int .i64 a0_4] 25 (0, 0))) ∧ (Below w.heap.size w w')) ?_ ?_; rotate_left
     ·intro hCont; refine two_ (i := 4) (j := 5) (Ni := some 33) (Nj := some 34) (fb 10 159) (fb 10 175) rfl rfl rfl rfl (two_of HT_.out (by kernel_rfl)) (by decide) (by decide) (fun K hK => ?_) (fun K hK => ?_)
      ·skip
       refine zG2 Try.func85 #[.string a0_2, .int .i64 1] ?_
       with_reducible refine (spec_l1One.calls kj3 a0_2 1 t631 _ A22.out).mono ?_
       rintro e w' ⟨rfl, ⟨nd, rfl⟩⟩; refine ⟨_, rfl, ?_⟩; refine hK.out _ _ (zb5 BK624.out) (fun hHeld => ?_); clear hK K; refine znm ?_; refine zone 5 191 (fun K hK => ?_); refine Kd.R_lit_step Kd.bool _ 4 ?hg (N := 34) ?hd (xs := ([] : List Bool)) (inner := []) (ok := fun _ => True) (okp := fun _ => True) ?hr ?hp (fun _ hk => hk) trivial (Below.refl _ _) (Nat.le_refl _) (by simp) ?_; (case hd => rfl); (case hg => rfl); (case hr => first | (go_simp; done) | (go_simp; rfl)); (case hp => exact (Reps.none _ _)); intro v633 w31 ho32 hb hg_ hnew_; clear hg_ hnew_; (first | rw [← Ny632.out] at ho32 | (simp only [Int.reduceToNat] at ho32; rw [← Ny632.out] at ho32)); replace HO630 := zA HO630 hb; have HO634 := z0 (Kd.R_lower ho32 (below_size (zb HB.out))); replace BK624 := zK BK624 hb; replace HB := zH HB hb; clear hb ho32; refine hK.out _ _ (zb5 BK624.out) (fun hHeld => ?_); clear hK K; refine znm ?_; exact norm_ (by simp only [putAll, Act.put, List.setIfInBounds_toArray, List.set_cons_zero, List.set_cons_succ]) (hCont (v633) _ ⟨hHeld, (zr HO630.out), (zr HO634.out), (zl BK624.out), (zb HB.out)⟩)
      ·skip
       refine Kd.R_lit_step Kd.bool _ 4 ?hg (N := 34) ?hd (xs := ([] : List Bool)) (inner := []) (ok := fun _ => True) (okp := fun _ => True) ?hr ?hp (fun _ hk => hk) trivial (Below.refl _ _) (Nat.le_refl _) (by simp) ?_; (case hd => rfl); (case hg => rfl); (case hr => first | (go_simp; done) | (go_simp; rfl)); (case hp => exact (Reps.none _ _)); intro v633 w31 ho32 hb hg_ hnew_; clear hg_ hnew_; (first | rw [← Ny632.out] at ho32 | (simp only [Int.reduceToNat] at ho32; rw [← Ny632.out] at ho32)); replace HO630 := zA HO630 hb; have HO634 := z0 (Kd.R_lower ho32 (below_size (zb HB.out))); replace BK624 := zK BK624 hb; replace HB := zH HB hb; clear hb ho32; refine hK.out _ _ (zb5 BK624.out) (fun hHeld => ?_); clear hK K; refine znm ?_; refine zone 4 191 (fun K hK => ?_); refine zG2 Try.func85 #[.string a0_2, .int .i64 1] ?_
       with_reducible refine (spec_l1One.calls kj3 a0_2 1 t631 _ A22.out).mono ?_
       rintro e w' ⟨rfl, ⟨nd, rfl⟩⟩; refine ⟨_, rfl, ?_⟩; refine hK.out _ _ (zb5 BK624.out) (fun hHeld => ?_); clear hK K; refine znm ?_; exact norm_ (by simp only [putAll, Act.put, List.setIfInBounds_toArray, List.set_cons_zero, List.set_cons_succ]) (hCont (v633) _ ⟨hHeld, (zr HO630.out), (zr HO634.out), (zl BK624.out), (zb HB.out)⟩)
     rintro v633 w33 ⟨hS_, h0_, h1_, h2_, h3_⟩; have n0_ : Aside0 (Kd.R Kd.string 9 w33 w.heap.size (fun _ => True) (.slice Ao29 t628.length co29) t628) := ⟨h0_⟩; have n1_ : Aside0 (Kd.R Kd.bool 4 w33 w.heap.size (fun _ => True) v633 y632) := ⟨h1_⟩; have n2_ : Aside0 (w33.heap[gb624]? = some (.cells #[.string a0_0, .string a0_1, .string a0_2, .slice A0_3 l0_3.length c0_3, .int .i64 a0_4] 25 (0, 0))) := ⟨h2_⟩; have n3_ : Aside0 (Below w.heap.size w w33) := ⟨h3_⟩; clear HO630; clear BK624; clear HB; clear h0_ h1_ h2_ h3_; have HO630 := n0_; have HO634 := n1_; have BK624 := n2_; have HB := n3_; clear n0_ n1_ n2_ n3_; have hHeld : w33.cell? ⟨gb624, 0, none⟩ = some (.string a0_0) ∧ w33.cell? ⟨gb624, 1, none⟩ = some (.string a0_1) ∧ w33.cell? ⟨gb624, 2, none⟩ = some (.string a0_2) ∧ w33.cell? ⟨gb624, 3, none⟩ = some (.slice A0_3 l0_3.length c0_3) ∧ w33.cell? ⟨gb624, 4, none⟩ = some (.int .i64 a0_4) := hS_; obtain ⟨Ao34, co34, eo34⟩ := Kd.R_slice HO634.out; (first | subst eo34 | (injection eo34 with f1_ f2_ f3_; have f4_ := f1_.symm; have f5_ := f3_.symm; clear f1_ f2_ f3_; subst f4_; subst f5_)); refine norm_ (a' := ?_) ?_ ?_; rotate_left
     ·simp only [putAll, Act.put, List.setIfInBounds_toArray, List.set_cons_zero, List.set_cons_succ]
      rfl
     refine zone 6 255 (fun K hK => ?_); refine zG2 Try.func84 #[.agg #[.string a0_0, .string a0_1, .string a0_2, .slice A0_3 l0_3.length c0_3, .int .i64 a0_4], .int .i64 0, .int .i64 t631, .slice Ao34 y632.length co34] ?_
     with_reducible refine (spec_l3Wholes.calls kj3 a0_0 a0_1 a0_2 _ _ l0_3 a0_4 0 t631 (fun k_ => some k_ = (.slice Ao34 y632.length co34 : Value).ownBlock) (.slice Ao34 y632.length co34) y632 t635 w _ ?side1 ?side2 ?side3 ?side4 A23.out).mono ?_
     (case side1 => repeat (first | (with_reducible first | exact HB.out | apply below_alloc | apply pw_below_drewN | apply below_drew1 | refine below_set ?_ GE624.out) | exact HB.out)); (case side2 => exact Kd.C_kept_came Kd.heap_string HR0_3.out (zb HB.out) (fun k_ hs_ => (fun e_ => Kd.R_base HO634.out k_ e_.symm) hs_)); (case side3 => exact HC0_3.out); (case side4 => exact Kd.R_tight rfl HO634.out); rintro e w35 ⟨v636, rfl, ho0, hb, hkp⟩; refine ⟨_, rfl, ?_⟩; replace BK624 := z0 (blk_kept (zl BK624.out) hkp (fun hs_ => (fun e_ => (Kd.R_ne HO634.out BK624.out (by decide)) e_) hs_)); replace HO630 := z0 (Kd.R_mono (ok' := fun k_ => True) (Kd.R_keptB ((Kd.R_apart' HO630.out (Kd.R_typed HO634.out) (by decide))) hkp (fun k_ hk_ hs_ => (hk_.2) hs_)) (fun k_ hk_ => trivial)); have HO637 := z0 (Kd.R_mono (ok' := fun k_ => True) ho0 (fun k_ hk_ => trivial)); replace HB := z0 (hb); clear HO634; (try clear hb); (try clear hkp); (try clear ho0); obtain ⟨Ao36, co36, eo36⟩ := Kd.R_slice HO637.out; (first | subst eo36 | (injection eo36 with f1_ f2_ f3_; have f4_ := f1_.symm; have f5_ := f3_.symm; clear f1_ f2_ f3_; subst f4_; subst f5_)); refine hK.out _ _ (zb5 BK624.out) (fun hHeld => ?_); clear hK K; refine znm ?_; refine zone 8 511 (fun K hK => ?_); refine zG2 Try.func83 #[.slice Ao29 t628.length co29, .slice Ao36 t635.length co36, .string a1] ?_
     with_reducible refine (spec_l3Behind.calls kj3 _ _ t628 _ _ t635 a1 t638 _ ?side1 ?side2 ?side3 ?side4 A24.out).mono ?_
     (case side1 => repeat (first | exact (Kd.R_reads' HO630.out).2.2 | (with_reducible refine Kd.C_alloc ?_ _) | (with_reducible refine Kd.C_drewN ?_ _) | (with_reducible refine Kd.C_drew ?_))); (case side2 => exact (Kd.R_reads' HO630.out).2.1); (case side3 => repeat (first | exact (Kd.R_reads' HO637.out).2.2 | (with_reducible refine Kd.C_alloc ?_ _) | (with_reducible refine Kd.C_drewN ?_ _) | (with_reducible refine Kd.C_drew ?_))); (case side4 => exact (Kd.R_reads' HO637.out).2.1); rintro e w' ⟨rfl, ⟨nd, rfl⟩⟩; refine ⟨_, rfl, ?_⟩; refine hK.out _ _ (zb5 BK624.out) (fun hHeld => ?_); clear hK K; refine znm ?_; refine zu 9 1023 ?_; refine done_ (done_of HT_.out (by kernel_rfl)) ?_; have p639 : 0 ≤ (t638 : Int) := zd; have q639 : t638 < (t628.length : Int) := zd; obtain ⟨ad639, e639, hx639_0⟩ := Kd.at_string (Kd.R_reads' HO630.out).2.2 t638 p639 q639; cases e639; replace p639 := eq_true p639; replace q639 := eq_true q639
     try go_wp2
     go_ret; exact ⟨ze, zb HB.out⟩
    ·rw [if_neg c25] at H; have c25b0 := decide_eq_false c25; clear c25; obtain rfl := Option.some.inj H; have hcz37 := zc5 BK624.out
     try go_wp2_with (first | ((with_reducible refine gc 82 ?_); refine zL (some 28) Try.func82 #[.agg #[.string a0_0, .string a0_1, .string a0_2, .slice A0_3 l0_3.length c0_3, .int .i64 a0_4]] ?_; (with_reducible refine (spec_l3Heads.calls kj3 a0_0 a0_1 a0_2 _ _ l0_3 a0_4 t628 _ (zC (Kd.C_below HR0_3.out HB.out)) HC0_3.out A21.out).mono ?_); rintro e w38 ⟨v629, rfl, ho0, hb⟩; refine zv ?_; have HO630 := z0 (Kd.R_lower ho0 (below_size (zb HB.out))); replace BK624 := zK BK624 hb; replace HB := zH HB hb; (try clear hb ho0); obtain ⟨Ao39, co39, eo39⟩ := Kd.R_slice HO630.out; subst eo39))
     replace HO630 := z0 (Kd.R_drew HO630.out); replace BK624 := z0 (blk_drew BK624.out); replace HB := z0 (below_drew1 HB.out); refine start_ (n := 10) (S := fun w' => w'.cell? ⟨gb624, 0, none⟩ = some (.string a0_0) ∧ w'.cell? ⟨gb624, 1, none⟩ = some (.string a0_1) ∧ w'.cell? ⟨gb624, 2, none⟩ = some (.string a0_2) ∧ w'.cell? ⟨gb624, 3, none⟩ = some (.slice A0_3 l0_3.length c0_3) ∧ w'.cell? ⟨gb624, 4, none⟩ = some (.int .i64 a0_4)) (ds := []) (fb 10 0) (by kernel_rfl) rfl rfl (zb5 BK624.out) (fun hHeld => ?_); refine with_tabW spec_SieveMeets.tab4 spec_SieveMeets.bits4 (fun HT_ HW_ => ?_); generalize w38.drew = w40 at HO630 BK624 HB hHeld ⊢; refine zu 0 1 ?_; refine zu 2 5 ?_; refine zu 7 133 ?_; refine zx 1 135 hHeld ?_; refine zx 3 143 hHeld ?_; refine join_ (σ := Value) 3 (fb 10 191) (fun s_ => [(33, .int .i64 t631), (34, s_)]) (fun s_ w' => (w'.cell? ⟨gb624, 0, none⟩ = some (.string a0_0) ∧ w'.cell? ⟨gb624, 1, none⟩ = some (.string a0_1) ∧ w'.cell? ⟨gb624, 2, none⟩ = some (.string a0_2) ∧ w'.cell? ⟨gb624, 3, none⟩ = some (.slice A0_3 l0_3.length c0_3) ∧ w'.cell? ⟨gb624, 4, none⟩ = some (.int .i64 a0_4)) ∧ (Kd.R Kd.string 9 w' w.heap.size (fun _ => True) (.slice Ao39 t628.length co39) t628) ∧ (Kd.R Kd.bool 4 w' w.heap.size (fun _ => True) s_ y632) ∧ (w'.heap[gb624]? = some (.cells #[.string a0_0, .string a0_1, .string a0_2, .slice A0_3 l0_3.length c0_3, .int .i64 a0_4] 25 (0, 0))) ∧ (Below w.heap.size w w')) ?_ ?_; rotate_left
     ·intro hCont; refine two_ (i := 4) (j := 5) (Ni := some 33) (Nj := some 34) (fb 10 159) (fb 10 175) rfl rfl rfl rfl (two_of HT_.out (by kernel_rfl)) (by decide) (by decide) (fun K hK => ?_) (fun K hK => ?_)
      ·skip
       refine zG2 Try.func85 #[.string a0_2, .int .i64 1] ?_
       with_reducible refine (spec_l1One.calls kj3 a0_2 1 t631 _ A22.out).mono ?_
       rintro e w' ⟨rfl, ⟨nd, rfl⟩⟩; refine ⟨_, rfl, ?_⟩; refine hK.out _ _ (zb5 BK624.out) (fun hHeld => ?_); clear hK K; refine znm ?_; refine zone 5 191 (fun K hK => ?_); refine Kd.R_lit_step Kd.bool _ 4 ?hg (N := 34) ?hd (xs := ([] : List Bool)) (inner := []) (ok := fun _ => True) (okp := fun _ => True) ?hr ?hp (fun _ hk => hk) trivial (Below.refl _ _) (Nat.le_refl _) (by simp) ?_; (case hd => rfl); (case hg => rfl); (case hr => first | (go_simp; done) | (go_simp; rfl)); (case hp => exact (Reps.none _ _)); intro v633 w41 ho42 hb hg_ hnew_; clear hg_ hnew_; (first | rw [← Ny632.out] at ho42 | (simp only [Int.reduceToNat] at ho42; rw [← Ny632.out] at ho42)); replace HO630 := zA HO630 hb; have HO634 := z0 (Kd.R_lower ho42 (below_size (zb HB.out))); replace BK624 := zK BK624 hb; replace HB := zH HB hb; clear hb ho42; refine hK.out _ _ (zb5 BK624.out) (fun hHeld => ?_); clear hK K; refine znm ?_; exact norm_ (by simp only [putAll, Act.put, List.setIfInBounds_toArray, List.set_cons_zero, List.set_cons_succ]) (hCont (v633) _ ⟨hHeld, (zr HO630.out), (zr HO634.out), (zl BK624.out), (zb HB.out)⟩)
      ·skip
       refine Kd.R_lit_step Kd.bool _ 4 ?hg (N := 34) ?hd (xs := ([] : List Bool)) (inner := []) (ok := fun _ => True) (okp := fun _ => True) ?hr ?hp (fun _ hk => hk) trivial (Below.refl _ _) (Nat.le_refl _) (by simp) ?_; (case hd => rfl); (case hg => rfl); (case hr => first | (go_simp; done) | (go_simp; rfl)); (case hp => exact (Reps.none _ _)); intro v633 w41 ho42 hb hg_ hnew_; clear hg_ hnew_; (first | rw [← Ny632.out] at ho42 | (simp only [Int.reduceToNat] at ho42; rw [← Ny632.out] at ho42)); replace HO630 := zA HO630 hb; have HO634 := z0 (Kd.R_lower ho42 (below_size (zb HB.out))); replace BK624 := zK BK624 hb; replace HB := zH HB hb; clear hb ho42; refine hK.out _ _ (zb5 BK624.out) (fun hHeld => ?_); clear hK K; refine znm ?_; refine zone 4 191 (fun K hK => ?_); refine zG2 Try.func85 #[.string a0_2, .int .i64 1] ?_
       with_reducible refine (spec_l1One.calls kj3 a0_2 1 t631 _ A22.out).mono ?_
       rintro e w' ⟨rfl, ⟨nd, rfl⟩⟩; refine ⟨_, rfl, ?_⟩; refine hK.out _ _ (zb5 BK624.out) (fun hHeld => ?_); clear hK K; refine znm ?_; exact norm_ (by simp only [putAll, Act.put, List.setIfInBounds_toArray, List.set_cons_zero, List.set_cons_succ]) (hCont (v633) _ ⟨hHeld, (zr HO630.out), (zr HO634.out), (zl BK624.out), (zb HB.out)⟩)
     rintro v633 w43 ⟨hS_, h0_, h1_, h2_, h3_⟩; have n0_ : Aside0 (Kd.R Kd.string 9 w43 w.heap.size (fun _ => True) (.slice Ao39 t628.length co39) t628) := ⟨h0_⟩; have n1_ : Aside0 (Kd.R Kd.bool 4 w43 w.heap.size (fun _ => True) v633 y632) := ⟨h1_⟩; have n2_ : Aside0 (w43.heap[gb624]? = some (.cells #[.string a0_0, .string a0_1, .string a0_2, .slice A0_3 l0_3.length c0_3, .int .i64 a0_4] 25 (0, 0))) := ⟨h2_⟩; have n3_ : Aside0 (Below w.heap.size w w43) := ⟨h3_⟩; clear HO630; clear BK624; clear HB; clear h0_ h1_ h2_ h3_; have HO630 := n0_; have HO634 := n1_; have BK624 := n2_; have HB := n3_; clear n0_ n1_ n2_ n3_; have hHeld : w43.cell? ⟨gb624, 0, none⟩ = some (.string a0_0) ∧ w43.cell? ⟨gb624, 1, none⟩ = some (.string a0_1) ∧ w43.cell? ⟨gb624, 2, none⟩ = some (.string a0_2) ∧ w43.cell? ⟨gb624, 3, none⟩ = some (.slice A0_3 l0_3.length c0_3) ∧ w43.cell? ⟨gb624, 4, none⟩ = some (.int .i64 a0_4) := hS_; obtain ⟨Ao44, co44, eo44⟩ := Kd.R_slice HO634.out; (first | subst eo44 | (injection eo44 with f1_ f2_ f3_; have f4_ := f1_.symm; have f5_ := f3_.symm; clear f1_ f2_ f3_; subst f4_; subst f5_)); refine norm_ (a' := ?_) ?_ ?_; rotate_left
     ·simp only [putAll, Act.put, List.setIfInBounds_toArray, List.set_cons_zero, List.set_cons_succ]
      rfl
     refine zone 6 255 (fun K hK => ?_); refine zG2 Try.func84 #[.agg #[.string a0_0, .string a0_1, .string a0_2, .slice A0_3 l0_3.length c0_3, .int .i64 a0_4], .int .i64 0, .int .i64 t631, .slice Ao44 y632.length co44] ?_
     with_reducible refine (spec_l3Wholes.calls kj3 a0_0 a0_1 a0_2 _ _ l0_3 a0_4 0 t631 (fun k_ => some k_ = (.slice Ao44 y632.length co44 : Value).ownBlock) (.slice Ao44 y632.length co44) y632 t635 w _ ?side1 ?side2 ?side3 ?side4 A23.out).mono ?_
     (case side1 => repeat (first | (with_reducible first | exact HB.out | apply below_alloc | apply pw_below_drewN | apply below_drew1 | refine below_set ?_ GE624.out) | exact HB.out)); (case side2 => exact Kd.C_kept_came Kd.heap_string HR0_3.out (zb HB.out) (fun k_ hs_ => (fun e_ => Kd.R_base HO634.out k_ e_.symm) hs_)); (case side3 => exact HC0_3.out); (case side4 => exact Kd.R_tight rfl HO634.out); rintro e w45 ⟨v636, rfl, ho0, hb, hkp⟩; refine ⟨_, rfl, ?_⟩; replace BK624 := z0 (blk_kept (zl BK624.out) hkp (fun hs_ => (fun e_ => (Kd.R_ne HO634.out BK624.out (by decide)) e_) hs_)); replace HO630 := z0 (Kd.R_mono (ok' := fun k_ => True) (Kd.R_keptB ((Kd.R_apart' HO630.out (Kd.R_typed HO634.out) (by decide))) hkp (fun k_ hk_ hs_ => (hk_.2) hs_)) (fun k_ hk_ => trivial)); have HO637 := z0 (Kd.R_mono (ok' := fun k_ => True) ho0 (fun k_ hk_ => trivial)); replace HB := z0 (hb); clear HO634; (try clear hb); (try clear hkp); (try clear ho0); obtain ⟨Ao46, co46, eo46⟩ := Kd.R_slice HO637.out; (first | subst eo46 | (injection eo46 with f1_ f2_ f3_; have f4_ := f1_.symm; have f5_ := f3_.symm; clear f1_ f2_ f3_; subst f4_; subst f5_)); refine hK.out _ _ (zb5 BK624.out) (fun hHeld => ?_); clear hK K; refine znm ?_; refine zone 8 511 (fun K hK => ?_); refine zG2 Try.func83 #[.slice Ao39 t628.length co39, .slice Ao46 t635.length co46, .string a1] ?_
     with_reducible refine (spec_l3Behind.calls kj3 _ _ t628 _ _ t635 a1 t638 _ ?side1 ?side2 ?side3 ?side4 A24.out).mono ?_
     (case side1 => repeat (first | exact (Kd.R_reads' HO630.out).2.2 | (with_reducible refine Kd.C_alloc ?_ _) | (with_reducible refine Kd.C_drewN ?_ _) | (with_reducible refine Kd.C_drew ?_))); (case side2 => exact (Kd.R_reads' HO630.out).2.1); (case side3 => repeat (first | exact (Kd.R_reads' HO637.out).2.2 | (with_reducible refine Kd.C_alloc ?_ _) | (with_reducible refine Kd.C_drewN ?_ _) | (with_reducible refine Kd.C_drew ?_))); (case side4 => exact (Kd.R_reads' HO637.out).2.1); rintro e w' ⟨rfl, ⟨nd, rfl⟩⟩; refine ⟨_, rfl, ?_⟩; refine hK.out _ _ (zb5 BK624.out) (fun hHeld => ?_); clear hK K; refine znm ?_; refine zu 9 1023 ?_; refine done_ (done_of HT_.out (by kernel_rfl)) ?_
     try go_wp2
     go_ret; exact ⟨ze, zb HB.out⟩
theorem laws_FnSieveMeets.mono_l : ∀ k, (∀ y0 y1 y2, LeO (laws_FnSieveMeets.j0 k y0 y1 y2) (laws_FnSieveMeets.j0 (k + 1) y0 y1 y2)) ∧ (∀ y0 y1 y2 y3 y4 y5 y6 y7 y8 y9 y10 y11 y12 y13 y14 y15, LeO (laws_FnSieveMeets.j1 k y0 y1 y2 y3 y4 y5 y6 y7 y8 y9 y10 y11 y12 y13 y14 y15) (laws_FnSieveMeets.j1 (k + 1) y0 y1 y2 y3 y4 y5 y6 y7 y8 y9 y10 y11 y12 y13 y14 y15)) ∧ (∀ y0 y1 y2 y3 y4 y5 y6 y7 y8 y9, LeO (laws_FnSieveMeets.l0 k y0 y1 y2 y3 y4 y5 y6 y7 y8 y9) (laws_FnSieveMeets.l0 (k + 1) y0 y1 y2 y3 y4 y5 y6 y7 y8 y9))
  | 0 => ⟨fun _ _ _ r h => by simp [laws_FnSieveMeets.j0] at h, fun _ _ _ _ _ _ _ _ _ _ _ _ _ _ _ _ r h => by simp [laws_FnSieveMeets.j1] at h, fun _ _ _ _ _ _ _ _ _ _ r h => by simp [laws_FnSieveMeets.l0] at h⟩
  | k + 1 => by
    obtain ⟨ih0, ih1, ih2⟩ := laws_FnSieveMeets.mono_l k
    refine ⟨?_, ?_, ?_⟩
    · intro y0 y1 y2
      unfold laws_FnSieveMeets.j0
      repeat' first | (with_reducible first | apply ih0 | apply ih1 | apply ih2 | apply impl_SieveMeets.mono | apply impl_SieveOf.mono | apply laws_ltSieve.mono | apply spec_DrawSieveMeets.mono | apply spec_DrawSieveOf.mono | apply spec_SieveMeets.mono | apply spec_SieveOf.mono | exact LeO.refl _ | exact LeO.none _ | refine LeO.ite ?_ ?_ | refine LeO.bind ?_ (fun _ => ?_)) | exact LeO.none _ | refine LeO.ite ?_ ?_ | refine LeO.bind ?_ (fun _ => ?_)
    · intro y0 y1 y2 y3 y4 y5 y6 y7 y8 y9 y10 y11 y12 y13 y14 y15
      unfold laws_FnSieveMeets.j1
      repeat' first | (with_reducible first | apply ih0 | apply ih1 | apply ih2 | apply impl_SieveMeets.mono | apply impl_SieveOf.mono | apply laws_ltSieve.mono | apply spec_DrawSieveMeets.mono | apply spec_DrawSieveOf.mono | apply spec_SieveMeets.mono | apply spec_SieveOf.mono | exact LeO.refl _ | exact LeO.none _ | refine LeO.ite ?_ ?_ | refine LeO.bind ?_ (fun _ => ?_)) | exact LeO.none _ | refine LeO.ite ?_ ?_ | refine LeO.bind ?_ (fun _ => ?_)
    · intro y0 y1 y2 y3 y4 y5 y6 y7 y8 y9
      unfold laws_FnSieveMeets.l0
      repeat' first | (with_reducible first | apply ih0 | apply ih1 | apply ih2 | apply impl_SieveMeets.mono | apply impl_SieveOf.mono | apply laws_ltSieve.mono | apply spec_DrawSieveMeets.mono | apply spec_DrawSieveOf.mono | apply spec_SieveMeets.mono | apply spec_SieveOf.mono | exact LeO.refl _ | exact LeO.none _ | refine LeO.ite ?_ ?_ | refine LeO.bind ?_ (fun _ => ?_)) | exact LeO.none _ | refine LeO.ite ?_ ?_ | refine LeO.bind ?_ (fun _ => ?_)
theorem laws_FnSieveMeets.mono : ∀ a0 a1 k, LeO (laws_FnSieveMeets.f k a0 a1) (laws_FnSieveMeets.f (k + 1) a0 a1) := by
  intro a0 a1 k
  obtain ⟨ih0, ih1, ih2⟩ := laws_FnSieveMeets.mono_l k
  unfold laws_FnSieveMeets.f
  repeat' first | (with_reducible first | apply ih0 | apply ih1 | apply ih2 | apply impl_SieveMeets.mono | apply impl_SieveOf.mono | apply laws_ltSieve.mono | apply spec_DrawSieveMeets.mono | apply spec_DrawSieveOf.mono | apply spec_SieveMeets.mono | apply spec_SieveOf.mono | exact LeO.refl _ | exact LeO.none _ | refine LeO.ite ?_ ?_ | refine LeO.bind ?_ (fun _ => ?_)) | exact LeO.none _ | refine LeO.ite ?_ ?_ | refine LeO.bind ?_ (fun _ => ?_)
theorem laws_FnSieveMeets.calls (k : Nat) (A0 : Option Addr) (c0 : Nat) (l0 : List Int) (A1 : Option Addr) (c1 : Nat) (l1 : List Int) (r : Bool) (w : World) (hr0 : Kd.C (Kd.int .u8) w A0 l0.length l0) (hc0 : l0.length ≤ c0) (hr1 : Kd.C (Kd.int .u8) w A1 l1.length l1) (hc1 : l1.length ≤ c1) (h : laws_FnSieveMeets.f k l0 l1 = some r) :
    Calls Try.prog 4 #[.slice A0 l0.length c0, .slice A1 l1.length c1] w fun e w' => e = .returned (.bool r) ∧ Below w.heap.size w w' := by
 have hu25 := Try.underlying25; have HR0 := z0 hr0; have HC0 := z0 hc0; clear hr0 hc0; have HR1 := z0 hr1; have HC1 := z0 hc1; clear hr1 hc1; have HB := z0 (Below.refl w.heap.size w); have H : (if (l0.length : Int) > 1048576 then (laws_FnSieveMeets.j0 k l0 l1 true) else (laws_FnSieveMeets.j0 k l0 l1 (decide ((l1.length : Int) > 1048576)))) = some r := h; clear h; have HC3 := z0 H; clear H; go_enter Try.func4, Try.ntmps4
 go_upto_region 1 with (fail)
 go_cut [23] (fun v23 wc => ∃ (kq : Nat) (x23_2 : Bool), v23 = .bool x23_2 ∧ Aside0 (laws_FnSieveMeets.j0 kq l0 l1 x23_2 = some r) ∧ Aside0 (kq ≤ k) ∧ Aside0 (Below w.heap.size w wc))
 case first =>
  have H := HC3.out; clear HC3
  by_cases c4 : (l0.length : Int) > 1048576
  ·rw [if_pos c4] at H; have c4b0 : decide (1048576 < (l0.length : Int)) = true := decide_eq_true c4; have c4b1 : decide (1048576 < l0.length) = true := decide_eq_true (by omega); clear c4; (first | rw [c4b0] | (simp only [i64_w, i32_w]; rw [c4b0]) | simp only [*, Bool.not_true, Bool.not_false] | skip); have H' := z0 H; clear H; go_wp2; go_meet
   case rel => exact ⟨_, (true), zf, H', ⟨by first | omega | exact Nat.le_refl _⟩, ⟨zb HB.out⟩⟩
  ·rw [if_neg c4] at H; have c4b0 : decide (1048576 < (l0.length : Int)) = false := decide_eq_false c4; have c4b1 : decide (1048576 < l0.length) = false := decide_eq_false (by omega); clear c4; (first | rw [c4b0] | (simp only [i64_w, i32_w]; rw [c4b0]) | simp only [*, Bool.not_true, Bool.not_false] | skip); have H' := z0 H; clear H; go_wp2; go_meet
   case rel => exact ⟨_, (decide ((l1.length : Int) > 1048576)), zf, H', ⟨by first | omega | exact Nat.le_refl _⟩, ⟨zb HB.out⟩⟩
 case rest =>
  clear HC3
  try clear c1
  try clear p2
  try clear c4
  try clear c4b0
  try clear c4b1
  obtain ⟨kq, x23_2, rfl, HA, HJ2, HB⟩ := hcut
  cases kq with
  | zero => exact absurd HA.out (by simp [laws_FnSieveMeets.j0])
  | succ kj2 =>
   have H := HA.out; clear HA; simp only [laws_FnSieveMeets.j0] at H
   by_cases c5 : x23_2 = true
   ·subst c5
    have H1 : (some true) = some r := by rw [if_pos rfl] at H; exact H
    clear H; have H := H1; clear H1; obtain rfl := Option.some.inj H; go_wp2; go_ret; exact ⟨ze, zb HB.out⟩
   ·replace c5 := Bool.eq_false_iff.mpr c5; subst c5
    have H1 : ((spec_DrawSieveOf.f kj2 l0).bind fun bt640 => ((spec_DrawSieveMeets.f kj2 l1).bind fun bt644 => ((spec_SieveOf.f kj2 bt640.1 bt640.2).bind fun bt654 => ((impl_SieveOf.f kj2 bt640.1 bt640.2).bind fun bt663 => (if (bt663.2.2.2.2.2 != bt654.2.2.2.2.2) = true then (laws_FnSieveMeets.j1 kj2 bt640.1 bt644.2.2.2.2.2.1 bt644.2.2.2.2.2.2 bt654.2.2.2.2.2 bt663.2.2.2.2.2 true bt654.1 bt654.2.1 bt654.2.2.1 bt654.2.2.2.1 bt654.2.2.2.2.1 bt663.1 bt663.2.1 bt663.2.2.1 bt663.2.2.2.1 bt663.2.2.2.2.1) else ((laws_ltSieve.f kj2 bt663.1 bt663.2.1 bt663.2.2.1 bt663.2.2.2.1 bt663.2.2.2.2.1 bt654.1 bt654.2.1 bt654.2.2.1 bt654.2.2.2.1 bt654.2.2.2.2.1).bind fun t672 => (if t672 = true then (laws_FnSieveMeets.j1 kj2 bt640.1 bt644.2.2.2.2.2.1 bt644.2.2.2.2.2.2 bt654.2.2.2.2.2 bt663.2.2.2.2.2 (!bt663.2.2.2.2.2) bt654.1 bt654.2.1 bt654.2.2.1 bt654.2.2.2.1 bt654.2.2.2.2.1 bt663.1 bt663.2.1 bt663.2.2.1 bt663.2.2.2.1 bt663.2.2.2.2.1) else (laws_FnSieveMeets.j1 kj2 bt640.1 bt644.2.2.2.2.2.1 bt644.2.2.2.2.2.2 bt654.2.2.2.2.2 bt663.2.2.2.2.2 true bt654.1 bt654.2.1 bt654.2.2.1 bt654.2.2.2.1 bt654.2.2.2.2.1 bt663.1 bt663.2.1 bt663.2.2.1 bt663.2.2.2.1 bt663.2.2.2.2.1)))))))) = some r := by rw [if_neg (show ¬ (false = true) by decide)] at H; exact H
    clear H; have H := H1; clear H1; replace H := zi H; obtain ⟨⟨t640, t641⟩, A6, H⟩ := H; (try dsimp only at H); replace H := zi H; obtain ⟨⟨t644, t645, t646, t647, t650, t651, t652⟩, A7, H⟩ := H; (try dsimp only at H); replace H := zi H; obtain ⟨⟨t654, t655, t656, t657, t660, t661⟩, A8, H⟩ := H; (try dsimp only at H); replace H := zi H; obtain ⟨⟨t663, t664, t665, t666, t669, t670⟩, A9, H⟩ := H; (try dsimp only at H); have HC10 := z0 H; clear H
    go_upto_region 7 with (first | ((with_reducible refine gc 34 ?_); refine zL (some 26) Try.func34 #[.slice A0 l0.length c0] ?_; (with_reducible refine (spec_DrawSieveOf.calls kj2 _ _ l0 t640 t641 _ (zC (Kd.C_below HR0.out HB.out)) HC0.out A6.out).mono ?_); rintro e w11 ⟨v642, rfl, ho0, hb⟩; refine zv ?_; have HO643 := z0 (Kd.R_lower ho0 (below_size (zb HB.out))); replace HB := zH HB hb; (try clear hb ho0)) | ((with_reducible refine gc 35 ?_); refine zL (some 31) Try.func35 #[.slice A1 l1.length c1] ?_; (with_reducible refine (spec_DrawSieveMeets.calls kj2 _ _ l1 t644 t645 t646 t647 t650 t651 t652 _ (zC (Kd.C_below HR1.out HB.out)) HC1.out A7.out).mono ?_); rintro e w12 ⟨v648, rfl, ho0, hb⟩; refine zv ?_; have HO649 := z0 (Kd.R_lower (Kd.R_new' ho0 (Kd.R_lt (zr HO643.out))) (below_size (zb HB.out))); replace HO643 := z0 (Kd.R_elder' (zr HO643.out) (Kd.R_base ho0) hb); replace HB := zH HB hb; (try clear hb ho0)) | ((with_reducible refine gd 7 ?_); (try (refine gate_guard (by rfl) ?_; dsimp only)); refine zbx 25 #[.string ⟨#[]⟩, .string ⟨#[]⟩, .string ⟨#[]⟩, .slice none 0 0, .int .i64 0] ?_; intro gb653 hg w13 hbox hb; replace HO643 := zA HO643 hb; replace HO649 := zA HO649 hb; have BK653 := z0 (hbox); have GE653 := zG hg HB; replace HB := zH HB hb; clear hb hbox hg; have hcz14 := zc5 BK653.out; obtain ⟨Ao15, co15, eo15⟩ := Kd.R_slice HO649.out; subst eo15) | ((with_reducible refine gs 25 7 ?_); refine store_event (t := 25) (p := 7) (v := ?vo_w16) (w1 := (((((w13.setCell ⟨gb653, 0, none⟩ (.string t644)).setCell ⟨gb653, 1, none⟩ (.string t645)).setCell ⟨gb653, 2, none⟩ (.string t646)).setCell ⟨gb653, 3, none⟩ (.slice Ao15 t647.length co15)).setCell ⟨gb653, 4, none⟩ (.int .i64 t650))) ?hg ?ho ?hn ?hr ?_; (case ho => rfl); (case hg => rfl); (case hn => rfl); (case hr => first | (go_simp; done) | (go_simp; rfl)); intro w16 hw; replace HO643 : Aside0 (Kd.R Kd.string 9 w16 w.heap.size (fun k_ => some k_ ≠ (.slice Ao15 t647.length co15 : Value).ownBlock) v642 t640) := ⟨(by rw [hw]; exact (Kd.R_mono (zt HO643.out BK653.out) (fun _ hk => hk.1.2)))⟩; replace HO649 : Aside0 (Kd.R Kd.string 9 w16 w.heap.size (fun k_ => some k_ ≠ (v642 : Value).ownBlock) (.slice Ao15 t647.length co15) t647) := ⟨(by rw [hw]; exact (Kd.R_mono (zt HO649.out BK653.out) (fun _ hk => hk.1.2)))⟩; replace BK653 : Aside0 (w16.heap[gb653]? = some (.cells #[.string t644, .string t645, .string t646, .slice Ao15 t647.length co15, .int .i64 t650] 25 (0, 0))) := ⟨(by rw [hw]; exact (zp BK653.out))⟩; replace HB : Aside0 (Below w.heap.size w w16) := ⟨(by rw [hw]; exact (zb HB.out))⟩; clear hw; obtain ⟨Ao17, co17, eo17⟩ := Kd.R_slice HO643.out; subst eo17) | ((with_reducible refine gc 36 ?_); refine zL (some 38) Try.func36 #[.slice Ao17 t640.length co17, .int .i64 t641] ?_; (with_reducible refine (spec_SieveOf.calls kj2 (fun k_ => some k_ = (.slice Ao17 t640.length co17 : Value).ownBlock) _ _ t640 t641 t654 t655 t656 t657 t660 t661 _ (Kd.R_V (Kd.R_tight rfl (Kd.R_types (HO643.out) BK653.out (by decide)))) A8.out).mono ?_); rintro e w18 ⟨v658, rfl, ho0, hb⟩; refine zv ?_; have HO659 := z0 (Kd.R_lower (Kd.R_new' (Kd.R_new' (Kd.R_mono (ok' := fun k_ => True) ho0 (fun _ hk_ => trivial)) (Kd.R_lt (zr HO643.out))) (Kd.R_lt (zr HO649.out))) (below_size (zb HB.out))); replace HO643 := z0 (Kd.R_elder' (zr HO643.out) (Kd.R_base ho0) hb); replace HO649 := z0 (Kd.R_elder' (zr HO649.out) (Kd.R_base ho0) hb); replace BK653 := zK BK653 hb; replace HB := zH HB hb; (try clear hb ho0)) | ((with_reducible refine gd 10 ?_); (try (refine gate_guard (by rfl) ?_; dsimp only)); refine zbx 25 #[.string ⟨#[]⟩, .string ⟨#[]⟩, .string ⟨#[]⟩, .slice none 0 0, .int .i64 0] ?_; intro gb662 hg w19 hbox hb; replace HO643 := zA HO643 hb; replace HO649 := zA HO649 hb; replace HO659 := zA HO659 hb; have BK662 := z0 (hbox); have GE662 := zG hg HB; replace HB := zH HB hb; have NB653_662 := zLt hg BK653; have NB662_653 := zGt hg BK653; replace BK653 := zK BK653 hb; clear hb hbox hg; have hnb20 := NB662_653.out; have hnc20 := NB653_662.out; have hcz21 := zc5 BK662.out; obtain ⟨Ao22, co22, eo22⟩ := Kd.R_slice HO659.out; subst eo22) | ((with_reducible refine gc 30 ?_); refine zL (some 44) Try.func30 #[.slice Ao17 t640.length co17, .int .i64 t641] ?_; (with_reducible refine (impl_SieveOf.calls kj2 _ _ t640 t641 t663 t664 t665 t666 t669 t670 _ ?side1 ((Kd.R_reads' HO643.out).2.1) A9.out).mono ?_); (case side1 => refine (Kd.R_reads' (e := 9) (base := w.heap.size) (ok := fun k_ => (some k_ ≠ (.slice Ao15 t647.length co15 : Value).ownBlock ∧ some k_ ≠ (.slice Ao22 t657.length co22 : Value).ownBlock)) (n := t640.length) (c := co17) ?_).2.2; exact (zs HO643.out BK662.out)); rintro e w23 ⟨v667, rfl, ho0, hb⟩; refine zv ?_; have HO668 := z0 (Kd.R_lower (Kd.R_new' (Kd.R_new' (Kd.R_new' ho0 (Kd.R_lt (zs HO643.out BK662.out))) (Kd.R_lt (zs HO649.out BK662.out))) (Kd.R_lt (zs HO659.out BK662.out))) (below_size (zb HB.out))); replace HO643 := z0 (Kd.R_elder' (zs HO643.out BK662.out) (Kd.R_base ho0) hb); replace HO649 := z0 (Kd.R_elder' (zs HO649.out BK662.out) (Kd.R_base ho0) hb); replace HO659 := z0 (Kd.R_elder' (zs HO659.out BK662.out) (Kd.R_base ho0) hb); replace BK653 := zKy BK653 hb; replace BK662 := z0 (blk_below (zpc BK662.out #[.string t654, .string t655, .string t656, .slice Ao22 t657.length co22, .int .i64 t660]) hb); replace HB := zH HB hb; (try clear hb ho0)) | ((with_reducible refine gd 12 ?_); (try (refine gate_guard (by rfl) ?_; dsimp only)); refine zbx 25 #[.string ⟨#[]⟩, .string ⟨#[]⟩, .string ⟨#[]⟩, .slice none 0 0, .int .i64 0] ?_; intro gb671 hg w24 hbox hb; replace HO643 := zA HO643 hb; replace HO649 := zA HO649 hb; replace HO659 := zA HO659 hb; replace HO668 := zA HO668 hb; have BK671 := z0 (hbox); have GE671 := zG hg HB; replace HB := zH HB hb; have NB653_671 := zLt hg BK653; have NB671_653 := zGt hg BK653; replace BK653 := zK BK653 hb; have NB662_671 := zLt hg BK662; have NB671_662 := zGt hg BK662; replace BK662 := zK BK662 hb; clear hb hbox hg; have hnb25 := NB671_653.out; have hnc25 := NB653_671.out; have hnb26 := NB671_662.out; have hnc26 := NB662_671.out; have hcz27 := zc5 BK671.out; obtain ⟨Ao28, co28, eo28⟩ := Kd.R_slice HO668.out; subst eo28))
    (try simp only [Act.put, List.setIfInBounds_toArray, List.set_cons_zero, List.set_cons_succ])
    go_cut [59] (fun v59 wc => ∃ (kq : Nat) (x59_9 : Bool), v59 = .bool x59_9 ∧ Aside0 (laws_FnSieveMeets.j1 kq t640 t651 t652 t661 t670 x59_9 t654 t655 t656 t657 t660 t663 t664 t665 t666 t669 = some r) ∧ Aside0 (kq ≤ kj2) ∧ Aside0 (Kd.R Kd.string 9 wc w.heap.size (fun k_ => some k_ ≠ ((.slice Ao15 t647.length co15) : Value).ownBlock ∧ some k_ ≠ ((.slice Ao22 t657.length co22) : Value).ownBlock ∧ some k_ ≠ ((.slice Ao28 t666.length co28) : Value).ownBlock) (.slice Ao17 t640.length co17) t640) ∧ Aside0 (Kd.R Kd.string 9 wc w.heap.size (fun k_ => some k_ ≠ ((.slice Ao17 t640.length co17) : Value).ownBlock ∧ some k_ ≠ ((.slice Ao22 t657.length co22) : Value).ownBlock ∧ some k_ ≠ ((.slice Ao28 t666.length co28) : Value).ownBlock) (.slice Ao15 t647.length co15) t647) ∧ Aside0 (Kd.R Kd.string 9 wc w.heap.size (fun k_ => some k_ ≠ ((.slice Ao17 t640.length co17) : Value).ownBlock ∧ some k_ ≠ ((.slice Ao15 t647.length co15) : Value).ownBlock ∧ some k_ ≠ ((.slice Ao28 t666.length co28) : Value).ownBlock) (.slice Ao22 t657.length co22) t657) ∧ Aside0 (Kd.R Kd.string 9 wc w.heap.size (fun k_ => some k_ ≠ ((.slice Ao17 t640.length co17) : Value).ownBlock ∧ some k_ ≠ ((.slice Ao15 t647.length co15) : Value).ownBlock ∧ some k_ ≠ ((.slice Ao22 t657.length co22) : Value).ownBlock) (.slice Ao28 t666.length co28) t666) ∧ Aside0 (wc.heap[gb653]? = some (.cells #[.string t644, .string t645, .string t646, (.slice Ao15 t647.length co15), .int .i64 t650] 25 (0, 0))) ∧ Aside0 (wc.heap[gb662]? = some (.cells #[.string t654, .string t655, .string t656, (.slice Ao22 t657.length co22), .int .i64 t660] 25 (0, 0))) ∧ Aside0 (wc.heap[gb671]? = some (.cells #[.string t663, .string t664, .string t665, (.slice Ao28 t666.length co28), .int .i64 t669] 25 (0, 0))) ∧ Aside0 (Below w.heap.size w wc))
    case first =>
     have H := HC10.out; clear HC10
     by_cases c29 : (t670 != t661) = true
     ·rw [if_pos c29] at H; have c29b0 : (t670 != t661) = true := c29; (try (have c29b1 : decide (t670 = t661) = false := by simpa using c29)); (try (have c29b2 : (t670 == t661) = false := by simpa using c29)); (try (have c29b3 : ¬ (t670 = t661) := by simpa using c29)); clear c29; (first | rw [c29b0] | (simp only [i64_w, i32_w]; rw [c29b0]) | simp only [*, Bool.not_true, Bool.not_false] | skip); have H' := z0 H; clear H; go_wp2; go_meet
      case rel => exact ⟨_, (true), zf, H', ⟨by have := HJ2.out; first | omega | exact Nat.le_refl _⟩, ⟨Kd.R_mono (zt HO643.out BK671.out) (fun _ hk => ⟨hk.1.1.1, ⟨hk.1.1.2, hk.1.2⟩⟩)⟩, ⟨Kd.R_mono (zt HO649.out BK671.out) (fun _ hk => ⟨hk.1.1.1, ⟨hk.1.1.2, hk.1.2⟩⟩)⟩, ⟨Kd.R_mono (zt HO659.out BK671.out) (fun _ hk => ⟨hk.1.1.1.2, ⟨hk.1.1.2, hk.1.2⟩⟩)⟩, ⟨Kd.R_mono (zt HO668.out BK671.out) (fun _ hk => ⟨hk.1.1.1.2, ⟨hk.1.1.2, hk.1.2⟩⟩)⟩, ⟨zy BK653.out⟩, ⟨zy BK662.out⟩, ⟨zp BK671.out⟩, ⟨zb HB.out⟩⟩
     ·rw [if_neg c29] at H
      have c29b0 : (t670 != t661) = false := by simpa using c29
      (try (have c29b1 : decide (t670 = t661) = true := by simpa using c29)); (try (have c29b2 : (t670 == t661) = true := by simpa using c29)); clear c29; (first | rw [c29b0] | (simp only [i64_w, i32_w]; rw [c29b0]) | simp only [*, Bool.not_true, Bool.not_false] | skip); replace H := zi H; obtain ⟨t672, A30, H⟩ := H
      by_cases c31 : t672 = true
      ·subst c31
       have H1 : (laws_FnSieveMeets.j1 kj2 t640 t651 t652 t661 t670 (!t670) t654 t655 t656 t657 t660 t663 t664 t665 t666 t669) = some r := by rw [if_pos rfl] at H; exact H
       clear H; have H := H1; clear H1; have H' := z0 H; clear H; have hnb32 := NB671_653.out; have hnc32 := NB653_671.out; have hnb33 := NB671_662.out; have hnc33 := NB662_671.out; have hcz34 := zc5 BK671.out; have hnb35 := NB662_653.out; have hnc35 := NB653_662.out; have hcz36 := zc5 BK662.out
       go_wp2_with (first | (go_at_call 37; (with_reducible refine (laws_ltSieve.calls kj2 t663 t664 t665 _ _ t666 t669 t654 t655 t656 _ _ t657 t660 true _ ?side1 ?side2 ?side3 ?side4 A30.out).mono ?_); (case side1 => refine (Kd.R_reads' (e := 9) (base := w.heap.size) (ok := fun k_ => (((True ∧ some k_ ≠ (.slice Ao17 t640.length co17 : Value).ownBlock) ∧ some k_ ≠ (.slice Ao15 t647.length co15 : Value).ownBlock) ∧ some k_ ≠ (.slice Ao22 t657.length co22 : Value).ownBlock)) (n := t666.length) (c := co28) ?_).2.2; exact (zs HO668.out BK671.out)); (case side2 => exact (Kd.R_reads' HO668.out).2.1); (case side3 => refine (Kd.R_reads' (e := 9) (base := w.heap.size) (ok := fun k_ => (((True ∧ some k_ ≠ (.slice Ao17 t640.length co17 : Value).ownBlock) ∧ some k_ ≠ (.slice Ao15 t647.length co15 : Value).ownBlock) ∧ some k_ ≠ (.slice Ao28 t666.length co28 : Value).ownBlock)) (n := t657.length) (c := co22) ?_).2.2; exact (zs HO659.out BK671.out)); (case side4 => exact (Kd.R_reads' HO659.out).2.1); rintro e w37 ⟨rfl, hb⟩; replace HO643 := zAs HO643 BK671 hb; replace HO649 := zAs HO649 BK671 hb; replace HO659 := zAs HO659 BK671 hb; replace HO668 := zAs HO668 BK671 hb; replace BK653 := zKy BK653 hb; replace BK662 := zKy BK662 hb; replace BK671 := z0 (blk_below (zpc BK671.out #[.string t663, .string t664, .string t665, .slice Ao28 t666.length co28, .int .i64 t669]) hb); replace HB := zH HB hb; (try clear hb)))
       go_meet
       case rel => exact ⟨_, (!t670), zf, H', ⟨by have := HJ2.out; first | omega | exact Nat.le_refl _⟩, ⟨Kd.R_mono (zr HO643.out) (fun _ hk => ⟨hk.1.1, ⟨hk.1.2, hk.2⟩⟩)⟩, ⟨Kd.R_mono (zr HO649.out) (fun _ hk => ⟨hk.1.1, ⟨hk.1.2, hk.2⟩⟩)⟩, ⟨Kd.R_mono (zr HO659.out) (fun _ hk => ⟨hk.1.1.2, ⟨hk.1.2, hk.2⟩⟩)⟩, ⟨Kd.R_mono (zr HO668.out) (fun _ hk => ⟨hk.1.1.2, ⟨hk.1.2, hk.2⟩⟩)⟩, ⟨zl BK653.out⟩, ⟨zl BK662.out⟩, ⟨zl BK671.out⟩, ⟨zb HB.out⟩⟩
      ·replace c31 := Bool.eq_false_iff.mpr c31; subst c31
       have H1 : (laws_FnSieveMeets.j1 kj2 t640 t651 t652 t661 t670 true t654 t655 t656 t657 t660 t663 t664 t665 t666 t669) = some r := by rw [if_neg (show ¬ (false = true) by decide)] at H; exact H
       clear H; have H := H1; clear H1; have H' := z0 H; clear H; have hnb38 := NB671_653.out; have hnc38 := NB653_671.out; have hnb39 := NB671_662.out; have hnc39 := NB662_671.out; have hcz40 := zc5 BK671.out; have hnb41 := NB662_653.out; have hnc41 := NB653_662.out; have hcz42 := zc5 BK662.out
       go_wp2_with (first | (go_at_call 37; (with_reducible refine (laws_ltSieve.calls kj2 t663 t664 t665 _ _ t666 t669 t654 t655 t656 _ _ t657 t660 false _ ?side1 ?side2 ?side3 ?side4 A30.out).mono ?_); (case side1 => refine (Kd.R_reads' (e := 9) (base := w.heap.size) (ok := fun k_ => (((True ∧ some k_ ≠ (.slice Ao17 t640.length co17 : Value).ownBlock) ∧ some k_ ≠ (.slice Ao15 t647.length co15 : Value).ownBlock) ∧ some k_ ≠ (.slice Ao22 t657.length co22 : Value).ownBlock)) (n := t666.length) (c := co28) ?_).2.2; exact (zs HO668.out BK671.out)); (case side2 => exact (Kd.R_reads' HO668.out).2.1); (case side3 => refine (Kd.R_reads' (e := 9) (base := w.heap.size) (ok := fun k_ => (((True ∧ some k_ ≠ (.slice Ao17 t640.length co17 : Value).ownBlock) ∧ some k_ ≠ (.slice Ao15 t647.length co15 : Value).ownBlock) ∧ some k_ ≠ (.slice Ao28 t666.length co28 : Value).ownBlock)) (n := t657.length) (c := co22) ?_).2.2; exact (zs HO659.out BK671.out)); (case side4 => exact (Kd.R_reads' HO659.out).2.1); rintro e w43 ⟨rfl, hb⟩; replace HO643 := zAs HO643 BK671 hb; replace HO649 := zAs HO649 BK671 hb; replace HO659 := zAs HO659 BK671 hb; replace HO668 := zAs HO668 BK671 hb; replace BK653 := zKy BK653 hb; replace BK662 := zKy BK662 hb; replace BK671 := z0 (blk_below (zpc BK671.out #[.string t663, .string t664, .string t665, .slice Ao28 t666.length co28, .int .i64 t669]) hb); replace HB := zH HB hb; (try clear hb)))
       go_meet
       case rel => exact ⟨_, (true), zf, H', ⟨by have := HJ2.out; first | omega | exact Nat.le_refl _⟩, ⟨Kd.R_mono (zr HO643.out) (fun _ hk => ⟨hk.1.1, ⟨hk.1.2, hk.2⟩⟩)⟩, ⟨Kd.R_mono (zr HO649.out) (fun _ hk => ⟨hk.1.1, ⟨hk.1.2, hk.2⟩⟩)⟩, ⟨Kd.R_mono (zr HO659.out) (fun _ hk => ⟨hk.1.1.2, ⟨hk.1.2, hk.2⟩⟩)⟩, ⟨Kd.R_mono (zr HO668.out) (fun _ hk => ⟨hk.1.1.2, ⟨hk.1.2, hk.2⟩⟩)⟩, ⟨zl BK653.out⟩, ⟨zl BK662.out⟩, ⟨zl BK671.out⟩, ⟨zb HB.out⟩⟩
    case rest =>
     clear HC10
     try clear c1
     try clear c2
     try clear p2
     try clear c3
     try clear c4
     try clear c4b0
     try clear c4b1
     try clear c5
     try clear c20
     try clear c25
     try clear c26
     try clear c29
     try clear c29b0
     try clear c29b1
     try clear c29b2
     try clear c30
     try clear c31
     try clear c32
     try clear c33
     try clear c34
     try clear c35
     try clear c36
     try clear c38
     try clear c39
     try clear c41
     try clear hcz14
     try clear hcz21
     try clear hcz27
     try clear hcz34
     try clear hcz36
     try clear hcz40
     try clear hcz42
     try clear p2
     obtain ⟨kq, x59_9, rfl, HA, HJ9, HO_5, HO_654003, HO_663003, HO_672003, BK653, BK662, BK671, HB⟩ := hcut
     cases kq with
     | zero => exact absurd HA.out (by simp [laws_FnSieveMeets.j1])
     | succ kj9 =>
      have H := HA.out; clear HA; simp only [laws_FnSieveMeets.j1] at H
      by_cases c44 : x59_9 = true
      ·subst c44
       have H1 : (if (t670 == t661) = true then ((laws_ltSieve.f kj9 t663 t664 t665 t666 t669 t654 t655 t656 t657 t660).bind fun t673 => (some t673)) else (some false)) = some r := by rw [if_pos rfl] at H; exact H
       clear H; have H := H1; clear H1
       by_cases c45 : (t670 == t661) = true
       ·rw [if_pos c45] at H; have c45b0 : (t670 == t661) = true := c45; (try (have c45b1 : decide (t670 = t661) = true := by simpa using c45)); (try (have c45b2 : (t670 == t661) = true := by simpa using c45)); clear c45; replace H := zi H; obtain ⟨t673, A46, H⟩ := H; obtain rfl := Option.some.inj H; have hnb47 := NB671_653.out; have hnc47 := NB653_671.out; have hnb48 := NB671_662.out; have hnc48 := NB662_671.out; have hcz49 := zc5 BK671.out; have hnb50 := NB662_653.out; have hnc50 := NB653_662.out; have hcz51 := zc5 BK662.out
        go_wp2_with (first | (go_at_call 37; (with_reducible refine (laws_ltSieve.calls kj9 t663 t664 t665 _ _ t666 t669 t654 t655 t656 _ _ t657 t660 t673 _ ?side1 ?side2 ?side3 ?side4 A46.out).mono ?_); (case side1 => repeat (first | exact (Kd.R_reads' HO_672003.out).2.2 | (with_reducible refine Kd.C_alloc ?_ _) | (with_reducible refine Kd.C_drewN ?_ _) | (with_reducible refine Kd.C_drew ?_))); (case side2 => exact (Kd.R_reads' HO_672003.out).2.1); (case side3 => repeat (first | exact (Kd.R_reads' HO_663003.out).2.2 | (with_reducible refine Kd.C_alloc ?_ _) | (with_reducible refine Kd.C_drewN ?_ _) | (with_reducible refine Kd.C_drew ?_))); (case side4 => exact (Kd.R_reads' HO_663003.out).2.1); rintro e w52 ⟨rfl, hb⟩; replace HO_5 := zA HO_5 hb; replace HO_654003 := zA HO_654003 hb; replace HO_663003 := zA HO_663003 hb; replace HO_672003 := zA HO_672003 hb; replace BK653 := zK BK653 hb; replace BK662 := zK BK662 hb; replace BK671 := zK BK671 hb; replace HB := zH HB hb; (try clear hb)))
        go_ret; exact ⟨ze, zb HB.out⟩
       ·rw [if_neg c45] at H
        have c45b0 : (t670 == t661) = false := by simpa using c45
        (try (have c45b1 : decide (t670 = t661) = false := by simpa using c45)); (try (have c45b2 : (t670 == t661) = false := by simpa using c45)); (try (have c45b3 : ¬ (t670 = t661) := by simpa using c45)); clear c45; obtain rfl := Option.some.inj H; go_wp2; go_ret; exact ⟨ze, zb HB.out⟩
      ·replace c44 := Bool.eq_false_iff.mpr c44; subst c44
       have H1 : ((impl_SieveMeets.f kj9 t663 t664 t665 t666 t669 t651 t652).bind fun t674 => (laws_FnSieveMeets.l0 kj9 t640 t651 t652 t674 0 t663 t664 t665 t666 t669)) = some r := by rw [if_neg (show ¬ (false = true) by decide)] at H; exact H
       clear H; have H := H1; clear H1; replace H := zi H; obtain ⟨t674, A53, H⟩ := H; have H' := z0 H; clear H; have hnb54 := NB671_653.out; have hnc54 := NB653_671.out; have hnb55 := NB671_662.out; have hnc55 := NB662_671.out; have hcz56 := zc5 BK671.out
       go_wp2_with (first | ((with_reducible refine gc 32 ?_); refine zL (some 71) Try.func32 #[.agg #[.string t663, .string t664, .string t665, .slice Ao28 t666.length co28, .int .i64 t669], .string t651, .string t652] ?_; (with_reducible refine (impl_SieveMeets.calls kj9 t663 t664 t665 _ _ t666 t669 t651 t652 t674 _ (zC ((Kd.R_reads' HO_672003.out).2.2)) ((Kd.R_reads' HO_672003.out).2.1) A53.out).mono ?_); rintro e w57 ⟨rfl, hb⟩; refine zv ?_; replace HO_5 := zA HO_5 hb; replace HO_654003 := zA HO_654003 hb; replace HO_663003 := zA HO_663003 hb; replace HO_672003 := zA HO_672003 hb; replace BK653 := zK BK653 hb; replace BK662 := zK BK662 hb; replace BK671 := zK BK671 hb; replace HB := zH HB hb; (try clear hb)))
       go_loopg [15] kj9 (fun kq v15 w' => ∃ (x15_3 : Int), v15 = .int .i64 x15_3 ∧ Aside0 (laws_FnSieveMeets.l0 kq t640 t651 t652 t674 x15_3 t663 t664 t665 t666 t669 = some r) ∧ Aside0 (kq ≤ kj9) ∧ Aside0 (Kd.R Kd.string 9 w' w.heap.size (fun k_ => some k_ ≠ ((.slice Ao15 t647.length co15) : Value).ownBlock ∧ some k_ ≠ ((.slice Ao22 t657.length co22) : Value).ownBlock ∧ some k_ ≠ ((.slice Ao28 t666.length co28) : Value).ownBlock) (.slice Ao17 t640.length co17) t640) ∧ Aside0 (Kd.R Kd.string 9 w' w.heap.size (fun k_ => some k_ ≠ ((.slice Ao17 t640.length co17) : Value).ownBlock ∧ some k_ ≠ ((.slice Ao22 t657.length co22) : Value).ownBlock ∧ some k_ ≠ ((.slice Ao28 t666.length co28) : Value).ownBlock) (.slice Ao15 t647.length co15) t647) ∧ Aside0 (Kd.R Kd.string 9 w' w.heap.size (fun k_ => some k_ ≠ ((.slice Ao17 t640.length co17) : Value).ownBlock ∧ some k_ ≠ ((.slice Ao15 t647.length co15) : Value).ownBlock ∧ some k_ ≠ ((.slice Ao28 t666.length co28) : Value).ownBlock) (.slice Ao22 t657.length co22) t657) ∧ Aside0 (Kd.R Kd.string 9 w' w.heap.size (fun k_ => some k_ ≠ ((.slice Ao17 t640.length co17) : Value).ownBlock ∧ some k_ ≠ ((.slice Ao15 t647.length co15) : Value).ownBlock ∧ some k_ ≠ ((.slice Ao22 t657.length co22) : Value).ownBlock) (.slice Ao28 t666.length co28) t666) ∧ Aside0 (w'.heap[gb653]? = some (.cells #[.string t644, .string t645, .string t646, (.slice Ao15 t647.length co15), .int .i64 t650] 25 (0, 0))) ∧ Aside0 (w'.heap[gb662]? = some (.cells #[.string t654, .string t655, .string t656, (.slice Ao22 t657.length co22), .int .i64 t660] 25 (0, 0))) ∧ Aside0 (w'.heap[gb671]? = some (.cells #[.string t663, .string t664, .string t665, (.slice Ao28 t666.length co28), .int .i64 t669] 25 (0, 0))) ∧ Aside0 (Below w.heap.size w w'))
       case atStart => exact ⟨(0), zf, H', ⟨Nat.le_refl _⟩, ⟨zr HO_5.out⟩, ⟨zr HO_654003.out⟩, ⟨zr HO_663003.out⟩, ⟨zr HO_672003.out⟩, ⟨zl BK653.out⟩, ⟨zl BK662.out⟩, ⟨zl BK671.out⟩, ⟨zb HB.out⟩⟩
       case round =>
        clear H'
        try clear c1
        try clear c2
        try clear p2
        try clear c3
        try clear c4
        try clear c4b0
        try clear c4b1
        try clear c5
        try clear c20
        try clear c25
        try clear c26
        try clear c29
        try clear c29b0
        try clear c29b1
        try clear c29b2
        try clear c30
        try clear c31
        try clear c32
        try clear c33
        try clear c34
        try clear c35
        try clear c36
        try clear c38
        try clear c39
        try clear c41
        try clear c44
        try clear c45
        try clear c45b0
        try clear c45b1
        try clear c45b2
        try clear c47
        try clear c48
        try clear c50
        try clear c54
        try clear c55
        try clear hcz14
        try clear hcz21
        try clear hcz27
        try clear hcz34
        try clear hcz36
        try clear hcz40
        try clear hcz42
        try clear hcz49
        try clear hcz51
        try clear hcz56
        try clear p2
        obtain ⟨x15_3, rfl, HA, HK3, HO_5, HO_654003, HO_663003, HO_672003, BK653, BK662, BK671, HB⟩ := hrel
        cases gk with
        | zero => exact absurd HA.out (by simp [laws_FnSieveMeets.l0])
        | succ k3 =>
         have H := HA.out; clear HA; simp only [laws_FnSieveMeets.l0] at H
         by_cases c58 : x15_3 < (t640.length : Int)
         ·rw [if_pos c58] at H; have c58b0 := decide_eq_true c58; clear c58; replace H := zn H; obtain ⟨c59, H⟩ := H; have c59b0 := decide_eq_true c59; clear c59
          by_cases c60 : ((Op.bytesLess ((rdOf ByteArray.empty t640 x15_3).toList) t651.toList) = true)
          ·rw [if_pos c60] at H; have c60b0 : (Op.bytesLess ((rdOf ByteArray.empty t640 x15_3).toList) t651.toList) = true := c60; clear c60; have H' := z0 H; clear H; have p675 : 0 ≤ (x15_3 : Int) := zd; have q675 : x15_3 < (t640.length : Int) := zd; obtain ⟨ad675, e675, hx675_0⟩ := Kd.at_string (Kd.R_reads' HO_5.out).2.2 x15_3 p675 q675; cases e675; replace p675 := eq_true p675; replace q675 := eq_true q675; go_wp2; go_roundg k3
           case measure => have := HJ2.out; have := HJ9.out; have := HK3.out; omega
           case rel => exact ⟨(wrap64 (x15_3 + 1)), zf, H', ⟨by have := HJ2.out; have := HJ9.out; have := HK3.out; omega⟩, ⟨zr HO_5.out⟩, ⟨zr HO_654003.out⟩, ⟨zr HO_663003.out⟩, ⟨zr HO_672003.out⟩, ⟨zl BK653.out⟩, ⟨zl BK662.out⟩, ⟨zl BK671.out⟩, ⟨zb HB.out⟩⟩
          ·rw [if_neg c60] at H
           have c60b0 : (Op.bytesLess ((rdOf ByteArray.empty t640 x15_3).toList) t651.toList) = false := by simpa using c60
           clear c60
           by_cases c61 : ((Op.bytesLess t652.toList ((rdOf ByteArray.empty t640 x15_3).toList)) = true)
           ·rw [if_pos c61] at H; have c61b0 : (Op.bytesLess t652.toList ((rdOf ByteArray.empty t640 x15_3).toList)) = true := c61; clear c61; have H' := z0 H; clear H; have p675 : 0 ≤ (x15_3 : Int) := zd; have q675 : x15_3 < (t640.length : Int) := zd; obtain ⟨ad675, e675, hx675_0⟩ := Kd.at_string (Kd.R_reads' HO_5.out).2.2 x15_3 p675 q675; cases e675; replace p675 := eq_true p675; replace q675 := eq_true q675; have p676 : 0 ≤ (x15_3 : Int) := zd; have q676 : x15_3 < (t640.length : Int) := zd; obtain ⟨ad676, e676, hx676_0⟩ := Kd.at_string (Kd.R_reads' HO_5.out).2.2 x15_3 p676 q676; obtain rfl : ad675 = ad676 := (by injection e676); replace p676 := eq_true p676; replace q676 := eq_true q676; go_wp2; go_roundg k3
            case measure => have := HJ2.out; have := HJ9.out; have := HK3.out; omega
            case rel => exact ⟨(wrap64 (x15_3 + 1)), zf, H', ⟨by have := HJ2.out; have := HJ9.out; have := HK3.out; omega⟩, ⟨zr HO_5.out⟩, ⟨zr HO_654003.out⟩, ⟨zr HO_663003.out⟩, ⟨zr HO_672003.out⟩, ⟨zl BK653.out⟩, ⟨zl BK662.out⟩, ⟨zl BK671.out⟩, ⟨zb HB.out⟩⟩
           ·rw [if_neg c61] at H
            have c61b0 : (Op.bytesLess t652.toList ((rdOf ByteArray.empty t640 x15_3).toList)) = false := by simpa using c61
            clear c61
            by_cases c62 : t674 = true
            ·subst c62
             have H1 : (laws_FnSieveMeets.l0 k3 t640 t651 t652 true (wrap64 (x15_3 + 1)) t663 t664 t665 t666 t669) = some r := by rw [if_pos rfl] at H; exact H
             clear H; have H := H1; clear H1; have H' := z0 H; clear H; have p675 : 0 ≤ (x15_3 : Int) := zd; have q675 : x15_3 < (t640.length : Int) := zd; obtain ⟨ad675, e675, hx675_0⟩ := Kd.at_string (Kd.R_reads' HO_5.out).2.2 x15_3 p675 q675; cases e675; replace p675 := eq_true p675; replace q675 := eq_true q675; have p676 : 0 ≤ (x15_3 : Int) := zd; have q676 : x15_3 < (t640.length : Int) := zd; obtain ⟨ad676, e676, hx676_0⟩ := Kd.at_string (Kd.R_reads' HO_5.out).2.2 x15_3 p676 q676; obtain rfl : ad675 = ad676 := (by injection e676); replace p676 := eq_true p676; replace q676 := eq_true q676; go_wp2; go_roundg k3
             case measure => have := HJ2.out; have := HJ9.out; have := HK3.out; omega
             case rel => exact ⟨(wrap64 (x15_3 + 1)), zf, H', ⟨by have := HJ2.out; have := HJ9.out; have := HK3.out; omega⟩, ⟨zr HO_5.out⟩, ⟨zr HO_654003.out⟩, ⟨zr HO_663003.out⟩, ⟨zr HO_672003.out⟩, ⟨zl BK653.out⟩, ⟨zl BK662.out⟩, ⟨zl BK671.out⟩, ⟨zb HB.out⟩⟩
            ·replace c62 := Bool.eq_false_iff.mpr c62; subst c62
             have H1 : (some false) = some r := by rw [if_neg (show ¬ (false = true) by decide)] at H; exact H
             clear H; have H := H1; clear H1; obtain rfl := Option.some.inj H; have p675 : 0 ≤ (x15_3 : Int) := zd; have q675 : x15_3 < (t640.length : Int) := zd; obtain ⟨ad675, e675, hx675_0⟩ := Kd.at_string (Kd.R_reads' HO_5.out).2.2 x15_3 p675 q675; cases e675; replace p675 := eq_true p675; replace q675 := eq_true q675; have p676 : 0 ≤ (x15_3 : Int) := zd; have q676 : x15_3 < (t640.length : Int) := zd; obtain ⟨ad676, e676, hx676_0⟩ := Kd.at_string (Kd.R_reads' HO_5.out).2.2 x15_3 p676 q676; obtain rfl : ad675 = ad676 := (by injection e676); replace p676 := eq_true p676; replace q676 := eq_true q676; go_wp2; go_ret; exact ⟨ze, zb HB.out⟩
         ·rw [if_neg c58] at H; have c58b0 := decide_eq_false c58; clear c58; replace H := zi H; obtain ⟨t677, A63, H⟩ := H; obtain rfl := Option.some.inj H; have hnb64 := NB671_653.out; have hnc64 := NB653_671.out; have hnb65 := NB671_662.out; have hnc65 := NB662_671.out; have hcz66 := zc5 BK671.out
          go_wp2_with (first | ((with_reducible refine gc 38 ?_); refine zL (some 100) Try.func38 #[.agg #[.string t663, .string t664, .string t665, .slice Ao28 t666.length co28, .int .i64 t669], .string t651, .string t652] ?_; (with_reducible refine (spec_SieveMeets.calls k3 t663 t664 t665 _ _ t666 t669 t651 t652 t677 _ (zC ((Kd.R_reads' HO_672003.out).2.2)) ((Kd.R_reads' HO_672003.out).2.1) A63.out).mono ?_); rintro e w67 ⟨rfl, hb⟩; refine zv ?_; replace HO_5 := zA HO_5 hb; replace HO_654003 := zA HO_654003 hb; replace HO_663003 := zA HO_663003 hb; replace HO_672003 := zA HO_672003 hb; replace BK653 := zK BK653 hb; replace BK662 := zK BK662 hb; replace BK671 := zK BK671 hb; replace HB := zH HB hb; (try clear hb)))
          go_ret; exact ⟨ze, zb HB.out⟩
theorem laws_FnSieveMeets.walk (P : laws_FnSieveMeets.Pure) (a0 : Option Addr) (len0 cap0 : Nat) (z0 : List Int) (a1 : Option Addr) (len1 cap1 : Nat) (z1 : List Int) (w : World) (w0 : (a0 = none ∧ len0 = 0 ∧ cap0 = 0 ∧ z0 = []) ∨ ∃ x, a0 = some x ∧ len0 ≤ cap0 ∧ cap0 ≤ maxLen ∧ z0.length = cap0 ∧ (∀ i, i < z0.length → w.cell? (x.add i) = some (.int .u8 (z0.getD i 0))) ∧ ∀ n ∈ z0, (Lit.int .u8 n).wf = true) (y0 : len0 * 1 ≤ 140737488351232) (w1 : (a1 = none ∧ len1 = 0 ∧ cap1 = 0 ∧ z1 = []) ∨ ∃ x, a1 = some x ∧ len1 ≤ cap1 ∧ cap1 ≤ maxLen ∧ z1.length = cap1 ∧ (∀ i, i < z1.length → w.cell? (x.add i) = some (.int .u8 (z1.getD i 0))) ∧ ∀ n ∈ z1, (Lit.int .u8 n).wf = true) (y1 : len1 * 1 ≤ 140737488351232) :
    Calls Try.prog 4 #[.slice a0 len0 cap0, .slice a1 len1 cap1] w fun e w' => e = .returned (.bool true) ∧ Below w.heap.size w w' := by
  obtain ⟨l0, rfl, hr0, hm0, hw0, hc0⟩ := ReadsInt.ofRowC w0
  obtain ⟨l1, rfl, hr1, hm1, hw1, hc1⟩ := ReadsInt.ofRowC w1
  obtain ⟨k, h⟩ := P l0 l1 hm0 y0 hw0 hm1 y1 hw1
  refine (laws_FnSieveMeets.calls k _ _ l0 _ _ l1 true w (Kd.C_of_reads (d := (0 : Int)) (h1 := fun _ => rfl) hr0) hc0 (Kd.C_of_reads (d := (0 : Int)) (h1 := fun _ => rfl) hr1) hc1 h).mono ?_
  rintro e w' ⟨rfl, hd⟩
  exact ⟨rfl, hd⟩
end Go.Proofs.Ytifgcajpkgamgaa.Q
end
section
set_option linter.unusedVariables false
set_option linter.unusedSimpArgs false
namespace Go.Proofs.Ytifgcajpkgamgaa.Pb
open Go Go.RowKit Go.Proofs.YtifgcajpkgamgaaW.PrintWords Go.Proofs.YtifgcajpkgamgaaW.PrintLast Go.Proofs.YtifgcajpkgamgaaW.PrintMore Go.Proofs.Ytifgcajpkgamgaa.Trie Go.Proofs.Ytifgcajpkgamgaa.Q
def bitc (c : UInt8) : Bool := c == 48 || c == 49
def bitsB (l : List UInt8) : Bool := l.all bitc && decide (l.length ≤ 400)
theorem bitc_48 {c : UInt8} (h : c = 48) : bitc c = true := by subst h; rfl
theorem bitc_49 {c : UInt8} (h : c = 49) : bitc c = true := by subst h; rfl
theorem bitc_no {c : UInt8} (h : ¬ c = 48) (h2 : ¬ c = 49) : bitc c = false := by simp [bitc, h, h2]
theorem bt_is {s : ByteArray} {i : Nat} {n : Nat} (hn : n < 256) : bt s (i : Int) = (n : Int) ↔ (L s).getD i 0 = UInt8.ofNat n := by
 rw [bt_L]
 constructor
 ·intro h
  have h1 : ((L s).getD i 0).toNat = n := by omega
  rw [← h1]; simp
 ·intro h
  rw [h]
  simp; omega
theorem all_drop {p : UInt8 → Bool} {l : List UInt8} {i : Nat} (h : i < l.length) : (l.drop i).all p = (p (l.getD i 0) && (l.drop (i + 1)).all p) := by
 rw [drop_cons 0 h, List.all_cons]
theorem spec_BitsOk_l0 (x : ByteArray) (hx : x.size ≤ 140737488355328) (d : Nat) : ∀ i : Nat, i ≤ (L x).length → (L x).length - i = d →
  Ev (fun k => spec_BitsOk.l0 k x (i : Int)) (((L x).drop i).all bitc && decide ((L x).length ≤ 400)) := by
 have hs := size_L x
 induction d with
 | zero =>
  intro i h1 h2
  refine ev_succ ?_
  simp only [spec_BitsOk.l0]
  refine ev_neg (by omega) (ev_some ?_)
  rw [List.drop_eq_nil_of_le (by omega)]
  simp only [List.all_nil, Bool.true_and]
  rw [hs]; congr 1; simp; omega
 | succ d ih =>
  intro i h1 h2
  have hi : i < (L x).length := by omega
  refine ev_succ ?_
  simp only [spec_BitsOk.l0]
  refine ev_pos (by omega) (ev_pos (by omega) ?_)
  rw [w64 (by omega) (by omega), all_drop hi]
  have := ih (i + 1) (by omega) (by omega)
  by_cases c1 : (L x).getD i 0 = 48
  ·refine ev_pos ((bt_is (n := 48) (by omega)).2 c1) ?_
   rw [bitc_48 c1, Bool.true_and]
   exact this
  ·refine ev_neg (fun q => c1 ((bt_is (n := 48) (by omega)).1 q)) ?_
   by_cases c2 : (L x).getD i 0 = 49
   ·refine ev_pos ((bt_is (n := 49) (by omega)).2 c2) ?_
    rw [bitc_49 c2, Bool.true_and]
    exact this
   ·refine ev_neg (fun q => c2 ((bt_is (n := 49) (by omega)).1 q)) (ev_some ?_)
    rw [bitc_no c1 c2]; rfl
theorem spec_BitsOk_ev (x : ByteArray) (hx : x.size ≤ 140737488355328) : Ev (fun k => spec_BitsOk.f k x) (bitsB (L x)) := by
 have := spec_BitsOk_l0 x hx (L x).length 0 (by omega) (by omega)
 simpa [spec_BitsOk.f, bitsB] using this
theorem impl_BitsOk_l0 (x : ByteArray) (hx : x.size ≤ 140737488355328) (d : Nat) : ∀ i : Nat, i ≤ (L x).length → (L x).length - i = d →
  Ev (fun k => impl_BitsOk.l0 k x ((L x).length : Int) (i : Int)) (((L x).drop i).all bitc && decide ((L x).length ≤ 400)) := by
 have hs := size_L x
 induction d with
 | zero =>
  intro i h1 h2
  refine ev_succ ?_
  simp only [impl_BitsOk.l0]
  refine ev_neg (by omega) (ev_some ?_)
  rw [List.drop_eq_nil_of_le (by omega)]
  simp only [List.all_nil, Bool.true_and]
  rw [hs]; congr 1; simp; omega
 | succ d ih =>
  intro i h1 h2
  have hi : i < (L x).length := by omega
  refine ev_succ ?_
  simp only [impl_BitsOk.l0]
  refine ev_pos (by omega) (ev_pos (by omega) (ev_pos (by omega) ?_))
  rw [w64 (by omega) (by omega), all_drop hi]
  have := ih (i + 1) (by omega) (by omega)
  by_cases c1 : (L x).getD i 0 = 48
  ·refine ev_pos ((bt_is (n := 48) (by omega)).2 c1) ?_
   rw [bitc_48 c1, Bool.true_and]
   exact this
  ·refine ev_neg (fun q => c1 ((bt_is (n := 48) (by omega)).1 q)) ?_
   by_cases c2 : (L x).getD i 0 = 49
   ·refine ev_pos ((bt_is (n := 49) (by omega)).2 c2) ?_
    rw [bitc_49 c2, Bool.true_and]
    exact this
   ·refine ev_neg (fun q => c2 ((bt_is (n := 49) (by omega)).1 q)) (ev_some ?_)
    rw [bitc_no c1 c2]; rfl
theorem impl_BitsOk_ev (x : ByteArray) (hx : x.size ≤ 140737488355328) : Ev (fun k => impl_BitsOk.f k x) (bitsB (L x)) := by
 have := impl_BitsOk_l0 x hx (L x).length 0 (by omega) (by omega)
 simpa [impl_BitsOk.f, bitsB, size_L] using this
theorem spec_l6In_eq (a b c : Int) : spec_l6In.f a b c = some (decide (b ≤ a ∧ a ≤ c)) := by
 unfold spec_l6In.f
 by_cases h : a ≥ b
 ·rw [if_pos h]; congr 1; simp only [decide_eq_decide]; constructor <;> intro q <;> omega
 ·rw [if_neg h]; congr 1; symm; simp only [decide_eq_false_iff_not]; omega
theorem impl_in_eq (a b c : Int) : impl_in.f a b c = some (decide (b ≤ a ∧ a ≤ c)) := by
 unfold impl_in.f
 by_cases h : b ≤ a
 ·rw [if_pos h]; congr 1; simp only [decide_eq_decide]; constructor <;> intro q <;> omega
 ·rw [if_neg h]; congr 1; symm; simp only [decide_eq_false_iff_not]; omega
theorem onesB_le (l : List UInt8) (n : Nat) : onesB l n ≤ l.length := by
 unfold onesB
 have h1 := List.countP_le_length (p := fun c : UInt8 => c == 49) (l := l.take n)
 have h2 := List.length_take (i := n) (l := l)
 omega
theorem onesB_over (l : List UInt8) {n : Nat} (h : l.length ≤ n) : onesB l n = onesB l l.length := by
 unfold onesB
 rw [List.take_of_length_le h, List.take_of_length_le (Nat.le_refl _)]
theorem onesB_zero (l : List UInt8) : onesB l 0 = 0 := by simp [onesB]
theorem spec_l1Ones_l0 (x : ByteArray) (hx : x.size ≤ 140737488355328) (at_ : Int) (ha : at_ ≤ 9223372036854775807) (d : Nat) : ∀ (i n : Nat), (L x).length - i = d → n ≤ i →
  Ev (fun k => spec_l1Ones.l0 k x at_ (n : Int) (i : Int)) (if (i : Int) < at_ then ((n + onesB (L x) at_.toNat - onesB (L x) i : Nat) : Int) else (n : Int)) := by
 have hs := size_L x
 induction d with
 | zero =>
  intro i n h2 hn
  by_cases q : (i : Int) < at_
  ·rw [if_pos q]
   refine ev_succ ?_
   simp only [spec_l1Ones.l0]
   refine ev_pos q ?_
   refine ev_succ ?_
   simp only [spec_l1Ones.j1]
   refine ev_neg (by simp; omega) (ev_some ?_)
   rw [onesB_over (L x) (n := i) (by omega), onesB_over (L x) (n := at_.toNat) (by omega)]
   omega
  ·rw [if_neg q]
   refine ev_succ ?_
   simp only [spec_l1Ones.l0]
   refine ev_neg q ?_
   refine ev_succ ?_
   simp only [spec_l1Ones.j1]
   exact ev_neg (by simp) (ev_some rfl)
 | succ d ih =>
  intro i n h2 hn
  by_cases q : (i : Int) < at_
  ·rw [if_pos q]
   have hi : i < (L x).length := by omega
   refine ev_succ ?_
   simp only [spec_l1Ones.l0]
   refine ev_pos q ?_
   refine ev_succ ?_
   simp only [spec_l1Ones.j1]
   refine ev_pos (by simp; omega) (ev_pos (by omega) (ev_pos (by omega) ?_))
   have hstep := onesB_succ (L x) hi
   have hmono : onesB (L x) (i + 1) ≤ onesB (L x) at_.toNat := by
    unfold onesB
    exact (List.take_prefix_take_left (by omega)).sublist.countP_le
   rw [w64 (i := (i : Int) + 1) (by omega) (by omega)]
   by_cases c : (L x).getD i 0 = 49
   ·refine ev_pos ((bt_is (n := 49) (by omega)).2 c) ?_
    rw [getD_lt 0 hi] at c
    rw [if_pos c] at hstep
    rw [w64 (by omega) (by omega)]
    have := ih (i + 1) (n + 1) (by omega) (by omega)
    refine ev_eq this ?_
    by_cases q2 : ((i + 1 : Nat) : Int) < at_
    ·rw [if_pos q2]; omega
    ·rw [if_neg q2]
     have : at_.toNat = i + 1 := by omega
     rw [this] at hmono ⊢
     omega
   ·refine ev_neg (fun q => c ((bt_is (n := 49) (by omega)).1 q)) ?_
    rw [getD_lt 0 hi] at c
    rw [if_neg c] at hstep
    have := ih (i + 1) n (by omega) (by omega)
    refine ev_eq this ?_
    by_cases q2 : ((i + 1 : Nat) : Int) < at_
    ·rw [if_pos q2]; omega
    ·rw [if_neg q2]
     have : at_.toNat = i + 1 := by omega
     rw [this] at hmono ⊢
     omega
  ·rw [if_neg q]
   refine ev_succ ?_
   simp only [spec_l1Ones.l0]
   refine ev_neg q ?_
   refine ev_succ ?_
   simp only [spec_l1Ones.j1]
   exact ev_neg (by simp) (ev_some rfl)
theorem spec_l1Ones_ev (x : ByteArray) (hx : x.size ≤ 140737488355328) (at_ : Int) (ha : at_ ≤ 9223372036854775807) : Ev (fun k => spec_l1Ones.f k x at_) ((onesB (L x) at_.toNat : Nat) : Int) := by
 refine ev_eq (spec_l1Ones_l0 x hx at_ ha (L x).length 0 0 (by omega) (by omega)) ?_
 rw [onesB_zero]
 split
 ·omega
 ·have : at_.toNat = 0 := by omega
  rw [this, onesB_zero]
theorem count_L {x a : ByteArray} {c : UInt8} (h : L a = [c]) : strings_Count.f x a = some (((L x).count c : Nat) : Int) := by
 unfold strings_Count.f
 have h1 : a.size = 1 := by rw [size_L, h]; rfl
 rw [if_pos h1]
 have h2 : a.data.toList = [c] := h
 rw [h2]
 rfl
theorem onesB_count (l : List UInt8) (n : Nat) : (l.take n).count 49 = onesB l n := rfl
theorem spec_l1One_l0 (x : ByteArray) (hx : x.size ≤ 140737488355328) (d : Nat) : ∀ (i m : Nat), i ≤ (L x).length → (L x).length - i = d → (m : Int) ≤ 9223372036854775807 →
  Ev (fun k => spec_l1One.l0 k x (m : Int) (i : Int)) ((i + pos ((L x).drop i) m : Nat) : Int) := by
 have hs := size_L x
 induction d with
 | zero =>
  intro i m h1 h2 hm
  refine ev_succ ?_
  simp only [spec_l1One.l0]
  refine ev_neg (by omega) (ev_some ?_)
  rw [List.drop_eq_nil_of_le (by omega)]
  simp only [pos]; omega
 | succ d ih =>
  intro i m h1 h2 hm
  have hi : i < (L x).length := by omega
  refine ev_succ ?_
  simp only [spec_l1One.l0]
  refine ev_pos (by omega) (ev_pos (by omega) ?_)
  rw [w64 (i := (i : Int) + 1) (by omega) (by omega), drop_cons 0 hi]
  by_cases c : (L x).getD i 0 = 49
  ·refine ev_pos ((bt_is (n := 49) (by omega)).2 c) ?_
   rw [pos, if_pos c]
   by_cases q : m = 0
   ·refine ev_pos (by omega) (ev_some ?_)
    rw [if_pos q]; omega
   ·refine ev_neg (by omega) ?_
    rw [if_neg q, w64 (by omega) (by omega)]
    have := ih (i + 1) (m - 1) (by omega) (by omega) (by omega)
    rw [show ((m - 1 : Nat) : Int) = (m : Int) - 1 by omega] at this
    exact ev_eq this (by omega)
  ·refine ev_neg (fun q => c ((bt_is (n := 49) (by omega)).1 q)) ?_
   rw [pos, if_neg c]
   exact ev_eq (ih (i + 1) m (by omega) (by omega) hm) (by omega)
theorem spec_l1One_ev (x : ByteArray) (hx : x.size ≤ 140737488355328) (m : Nat) (hm : (m : Int) ≤ 9223372036854775807) : Ev (fun k => spec_l1One.f k x (m : Int)) ((pos (L x) m : Nat) : Int) := by
 exact ev_eq (spec_l1One_l0 x hx (L x).length 0 m (by omega) (by omega) hm) (by simp)
def oneI (l : List UInt8) (m : Nat) : Int := if pos l m < l.length then (pos l m : Int) else -1
theorem impl_one_l0 (x : ByteArray) (hx : x.size ≤ 140737488355328) (d : Nat) : ∀ (i m : Nat), i ≤ (L x).length → (L x).length - i = d → (m : Int) ≤ 9223372036854775807 →
  Ev (fun k => impl_one.l0 k x (m : Int) ((L x).length : Int) (i : Int)) (if i + pos ((L x).drop i) m < (L x).length then ((i + pos ((L x).drop i) m : Nat) : Int) else -1) := by
 have hs := size_L x
 induction d with
 | zero =>
  intro i m h1 h2 hm
  refine ev_succ ?_
  simp only [impl_one.l0]
  refine ev_neg (by omega) (ev_some ?_)
  rw [if_neg (by omega)]
 | succ d ih =>
  intro i m h1 h2 hm
  have hi : i < (L x).length := by omega
  refine ev_succ ?_
  simp only [impl_one.l0]
  refine ev_pos (by omega) (ev_pos (by omega) (ev_pos (by omega) ?_))
  rw [w64 (i := (i : Int) + 1) (by omega) (by omega), drop_cons 0 hi]
  by_cases c : (L x).getD i 0 = 49
  ·refine ev_pos ((bt_is (n := 49) (by omega)).2 c) ?_
   rw [pos, if_pos c]
   by_cases q : m = 0
   ·refine ev_pos (by omega) (ev_some ?_)
    rw [if_pos q, if_pos (by omega)]; omega
   ·refine ev_neg (by omega) ?_
    rw [if_neg q, w64 (by omega) (by omega)]
    have := ih (i + 1) (m - 1) (by omega) (by omega) (by omega)
    rw [show ((m - 1 : Nat) : Int) = (m : Int) - 1 by omega] at this
    refine ev_eq this ?_
    rw [show i + (1 + pos ((L x).drop (i + 1)) (m - 1)) = i + 1 + pos ((L x).drop (i + 1)) (m - 1) by omega]
  ·refine ev_neg (fun q => c ((bt_is (n := 49) (by omega)).1 q)) ?_
   rw [pos, if_neg c]
   refine ev_eq (ih (i + 1) m (by omega) (by omega) hm) ?_
   rw [show i + (1 + pos ((L x).drop (i + 1)) m) = i + 1 + pos ((L x).drop (i + 1)) m by omega]
theorem impl_one_ev (x : ByteArray) (hx : x.size ≤ 140737488355328) (m : Nat) (hm : (m : Int) ≤ 9223372036854775807) : Ev (fun k => impl_one.f k x (m : Int)) (oneI (L x) m) := by
 have := impl_one_l0 x hx (L x).length 0 m (by omega) (by omega) hm
 have e : impl_one.f = fun k x m => impl_one.l0 k x m ((L x).length : Int) 0 := by
  funext k x m
  unfold impl_one.f
  rw [size_L]
 rw [e]
 refine ev_eq this ?_
 unfold oneI
 simp
def letc (c : UInt8) : Bool := decide (97 ≤ c.toNat) && decide (c.toNat ≤ 100)
def kokB (l : List UInt8) : Bool := l.all letc && decide (l.length ≤ 5)
theorem kokB_iff {l : List UInt8} : kokB l = true ↔ KOk l := by
 unfold kokB
 rw [Bool.and_eq_true, List.all_eq_true, decide_eq_true_eq]
 constructor
 ·rintro ⟨h1, h2⟩
  exact ⟨h2, fun c hc => by have := h1 c hc; simpa [letc] using this⟩
 ·rintro ⟨h1, h2⟩
  exact ⟨fun c hc => by have := h2 c hc; simpa [letc] using this, h1⟩
theorem spec_KeyOk_l0 (x : ByteArray) (hx : x.size ≤ 140737488355328) (d : Nat) : ∀ i : Nat, i ≤ (L x).length → (L x).length - i = d →
  Ev (fun k => spec_KeyOk.l0 k x (i : Int)) (((L x).drop i).all letc && decide ((L x).length ≤ 5)) := by
 have hs := size_L x
 induction d with
 | zero =>
  intro i h1 h2
  refine ev_succ ?_
  simp only [spec_KeyOk.l0]
  refine ev_neg (by omega) (ev_some ?_)
  rw [List.drop_eq_nil_of_le (by omega)]
  simp only [List.all_nil, Bool.true_and]
  rw [hs]; congr 1; simp; omega
 | succ d ih =>
  intro i h1 h2
  have hi : i < (L x).length := by omega
  refine ev_succ ?_
  simp only [spec_KeyOk.l0]
  refine ev_pos (by omega) (ev_pos (by omega) ?_)
  have hr := bt_range x (i : Int)
  rw [w64 (i := bt x (i : Int)) (by omega) (by omega), w64 (i := (i : Int) + 1) (by omega) (by omega), all_drop hi]
  have := ih (i + 1) (by omega) (by omega)
  have e := bt_L x i
  refine ev_bindc (spec_l6In_eq _ _ _) ?_
  by_cases c1 : 97 ≤ bt x (i : Int) ∧ bt x (i : Int) ≤ 100
  ·refine ev_pos (by simpa using c1) ?_
   have hc : letc ((L x).getD i 0) = true := by simp only [letc, Bool.and_eq_true, decide_eq_true_eq]; omega
   rw [hc, Bool.true_and]
   exact this
  ·refine ev_neg (by simpa using c1) (ev_some ?_)
   have hc : letc ((L x).getD i 0) = false := by
    rw [Bool.eq_false_iff]
    simp only [letc, ne_eq, Bool.and_eq_true, decide_eq_true_eq]; omega
   rw [hc]; rfl
theorem spec_KeyOk_ev (x : ByteArray) (hx : x.size ≤ 140737488355328) : Ev (fun k => spec_KeyOk.f k x) (kokB (L x)) := by
 have := spec_KeyOk_l0 x hx (L x).length 0 (by omega) (by omega)
 simpa [spec_KeyOk.f, kokB] using this
theorem impl_KeyOk_l0 (x : ByteArray) (hx : x.size ≤ 140737488355328) (d : Nat) : ∀ i : Nat, i ≤ (L x).length → (L x).length - i = d →
  Ev (fun k => impl_KeyOk.l0 k x ((L x).length : Int) (i : Int)) (((L x).drop i).all letc && decide ((L x).length ≤ 5)) := by
 have hs := size_L x
 induction d with
 | zero =>
  intro i h1 h2
  refine ev_succ ?_
  simp only [impl_KeyOk.l0]
  refine ev_neg (by omega) (ev_some ?_)
  rw [List.drop_eq_nil_of_le (by omega)]
  simp only [List.all_nil, Bool.true_and]
  rw [hs]; congr 1; simp; omega
 | succ d ih =>
  intro i h1 h2
  have hi : i < (L x).length := by omega
  refine ev_succ ?_
  simp only [impl_KeyOk.l0]
  refine ev_pos (by omega) (ev_pos (by omega) (ev_pos (by omega) ?_))
  rw [w64 (i := (i : Int) + 1) (by omega) (by omega), all_drop hi]
  have := ih (i + 1) (by omega) (by omega)
  have e := bt_L x i
  by_cases c1 : bt x (i : Int) < 97
  ·refine ev_pos c1 (ev_some ?_)
   have hc : letc ((L x).getD i 0) = false := by
    rw [Bool.eq_false_iff]
    simp only [letc, ne_eq, Bool.and_eq_true, decide_eq_true_eq]; omega
   rw [hc]; rfl
  ·refine ev_neg c1 ?_
   by_cases c2 : bt x (i : Int) > 100
   ·refine ev_pos c2 (ev_some ?_)
    have hc : letc ((L x).getD i 0) = false := by
     rw [Bool.eq_false_iff]
     simp only [letc, ne_eq, Bool.and_eq_true, decide_eq_true_eq]; omega
    rw [hc]; rfl
   ·refine ev_neg c2 ?_
    have hc : letc ((L x).getD i 0) = true := by simp only [letc, Bool.and_eq_true, decide_eq_true_eq]; omega
    rw [hc, Bool.true_and]
    exact this
theorem impl_KeyOk_ev (x : ByteArray) (hx : x.size ≤ 140737488355328) : Ev (fun k => impl_KeyOk.f k x) (kokB (L x)) := by
 have := impl_KeyOk_l0 x hx (L x).length 0 (by omega) (by omega)
 simpa [impl_KeyOk.f, kokB, size_L] using this
def goB : Option Key → List Key → Bool
 | _, [] => true
 | p, k :: t => kokB k && (match p with | none => true | some q => decide (q < k)) && goB (some k) t
def keysB (K : List Key) : Bool := goB none K && decide (K.length ≤ 24)
theorem goB_some {p : Key} {l : List Key} : goB (some p) l = true ↔ (∀ k ∈ l, KOk k) ∧ (p :: l).Pairwise (· < ·) := by
 induction l generalizing p with
 | nil => simp [goB]
 | cons k t ih =>
  unfold goB
  simp only [Bool.and_eq_true, decide_eq_true_eq]
  rw [ih, kokB_iff]
  constructor
  ·rintro ⟨⟨h1, h2⟩, h3, h4⟩
   refine ⟨fun x hx => ?_, ?_⟩
   ·rcases List.mem_cons.1 hx with rfl | hx
    ·exact h1
    ·exact h3 x hx
   ·refine List.pairwise_cons.2 ⟨fun x hx => ?_, h4⟩
    rcases List.mem_cons.1 hx with rfl | hx
    ·exact h2
    ·exact key_trans h2 ((List.pairwise_cons.1 h4).1 x hx)
  ·rintro ⟨h1, h2⟩
   have h3 := List.pairwise_cons.1 h2
   exact ⟨⟨h1 k (by simp), h3.1 k (by simp)⟩, fun x hx => h1 x (by simp [hx]), h3.2⟩
structure KsOk (K : List Key) : Prop where
 ok : ∀ k ∈ K, KOk k
 sorted : K.Pairwise (· < ·)
 few : K.length ≤ 24
theorem keysB_iff {K : List Key} : keysB K = true ↔ KsOk K := by
 unfold keysB
 rw [Bool.and_eq_true, decide_eq_true_eq]
 have h : goB none K = true ↔ (∀ k ∈ K, KOk k) ∧ K.Pairwise (· < ·) := by
  cases K with
  | nil => simp [goB]
  | cons k t =>
   unfold goB
   simp only [Bool.and_eq_true, Bool.and_true]
   rw [goB_some, kokB_iff]
   constructor
   ·rintro ⟨h1, h2, h3⟩
    refine ⟨fun x hx => ?_, h3⟩
    rcases List.mem_cons.1 hx with rfl | hx
    ·exact h1
    ·exact h2 x hx
   ·rintro ⟨h1, h2⟩
    exact ⟨h1 k (by simp), fun x hx => h1 x (by simp [hx]), h2⟩
 rw [h]
 exact ⟨fun ⟨⟨a, b⟩, c⟩ => ⟨a, b, c⟩, fun ⟨a, b, c⟩ => ⟨⟨a, b⟩, c⟩⟩
structure SzL (l : List ByteArray) : Prop where
 len : l.length ≤ 8796093022208
 each : ∀ s ∈ l, s.size ≤ 140737488355328
theorem SzL.getD {l : List ByteArray} (h : SzL l) (i : Nat) : (l.getD i ByteArray.empty).size ≤ 140737488355328 := by
 by_cases hi : i < l.length
 ·rw [getD_lt _ hi]; exact h.each _ (List.getElem_mem hi)
 ·rw [List.getD_eq_getElem?_getD, List.getElem?_eq_none (by omega)]
  exact Nat.zero_le _
theorem rdOf_nat (l : List ByteArray) (i : Nat) : rdOf ByteArray.empty l (i : Int) = l.getD i ByteArray.empty := rfl
theorem L_rd (l : List ByteArray) (i : Nat) : L (rdOf ByteArray.empty l (i : Int)) = (LL l).getD i [] := by
 rw [rdOf_nat, LL_getD]
theorem rd_size {l : List ByteArray} (h : SzL l) (i : Nat) : (rdOf ByteArray.empty l (i : Int)).size ≤ 140737488355328 := by
 rw [rdOf_nat]; exact h.getD i
def prev (K : List Key) (i : Nat) : Option Key := if i = 0 then none else some (K.getD (i - 1) [])
theorem goB_drop {K : List Key} {i : Nat} (hi : i < K.length) : goB (prev K i) (K.drop i) = (kokB (K.getD i []) && (if i = 0 then true else decide (K.getD (i - 1) [] < K.getD i [])) && goB (prev K (i + 1)) (K.drop (i + 1))) := by
 rw [drop_cons [] hi]
 unfold prev
 by_cases q : i = 0
 ·subst q
  simp [goB]
 ·simp only [if_neg q, if_neg (show ¬ i + 1 = 0 by omega), Nat.add_sub_cancel]
  rw [goB]
theorem spec_KeysOk_l0 (l : List ByteArray) (hl : SzL l) (d : Nat) : ∀ i : Nat, i ≤ l.length → l.length - i = d →
  Ev (fun k => spec_KeysOk.l0 k l (i : Int)) (goB (prev (LL l) i) ((LL l).drop i) && decide (l.length ≤ 24)) := by
 have hn := LL_length l
 have hlen := hl.len
 induction d with
 | zero =>
  intro i h1 h2
  refine ev_succ ?_
  simp only [spec_KeysOk.l0]
  refine ev_neg (by omega) (ev_some ?_)
  rw [List.drop_eq_nil_of_le (by omega)]
  simp only [goB, Bool.true_and]
  congr 1; simp; omega
 | succ d ih =>
  intro i h1 h2
  have hi : i < l.length := by omega
  refine ev_succ ?_
  simp only [spec_KeysOk.l0]
  refine ev_pos (by omega) (ev_pos (by omega) ?_)
  rw [w64 (i := (i : Int) + 1) (by omega) (by omega), goB_drop (by omega)]
  have hrec := ih (i + 1) (by omega) (by omega)
  have hk := spec_KeyOk_ev _ (rd_size hl i)
  rw [L_rd] at hk
  refine Ev.bind hk ?_
  cases hkk : kokB ((LL l).getD i []) with
  | false => exact ev_neg (by simp) (ev_some (by simp))
  | true =>
   refine ev_pos rfl ?_
   by_cases q : i = 0
   ·refine ev_neg (by omega) ?_
    rw [if_pos q]
    simpa using hrec
   ·refine ev_pos (by omega) ?_
    have e : (i : Int) - 1 = ((i - 1 : Nat) : Int) := by omega
    rw [w64 (i := (i : Int) - 1) (by omega) (by omega), e]
    refine ev_pos (by omega) (ev_pos (by omega) ?_)
    rw [less_L, toList_L, toList_L, L_rd, L_rd, if_neg q]
    by_cases c : (LL l).getD (i - 1) [] < (LL l).getD i []
    ·refine ev_pos (by simpa using c) ?_
     simp only [decide_eq_true c, Bool.true_and]
     exact hrec
    ·refine ev_neg (by simpa using c) (ev_some ?_)
     simp only [decide_eq_false c, Bool.and_false, Bool.false_and]
theorem spec_KeysOk_ev (l : List ByteArray) (hl : SzL l) : Ev (fun k => spec_KeysOk.f k l) (keysB (LL l)) := by
 have := spec_KeysOk_l0 l hl l.length 0 (by omega) (by omega)
 simpa [spec_KeysOk.f, keysB, prev, LL_length] using this
theorem impl_KeysOk_l0 (l : List ByteArray) (hl : SzL l) (d : Nat) : ∀ i : Nat, i ≤ l.length → l.length - i = d →
  Ev (fun k => impl_KeysOk.l0 k l l (l.length : Int) (i : Int)) (goB (prev (LL l) i) ((LL l).drop i) && decide (l.length ≤ 24)) := by
 have hn := LL_length l
 have hlen := hl.len
 induction d with
 | zero =>
  intro i h1 h2
  refine ev_succ ?_
  simp only [impl_KeysOk.l0]
  refine ev_neg (by omega) (ev_some ?_)
  rw [List.drop_eq_nil_of_le (by omega)]
  simp only [goB, Bool.true_and]
  congr 1; simp; omega
 | succ d ih =>
  intro i h1 h2
  have hi : i < l.length := by omega
  refine ev_succ ?_
  simp only [impl_KeysOk.l0]
  refine ev_pos (by omega) (ev_pos (by omega) (ev_pos (by omega) ?_))
  rw [w64 (i := (i : Int) + 1) (by omega) (by omega), goB_drop (by omega)]
  have hrec := ih (i + 1) (by omega) (by omega)
  have hk := impl_KeyOk_ev _ (rd_size hl i)
  rw [L_rd] at hk
  refine Ev.bind hk ?_
  cases hkk : kokB ((LL l).getD i []) with
  | false => exact ev_neg (by simp) (ev_some (by simp))
  | true =>
   refine ev_pos rfl ?_
   by_cases q : i = 0
   ·refine ev_neg (by omega) ?_
    rw [if_pos q]
    simpa using hrec
   ·refine ev_pos (by omega) ?_
    have e : (i : Int) - 1 = ((i - 1 : Nat) : Int) := by omega
    rw [w64 (i := (i : Int) - 1) (by omega) (by omega), e]
    refine ev_pos (by omega) (ev_pos (by omega) ?_)
    rw [less_L, toList_L, toList_L, L_rd, L_rd, if_neg q]
    by_cases c : (LL l).getD (i - 1) [] < (LL l).getD i []
    ·refine ev_pos (by simpa using c) ?_
     simp only [decide_eq_true c, Bool.true_and]
     exact hrec
    ·refine ev_neg (by simpa using c) (ev_some ?_)
     simp only [decide_eq_false c, Bool.and_false, Bool.false_and]
theorem impl_KeysOk_ev (l : List ByteArray) (hl : SzL l) : Ev (fun k => impl_KeysOk.f k l) (keysB (LL l)) := by
 have := impl_KeysOk_l0 l hl l.length 0 (by omega) (by omega)
 simpa [impl_KeysOk.f, keysB, prev, LL_length] using this
structure By (b : List Int) : Prop where
 byte : ∀ x ∈ b, 0 ≤ x ∧ x ≤ 255
 few : b.length ≤ 2000
theorem By.rd {b : List Int} (h : By b) (i : Int) : 0 ≤ rd b i ∧ rd b i ≤ 255 := by
 unfold Go.Proofs.YtifgcajpkgamgaaW.PrintWords.rd
 rw [List.getD_eq_getElem?_getD]
 cases hx : b[i.toNat]? with
 | none => simp
 | some x =>
  have := h.byte x (List.mem_of_getElem? hx)
  simpa using this
theorem wf_byte {x : Int} (h : (Lit.int .u8 x).wf = true) : 0 ≤ x ∧ x ≤ 255 := by
 simp [Lit.wf, IntKind.min, IntKind.max, IntKind.signed, IntKind.bits] at h
 omega
theorem open_ev (l : List Int) (hl : l.length ≤ maxLen) (hw : ∀ x ∈ l, (Lit.int .u8 x).wf = true) : ∃ b, spec_l6Open.f l = some (b, 0) ∧ By b := by
 unfold spec_l6Open.f
 by_cases h : (l.length : Int) > 2000
 ·rw [if_pos h, if_pos (by omega)]
  refine ⟨l.take 2000, rfl, fun x hx => wf_byte (hw x (List.mem_of_mem_take hx)), ?_⟩
  rw [List.length_take]; omega
 ·rw [if_neg h]
  exact ⟨l, rfl, fun x hx => wf_byte (hw x hx), by omega⟩
theorem bits_xor_nat (a b : Nat) (ha : a < 2 ^ 62) (hb : b < 2 ^ 62) : bits .xor .i64 (a : Int) (b : Int) = ((a ^^^ b : Nat) : Int) := by
 have hj : 62 ≤ IntKind.i64.bits := by decide
 have hp : 2 ^ 62 ≤ 2 ^ IntKind.i64.bits := Nat.pow_le_pow_right (by decide) hj
 have ha' : a % 2 ^ IntKind.i64.bits = a := Nat.mod_eq_of_lt (Nat.lt_of_lt_of_le ha hp)
 have hb' : b % 2 ^ IntKind.i64.bits = b := Nat.mod_eq_of_lt (Nat.lt_of_lt_of_le hb hp)
 simp only [bits, BitVec.ofInt_natCast, BitVec.toNat_xor, BitVec.toNat_ofNat, ha', hb']
 have h := Nat.xor_lt_two_pow ha hb
 rw [IntKind.wrap_i64]
 omega
theorem tmod_range {x n : Int} (hx : 0 ≤ x) (hn : 1 ≤ n) : 0 ≤ Int.tmod x n ∧ Int.tmod x n < n := by
 rw [Int.tmod_eq_emod_of_nonneg hx]
 exact ⟨Int.emod_nonneg _ (by omega), Int.emod_lt_of_pos _ (by omega)⟩
theorem pick_ev {b : List Int} (hb : By b) (p : Int) (h0 : 0 ≤ p) (h1 : p ≤ 1000000) (n : Int) (hn : n ≤ 1000000) :
  ∃ r, Ev (fun k => spec_l6Rd_pick.f k b p n) (r, p + 1) ∧ 0 ≤ r ∧ (1 ≤ n → r < n) ∧ (n < 1 → r = 0) := by
 have hl := hb.few
 unfold spec_l6Rd_pick.f
 rw [w64 (i := p + 1) (by omega) (by omega)]
 by_cases c1 : n < 1
 ·refine ⟨0, ev_pos c1 (ev_succ ?_), by omega, by omega, fun _ => rfl⟩
  simp only [spec_l6Rd_pick.j0]
  exact ev_pos (by simp) (ev_some rfl)
 ·by_cases c2 : (b.length : Int) = 0
  ·refine ⟨0, ev_neg c1 (ev_succ ?_), by omega, by omega, fun _ => rfl⟩
   simp only [spec_l6Rd_pick.j0]
   exact ev_pos (by simpa using c2) (ev_some rfl)
  ·have e1 : p + 1 - 1 = p := by omega
   by_cases c3 : p < (b.length : Int)
   ·have hr := hb.rd p
    refine ⟨Int.tmod (rd b p) n, ev_neg c1 (ev_succ ?_), (tmod_range hr.1 (by omega)).1, fun _ => (tmod_range hr.1 (by omega)).2, by omega⟩
    simp only [spec_l6Rd_pick.j0]
    refine ev_neg (by simpa using c2) ?_
    rw [e1, w64 (i := p) (by omega) (by omega)]
    refine ev_pos c3 (ev_pos h0 (ev_neg (by omega) (ev_some ?_)))
    rw [w64 (by omega) (by omega)]
   ·have hm := tmod_range h0 (show (1 : Int) ≤ b.length by omega)
    have e2 : wrap64 (wrap64 (p * 7) + 3) = p * 7 + 3 := by rw [w64 (i := p * 7) (by omega) (by omega), w64 (by omega) (by omega)]
    have hm2 := tmod_range (show 0 ≤ p * 7 + 3 by omega) (show (1 : Int) ≤ b.length by omega)
    have hr1 := hb.rd (Int.tmod p b.length)
    have hr2 := hb.rd (Int.tmod (p * 7 + 3) b.length)
    have ed : Int.tdiv p b.length = p / b.length := Int.tdiv_eq_ediv_of_nonneg h0
    have hd0 : 0 ≤ p / (b.length : Int) := Int.ediv_nonneg h0 (by omega)
    have hd1 : p / (b.length : Int) ≤ p := Int.ediv_le_self _ h0
    generalize hA : rd b (Int.tmod p b.length) = A at *
    generalize hB : rd b (Int.tmod (p * 7 + 3) b.length) = B at *
    generalize hD : p / (b.length : Int) = D at *
    have eX : wrap64 (wrap64 (wrap64 (wrap64 (wrap64 A * 131) + wrap64 (wrap64 B * 1117)) + wrap64 (p * 29)) + wrap64 (wrap64 D * 53)) = A * 131 + B * 1117 + p * 29 + D * 53 := by
     rw [w64 (i := A) (by omega) (by omega), w64 (i := B) (by omega) (by omega), w64 (i := D) (by omega) (by omega), w64 (i := A * 131) (by omega) (by omega), w64 (i := B * 1117) (by omega) (by omega), w64 (i := p * 29) (by omega) (by omega), w64 (i := D * 53) (by omega) (by omega), w64 (i := A * 131 + B * 1117) (by omega) (by omega), w64 (i := A * 131 + B * 1117 + p * 29) (by omega) (by omega), w64 (by omega) (by omega)]
    obtain ⟨X, hX⟩ : ∃ X : Nat, A * 131 + B * 1117 + p * 29 + D * 53 = (X : Int) := ⟨(A * 131 + B * 1117 + p * 29 + D * 53).toNat, by omega⟩
    have hXb : X < 2 ^ 62 := by omega
    have hY : Int.tdiv (X : Int) 64 = ((X / 64 : Nat) : Int) := by rw [Int.tdiv_eq_ediv_of_nonneg (by omega)]; omega
    have hxor := bits_xor_nat X (X / 64) hXb (by omega)
    refine ⟨Int.tmod (((X ^^^ (X / 64) : Nat) : Int)) n, ev_neg c1 (ev_succ ?_), (tmod_range (by omega) (by omega)).1, fun _ => (tmod_range (by omega) (by omega)).2, by omega⟩
    simp only [spec_l6Rd_pick.j0]
    refine ev_neg (by simpa using c2) ?_
    rw [e1, w64 (i := p) (by omega) (by omega), e2, ed, hA, hB, eX, hX, hY, w64 (i := ((X / 64 : Nat) : Int)) (by omega) (by omega), hxor]
    exact ev_neg c3 (ev_neg c2 (ev_pos hm.1 (ev_pos hm.2 (ev_pos hm2.1 (ev_pos hm2.2 (ev_neg (by omega) (ev_some rfl)))))))
theorem of_ev {b : List Int} (hb : By b) (p : Int) (h0 : 0 ≤ p) (h1 : p ≤ 1000000) (l : List ByteArray) (hl : l ≠ []) (hn : l.length ≤ 1000) :
  ∃ s, Ev (fun k => spec_l6Rd_of.f k b p l) (s, p + 1) ∧ s ∈ l := by
 have hpos : 0 < l.length := List.length_pos_iff.2 hl
 obtain ⟨r, hr, g0, g1, _⟩ := pick_ev hb p h0 h1 (l.length : Int) (by omega)
 have g1 := g1 (by omega)
 obtain ⟨j, rfl⟩ : ∃ j : Nat, r = (j : Int) := ⟨r.toNat, by omega⟩
 refine ⟨l.getD j ByteArray.empty, ?_, ?_⟩
 ·unfold spec_l6Rd_of.f
  refine Ev.bind hr ?_
  exact ev_pos g0 (ev_pos g1 (ev_some rfl))
 ·rw [getD_lt _ (by omega)]
  exact List.getElem_mem _
theorem kok_nil : KOk [] := ⟨by simp, by simp⟩
theorem kok_snoc {l : Key} (h : KOk l) {c : UInt8} (hc : 97 ≤ c.toNat ∧ c.toNat ≤ 100) (hl : l.length < 5) : KOk (l ++ [c]) := by
 refine ⟨by simp; omega, fun x hx => ?_⟩
 rcases List.mem_append.1 hx with h1 | h1
 ·exact h.alph x h1
 ·simp at h1; subst h1; exact hc
theorem kok_take {l : Key} (h : KOk l) (n : Nat) : KOk (l.take n) := ⟨by rw [List.length_take]; have := h.len; omega, fun c hc => h.alph c (List.mem_of_mem_take hc)⟩
theorem key_l0_ev {b : List Int} (hb : By b) (d : Nat) : ∀ (x3 : ByteArray) (p : Int), 0 ≤ p → p + d ≤ 900000 → KOk (L x3) → (L x3).length + d ≤ 5 →
  ∃ s, Ev (fun k => spec_l71Key.l0 k x3 (d : Int) b p) (s, p + d) ∧ KOk (L s) := by
 induction d with
 | zero =>
  intro x3 p h0 h1 h2 h3
  refine ⟨x3, ev_succ ?_, h2⟩
  simp only [spec_l71Key.l0]
  exact ev_neg (by omega) (ev_some (by simp))
 | succ d ih =>
  intro x3 p h0 h1 h2 h3
  obtain ⟨t, ht, hm⟩ := of_ev hb p h0 (by omega) ([(⟨#[97]⟩ : ByteArray), (⟨#[98]⟩ : ByteArray), (⟨#[97]⟩ : ByteArray), (⟨#[99]⟩ : ByteArray), (⟨#[100]⟩ : ByteArray)]) (by simp) (by simp)
  have hts : ∃ c : UInt8, L t = [c] ∧ 97 ≤ c.toNat ∧ c.toNat ≤ 100 := by
   simp only [List.mem_cons, List.not_mem_nil, or_false] at hm
   rcases hm with rfl | rfl | rfl | rfl | rfl <;> exact ⟨_, rfl, by decide, by decide⟩
  obtain ⟨c, hc, hcr⟩ := hts
  have hz : t.size = 1 := by rw [size_L, hc]; rfl
  have hx := size_L x3
  have hL : L (x3 ++ t) = L x3 ++ [c] := by rw [L_append, hc]
  obtain ⟨s, hr, g⟩ := ih (x3 ++ t) (p + 1) (by omega) (by omega) (by rw [hL]; exact kok_snoc h2 hcr (by omega)) (by rw [hL, List.length_append]; simp only [List.length_cons, List.length_nil]; omega)
  refine ⟨s, ev_succ ?_, g⟩
  simp only [spec_l71Key.l0]
  refine ev_pos (by omega) (Ev.bind ht (ev_pos (by rw [hz]; omega) ?_))
  rw [w64 (by omega) (by omega), show ((d + 1 : Nat) : Int) - 1 = (d : Int) by omega, show p + ((d + 1 : Nat) : Int) = p + 1 + (d : Int) by omega]
  exact hr
theorem key_ev {b : List Int} (hb : By b) (p : Int) (h0 : 0 ≤ p) (h1 : p ≤ 800000) :
  ∃ s q, Ev (fun k => spec_l71Key.f k b p) (s, q) ∧ KOk (L s) ∧ p < q ∧ q ≤ p + 10 := by
 obtain ⟨r, hr, g0, g1, _⟩ := pick_ev hb p h0 (by omega) 6 (by omega)
 have g1 := g1 (by omega)
 obtain ⟨n, rfl⟩ : ∃ n : Nat, r = (n : Int) := ⟨r.toNat, by omega⟩
 obtain ⟨s, hs, g⟩ := key_l0_ev hb n (⟨#[]⟩ : ByteArray) (p + 1) (by omega) (by omega) (by exact kok_nil) (by show 0 + n ≤ 5; omega)
 refine ⟨s, p + 1 + n, ?_, g, by omega, by omega⟩
 unfold spec_l71Key.f
 exact Ev.bind hr hs
theorem near_gen (Pd : Key → Prop) (hK : ∀ k, KOk k → Pd k) (hT : ∀ k n, Pd k → Pd (k.take n)) (hS : ∀ (k : Key) (c : UInt8), Pd k → k.length < 5 → (97 ≤ c.toNat ∧ c.toNat ≤ 100) → Pd (k ++ [c])) (hLn : ∀ k, Pd k → k.length ≤ 1000) {b : List Int} (hb : By b) (p : Int) (h0 : 0 ≤ p) (h1 : p ≤ 700000) (l : List ByteArray) (hl : l.length ≤ 1000) (hk : ∀ x ∈ l, Pd (L x)) :
  ∃ s q, Ev (fun k => spec_l71Near.f k b p l) (s, q) ∧ Pd (L s) ∧ p < q ∧ q ≤ p + 20 := by
 have plain : ∀ p' : Int, 0 ≤ p' → p' ≤ 700010 → ∃ s q, Ev (fun k => spec_l71Near.j0 k l true b p') (s, q) ∧ Pd (L s) ∧ p' < q ∧ q ≤ p' + 10 := by
  intro p' a0 a1
  obtain ⟨s, q, hs, g, q0, q1⟩ := key_ev hb p' a0 (by omega)
  refine ⟨s, q, ev_succ ?_, hK _ g, q0, q1⟩
  simp only [spec_l71Near.j0]
  exact ev_pos (by simp) (Ev.bind hs (ev_some rfl))
 by_cases c0 : (l.length : Int) = 0
 ·obtain ⟨s, q, hs, g, q0, q1⟩ := plain p h0 (by omega)
  refine ⟨s, q, ?_, g, q0, by omega⟩
  unfold spec_l71Near.f
  exact ev_pos c0 hs
 ·obtain ⟨r, hr, _, _, _⟩ := pick_ev hb p h0 (by omega) 4 (by omega)
  by_cases c1 : r = 0
  ·obtain ⟨s, q, hs, g, q0, q1⟩ := plain (p + 1) (by omega) (by omega)
   refine ⟨s, q, ?_, g, by omega, by omega⟩
   unfold spec_l71Near.f
   refine ev_neg c0 (Ev.bind hr ?_)
   simp only [c1]
   exact hs
  ·have hrb : (r == 0) = false := by simpa using c1
   obtain ⟨i, hi, i0, i1, _⟩ := pick_ev hb (p + 1) (by omega) (by omega) (l.length : Int) (by omega)
   have i1 := i1 (by omega)
   obtain ⟨j, rfl⟩ : ∃ j : Nat, i = (j : Int) := ⟨i.toNat, by omega⟩
   obtain ⟨x, hx⟩ : ∃ x, rdOf ByteArray.empty l (j : Int) = x := ⟨_, rfl⟩
   have hxk : Pd (L x) := by
    refine hk x ?_
    rw [← hx, show rdOf ByteArray.empty l (j : Int) = l.getD j ByteArray.empty from rfl, getD_lt _ (by omega)]
    exact List.getElem_mem _
   have hxs := size_L x
   have hxl := hLn _ hxk
   obtain ⟨m, hm, m0, m1, _⟩ := pick_ev hb (p + 1 + 1) (by omega) (by omega) 4 (by omega)
   have go : ∀ s q, Ev (fun k => (if m = 0 then ((spec_l6Rd_pick.f k b (p + 1 + 1 + 1) (wrap64 ((x.size : Int) + 1))).bind fun bt135 => (if 0 ≤ bt135.1 then (if bt135.1 ≤ (x.size : Int) then (some (x.extract 0 (bt135.1 : Int).toNat, bt135.2)) else (none)) else (none))) else (if m = 1 then (if (x.size : Int) < 5 then ((spec_l6Rd_of.f k b (p + 1 + 1 + 1) (([(⟨#[97]⟩ : ByteArray), (⟨#[98]⟩ : ByteArray), (⟨#[100]⟩ : ByteArray)] : List ByteArray))).bind fun bt140 => (if x.size + bt140.1.size ≤ 9223372036854775807 then (some (x ++ bt140.1, bt140.2)) else (none))) else (some (x, p + 1 + 1 + 1))) else (some (x, p + 1 + 1 + 1))))) (s, q) → Ev (fun k => spec_l71Near.f k b p l) (s, q) := by
    intro s q h
    unfold spec_l71Near.f
    refine ev_neg c0 (Ev.bind hr ?_)
    simp only [hrb]
    refine ev_succ ?_
    simp only [spec_l71Near.j0]
    refine ev_neg (by simp) (Ev.bind hi (ev_pos i0 (ev_pos i1 (Ev.bind hm ?_))))
    simp only [hx]
    exact h
   by_cases d0 : m = 0
   ·obtain ⟨z, hz, z0, z1, _⟩ := pick_ev hb (p + 1 + 1 + 1) (by omega) (by omega) ((x.size : Int) + 1) (by omega)
    have z1 := z1 (by omega)
    refine ⟨x.extract 0 z.toNat, p + 1 + 1 + 1 + 1, go _ _ ?_, ?_, by omega, by omega⟩
    ·refine ev_pos d0 ?_
     rw [w64 (i := (x.size : Int) + 1) (by omega) (by omega)]
     exact Ev.bind hz (ev_pos z0 (ev_pos (by simp only []; omega) (ev_some rfl)))
    ·rw [L_extract, List.drop_zero]
     exact hT _ _ hxk
   ·by_cases d1 : m = 1
    ·by_cases d2 : (x.size : Int) < 5
     ·obtain ⟨t, ht, hm⟩ := of_ev hb (p + 1 + 1 + 1) (by omega) (by omega) ([(⟨#[97]⟩ : ByteArray), (⟨#[98]⟩ : ByteArray), (⟨#[100]⟩ : ByteArray)]) (by simp) (by simp)
      have hts : ∃ c : UInt8, L t = [c] ∧ 97 ≤ c.toNat ∧ c.toNat ≤ 100 := by
       simp only [List.mem_cons, List.not_mem_nil, or_false] at hm
       rcases hm with rfl | rfl | rfl <;> exact ⟨_, rfl, by decide, by decide⟩
      obtain ⟨c, hc, hcr⟩ := hts
      have hz : t.size = 1 := by rw [size_L, hc]; rfl
      refine ⟨x ++ t, p + 1 + 1 + 1 + 1, go _ _ ?_, ?_, by omega, by omega⟩
      ·exact ev_neg d0 (ev_pos d1 (ev_pos d2 (Ev.bind ht (ev_pos (by rw [hz]; omega) (ev_some rfl)))))
      ·rw [L_append, hc]
       exact hS _ _ hxk (by omega) hcr
     ·exact ⟨x, p + 1 + 1 + 1, go _ _ (ev_neg d0 (ev_pos d1 (ev_neg d2 (ev_some rfl)))), hxk, by omega, by omega⟩
    ·exact ⟨x, p + 1 + 1 + 1, go _ _ (ev_neg d0 (ev_neg d1 (ev_some rfl))), hxk, by omega, by omega⟩
theorem near_ev {b : List Int} (hb : By b) (p : Int) (h0 : 0 ≤ p) (h1 : p ≤ 700000) (l : List ByteArray) (hl : l.length ≤ 1000) (hk : ∀ x ∈ l, KOk (L x)) :
  ∃ s q, Ev (fun k => spec_l71Near.f k b p l) (s, q) ∧ KOk (L s) ∧ p < q ∧ q ≤ p + 20 :=
 near_gen KOk (fun _ h => h) (fun _ n h => kok_take h n) (fun _ _ h hl hc => kok_snoc h hc hl) (fun _ h => by have := h.len; omega) hb p h0 h1 l hl hk
theorem pre_L (x y : ByteArray) (h : (y.size : Int) ≤ (x.size : Int)) : ((x.extract 0 ((y.size : Int) : Int).toNat).toList == y.toList) = (L y).isPrefixOf (L x) := by
 rw [toList_L, toList_L, L_extract, List.drop_zero, Bool.eq_iff_iff, List.isPrefixOf_iff_prefix, beq_iff_eq]
 have hy := size_L y
 rw [show ((y.size : Nat) : Int).toNat = (L y).length by omega]
 constructor
 ·intro q; rw [← q]; exact List.take_prefix _ _
 ·rintro ⟨s, hs⟩
  rw [← hs, List.take_left]
theorem pre_long (x y : ByteArray) (h : ¬ (y.size : Int) ≤ (x.size : Int)) : (L y).isPrefixOf (L x) = false := by
 rw [← Bool.not_eq_true, List.isPrefixOf_iff_prefix]
 intro q
 have := q.length_le
 have hy := size_L y
 have hx := size_L x
 omega
theorem spec_KeyBegins_eq (x y : ByteArray) : spec_KeyBegins.f x y = some ((L y).isPrefixOf (L x)) := by
 unfold spec_KeyBegins.f
 by_cases h : (y.size : Int) ≤ (x.size : Int)
 ·rw [if_pos h, if_pos (by omega), pre_L x y h]
 ·rw [if_neg h, pre_long x y h]
theorem impl_KeyBegins_eq (x y : ByteArray) : impl_KeyBegins.f x y = some ((L y).isPrefixOf (L x)) := by
 unfold impl_KeyBegins.f strings_HasPrefix.f stringslite_HasPrefix.f
 by_cases h : (y.size : Int) ≤ (x.size : Int)
 ·rw [if_pos h, if_pos (by omega), if_pos h, pre_L x y h]; rfl
 ·rw [if_neg h, pre_long x y h]; rfl
theorem pos_one : ∀ (l : List UInt8) (m : Nat), pos l m < l.length → l.getD (pos l m) 0 = 49 ∧ onesB l (pos l m) = m := by
 intro l
 induction l with
 | nil => intro m h; simp [pos] at h
 | cons c l ih =>
  intro m h
  rw [pos] at h ⊢
  by_cases q : c = 49
  ·rw [if_pos q] at h ⊢
   by_cases z : m = 0
   ·rw [if_pos z]
    exact ⟨by simp [q], by simp [onesB, z]⟩
   ·rw [if_neg z] at h ⊢
    have := ih (m - 1) (by simp only [List.length_cons] at h; omega)
    rw [show 1 + pos l (m - 1) = pos l (m - 1) + 1 by omega]
    refine ⟨by simpa using this.1, ?_⟩
    have h2 := this.2
    unfold onesB at h2 ⊢
    rw [List.take_succ_cons, List.countP_cons, h2]
    simp [q]; omega
  ·rw [if_neg q] at h ⊢
   have := ih m (by simp only [List.length_cons] at h; omega)
   rw [show 1 + pos l m = pos l m + 1 by omega]
   refine ⟨by simpa using this.1, ?_⟩
   have h2 := this.2
   unfold onesB at h2 ⊢
   rw [List.take_succ_cons, List.countP_cons, h2]
   simp [q]
theorem onesB_self (l : List UInt8) (n : Nat) : onesB l n ≤ n := by
 unfold onesB
 have h1 := List.countP_le_length (p := fun c : UInt8 => c == 49) (l := l.take n)
 have h2 := List.length_take (i := n) (l := l)
 omega
theorem many_ev (C : Nat) (hC : C ≤ 1000000) : ∀ (n : Nat) (x0 x5 : ByteArray), n ≤ 1000000 → (1 ≤ n → x0.size ≤ C) → x5.size + n * x0.size ≤ C →
  ∃ r, Ev (fun k => spec_l6Many.l0 k x0 (n : Int) x5) r ∧ r.size ≤ C := by
 intro n
 induction n using Nat.strongRecOn with
 | _ n ih =>
  intro x0 x5 hn h0 h1
  by_cases c : (n : Int) > 0
  ·have h0' := h0 (by omega)
   have hsz : (x0 ++ x0).size = x0.size + x0.size := ByteArray.size_append
   have hd : wrap64 (Int.tdiv (n : Int) 2) = ((n / 2 : Nat) : Int) := by
    rw [Int.tdiv_eq_ediv_of_nonneg (by omega)]
    unfold wrap64
    omega
   have hnC : n ≤ C ∨ x0.size = 0 := by
    by_cases z : x0.size = 0
    ·exact .inr z
    ·exact .inl (by have : n ≤ n * x0.size := Nat.le_mul_of_pos_right n (by omega); omega)
   have hmul : (n / 2) * (x0.size + x0.size) ≤ n * x0.size := by
    have : (n / 2) * 2 ≤ n := Nat.div_mul_le_self n 2
    calc (n / 2) * (x0.size + x0.size) = ((n / 2) * 2) * x0.size := by rw [Nat.mul_assoc, Nat.two_mul]
     _ ≤ n * x0.size := Nat.mul_le_mul_right _ this
   have hb : 1 ≤ n / 2 → x0.size + x0.size ≤ C := by
    intro q
    have : 1 * (x0.size + x0.size) ≤ (n / 2) * (x0.size + x0.size) := Nat.mul_le_mul_right _ q
    omega
   by_cases od : Int.tmod (n : Int) 2 = 1
   ·have hodd : n * x0.size = (n / 2) * (x0.size + x0.size) + x0.size := by
     rw [Int.tmod_eq_emod_of_nonneg (by omega)] at od
     have : n = (n / 2) * 2 + 1 := by omega
     conv => lhs; rw [this]
     rw [Nat.add_mul, Nat.mul_assoc, Nat.two_mul, Nat.one_mul]
    have hsz2 : (x5 ++ x0).size = x5.size + x0.size := ByteArray.size_append
    obtain ⟨r, hr, hs⟩ := ih (n / 2) (by omega) (x0 ++ x0) (x5 ++ x0) (by omega) (by rw [hsz]; exact hb) (by rw [hsz, hsz2]; omega)
    refine ⟨r, ev_succ ?_, hs⟩
    simp only [spec_l6Many.l0]
    refine ev_pos c (ev_pos od (ev_pos (by omega) (ev_pos (by omega) ?_)))
    rw [hd]; exact hr
   ·obtain ⟨r, hr, hs⟩ := ih (n / 2) (by omega) (x0 ++ x0) x5 (by omega) (by rw [hsz]; exact hb) (by rw [hsz]; omega)
    refine ⟨r, ev_succ ?_, hs⟩
    simp only [spec_l6Many.l0]
    refine ev_pos c (ev_neg od (ev_pos (by omega) ?_))
    rw [hd]; exact hr
  ·refine ⟨x5, ev_succ ?_, by omega⟩
   simp only [spec_l6Many.l0]
   exact ev_neg c (ev_some rfl)
def putN (k : Key) : List Key → List Key
 | [] => [k]
 | y :: l => if k < y then k :: y :: l else y :: putN k l
def putB (K : List Key) (k : Key) : List Key := if k ∈ K then K else putN k K
theorem L_eq_iff {a b : ByteArray} : a.toList = b.toList ↔ L a = L b := by rw [toList_L, toList_L]
theorem l2Put_true (x0 : List ByteArray) (x1 : ByteArray) (hn : x0.length ≤ 2000000) (d : Nat) : ∀ (x5 : List ByteArray) (i : Nat), i ≤ x0.length → x0.length - i = d → x5.length ≤ i + 1 →
  ∃ r, Ev (fun k => spec_l2Put.l0 k x0 x1 x5 true (i : Int)) r ∧ LL r = if L x1 ∈ (LL x0).drop i then LL x0 else LL x5 ++ (LL x0).drop i := by
 have hz := LL_length x0
 induction d with
 | zero =>
  intro x5 i h1 h2 h3
  refine ⟨x5, ev_succ ?_, ?_⟩
  ·simp only [spec_l2Put.l0]
   exact ev_neg (by omega) (ev_pos trivial (ev_some rfl))
  ·rw [List.drop_eq_nil_of_le (by omega)]; simp
 | succ d ih =>
  intro x5 i h1 h2 h3
  have hr := L_rd x0 i
  obtain ⟨y, hy⟩ : ∃ y, rdOf ByteArray.empty x0 (i : Int) = y := ⟨_, rfl⟩
  rw [hy] at hr
  have hdrop : (LL x0).drop i = L y :: (LL x0).drop (i + 1) := by rw [drop_cons [] (by omega), ← hr]
  by_cases e : L y = L x1
  ·refine ⟨x0, ev_succ ?_, ?_⟩
   ·simp only [spec_l2Put.l0, hy]
    exact ev_pos (by omega) (ev_pos (by omega) (ev_pos (L_eq_iff.2 e) (ev_some rfl)))
   ·rw [hdrop, if_pos (by simp [e])]
  ·obtain ⟨r, hr, he⟩ := ih (x5 ++ [y]) (i + 1) (by omega) (by omega) (by simp; omega)
   refine ⟨r, ev_succ ?_, ?_⟩
   ·simp only [spec_l2Put.l0, hy]
    refine ev_pos (by omega) (ev_pos (by omega) (ev_neg (fun q => e (L_eq_iff.1 q)) (ev_pos trivial (ev_pos (by omega) ?_))))
    rw [w64 (by omega) (by omega)]; exact hr
   ·rw [he, hdrop]
    have hm : (L x1 ∈ L y :: (LL x0).drop (i + 1)) ↔ L x1 ∈ (LL x0).drop (i + 1) := by
     rw [List.mem_cons]
     exact ⟨fun h => h.resolve_left (fun q => e q.symm), .inr⟩
    by_cases m : L x1 ∈ (LL x0).drop (i + 1)
    ·rw [if_pos m, if_pos (hm.2 m)]
    ·rw [if_neg m, if_neg (fun q => m (hm.1 q)), LL_append]
     simp [LL]
theorem l2Put_false (x0 : List ByteArray) (x1 : ByteArray) (hn : x0.length ≤ 2000000) (d : Nat) : ∀ (x5 : List ByteArray) (i : Nat), i ≤ x0.length → x0.length - i = d → x5.length ≤ i →
  ∃ r, Ev (fun k => spec_l2Put.l0 k x0 x1 x5 false (i : Int)) r ∧ LL r = if L x1 ∈ (LL x0).drop i then LL x0 else LL x5 ++ putN (L x1) ((LL x0).drop i) := by
 have hz := LL_length x0
 induction d with
 | zero =>
  intro x5 i h1 h2 h3
  refine ⟨x5 ++ [x1], ev_succ ?_, ?_⟩
  ·simp only [spec_l2Put.l0]
   exact ev_neg (by omega) (ev_neg (by simp) (ev_pos (by omega) (ev_some rfl)))
  ·rw [List.drop_eq_nil_of_le (by omega), LL_append]
   simp [putN, LL]
 | succ d ih =>
  intro x5 i h1 h2 h3
  have hr := L_rd x0 i
  obtain ⟨y, hy⟩ : ∃ y, rdOf ByteArray.empty x0 (i : Int) = y := ⟨_, rfl⟩
  rw [hy] at hr
  have hdrop : (LL x0).drop i = L y :: (LL x0).drop (i + 1) := by rw [drop_cons [] (by omega), ← hr]
  by_cases e : L y = L x1
  ·refine ⟨x0, ev_succ ?_, ?_⟩
   ·simp only [spec_l2Put.l0, hy]
    exact ev_pos (by omega) (ev_pos (by omega) (ev_pos (L_eq_iff.2 e) (ev_some rfl)))
   ·rw [hdrop, if_pos (by simp [e])]
  ·have hm : (L x1 ∈ L y :: (LL x0).drop (i + 1)) ↔ L x1 ∈ (LL x0).drop (i + 1) := by
    rw [List.mem_cons]
    exact ⟨fun h => h.resolve_left (fun q => e q.symm), .inr⟩
   by_cases lt : L x1 < L y
   ·obtain ⟨r, hr, he⟩ := l2Put_true x0 x1 hn d (x5 ++ [x1] ++ [y]) (i + 1) (by omega) (by omega) (by simp; omega)
    refine ⟨r, ev_succ ?_, ?_⟩
    ·simp only [spec_l2Put.l0, hy]
     refine ev_pos (by omega) (ev_pos (by omega) (ev_neg (fun q => e (L_eq_iff.1 q)) (ev_neg (by simp) (ev_pos (by rw [less_L, decide_eq_true_eq, toList_L, toList_L]; exact lt) (ev_pos (by omega) (ev_bindc rfl (ev_pos (by simp; omega) ?_)))))))
     rw [w64 (by omega) (by omega)]; exact hr
    ·rw [he, hdrop]
     by_cases m : L x1 ∈ (LL x0).drop (i + 1)
     ·rw [if_pos m, if_pos (hm.2 m)]
     ·rw [if_neg m, if_neg (fun q => m (hm.1 q)), putN, if_pos lt, LL_append, LL_append]
      simp [LL]
   ·obtain ⟨r, hr, he⟩ := ih (x5 ++ [y]) (i + 1) (by omega) (by omega) (by simp; omega)
    refine ⟨r, ev_succ ?_, ?_⟩
    ·simp only [spec_l2Put.l0, hy]
     refine ev_pos (by omega) (ev_pos (by omega) (ev_neg (fun q => e (L_eq_iff.1 q)) (ev_neg (by simp) (ev_neg (by rw [less_L, decide_eq_true_eq, toList_L, toList_L]; exact lt) (ev_pos (by omega) ?_)))))
     rw [w64 (by omega) (by omega)]; exact hr
    ·rw [he, hdrop]
     by_cases m : L x1 ∈ (LL x0).drop (i + 1)
     ·rw [if_pos m, if_pos (hm.2 m)]
     ·rw [if_neg m, if_neg (fun q => m (hm.1 q)), putN, if_neg lt, LL_append]
      simp [LL]
theorem l2Put_ev (x0 : List ByteArray) (x1 : ByteArray) (hn : x0.length ≤ 2000000) : ∃ r, Ev (fun k => spec_l2Put.f k x0 x1) r ∧ LL r = putB (LL x0) (L x1) := by
 obtain ⟨r, hr, he⟩ := l2Put_false x0 x1 hn x0.length [] 0 (by omega) (by omega) (by simp)
 refine ⟨r, hr, ?_⟩
 rw [he, List.drop_zero]
 simp [putB, LL]
theorem putN_mem {k x : Key} {K : List Key} : x ∈ putN k K ↔ x = k ∨ x ∈ K := by
 induction K with
 | nil => simp [putN]
 | cons y l ih =>
  rw [putN]
  split
  ·simp
  ·simp only [List.mem_cons, ih]
   constructor
   ·rintro (h | h | h)
    ·exact .inr (.inl h)
    ·exact .inl h
    ·exact .inr (.inr h)
   ·rintro (h | h | h)
    ·exact .inr (.inl h)
    ·exact .inl h
    ·exact .inr (.inr h)
theorem putB_mem {k x : Key} {K : List Key} : x ∈ putB K k ↔ x = k ∨ x ∈ K := by
 unfold putB
 split
 ·rename_i h
  exact ⟨.inr, fun q => q.elim (fun e => e ▸ h) id⟩
 ·exact putN_mem
theorem putN_length {k : Key} {K : List Key} : (putN k K).length = K.length + 1 := by
 induction K with
 | nil => rfl
 | cons y l ih => rw [putN]; split <;> simp [ih]
theorem putB_length {k : Key} {K : List Key} : (putB K k).length ≤ K.length + 1 := by
 unfold putB
 split
 ·omega
 ·rw [putN_length]; omega
theorem putN_sorted {k : Key} {K : List Key} (hK : K.Pairwise (· < ·)) (hk : k ∉ K) : (putN k K).Pairwise (· < ·) := by
 induction K with
 | nil => simp [putN]
 | cons y l ih =>
  have h2 := List.pairwise_cons.1 hK
  rw [putN]
  by_cases c : k < y
  ·rw [if_pos c]
   refine List.pairwise_cons.2 ⟨fun x hx => ?_, hK⟩
   rcases List.mem_cons.1 hx with rfl | hx
   ·exact c
   ·exact key_trans c (h2.1 x hx)
  ·rw [if_neg c]
   refine List.pairwise_cons.2 ⟨fun x hx => ?_, ih h2.2 (fun q => hk (by simp [q]))⟩
   rcases putN_mem.1 hx with e | hx
   ·rw [e]
    rcases key_le_total k y with h | h | h
    ·exact absurd h c
    ·exact absurd (by simp [h]) hk
    ·exact h
   ·exact h2.1 x hx
theorem putB_sorted {k : Key} {K : List Key} (hK : K.Pairwise (· < ·)) : (putB K k).Pairwise (· < ·) := by
 unfold putB
 split
 ·exact hK
 ·rename_i h; exact putN_sorted hK h
structure SOk (K : List Key) : Prop where
 ok : ∀ k ∈ K, KOk k
 sorted : K.Pairwise (· < ·)
theorem sok_put {K : List Key} (h : SOk K) {k : Key} (hk : KOk k) : SOk (putB K k) :=
 ⟨fun x hx => (putB_mem.1 hx).elim (fun e => e ▸ hk) (h.ok x), putB_sorted h.sorted⟩
theorem LL_mem {l : List ByteArray} {x : ByteArray} (h : x ∈ l) : L x ∈ LL l := List.mem_map_of_mem h
theorem keys_l0_ev {b : List Int} (hb : By b) (d : Nat) : ∀ (x5 : List ByteArray) (p : Int), 0 ≤ p → p + 20 * d ≤ 600000 → SOk (LL x5) → x5.length + d ≤ 100 →
  ∃ s q, Ev (fun k => spec_l71Keys.l0 k x5 (d : Int) b p) (s, q) ∧ SOk (LL s) ∧ s.length ≤ x5.length + d ∧ p ≤ q ∧ q ≤ p + 20 * d := by
 induction d with
 | zero =>
  intro x5 p h0 h1 h2 h3
  refine ⟨x5, p, ev_succ ?_, h2, by omega, by omega, by omega⟩
  simp only [spec_l71Keys.l0]
  exact ev_neg (by omega) (ev_some rfl)
 | succ d ih =>
  intro x5 p h0 h1 h2 h3
  obtain ⟨s, q, hs, ks, q0, q1⟩ := near_ev hb p h0 (by omega) x5 (by omega) (fun x hx => h2.ok _ (LL_mem hx))
  obtain ⟨r, hr, he⟩ := l2Put_ev x5 s (by omega)
  have hl : r.length ≤ x5.length + 1 := by
   have := putB_length (k := L s) (K := LL x5)
   rw [← he, LL_length, LL_length] at this; exact this
  obtain ⟨s', q', hs', k', l', a0, a1⟩ := ih r q (by omega) (by omega) (by rw [he]; exact sok_put h2 ks) (by omega)
  refine ⟨s', q', ev_succ ?_, k', by omega, by omega, by omega⟩
  simp only [spec_l71Keys.l0]
  refine ev_pos (by omega) (Ev.bind hs (Ev.bind hr ?_))
  rw [w64 (by omega) (by omega), show ((d + 1 : Nat) : Int) - 1 = (d : Int) by omega]
  exact hs'
theorem keys_ev {b : List Int} (hb : By b) (p : Int) (h0 : 0 ≤ p) (h1 : p ≤ 100000) (n : Nat) (hn : n ≤ 30) :
  ∃ s q, Ev (fun k => spec_l71Keys.f k b p (n : Int)) (s, q) ∧ SOk (LL s) ∧ s.length ≤ n ∧ p ≤ q ∧ q ≤ p + 1000 := by
 obtain ⟨r, hr, g0, g1, _⟩ := pick_ev hb p h0 (by omega) ((n : Int) + 1) (by omega)
 have g1 := g1 (by omega)
 obtain ⟨m, rfl⟩ : ∃ m : Nat, r = (m : Int) := ⟨r.toNat, by omega⟩
 obtain ⟨s, q, hs, k, l, a0, a1⟩ := keys_l0_ev hb m [] (p + 1) (by omega) (by omega) ⟨by simp [LL], by simp [LL]⟩ (by simp; omega)
 refine ⟨s, q, ?_, k, by simp at l; omega, by omega, by omega⟩
 unfold spec_l71Keys.f
 rw [w64 (i := (n : Int) + 1) (by omega) (by omega)]
 exact Ev.bind hr hs
end Go.Proofs.Ytifgcajpkgamgaa.Pb
end
section
namespace Go.Proofs
open Go.Shelf
end Go.Proofs
end
section
namespace Go.Proofs.Ytifgcajpkgamgaa.Q
open Go.RowKit Go.Proofs.YtifgcajpkgamgaaW.PrintWords Go.Proofs.YtifgcajpkgamgaaW.PrintLast Go.Proofs.YtifgcajpkgamgaaW.PrintMore
attribute [local go_sem] max2_int min2_int max_two min_two max_three min_three max_four min_four   
set_option linter.unusedVariables false
set_option linter.unusedSimpArgs false
end Go.Proofs.Ytifgcajpkgamgaa.Q
end
section
set_option linter.unusedVariables false
set_option linter.unusedSimpArgs false
namespace Go.Proofs.Ytifgcajpkgamgaa.Pb
open Go Go.RowKit Go.Proofs.YtifgcajpkgamgaaW.PrintWords Go.Proofs.YtifgcajpkgamgaaW.PrintLast Go.Proofs.YtifgcajpkgamgaaW.PrintMore Go.Proofs.Ytifgcajpkgamgaa.Trie Go.Proofs.Ytifgcajpkgamgaa.Q
def mkS (l : List UInt8) : ByteArray := ⟨l.toArray⟩
theorem LL_mkS (zs : List Key) : LL (zs.map mkS) = zs := by
 simp only [LL, List.map_map]
 have : (L ∘ mkS) = id := by funext l; exact L_mk l
 rw [this, List.map_id]
theorem same_l0 (l : List ByteArray) (hn : l.length ≤ 2000000) (d : Nat) : ∀ i : Nat, i ≤ l.length → l.length - i = d → Ev (fun k => laws_ltSames.l0 k l l (i : Int)) true := by
 induction d with
 | zero =>
  intro i h1 h2
  refine ev_succ ?_
  simp only [laws_ltSames.l0]
  exact ev_neg (by omega) (ev_some rfl)
 | succ d ih =>
  intro i h1 h2
  refine ev_succ ?_
  simp only [laws_ltSames.l0]
  refine ev_pos (by omega) (ev_pos (by omega) (ev_pos (by omega) (ev_pos trivial ?_)))
  rw [w64 (by omega) (by omega)]
  exact ih (i + 1) (by omega) (by omega)
theorem same_ev (l : List ByteArray) (hn : l.length ≤ 2000000) : Ev (fun k => laws_ltSames.f k l l) true := by
 unfold laws_ltSames.f
 exact ev_pos rfl (same_l0 l hn l.length 0 (by omega) (by omega))
theorem L_mkS (l : List UInt8) : L (mkS l) = l := by simp [L, mkS]
theorem mkS_L (a : ByteArray) : mkS (L a) = a := L_inj (L_mkS _)
theorem letter_eq (a : ByteArray) (ha : a.size ≤ 1000000) (d : Nat) (hd : d ≤ 1000) : spec_l3Letter.f a (d : Int) = some (mkS [lab (L a) d]) := by
 unfold spec_l3Letter.f
 have hs := size_L a
 by_cases c : a.size ≤ d
 ·rw [if_pos (by omega), lab_ge (by omega)]; rfl
 ·rw [if_neg (by omega), if_pos (by omega), w64 (by omega) (by omega), if_pos (by omega), if_pos (by omega)]
  congr 1
  apply L_inj
  rw [L_extract, L_mkS]
  have h : d < (L a).length := by omega
  rw [lab_lt h]
  have e1 : ((d : Int)).toNat = d := by omega
  have e2 : ((d : Int) + 1).toNat = d + 1 := by omega
  rw [e1, e2, List.drop_take, List.drop_eq_getElem_cons h]
  have : d + 1 - d = 1 := by omega
  rw [this]; rfl
theorem mkS_one {c c' : UInt8} : (mkS [c]).toList = (mkS [c']).toList ↔ c = c' := by
 rw [toList_L, toList_L, L_mkS, L_mkS]; simp
theorem restS_eq (a : ByteArray) (d keep : Nat) : ∃ r, spec_l3Rest.f a (d : Int) (keep : Int) = some r ∧ L r = ((L a).drop d).take keep := by
 unfold spec_l3Rest.f
 have hs := size_L a
 rw [if_pos ⟨by omega, by omega⟩]
 by_cases c : (a.size : Int) ≤ (d : Int)
 ·rw [if_pos c]
  refine ⟨_, rfl, ?_⟩
  rw [List.drop_eq_nil_of_le (by omega), List.take_nil]; rfl
 ·rw [if_neg c]
  refine ⟨_, rfl, ?_⟩
  rw [L_extract, L_extract]
  have e1 : ((d : Int)).toNat = d := by omega
  rw [e1, List.drop_zero, List.take_of_length_le (i := a.size) (by omega)]
  split
  ·rename_i h
   have e2 : ((keep : Int)).toNat = keep := by omega
   rw [e2]
  ·rename_i h
   rw [List.take_of_length_le (i := keep) (by rw [List.length_drop]; omega), List.take_of_length_le (by rw [List.length_drop]; omega)]
structure Sm (l : List ByteArray) : Prop where
 len : l.length ≤ 100
 sz : ∀ s ∈ l, s.size ≤ 1000
theorem Sm.getD {l : List ByteArray} (h : Sm l) (i : Nat) : (l.getD i ByteArray.empty).size ≤ 1000 := by
 by_cases q : i < l.length
 ·rw [getD_lt _ q]; exact h.sz _ (List.getElem_mem q)
 ·rw [List.getD_eq_getElem?_getD, List.getElem?_eq_none (by omega)]; exact Nat.zero_le _
theorem Sm.sub {l l' : List ByteArray} (h : Sm l) (hs : l'.Sublist l) : Sm l' := ⟨by have := hs.length_le; have := h.len; omega, fun s hm => h.sz s (hs.subset hm)⟩
def labS (d : Nat) (s : ByteArray) : UInt8 := lab (L s) d
theorem group_l0 (ks : List ByteArray) (h : Sm ks) (d : Nat) (hd : d ≤ 1000) (m : Nat) : ∀ (i : Nat) (x3 : List ByteArray), i ≤ ks.length → ks.length - i = m → x3.length ≤ i →
  Ev (fun k => spec_l3Group.l0 k x3 (i : Int) ks (d : Int)) (x3 ++ (ks.drop i).filter (fun s => labS d s == labS d (ks.getD 0 ByteArray.empty))) := by
 have hn := h.len
 induction m with
 | zero =>
  intro i x3 h1 h2 h3
  refine ev_succ ?_
  simp only [spec_l3Group.l0]
  refine ev_neg (by omega) (ev_some ?_)
  rw [List.drop_eq_nil_of_le (by omega)]; simp
 | succ m ih =>
  intro i x3 h1 h2 h3
  refine ev_succ ?_
  simp only [spec_l3Group.l0]
  have hlt : i < ks.length := by omega
  have hg : rdOf ByteArray.empty ks (i : Int) = ks.getD i ByteArray.empty := rfl
  have hg0 : rdOf ByteArray.empty ks 0 = ks.getD 0 ByteArray.empty := rfl
  rw [hg, hg0]
  refine ev_pos (by omega) (ev_pos (by omega) (ev_bindc (letter_eq _ (by have := h.getD i; omega) d hd) (ev_pos (by omega) (ev_bindc (letter_eq _ (by have := h.getD 0; omega) d hd) ?_))))
  rw [w64 (by omega) (by omega)]
  have e : ks.drop i = ks.getD i ByteArray.empty :: ks.drop (i + 1) := drop_cons _ hlt
  rw [e, List.filter_cons]
  by_cases c : labS d (ks.getD i ByteArray.empty) = labS d (ks.getD 0 ByteArray.empty)
  ·refine ev_pos (mkS_one.2 c) (ev_pos (by omega) ?_)
   rw [if_pos (beq_iff_eq.2 c)]
   refine ev_eq (ih (i + 1) (x3 ++ [ks.getD i ByteArray.empty]) (by omega) (by omega) (by simp; omega)) ?_
   simp
  ·refine ev_neg (fun q => c (mkS_one.1 q)) ?_
   rw [if_neg (fun q => c (beq_iff_eq.1 q))]
   exact ih (i + 1) x3 (by omega) (by omega) (by omega)
theorem group_ev (ks : List ByteArray) (h : Sm ks) (d : Nat) (hd : d ≤ 1000) : Ev (fun k => spec_l3Group.f k ks (d : Int)) (ks.filter (fun s => labS d s == labS d (ks.getD 0 ByteArray.empty))) := by
 unfold spec_l3Group.f
 exact ev_eq (group_l0 ks h d hd ks.length 0 [] (by omega) (by omega) (by simp)) (by simp)
theorem front {d : Nat} {s : ByteArray} {ks : List ByteArray} (hU : Up d (LL (s :: ks))) :
  LL ((s :: ks).filter (fun x => labS d x == labS d s)) = L s :: (LL ks).takeWhile (fun x => lab x d == lab (L s) d) ∧
  LL ((s :: ks).drop ((s :: ks).filter (fun x => labS d x == labS d s)).length) = (LL ks).dropWhile (fun x => lab x d == lab (L s) d) := by
 have h1 : LL ((s :: ks).filter (fun x => labS d x == labS d s)) = (LL (s :: ks)).filter (fun x => lab x d == lab (L s) d) := by
  unfold LL
  rw [List.filter_map]
  rfl
 have h2 := run_filter (d := d) (k := L s) (ks := LL ks) hU
 have h3 : LL (s :: ks) = L s :: LL ks := rfl
 rw [h3, h2] at h1
 refine ⟨h1, ?_⟩
 have hl : ((s :: ks).filter (fun x => labS d x == labS d s)).length = ((LL ks).takeWhile (fun x => lab x d == lab (L s) d)).length + 1 := by
  rw [← LL_length, h1, List.length_cons]
 rw [hl, List.drop_succ_cons]
 unfold LL
 rw [List.map_drop]
 have hd : ∀ (p : Key → Bool) (l : List Key), l.drop (l.takeWhile p).length = l.dropWhile p := by
  intro p l
  induction l with
  | nil => rfl
  | cons a l ih =>
   rw [List.takeWhile_cons, List.dropWhile_cons]
   by_cases c : p a = true
   ·rw [if_pos c, if_pos c, List.length_cons, List.drop_succ_cons, ih]
   ·rw [if_neg c, if_neg c]; rfl
 exact hd _ _
def nd (s : S79) : Nd := (LL s.f0, s.f1.toNat)
structure Np (s : S79) : Prop where
 sm : Sm s.f0
 low : 0 ≤ s.f1
 high : s.f1 ≤ 900
def marks (c : UInt8) : Nat → List UInt8
 | 0 => []
 | n + 1 => c :: List.replicate n 48
theorem marks_49 (n : Nat) : marks 49 n = fst1 n := by cases n <;> rfl
theorem marks_48 (n : Nat) : marks 48 n = List.replicate n 48 := by cases n <;> rfl
theorem put_l0 (keep : Nat) (d : Nat) (hd : d ≤ 800) (m : Nat) : ∀ (ks : List ByteArray) (x6 : List S79) (c : UInt8) (Lt Mo Fi : ByteArray) (Rs : List ByteArray), ks.length ≤ m → Sm ks → Up d (LL ks) → (∀ s ∈ x6, Np s) →
  Lt.size + ks.length ≤ 1000000 → Mo.size + ks.length ≤ 1000000 → Fi.size + ks.length ≤ 1000000 → Rs.length + ks.length ≤ 1000000 → x6.length + ks.length ≤ 1000000 →
  ∃ Lt' Mo' Fi' Rs' x6', Ev (fun k => spec_l3Put.l0 k x6 (mkS [c]) Lt Mo Fi Rs (keep : Int) ks (d : Int)) (Lt', Mo', Fi', Rs', (keep : Int), x6') ∧
   L Lt' = L Lt ++ (bra (LL ks, d)).map letter ∧ L Mo' = L Mo ++ (bra (LL ks, d)).map bit ∧ L Fi' = L Fi ++ marks c (runs d (LL ks)).length ∧
   LL Rs' = LL Rs ++ ((bra (LL ks, d)).filter leaf).map (rest keep) ∧ x6'.map nd = x6.map nd ++ conts (LL ks, d) ∧ (∀ s ∈ x6', Np s) := by
 induction m with
 | zero =>
  intro ks x6 c Lt Mo Fi Rs h0 hS hU hN _ _ _ _ _
  have : ks = [] := List.eq_nil_of_length_eq_zero (by omega)
  subst this
  have hr : runs d (LL ([] : List ByteArray)) = [] := runs_nil d
  refine ⟨Lt, Mo, Fi, Rs, x6, ev_succ ?_, ?_, ?_, ?_, ?_, ?_, hN⟩
  ·simp only [spec_l3Put.l0]
   exact ev_neg (by simp) (ev_some rfl)
  all_goals simp [bra, hr, marks, Trie.conts]
 | succ m ih =>
  intro ks x6 c Lt Mo Fi Rs h0 hS hU hN z1 z2 z3 z4 z5
  cases ks with
  | nil =>
   have hr : runs d (LL ([] : List ByteArray)) = [] := runs_nil d
   refine ⟨Lt, Mo, Fi, Rs, x6, ev_succ ?_, ?_, ?_, ?_, ?_, ?_, hN⟩
   ·simp only [spec_l3Put.l0]
    exact ev_neg (by simp) (ev_some rfl)
   all_goals simp [bra, hr, marks, Trie.conts]
  | cons s ks =>
   obtain ⟨f1, f2⟩ := front hU
   have hgs : ((s :: ks).getD 0 ByteArray.empty) = s := rfl
   have hgr := group_ev (s :: ks) hS d (by omega)
   rw [hgs] at hgr
   have hsub : ((s :: ks).filter (fun x => labS d x == labS d s)).Sublist (s :: ks) := List.filter_sublist
   generalize hG : (s :: ks).filter (fun x => labS d x == labS d s) = G at f1 f2 hgr hsub
   have hGl : G.length = ((LL ks).takeWhile (fun x => lab x d == lab (L s) d)).length + 1 := by rw [← LL_length, f1, List.length_cons]
   have hGle := hsub.length_le
   have hk := hS.len
   simp only [List.length_cons] at hGle z1 z2 z3 z4 z5 h0 hk
   have hG0 : rdOf ByteArray.empty G 0 = G.getD 0 ByteArray.empty := rfl
   have hLG : L (G.getD 0 ByteArray.empty) = L s := by
    rw [LL_getD, f1]; rfl
   have hrun : runs d (LL (s :: ks)) = LL G :: runs d (LL ((s :: ks).drop G.length)) := by
    have : LL (s :: ks) = L s :: LL ks := rfl
    rw [this, runs_cons, f1, f2]
   have hSd : Sm ((s :: ks).drop G.length) := hS.sub (List.drop_sublist _ _)
   have hUd : Up d (LL ((s :: ks).drop G.length)) := by
    rw [f2]; exact up_tail hU
   have hld : ((s :: ks).drop G.length).length + G.length = ks.length + 1 := by rw [List.length_drop, List.length_cons]; omega
   have hG1 : 1 ≤ G.length := by omega
   have hsz1 : (mkS [lab (L s) d]).size = 1 := rfl
   have hsz2 : (mkS [c]).size = 1 := rfl
   have hLs : ∀ a b : ByteArray, (a ++ b).size = a.size + b.size := fun a b => ByteArray.size_append
   have hgsm : Sm G := hS.sub hsub
   have hcat : ∀ {α : Type} (a : List α) (b : α) (e : List α), (a ++ [b]) ++ e = a ++ (b :: e) := fun a b e => by simp
   by_cases q : 1 < G.length
   ·have hc : cont (LL G) = true := by simp [cont, LL_length]; omega
    have hNp : Np ⟨G, wrap64 ((d : Int) + 1)⟩ := by
     rw [w64 (by omega) (by omega)]
     exact ⟨hgsm, by show (0 : Int) ≤ (d : Int) + 1; omega, by show (d : Int) + 1 ≤ 900; omega⟩
    obtain ⟨Lt', Mo', Fi', Rs', x6', e, a1, a2, a3, a4, a5, a6⟩ := ih ((s :: ks).drop G.length) (x6 ++ [⟨G, wrap64 ((d : Int) + 1)⟩]) 48 (Lt ++ mkS [lab (L s) d]) (Mo ++ mkS [49]) (Fi ++ mkS [c]) Rs (by omega) hSd hUd
     (fun y hy => by
      rcases List.mem_append.1 hy with hy | hy
      ·exact hN y hy
      ·rw [List.mem_singleton.1 hy]; exact hNp)
     (by rw [hLs, hsz1]; omega) (by rw [hLs]; show Mo.size + 1 + _ ≤ _; omega) (by rw [hLs, hsz2]; omega) (by omega) (by simp only [List.length_append, List.length_cons, List.length_nil]; omega)
    refine ⟨Lt', Mo', Fi', Rs', x6', ev_succ ?_, ?_, ?_, ?_, ?_, ?_, a6⟩
    ·simp only [spec_l3Put.l0]
     refine ev_pos (by simp only [List.length_cons]; omega) (Ev.bind hgr (ev_pos (by omega) ?_))
     rw [hG0]
     refine ev_bindc (letter_eq _ (by have := hgsm.getD 0; omega) d (by omega)) ?_
     rw [hLG]
     refine ev_pos (by rw [hsz1]; omega) (ev_pos (by rw [hsz2]; omega) (ev_pos (by omega) (ev_pos (by omega) (ev_pos (by omega) (ev_pos (by omega) (ev_pos (by simp only [List.length_cons]; omega) ?_))))))
     have : ((G.length : Int)).toNat = G.length := by omega
     rw [this]
     exact e
    ·rw [a1, L_append, L_mkS]
     unfold bra
     rw [hrun, List.map_cons, List.map_cons, hcat]
     congr 2
     show _ = lab ((LL G).headD []) d
     rw [f1]; rfl
    ·rw [a2, L_append, L_mkS]
     unfold bra
     rw [hrun, List.map_cons, List.map_cons, hcat]
     congr 2
     show _ = bit (LL G, d)
     unfold bit
     rw [if_pos hc]
    ·rw [a3, L_append, L_mkS, hrun, List.length_cons, marks_48]
     simp [marks]
    ·rw [a4]
     unfold bra
     rw [hrun, List.map_cons, List.filter_cons, if_neg (by simp [leaf, hc])]
    ·rw [a5, List.map_append]
     unfold Trie.conts
     simp only []
     rw [hrun, List.filter_cons, if_pos hc, List.map_cons, List.map_cons, List.map_nil, hcat]
     congr 2
     show (LL G, (wrap64 ((d : Int) + 1)).toNat) = _
     rw [w64 (by omega) (by omega)]
     congr 1
   ·have hc : cont (LL G) = false := by simp [cont, LL_length]; omega
    obtain ⟨r, hr1, hr2⟩ := restS_eq (G.getD 0 ByteArray.empty) (d + 1) keep
    rw [hLG] at hr2
    obtain ⟨Lt', Mo', Fi', Rs', x6', e, a1, a2, a3, a4, a5, a6⟩ := ih ((s :: ks).drop G.length) x6 48 (Lt ++ mkS [lab (L s) d]) (Mo ++ mkS [48]) (Fi ++ mkS [c]) (Rs ++ [r]) (by omega) hSd hUd hN
     (by rw [hLs, hsz1]; omega) (by rw [hLs]; show Mo.size + 1 + _ ≤ _; omega) (by rw [hLs, hsz2]; omega) (by simp only [List.length_append, List.length_cons, List.length_nil]; omega) (by omega)
    refine ⟨Lt', Mo', Fi', Rs', x6', ev_succ ?_, ?_, ?_, ?_, ?_, ?_, a6⟩
    ·simp only [spec_l3Put.l0]
     refine ev_pos (by simp only [List.length_cons]; omega) (Ev.bind hgr (ev_pos (by omega) ?_))
     rw [hG0]
     refine ev_bindc (letter_eq _ (by have := hgsm.getD 0; omega) d (by omega)) ?_
     rw [hLG, w64 (by omega) (by omega)]
     refine ev_pos (by rw [hsz1]; omega) (ev_pos (by rw [hsz2]; omega) (ev_neg (by omega) (ev_pos (by omega) (ev_bindc (by rw [← hr1]; rfl) (ev_pos (by omega) (ev_pos (by omega) (ev_pos (by simp only [List.length_cons]; omega) ?_)))))))
     have : ((G.length : Int)).toNat = G.length := by omega
     rw [this]
     exact e
    ·rw [a1, L_append, L_mkS]
     unfold bra
     rw [hrun, List.map_cons, List.map_cons, hcat]
     congr 2
     show _ = lab ((LL G).headD []) d
     rw [f1]; rfl
    ·rw [a2, L_append, L_mkS]
     unfold bra
     rw [hrun, List.map_cons, List.map_cons, hcat]
     congr 2
     show _ = bit (LL G, d)
     unfold bit
     rw [if_neg (by rw [hc]; simp)]
    ·rw [a3, L_append, L_mkS, hrun, List.length_cons, marks_48]
     simp [marks]
    ·rw [a4, LL_append]
     unfold bra
     rw [hrun, List.map_cons, List.filter_cons, if_pos (by simp [leaf, hc]), List.map_cons]
     show LL Rs ++ LL [r] ++ _ = _
     have : LL [r] = [L r] := rfl
     rw [this, hcat, hr2]
     congr 2
     show _ = (((LL G).headD []).drop (d + 1)).take keep
     rw [f1]; rfl
    ·rw [a5]
     unfold Trie.conts
     simp only []
     rw [hrun, List.filter_cons, if_neg (by rw [hc]; simp)]
theorem bfs_len {q X : List Nd} (h : Bfs q X) : q.length ≤ X.length := by
 rw [h.eq, List.length_append]; omega
theorem brs_cons (x : Nd) (X : List Nd) : brs (x :: X) = bra x ++ brs X := rfl
def Deep (x : Nd) : Prop := ∀ k ∈ x.1, x.2 ≤ k.length
theorem of_l0 (keep : Nat) {q X : List Nd} (hB : Bfs q X) : ∀ (x7 : List S79) (Lt Mo Fi : ByteArray) (Rs : List ByteArray), x7.map nd = q → (∀ s ∈ x7, Np s) → (∀ x ∈ X, NOk x) →
  Lt.size + (brs X).length ≤ 900000 → Mo.size + (brs X).length ≤ 900000 → Fi.size + (brs X).length ≤ 900000 → Rs.length + (brs X).length ≤ 900000 → X.length ≤ 900000 →
  ∃ Lt' Mo' Fi' Rs', Ev (fun k => spec_SieveOf.l0 k x7 Lt Mo Fi Rs (keep : Int)) (Lt', Mo', Fi', Rs', (keep : Int), true) ∧
   L Lt' = L Lt ++ encL X ∧ L Mo' = L Mo ++ encM X ∧ L Fi' = L Fi ++ encF X ∧ LL Rs' = LL Rs ++ encR keep X := by
 induction hB with
 | nil =>
  intro x7 Lt Mo Fi Rs h0 _ _ _ _ _ _ _
  have : x7 = [] := List.map_eq_nil_iff.1 h0
  subst this
  refine ⟨Lt, Mo, Fi, Rs, ev_succ ?_, ?_, ?_, ?_, ?_⟩
  ·simp only [spec_SieveOf.l0]
   exact ev_neg (by simp) (ev_some rfl)
  all_goals simp [encL, encM, encF, encR, brs]
 | cons hX ih =>
  rename_i x q X
  intro x7 Lt Mo Fi Rs h0 hN hO z1 z2 z3 z4 z5
  cases x7 with
  | nil => cases h0
  | cons s t =>
   rw [List.map_cons, List.cons.injEq] at h0
   obtain ⟨rfl, h0⟩ := h0
   have hs := hN s (by simp)
   have hx := hO (nd s) (by simp)
   have hd : s.f1 = ((nd s).2 : Int) := by show s.f1 = (s.f1.toNat : Int); have := hs.low; omega
   have hd5 := hx.deep
   have hlen := hs.sm.len
   have hbl : (bra (nd s)).length ≤ s.f0.length := by
    rw [bra_length]
    have := runs_length_le (nd s).2 (nd s).1
    have e : (nd s).1.length = s.f0.length := LL_length _
    omega
   rw [brs_cons, List.length_append] at z1 z2 z3 z4
   rw [List.length_cons] at z5
   have hql := bfs_len hX
   rw [List.length_append, ← h0, List.length_map] at hql
   obtain ⟨Lt1, Mo1, Fi1, Rs1, n1, e1, a1, a2, a3, a4, a5, a6⟩ := put_l0 keep (nd s).2 (by omega) s.f0.length s.f0 [] 49 Lt Mo Fi Rs (Nat.le_refl _) hs.sm hx.up (fun y hy => by cases hy) (by omega) (by omega) (by omega) (by omega) (by simp only [List.length_nil]; omega)
   have hbr : (LL s.f0, (nd s).2) = nd s := rfl
   rw [hbr] at a1 a2 a4 a5
   have hsz : ∀ {a b : ByteArray} {l : List UInt8}, L a = L b ++ l → a.size = b.size + l.length := fun {a b l} h => by rw [size_L, size_L, h, List.length_append]
   have b1 := hsz a1
   have b2 := hsz a2
   have b3 := hsz a3
   have b4 : Rs1.length = Rs.length + (((bra (nd s)).filter leaf).map (rest keep)).length := by rw [← LL_length, a4, List.length_append, LL_length]
   have b5 : n1.length = (Trie.conts (nd s)).length := by have := congrArg List.length a5; simpa using this
   rw [List.length_map] at b1 b2 b4
   have b6 : (marks 49 (runs (nd s).2 (LL s.f0)).length).length = (bra (nd s)).length := by rw [marks_49, fst1_length, bra_length]; rfl
   have b7 := List.length_filter_le leaf (bra (nd s))
   obtain ⟨Lt', Mo', Fi', Rs', e2, c1, c2, c3, c4⟩ := ih (([] ++ t) ++ n1) Lt1 Mo1 Fi1 Rs1 (by rw [List.nil_append, List.map_append, h0, a5]; rfl)
    (fun y hy => by
     rw [List.nil_append] at hy
     rcases List.mem_append.1 hy with hy | hy
     ·exact hN y (by simp [hy])
     ·exact a6 y hy)
    (fun y hy => hO y (by simp [hy])) (by omega) (by omega) (by omega) (by omega) (by omega)
   refine ⟨Lt', Mo', Fi', Rs', ev_succ ?_, ?_, ?_, ?_, ?_⟩
   ·simp only [spec_SieveOf.l0]
    have hr : rd_T79 (s :: t) 0 = s := rfl
    rw [hr, hd]
    refine ev_pos (by simp only [List.length_cons]; omega) (ev_pos (by simp only [List.length_cons]; omega) (Ev.bind (a := (Lt1, Mo1, Fi1, Rs1, (keep : Int), n1)) e1 (ev_bindc rfl (ev_pos (by simp only [List.length_cons]; omega) (ev_bindc rfl (ev_pos ?_ (ev_bindc rfl (ev_pos ?_ e2))))))))
    ·simp only [List.length_nil, List.drop_succ_cons, List.drop_zero]; omega
    ·simp only [List.nil_append, List.drop_succ_cons, List.drop_zero]; omega
   ·rw [c1, a1, List.append_assoc]; unfold encL; rw [brs_cons, List.map_append]
   ·rw [c2, a2, List.append_assoc]; unfold encM; rw [brs_cons, List.map_append]
   ·rw [c3, a3, List.append_assoc, marks_49]; unfold encF; rw [List.flatMap_cons]; rfl
   ·rw [c4, a4, List.append_assoc]; unfold encR; rw [brs_cons, List.filter_append, List.map_append]
open Classical in
noncomputable def lvls (K : List Key) : List Nd := if h : (∀ k ∈ K, KOk k) ∧ K.Pairwise (· < ·) then Classical.choose (Lvl.ex h.1 h.2) else []
theorem lvls_is {K : List Key} (h : KsOk K) : Lvl K (lvls K) ∧ (lvls K).length ≤ K.length * 6 + 1 := by
 have h' : (∀ k ∈ K, KOk k) ∧ K.Pairwise (· < ·) := ⟨h.ok, h.sorted⟩
 unfold lvls
 rw [dif_pos h']
 exact Classical.choose_spec (Lvl.ex h'.1 h'.2)
def keepOk (a : Int) : Prop := 0 ≤ a ∧ a ≤ 5
instance (a : Int) : Decidable (keepOk a) := inferInstanceAs (Decidable (0 ≤ a ∧ a ≤ 5))
abbrev SvT := ByteArray × ByteArray × ByteArray × List ByteArray × Int × Bool
noncomputable def encT (X : List Nd) (keep : Int) : SvT := (mkS (encL X), mkS (encM X), mkS (encF X), (encR keep.toNat X).map mkS, keep, true)
noncomputable def sieveV (K : List Key) (keep : Int) : SvT := if keysB K = true ∧ keepOk keep then encT (lvls K) keep else ((⟨#[]⟩ : ByteArray), (⟨#[]⟩ : ByteArray), (⟨#[]⟩ : ByteArray), ([] : List ByteArray), 0, false)
theorem brs_few {K : List Key} {X : List Nd} (h : Lvl K X) (hn : K.length ≤ 24) (hl : X.length ≤ K.length * 6 + 1) : (brs X).length ≤ 1000 := by
 have := size_eq h.eq
 simp only at this
 omega
theorem encT_of {X : List Nd} {keep : Nat} {a b c : ByteArray} {d : List ByteArray} (h1 : L a = encL X) (h2 : L b = encM X) (h3 : L c = encF X) (h4 : LL d = encR keep X) : (a, b, c, d, (keep : Int), true) = encT X (keep : Int) := by
 unfold encT
 rw [← h1, ← h2, ← h3, mkS_L, mkS_L, mkS_L]
 have : ((keep : Int)).toNat = keep := by omega
 rw [this, ← h4]
 congr 4
 unfold LL
 rw [List.map_map]
 conv => lhs; rw [← List.map_id d]
 apply List.map_congr_left
 intro s _
 exact (mkS_L s).symm
theorem ksok_sm {l : List ByteArray} (h : KsOk (LL l)) : Sm l := by
 refine ⟨by have := h.few; rw [LL_length] at this; omega, fun s hm => ?_⟩
 have := (h.ok (L s) (List.mem_map_of_mem hm)).len
 rw [size_L]; omega
theorem spec_SieveOf_ev (l : List ByteArray) (hl : SzL l) (a : Int) : Ev (fun k => spec_SieveOf.f k l a) (sieveV (LL l) a) := by
 unfold spec_SieveOf.f sieveV
 refine Ev.bind (spec_KeysOk_ev l hl) ?_
 by_cases c : keysB (LL l) = true
 ·refine ev_pos c (ev_bindc (spec_l6In_eq a 0 5) (ev_succ ?_))
  by_cases g : keepOk a
  ·simp only [spec_SieveOf.j0]
   rw [if_pos ⟨c, g⟩]
   refine ev_neg (by simp [decide_eq_true (show 0 ≤ a ∧ a ≤ 5 from g)]) ?_
   have hk := keysB_iff.1 c
   obtain ⟨hL, hX⟩ := lvls_is hk
   have hfew := hk.few
   have hb := brs_few hL hfew hX
   obtain ⟨keep, rfl⟩ : ∃ n : Nat, a = (n : Int) := ⟨a.toNat, by have := g.1; omega⟩
   obtain ⟨Lt, Mo, Fi, Rs, e, a1, a2, a3, a4⟩ := of_l0 keep hL.bfs [⟨l, 0⟩] (⟨#[]⟩ : ByteArray) (⟨#[]⟩ : ByteArray) (⟨#[]⟩ : ByteArray) [] rfl
    (fun s hs => by
     rw [List.mem_singleton.1 hs]
     exact ⟨ksok_sm hk, by show (0 : Int) ≤ 0; omega, by show (0 : Int) ≤ 900; omega⟩)
    (fun x hx => (hL.nodes x hx).2) (by show 0 + _ ≤ _; omega) (by show 0 + _ ≤ _; omega) (by show 0 + _ ≤ _; omega) (by show 0 + _ ≤ _; omega) (by omega)
   refine ev_eq e (encT_of ?_ ?_ ?_ ?_)
   ·rw [a1]; rfl
   ·rw [a2]; rfl
   ·rw [a3]; rfl
   ·rw [a4]; rfl
  ·simp only [spec_SieveOf.j0]
   rw [if_neg (fun h => g h.2)]
   exact ev_pos (by simp [decide_eq_false (show ¬ (0 ≤ a ∧ a ≤ 5) from g)]) (ev_some rfl)
 ·refine ev_neg c (ev_succ ?_)
  simp only [spec_SieveOf.j0]
  rw [if_neg (fun h => c h.1)]
  exact ev_pos (by simp) (ev_some rfl)
theorem label_eq (a : ByteArray) (d : Nat) (hd : d ≤ (L a).length) : impl_label.f a (d : Int) = some ((lab (L a) d).toNat : Int) := by
 unfold impl_label.f
 have hs := size_L a
 by_cases c : d = (L a).length
 ·rw [if_pos (by omega), lab_ge (by omega)]; rfl
 ·rw [if_neg (by omega), if_pos (by omega), if_pos (by omega), bt_L, lab_lt (show d < (L a).length by omega), getD_lt _ (by omega)]
def frontN (d : Nat) (r : List ByteArray) : Nat := (r.tail.takeWhile (fun x => labS d x == labS d (r.getD 0 ByteArray.empty))).length + 1
theorem frontN_le {d : Nat} {r : List ByteArray} (h : r ≠ []) : frontN d r ≤ r.length := by
 cases r with
 | nil => exact absurd rfl h
 | cons a t =>
  unfold frontN
  have := (List.takeWhile_sublist (l := t) (fun x => labS d x == labS d ((a :: t).getD 0 ByteArray.empty))).length_le
  simp only [List.tail_cons, List.length_cons]
  omega
theorem takeWhile_at {α : Type} (p : α → Bool) : ∀ (l : List α) (i : Nat) (h : i < l.length), (i < (l.takeWhile p).length → p l[i] = true) ∧ (i = (l.takeWhile p).length → p l[i] = false) := by
 intro l
 induction l with
 | nil => intro i h; simp at h
 | cons a l ih =>
  intro i h
  rw [List.takeWhile_cons]
  by_cases c : p a = true
  ·rw [if_pos c, List.length_cons]
   cases i with
   | zero => exact ⟨fun _ => c, fun q => by omega⟩
   | succ i =>
    have := ih i (by simpa using h)
    exact ⟨fun q => this.1 (by omega), fun q => this.2 (by omega)⟩
  ·rw [if_neg c]
   cases i with
   | zero => exact ⟨fun q => by simp at q, fun _ => by simpa using c⟩
   | succ i => exact ⟨fun q => by simp at q, fun q => by simp at q⟩
theorem l2_ev {Lt Mo Fi : ByteArray} {Rs : List ByteArray} {Q : List S108} {keep i mark : Int} {rest : List ByteArray} {d : Nat} {r : ByteArray × ByteArray × ByteArray × List ByteArray × Int} (hs : Sm rest) (h0 : rest ≠ []) (hd : ∀ s ∈ rest, d ≤ (L s).length)
  (h3 : Ev (fun k => impl_sieveOf.l3 k Lt Mo Fi Rs Q keep i rest (d : Int) mark (frontN d rest : Int)) r) (m : Nat) : ∀ n : Nat, 1 ≤ n → n ≤ frontN d rest → frontN d rest - n = m →
  Ev (fun k => impl_sieveOf.l2 k Lt Mo Fi Rs Q keep i rest (d : Int) mark (n : Int)) r := by
 have hlen := hs.len
 have hf := frontN_le (d := d) h0
 obtain ⟨a, t, rfl⟩ : ∃ a t, rest = a :: t := by
  cases rest with
  | nil => exact absurd rfl h0
  | cons a t => exact ⟨a, t, rfl⟩
 simp only [List.length_cons] at hlen hf
 have hg0 : rdOf ByteArray.empty (a :: t) 0 = a := rfl
 have hat : ∀ n : Nat, n < t.length + 1 → L (rdOf ByteArray.empty (a :: t) (n : Int)) = L ((a :: t).getD n ByteArray.empty) := fun _ _ => rfl
 have hmem : ∀ n : Nat, n < t.length + 1 → d ≤ (L ((a :: t).getD n ByteArray.empty)).length := fun n hn => by
  refine hd _ ?_
  rw [getD_lt _ (by simpa using hn)]
  exact List.getElem_mem _
 have hfr : frontN d (a :: t) = (t.takeWhile (fun x => labS d x == labS d a)).length + 1 := rfl
 have htw := takeWhile_at (fun x => labS d x == labS d a) t
 have hgd : ∀ n : Nat, 1 ≤ n → n < t.length + 1 → ∀ h : n - 1 < t.length, (a :: t).getD n ByteArray.empty = t[n - 1] := fun n h1 h2 h => by
  obtain ⟨j, rfl⟩ : ∃ j, n = j + 1 := ⟨n - 1, by omega⟩
  rw [getD_lt _ (by simpa using h2)]
  rfl
 induction m with
 | zero =>
  intro n h1 h2 h4
  have e : n = frontN d (a :: t) := by omega
  refine ev_succ ?_
  simp only [impl_sieveOf.l2]
  by_cases c : n < t.length + 1
  ·refine ev_pos (by simp only [List.length_cons]; omega) (ev_pos (by omega) ?_)
   have hr : rdOf ByteArray.empty (a :: t) (n : Int) = (a :: t).getD n ByteArray.empty := rfl
   rw [hr, hg0]
   refine ev_bindc (label_eq _ d (hmem n c)) (ev_bindc (label_eq a d (hd a (by simp))) (ev_neg ?_ ?_))
   ·intro q
    have q2 : lab (L ((a :: t).getD n ByteArray.empty)) d = lab (L a) d := UInt8.toNat_inj.1 (by omega)
    have h5 := (htw (n - 1) (by omega)).2 (by omega)
    rw [hgd n h1 c (by omega)] at q2
    unfold labS at h5
    rw [q2] at h5
    simp at h5
   ·rw [e]; exact h3
  ·refine ev_neg (by simp only [List.length_cons]; omega) ?_
   rw [e]; exact h3
 | succ m ih =>
  intro n h1 h2 h4
  have hlt : n < frontN d (a :: t) := by omega
  have c : n < t.length + 1 := by omega
  refine ev_succ ?_
  simp only [impl_sieveOf.l2]
  refine ev_pos (by simp only [List.length_cons]; omega) (ev_pos (by omega) ?_)
  have hr : rdOf ByteArray.empty (a :: t) (n : Int) = (a :: t).getD n ByteArray.empty := rfl
  rw [hr, hg0]
  refine ev_bindc (label_eq _ d (hmem n c)) (ev_bindc (label_eq a d (hd a (by simp))) (ev_pos ?_ ?_))
  ·have h5 := (htw (n - 1) (by omega)).1 (by omega)
   rw [hgd n h1 c (by omega)]
   unfold labS at h5
   rw [beq_iff_eq.1 h5]
  ·rw [w64 (by omega) (by omega)]
   exact ih (n + 1) (by omega) (by omega) (by omega)
theorem frontN_run {d : Nat} {a : ByteArray} {t : List ByteArray} :
  LL ((a :: t).take (frontN d (a :: t))) = L a :: (LL t).takeWhile (fun x => lab x d == lab (L a) d) ∧ LL ((a :: t).drop (frontN d (a :: t))) = (LL t).dropWhile (fun x => lab x d == lab (L a) d) := by
 have hfr : frontN d (a :: t) = (t.takeWhile (fun x => labS d x == labS d a)).length + 1 := rfl
 rw [hfr, List.take_succ_cons, List.drop_succ_cons]
 have e1 : ∀ (p : ByteArray → Bool) (l : List ByteArray), l.take (l.takeWhile p).length = l.takeWhile p ∧ l.drop (l.takeWhile p).length = l.dropWhile p := by
  intro p l
  induction l with
  | nil => exact ⟨rfl, rfl⟩
  | cons b l ih =>
   rw [List.takeWhile_cons, List.dropWhile_cons]
   by_cases c : p b = true
   ·rw [if_pos c, if_pos c, List.length_cons, List.take_succ_cons, List.drop_succ_cons, ih.1, ih.2]; exact ⟨rfl, rfl⟩
   ·rw [if_neg c, if_neg c]; exact ⟨rfl, rfl⟩
 have e2 : ∀ (l : List ByteArray), LL (l.takeWhile (fun x => labS d x == labS d a)) = (LL l).takeWhile (fun x => lab x d == lab (L a) d) ∧ LL (l.dropWhile (fun x => labS d x == labS d a)) = (LL l).dropWhile (fun x => lab x d == lab (L a) d) := by
  intro l
  induction l with
  | nil => exact ⟨rfl, rfl⟩
  | cons b l ih =>
   have hb : LL (b :: l) = L b :: LL l := rfl
   rw [hb, List.takeWhile_cons, List.dropWhile_cons, List.takeWhile_cons, List.dropWhile_cons]
   by_cases c : (labS d b == labS d a) = true
   ·have c' : (lab (L b) d == lab (L a) d) = true := c
    rw [if_pos c, if_pos c, if_pos c', if_pos c']
    refine ⟨?_, ih.2⟩
    show L b :: LL _ = _
    rw [ih.1]
   ·have c' : ¬ (lab (L b) d == lab (L a) d) = true := c
    rw [if_neg c, if_neg c, if_neg c', if_neg c']
    exact ⟨rfl, hb⟩
 refine ⟨?_, ?_⟩
 ·show L a :: LL _ = _
  rw [(e1 _ t).1, (e2 t).1]
 ·rw [(e1 _ t).2, (e2 t).2]
def ndq (s : S108) : Nd := (LL s.f0, s.f1.toNat)
structure Nq (s : S108) : Prop where
 sm : Sm s.f0
 low : 0 ≤ s.f1
 high : s.f1 ≤ 900
theorem mnk (k n : Nat) : mn (k : Int) (n : Int) = ((min k n : Nat) : Int) := by unfold mn; split <;> omega
theorem push_L (s : ByteArray) (c : UInt8) : L (s.push c) = L s ++ [c] := by simp [L]
theorem push_size (s : ByteArray) (c : UInt8) : (s.push c).size = s.size + 1 := by rw [size_L, size_L, push_L]; simp
theorem byte_back (c : UInt8) : ((c.toNat : Int)).toNat.toUInt8 = c := by
 have : ((c.toNat : Int)).toNat = c.toNat := by omega
 rw [this]; exact UInt8.ofNat_toNat
theorem l1_ev (keep d : Nat) (hd : d ≤ 800) (i : Int) (m : Nat) : ∀ (ks : List ByteArray) (Q : List S108) (c : UInt8) (Lt Mo Fi : ByteArray) (Rs : List ByteArray), ks.length ≤ m → Sm ks → (∀ s ∈ ks, d ≤ (L s).length) → (∀ s ∈ Q, Nq s) →
  Lt.size + ks.length ≤ 1000000 → Mo.size + ks.length ≤ 1000000 → Fi.size + ks.length ≤ 1000000 → Rs.length + ks.length ≤ 1000000 → Q.length + ks.length ≤ 1000000 →
  ∃ Lt' Mo' Fi' Rs' x6', (∀ r, Ev (fun k => impl_sieveOf.l0 k Lt' Mo' Fi' Rs' (Q ++ x6') (keep : Int) (wrap64 (i + 1))) r → Ev (fun k => impl_sieveOf.l1 k Lt Mo Fi Rs Q (keep : Int) i ks (d : Int) (c.toNat : Int)) r) ∧
   L Lt' = L Lt ++ (bra (LL ks, d)).map letter ∧ L Mo' = L Mo ++ (bra (LL ks, d)).map bit ∧ L Fi' = L Fi ++ marks c (runs d (LL ks)).length ∧
   LL Rs' = LL Rs ++ ((bra (LL ks, d)).filter leaf).map (rest keep) ∧ x6'.map ndq = conts (LL ks, d) ∧ (∀ s ∈ x6', Nq s) := by
 induction m with
 | zero =>
  intro ks Q c Lt Mo Fi Rs h0 hS hD hN _ _ _ _ _
  have : ks = [] := List.eq_nil_of_length_eq_zero (by omega)
  subst this
  have hr : runs d (LL ([] : List ByteArray)) = [] := runs_nil d
  refine ⟨Lt, Mo, Fi, Rs, [], fun r h => ev_succ ?_, ?_, ?_, ?_, ?_, ?_, fun s hs => by cases hs⟩
  ·simp only [impl_sieveOf.l1]
   rw [List.append_nil] at h
   exact ev_neg (by simp) h
  all_goals simp [bra, hr, marks, Trie.conts]
 | succ m ih =>
  intro ks Q c Lt Mo Fi Rs h0 hS hD hN z1 z2 z3 z4 z5
  cases ks with
  | nil =>
   have hr : runs d (LL ([] : List ByteArray)) = [] := runs_nil d
   refine ⟨Lt, Mo, Fi, Rs, [], fun r h => ev_succ ?_, ?_, ?_, ?_, ?_, ?_, fun s hs => by cases hs⟩
   ·simp only [impl_sieveOf.l1]
    rw [List.append_nil] at h
    exact ev_neg (by simp) h
   all_goals simp [bra, hr, marks, Trie.conts]
  | cons s ks =>
   obtain ⟨f1, f2⟩ := frontN_run (d := d) (a := s) (t := ks)
   have hne : s :: ks ≠ [] := by simp
   have hfl := frontN_le (d := d) hne
   have hf1 : 1 ≤ frontN d (s :: ks) := by unfold frontN; omega
   have hk := hS.len
   simp only [List.length_cons] at hfl z1 z2 z3 z4 z5 h0 hk
   have hGl : ((s :: ks).take (frontN d (s :: ks))).length = frontN d (s :: ks) := by rw [List.length_take, List.length_cons]; omega
   have hrun : runs d (LL (s :: ks)) = LL ((s :: ks).take (frontN d (s :: ks))) :: runs d (LL ((s :: ks).drop (frontN d (s :: ks)))) := by
    have : LL (s :: ks) = L s :: LL ks := rfl
    rw [this, runs_cons, f1, f2]
   have hSd : Sm ((s :: ks).drop (frontN d (s :: ks))) := hS.sub (List.drop_sublist _ _)
   have hgsm : Sm ((s :: ks).take (frontN d (s :: ks))) := hS.sub (List.take_sublist _ _)
   have hDd : ∀ x ∈ (s :: ks).drop (frontN d (s :: ks)), d ≤ (L x).length := fun x hx => hD x (List.mem_of_mem_drop hx)
   have hld : ((s :: ks).drop (frontN d (s :: ks))).length + frontN d (s :: ks) = ks.length + 1 := by rw [List.length_drop, List.length_cons]; omega
   have hcat : ∀ {α : Type} (a : List α) (b : α) (e : List α), (a ++ [b]) ++ e = a ++ (b :: e) := fun a b e => by simp
   have hl2 := fun (r : ByteArray × ByteArray × ByteArray × List ByteArray × Int) (h3 : Ev (fun k => impl_sieveOf.l3 k Lt Mo Fi Rs Q (keep : Int) i (s :: ks) (d : Int) (c.toNat : Int) (frontN d (s :: ks) : Int)) r) => l2_ev (r := r) hS hne hD h3 (frontN d (s :: ks) - 1) 1 (Nat.le_refl _) hf1 rfl
   have hlabel := label_eq s d (hD s (by simp))
   have hg0 : rdOf ByteArray.empty (s :: ks) 0 = s := rfl
   generalize hn : frontN d (s :: ks) = n at *
   have hnt : ((n : Int)).toNat = n := by omega
   have hsz := size_L s
   have hss : s.size ≤ 1000 := hS.sz s (by simp)
   have hcond : Lt.size + 1 ≤ 140737488355328 ∧ Mo.size + 1 ≤ 140737488355328 ∧ Fi.size + 1 ≤ 140737488355328 ∧ 0 ≤ (n : Int) ∧ (n : Int) ≤ ((s :: ks).length : Int) ∧ 0 ≤ (d : Int) ∧ (d : Int) ≤ 1000000000 ∧ 0 ≤ (keep : Int) ∧ Q.length < 4398046511104 ∧ Rs.length < 8796093022208 := by
    refine ⟨by omega, by omega, by omega, by omega, by simp only [List.length_cons]; omega, by omega, by omega, by omega, by omega, by omega⟩
   by_cases q : 1 < n
   ·have hc : cont (LL ((s :: ks).take n)) = true := by simp only [cont, LL_length, hGl, decide_eq_true_eq]; omega
    have hNq : Nq ⟨(s :: ks).take n, wrap64 ((d : Int) + 1)⟩ := by
     rw [w64 (by omega) (by omega)]
     exact ⟨hgsm, by show (0 : Int) ≤ (d : Int) + 1; omega, by show (d : Int) + 1 ≤ 900; omega⟩
    obtain ⟨Lt', Mo', Fi', Rs', x6', e, a1, a2, a3, a4, a5, a6⟩ := ih ((s :: ks).drop n) (Q ++ [⟨(s :: ks).take n, wrap64 ((d : Int) + 1)⟩]) 48 (Lt.push (lab (L s) d)) (Mo.push 49) (Fi.push c) Rs (by omega) hSd hDd
     (fun y hy => by
      rcases List.mem_append.1 hy with hy | hy
      ·exact hN y hy
      ·rw [List.mem_singleton.1 hy]; exact hNq)
     (by rw [push_size]; omega) (by rw [push_size]; omega) (by rw [push_size]; omega) (by omega) (by simp only [List.length_append, List.length_cons, List.length_nil]; omega)
    refine ⟨Lt', Mo', Fi', Rs', ⟨(s :: ks).take n, wrap64 ((d : Int) + 1)⟩ :: x6', fun r h => ev_succ ?_, ?_, ?_, ?_, ?_, ?_, ?_⟩
    ·simp only [impl_sieveOf.l1]
     refine ev_pos (by simp only [List.length_cons]; omega) (hl2 r (ev_succ ?_))
     simp only [impl_sieveOf.l3]
     rw [hg0]
     refine ev_pos hcond (ev_bindc hlabel (ev_pos (by omega) ?_))
     rw [hnt, byte_back, byte_back]
     refine e r ?_
     rw [hcat]; exact h
    ·rw [a1, push_L]
     unfold bra
     rw [hrun, List.map_cons, List.map_cons, hcat]
     congr 2
     show _ = lab ((LL ((s :: ks).take n)).headD []) d
     rw [f1]; rfl
    ·rw [a2, push_L]
     unfold bra
     rw [hrun, List.map_cons, List.map_cons, hcat]
     congr 2
     show _ = bit (LL ((s :: ks).take n), d)
     unfold bit
     rw [if_pos hc]
    ·rw [a3, push_L, hrun, List.length_cons, marks_48]
     simp [marks]
    ·rw [a4]
     unfold bra
     rw [hrun, List.map_cons, List.filter_cons, if_neg (by simp [leaf, hc])]
    ·rw [List.map_cons, a5]
     unfold Trie.conts
     simp only []
     rw [hrun, List.filter_cons, if_pos hc, List.map_cons]
     congr 1
     show (LL ((s :: ks).take n), (wrap64 ((d : Int) + 1)).toNat) = _
     rw [w64 (by omega) (by omega)]
     congr 1
    ·intro y hy
     rcases List.mem_cons.1 hy with rfl | hy
     ·exact hNq
     ·exact a6 y hy
   ·have hc : cont (LL ((s :: ks).take n)) = false := by simp only [cont, LL_length, hGl, decide_eq_false_iff_not]; omega
    obtain ⟨Lt', Mo', Fi', Rs', x6', e, a1, a2, a3, a4, a5, a6⟩ := ih ((s :: ks).drop n) Q 48 (Lt.push (lab (L s) d)) (Mo.push 48) (Fi.push c) (Rs ++ [(s.extract (mn (wrap64 ((d : Int) + 1)) (s.size : Int)).toNat s.size).extract 0 (mn (keep : Int) ((s.extract (mn (wrap64 ((d : Int) + 1)) (s.size : Int)).toNat s.size).size : Int)).toNat]) (by omega) hSd hDd hN
     (by rw [push_size]; omega) (by rw [push_size]; omega) (by rw [push_size]; omega) (by simp only [List.length_append, List.length_cons, List.length_nil]; omega) (by omega)
    refine ⟨Lt', Mo', Fi', Rs', x6', fun r h => ev_succ ?_, ?_, ?_, ?_, ?_, ?_, a6⟩
    ·simp only [impl_sieveOf.l1]
     refine ev_pos (by simp only [List.length_cons]; omega) (hl2 r (ev_succ ?_))
     simp only [impl_sieveOf.l3]
     rw [hg0]
     refine ev_pos hcond (ev_bindc hlabel (ev_neg (by omega) ?_))
     rw [hnt, byte_back, byte_back]
     exact e r h
    ·rw [a1, push_L]
     unfold bra
     rw [hrun, List.map_cons, List.map_cons, hcat]
     congr 2
     show _ = lab ((LL ((s :: ks).take n)).headD []) d
     rw [f1]; rfl
    ·rw [a2, push_L]
     unfold bra
     rw [hrun, List.map_cons, List.map_cons, hcat]
     congr 2
     show _ = bit (LL ((s :: ks).take n), d)
     unfold bit
     rw [if_neg (by rw [hc]; simp)]
    ·rw [a3, push_L, hrun, List.length_cons, marks_48]
     simp [marks]
    ·rw [a4, LL_append]
     unfold bra
     rw [hrun, List.map_cons, List.filter_cons, if_pos (by simp [leaf, hc]), List.map_cons]
     have : ∀ x : ByteArray, LL [x] = [L x] := fun _ => rfl
     rw [this, hcat]
     congr 2
     show _ = (((LL ((s :: ks).take n)).headD []).drop (d + 1)).take keep
     rw [f1]
     show _ = ((L s).drop (d + 1)).take keep
     have e1 : mn (wrap64 ((d : Int) + 1)) (s.size : Int) = ((min (d + 1) s.size : Nat) : Int) := by
      rw [w64 (by omega) (by omega)]; exact mnk (d + 1) s.size
     rw [e1]
     have e2 : (((min (d + 1) s.size : Nat) : Int)).toNat = min (d + 1) s.size := by omega
     rw [e2, mnk]
     have e3 : ∀ z : Nat, ((z : Nat) : Int).toNat = z := fun z => by omega
     rw [e3, L_extract, L_extract, List.drop_zero, List.take_of_length_le (i := s.size) (by omega)]
     have e4 : (s.extract (min (d + 1) s.size) s.size).size = s.size - min (d + 1) s.size := by
      rw [size_L, L_extract, List.length_drop, List.length_take]; omega
     rw [e4]
     by_cases g : d + 1 ≤ s.size
     ·rw [Nat.min_eq_left g]
      by_cases g2 : keep ≤ s.size - (d + 1)
      ·rw [Nat.min_eq_left g2]
      ·rw [Nat.min_eq_right (by omega), List.take_of_length_le (by rw [List.length_drop]; omega), List.take_of_length_le (by rw [List.length_drop]; omega)]
     ·rw [Nat.min_eq_right (by omega), List.drop_eq_nil_of_le (by omega), List.drop_eq_nil_of_le (by omega)]
      simp
    ·rw [a5]
     unfold Trie.conts
     simp only []
     rw [hrun, List.filter_cons, if_neg (by rw [hc]; simp)]
theorem deep_of {x : Nd} {K : List Key} (hK : ∀ k ∈ K, KOk k) (hI : In K x) (hN : NOk x) : Deep x := fun k hk => Nat.le_trans (hI.dep_ge hK hN hk) (dep_le hK (hN.ok k hk))
theorem l0_ev (keep : Nat) {q X : List Nd} (hB : Bfs q X) : ∀ (Q : List S108) (i : Nat) (Lt Mo Fi : ByteArray) (Rs : List ByteArray), (Q.drop i).map ndq = q → i ≤ Q.length → (∀ s ∈ Q, Nq s) → (∀ x ∈ X, NOk x ∧ Deep x) →
  Lt.size + (brs X).length ≤ 900000 → Mo.size + (brs X).length ≤ 900000 → Fi.size + (brs X).length ≤ 900000 → Rs.length + (brs X).length ≤ 900000 → i + X.length ≤ 900000 →
  ∃ Lt' Mo' Fi' Rs', Ev (fun k => impl_sieveOf.l0 k Lt Mo Fi Rs Q (keep : Int) (i : Int)) (Lt', Mo', Fi', Rs', (keep : Int)) ∧
   L Lt' = L Lt ++ encL X ∧ L Mo' = L Mo ++ encM X ∧ L Fi' = L Fi ++ encF X ∧ LL Rs' = LL Rs ++ encR keep X := by
 induction hB with
 | nil =>
  intro Q i Lt Mo Fi Rs h0 hi _ _ _ _ _ _ _
  have : Q.drop i = [] := List.map_eq_nil_iff.1 h0
  have hl := congrArg List.length this
  rw [List.length_drop] at hl
  simp only [List.length_nil] at hl
  refine ⟨Lt, Mo, Fi, Rs, ev_succ ?_, ?_, ?_, ?_, ?_⟩
  ·simp only [impl_sieveOf.l0]
   exact ev_neg (by omega) (ev_some rfl)
  all_goals simp [encL, encM, encF, encR, brs]
 | cons hX ih =>
  rename_i x q X
  intro Q i Lt Mo Fi Rs h0 hi hN hO z1 z2 z3 z4 z5
  cases hQ : Q.drop i with
  | nil => rw [hQ] at h0; cases h0
  | cons s t =>
   rw [hQ, List.map_cons, List.cons.injEq] at h0
   obtain ⟨rfl, h0⟩ := h0
   have hlt : i < Q.length := by
    have := congrArg List.length hQ
    rw [List.length_drop] at this
    simp only [List.length_cons] at this
    omega
   have hsi : Q[i] = s ∧ Q.drop (i + 1) = t := by
    rw [List.drop_eq_getElem_cons hlt, List.cons.injEq] at hQ; exact hQ
   have hs := hN s (by rw [← hsi.1]; exact List.getElem_mem hlt)
   have hx := hO (ndq s) (by simp)
   have hd : s.f1 = ((ndq s).2 : Int) := by show s.f1 = (s.f1.toNat : Int); have := hs.low; omega
   have hd5 := hx.1.deep
   have hlen := hs.sm.len
   have hbl : (bra (ndq s)).length ≤ s.f0.length := by
    rw [bra_length]
    have := runs_length_le (ndq s).2 (ndq s).1
    have e : (ndq s).1.length = s.f0.length := LL_length _
    omega
   rw [brs_cons, List.length_append] at z1 z2 z3 z4
   rw [List.length_cons] at z5
   have hql := bfs_len hX
   rw [List.length_append, ← h0, List.length_map] at hql
   have htl : t.length + (i + 1) = Q.length := by
    have := congrArg List.length hsi.2
    rw [List.length_drop] at this; omega
   obtain ⟨Lt1, Mo1, Fi1, Rs1, n1, e1, a1, a2, a3, a4, a5, a6⟩ := l1_ev keep (ndq s).2 (by omega) (i : Int) s.f0.length s.f0 Q 49 Lt Mo Fi Rs (Nat.le_refl _) hs.sm (fun y hy => hx.2 (L y) (List.mem_map_of_mem hy)) hN (by omega) (by omega) (by omega) (by omega) (by omega)
   have hbr : (LL s.f0, (ndq s).2) = ndq s := rfl
   rw [hbr] at a1 a2 a4 a5
   have hsz : ∀ {a b : ByteArray} {l : List UInt8}, L a = L b ++ l → a.size = b.size + l.length := fun {a b l} h => by rw [size_L, size_L, h, List.length_append]
   have b1 := hsz a1
   have b2 := hsz a2
   have b3 := hsz a3
   have b4 : Rs1.length = Rs.length + (((bra (ndq s)).filter leaf).map (rest keep)).length := by rw [← LL_length, a4, List.length_append, LL_length]
   rw [List.length_map] at b1 b2 b4
   have b6 : (marks 49 (runs (ndq s).2 (LL s.f0)).length).length = (bra (ndq s)).length := by rw [marks_49, fst1_length, bra_length]; rfl
   have b7 := List.length_filter_le leaf (bra (ndq s))
   obtain ⟨Lt', Mo', Fi', Rs', e2, c1, c2, c3, c4⟩ := ih (Q ++ n1) (i + 1) Lt1 Mo1 Fi1 Rs1 (by rw [List.drop_append_of_le_length (by omega), hsi.2, List.map_append, h0, a5]) (by rw [List.length_append]; omega)
    (fun y hy => by
     rcases List.mem_append.1 hy with hy | hy
     ·exact hN y hy
     ·exact a6 y hy)
    (fun y hy => hO y (by simp [hy])) (by omega) (by omega) (by omega) (by omega) (by omega)
   refine ⟨Lt', Mo', Fi', Rs', ev_succ ?_, ?_, ?_, ?_, ?_⟩
   ·simp only [impl_sieveOf.l0]
    have hr : rd_T108 Q (i : Int) = s := by
     show Q.getD i z108 = s
     rw [getD_lt _ hlt]; exact hsi.1
    rw [hr, hd]
    refine ev_pos (by omega) (ev_pos (by omega) (e1 _ ?_))
    rw [w64 (by omega) (by omega)]
    exact e2
   ·rw [c1, a1, List.append_assoc]; unfold encL; rw [brs_cons, List.map_append]
   ·rw [c2, a2, List.append_assoc]; unfold encM; rw [brs_cons, List.map_append]
   ·rw [c3, a3, List.append_assoc, marks_49]; unfold encF; rw [List.flatMap_cons]; rfl
   ·rw [c4, a4, List.append_assoc]; unfold encR; rw [brs_cons, List.filter_append, List.map_append]
theorem isKeep_eq (a : Int) : impl_isKeep.f a = some (decide (keepOk a)) := by
 unfold impl_isKeep.f
 rw [impl_in_eq]; rfl
theorem impl_SieveOf_ev (l : List ByteArray) (hl : SzL l) (a : Int) : Ev (fun k => impl_SieveOf.f k l a) (sieveV (LL l) a) := by
 unfold impl_SieveOf.f sieveV
 refine Ev.bind (impl_KeysOk_ev l hl) ?_
 by_cases c : keysB (LL l) = true
 ·refine ev_pos c (ev_bindc (isKeep_eq a) ?_)
  by_cases g : keepOk a
  ·rw [if_pos ⟨c, g⟩]
   refine ev_pos (decide_eq_true g) ?_
   have hk := keysB_iff.1 c
   obtain ⟨hL, hX⟩ := lvls_is hk
   have hfew := hk.few
   have hb := brs_few hL hfew hX
   obtain ⟨keep, rfl⟩ : ∃ n : Nat, a = (n : Int) := ⟨a.toNat, by have := g.1; omega⟩
   obtain ⟨Lt, Mo, Fi, Rs, e, a1, a2, a3, a4⟩ := l0_ev keep hL.bfs [⟨l, 0⟩] 0 (⟨#[]⟩ : ByteArray) (⟨#[]⟩ : ByteArray) (⟨#[]⟩ : ByteArray) [] rfl (by simp)
    (fun s hs => by
     rw [List.mem_singleton.1 hs]
     exact ⟨ksok_sm hk, by show (0 : Int) ≤ 0; omega, by show (0 : Int) ≤ 900; omega⟩)
    (fun x hx => ⟨(hL.nodes x hx).2, deep_of hk.ok (hL.nodes x hx).1 (hL.nodes x hx).2⟩) (by show 0 + _ ≤ _; omega) (by show 0 + _ ≤ _; omega) (by show 0 + _ ≤ _; omega) (by show 0 + _ ≤ _; omega) (by omega)
   refine Ev.bind (a := (Lt, Mo, Fi, Rs, (keep : Int))) (by unfold impl_sieveOf.f; exact e) (ev_some (encT_of ?_ ?_ ?_ ?_))
   ·rw [a1]; rfl
   ·rw [a2]; rfl
   ·rw [a3]; rfl
   ·rw [a4]; rfl
  ·rw [if_neg (fun h => g h.2)]
   exact ev_neg (by simp [g]) (ev_some rfl)
 ·refine ev_neg c ?_
  rw [if_neg (fun h => c h.1)]
  exact ev_some rfl
structure Fm (Lt Mo Fi : ByteArray) (Rs : List ByteArray) (n : Nat) : Prop where
 ln : (L Lt).length = n
 mn : (L Mo).length = n
 fn : (L Fi).length = n
 few : n ≤ 400
 mb : (L Mo).all bitc = true
 fb : (L Fi).all bitc = true
 rs : Rs.length = n - onesB (L Mo) n
 sz : ∀ s ∈ Rs, s.size ≤ 1048576
theorem bit_or {l : List UInt8} (h : l.all bitc = true) {i : Nat} (hi : i < l.length) : l.getD i 0 = 48 ∨ l.getD i 0 = 49 := by
 rw [getD_lt _ hi]
 have := List.all_eq_true.1 h _ (List.getElem_mem hi)
 simpa [bitc] using this
theorem pos_succ_ge : ∀ (l : List UInt8) (m : Nat), pos l m < l.length → pos l m + 1 ≤ pos l (m + 1) := by
 intro l
 induction l with
 | nil => intro m h; simp [pos] at h
 | cons c l ih =>
  intro m h
  unfold pos at h ⊢
  simp only [List.length_cons] at h
  by_cases q : c = 49
  ·rw [if_pos q] at h ⊢
   rw [if_pos q, if_neg (show ¬ m + 1 = 0 by omega)]
   by_cases z : m = 0
   ·rw [if_pos z]; omega
   ·rw [if_neg z] at h ⊢
    have e : m + 1 - 1 = (m - 1) + 1 := by omega
    have := ih (m - 1) (by omega)
    rw [e]; omega
  ·rw [if_neg q] at h ⊢
   rw [if_neg q]
   have := ih m (by omega)
   omega
theorem between : ∀ (l : List UInt8) (m i : Nat), pos l m < i → i < pos l (m + 1) → l.getD i 0 ≠ 49 := by
 intro l
 induction l with
 | nil => intro m i h1 h2; simp [pos] at h2
 | cons c l ih =>
  intro m i h1 h2
  unfold pos at h1 h2
  cases i with
  | zero => omega
  | succ i =>
   rw [List.getD_cons_succ]
   by_cases q : c = 49
   ·rw [if_pos q] at h1 h2
    rw [if_neg (show ¬ m + 1 = 0 by omega)] at h2
    by_cases z : m = 0
    ·subst z
     have h3 : i < pos l 0 := by
      simp at h2
      omega
     clear h1 h2 ih
     intro hq
     have : ∀ (l : List UInt8) (i : Nat), i < pos l 0 → l.getD i 0 ≠ 49 := by
      intro l
      induction l with
      | nil => intro i h; simp [pos] at h
      | cons c l ih =>
       intro i h
       unfold pos at h
       by_cases q : c = 49
       ·rw [if_pos q, if_pos rfl] at h; omega
       ·rw [if_neg q] at h
        cases i with
        | zero => simpa using q
        | succ i => rw [List.getD_cons_succ]; exact ih i (by omega)
     exact this l i h3 hq
    ·rw [if_neg z] at h1
     have e : m + 1 - 1 = (m - 1) + 1 := by omega
     rw [e] at h2
     exact ih (m - 1) i (by omega) (by omega)
   ·rw [if_neg q] at h1 h2
    exact ih m i (by omega) (by omega)
section
variable {Lt Mo Fi : ByteArray} {Rs : List ByteArray} {keep : Int} {n : Nat}
theorem branches_l0 (h : Fm Lt Mo Fi Rs n) (m : Nat) (hm : pos (L Fi) m < n) (d : Nat) : ∀ i : Nat, pos (L Fi) m < i → i ≤ pos (L Fi) (m + 1) → pos (L Fi) (m + 1) - i = d →
  Ev (fun k => impl_Sieve_branches.l0 k ((pos (L Fi) m : Nat) : Int) (i : Int) Lt Mo Fi Rs keep) (((pos (L Fi) m : Nat) : Int), ((pos (L Fi) (m + 1) : Nat) : Int)) := by
 have hf := h.fn
 have hs := size_L Fi
 have hle := pos_le (L Fi) (m + 1)
 have hfew := h.few
 induction d with
 | zero =>
  intro i h1 h2 h3
  have e : i = pos (L Fi) (m + 1) := by omega
  refine ev_succ ?_
  simp only [impl_Sieve_branches.l0]
  by_cases c : i < n
  ·have h1' := (pos_one (L Fi) (m + 1) (by omega)).1
   refine ev_pos (by omega) (ev_pos (by omega) (ev_neg ?_ (ev_some (by rw [e]))))
   rw [bt_L, e, h1']
   decide
  ·exact ev_neg (by omega) (ev_some (by rw [e]))
 | succ d ih =>
  intro i h1 h2 h3
  have hlt : i < n := by omega
  refine ev_succ ?_
  simp only [impl_Sieve_branches.l0]
  have hz : (L Fi).getD i 0 = 48 := by
   rcases bit_or h.fb (show i < (L Fi).length by omega) with q | q
   ·exact q
   ·exact absurd q (between _ _ _ h1 (by omega))
  refine ev_pos (by omega) (ev_pos (by omega) (ev_pos ?_ ?_))
  ·rw [bt_L, hz]; rfl
  ·rw [w64 (by omega) (by omega)]
   exact ih (i + 1) (by omega) (by omega) (by omega)
def brI (F : List UInt8) (m : Nat) : Int × Int := if pos F m < F.length then (((pos F m : Nat) : Int), ((pos F (m + 1) : Nat) : Int)) else (0, 0)
theorem branches_ev (h : Fm Lt Mo Fi Rs n) (m : Nat) (hm : m ≤ 1000000) : Ev (fun k => impl_Sieve_branches.f k Lt Mo Fi Rs keep (m : Int)) (brI (L Fi) m) := by
 unfold impl_Sieve_branches.f brI
 have hf := h.fn
 have hs := size_L Fi
 have hfew := h.few
 refine Ev.bind (impl_one_ev Fi (by omega) m (by omega)) ?_
 unfold oneI
 by_cases c : pos (L Fi) m < (L Fi).length
 ·rw [if_pos c, if_pos c]
  refine ev_neg (by omega) ?_
  rw [w64 (by omega) (by omega)]
  exact branches_l0 h m (by omega) _ (pos (L Fi) m + 1) (by omega) (pos_succ_ge _ _ c) rfl
 ·rw [if_neg c, if_neg c]
  exact ev_pos (by omega) (ev_some rfl)
theorem one_L : L (⟨#[49]⟩ : ByteArray) = [49] := rfl
theorem nought_L : L (⟨#[48]⟩ : ByteArray) = [48] := rfl
theorem node_eq (h : Fm Lt Mo Fi Rs n) (i : Nat) (hi : i < n) : impl_Sieve_node.f Lt Mo Fi Rs keep (i : Int) = some ((onesB (L Mo) (i + 1) : Nat) : Int) := by
 unfold impl_Sieve_node.f
 have hf := h.mn
 have hs := size_L Mo
 have hfew := h.few
 rw [w64 (by omega) (by omega), if_pos (by omega), if_pos (by omega), count_L one_L]
 simp only [Option.bind_some]
 rw [L_extract]
 have : ((i : Int) + 1).toNat = i + 1 := by omega
 rw [this, List.drop_zero, onesB_count]
theorem noughts : ∀ (l : List UInt8), l.all bitc = true → ∀ i, i ≤ l.length → (l.take i).count 48 = i - onesB l i := by
 intro l hl i hi
 have h1 : ∀ (l : List UInt8), l.all bitc = true → l.count 48 + l.countP (· == 49) = l.length := by
  intro l
  induction l with
  | nil => intro _; rfl
  | cons c l ih =>
   intro h
   rw [List.all_cons, Bool.and_eq_true] at h
   have := ih h.2
   have hc : c = 48 ∨ c = 49 := by simpa [bitc] using h.1
   rcases hc with rfl | rfl <;> simp <;> omega
 have h2 := h1 (l.take i) (by
  rw [List.all_eq_true] at hl ⊢
  exact fun x hx => hl x (List.mem_of_mem_take hx))
 rw [List.length_take, Nat.min_eq_left hi] at h2
 unfold onesB
 omega
theorem rest_eq (h : Fm Lt Mo Fi Rs n) (i : Nat) (hi : i < n) (h48 : (L Mo).getD i 0 = 48) : impl_Sieve_rest.f Lt Mo Fi Rs keep (i : Int) = some (Rs.getD (i - onesB (L Mo) i) ByteArray.empty) ∧ i - onesB (L Mo) i < Rs.length := by
 have hf := h.mn
 have hs := size_L Mo
 have hfew := h.few
 have hlt : i - onesB (L Mo) i < Rs.length := by
  rw [h.rs]
  have h1 := noughts (L Mo) h.mb i (by omega)
  have h2 := noughts (L Mo) h.mb n (by omega)
  have h3 := noughts (L Mo) h.mb (i + 1) (by omega)
  rw [← h1, ← h2]
  have e : (L Mo).take (i + 1) = (L Mo).take i ++ [48] := by
   rw [List.take_succ_eq_append_getElem (by omega)]
   congr 1
   rw [getD_lt _ (by omega)] at h48
   rw [h48]
  have h4 : ((L Mo).take (i + 1)).count 48 = ((L Mo).take i).count 48 + 1 := by rw [e, List.count_append]; rfl
  have h5 : ((L Mo).take (i + 1)).count 48 ≤ ((L Mo).take n).count 48 := (List.IsPrefix.sublist (List.take_prefix_take_left (by omega))).count_le 48
  omega
 refine ⟨?_, hlt⟩
 unfold impl_Sieve_rest.f
 rw [if_pos (by omega), if_pos (by omega), count_L nought_L]
 simp only [Option.bind_some]
 rw [L_extract]
 have : ((i : Int)).toNat = i := by omega
 rw [this, List.drop_zero, noughts (L Mo) h.mb i (by omega), if_pos (by omega), if_pos (by omega)]
 rfl
theorem complete_eq (h : Fm Lt Mo Fi Rs n) (i : Nat) (hi : i < n) (h48 : (L Mo).getD i 0 = 48) : impl_Sieve_complete.f Lt Mo Fi Rs keep (i : Int) = some (decide ((L Lt).getD i 0 = 45 ∨ ((L (Rs.getD (i - onesB (L Mo) i) ByteArray.empty)).length : Int) < keep)) := by
 unfold impl_Sieve_complete.f
 have hf := h.ln
 have hs := size_L Lt
 rw [if_pos (by omega), if_pos (by omega)]
 have hb : bt Lt (i : Int) = 45 ↔ (L Lt).getD i 0 = 45 := bt_is (n := 45) (by omega)
 by_cases c : (L Lt).getD i 0 = 45
 ·rw [if_pos (hb.2 c), decide_eq_true (.inl c)]
 ·rw [if_neg (fun q => c (hb.1 q)), (rest_eq h i hi h48).1]
  simp only [Option.bind_some]
  rw [size_L]
  congr 1
  rw [Bool.eq_iff_iff, decide_eq_true_eq, decide_eq_true_eq]
  exact ⟨.inr, fun q => q.elim (fun q => absurd q c) id⟩
end
theorem cut_one (a : ByteArray) {i : Nat} (hi : i < (L a).length) : L (a.extract ((i : Int)).toNat ((i : Int) + 1).toNat) = [(L a).getD i 0] := by
 rw [L_extract, getD_lt _ hi]
 have e1 : ((i : Int)).toNat = i := by omega
 have e2 : ((i : Int) + 1).toNat = i + 1 := by omega
 rw [e1, e2, List.drop_take, List.drop_eq_getElem_cons hi]
 have : i + 1 - i = 1 := by omega
 rw [this]; rfl
theorem cut_one_size (a : ByteArray) {i : Nat} (hi : i < (L a).length) : (a.extract ((i : Int)).toNat ((i : Int) + 1).toNat).size = 1 := by rw [size_L, cut_one a hi]; rfl
section
variable {Lt Mo Fi : ByteArray} {Rs : List ByteArray} {keep : Int} {n : Nat}
def cost (Mo Fi : ByteArray) (t a b : Nat) : Nat := rsum (wgt (L Mo) (L Fi) t) a b
theorem cost_leaf {t a b : Nat} (h : a < b) (h48 : (L Mo).getD a 0 = 48) : cost Mo Fi (t + 1) a b = 1 + cost Mo Fi (t + 1) (a + 1) b := by
 unfold cost
 rw [rsum_step _ h]
 congr 1
 show (if (L Mo).getD a 0 = 49 then _ else 1) = 1
 rw [if_neg (by rw [h48]; decide)]
theorem cost_node {t a b : Nat} (h : a < b) (h49 : (L Mo).getD a 0 = 49) : cost Mo Fi (t + 1) a b = cost Mo Fi t (pos (L Fi) (onesB (L Mo) (a + 1))) (pos (L Fi) (onesB (L Mo) (a + 1) + 1)) + cost Mo Fi (t + 1) (a + 1) b := by
 unfold cost
 rw [rsum_step _ h]
 congr 1
 show (if (L Mo).getD a 0 = 49 then _ else 1) = _
 rw [if_pos h49]
def Ts (l : List S93) : Prop := ∀ s ∈ l, s.f0.size ≤ 2000000
theorem Ts.snoc {l : List S93} (h : Ts l) {s : S93} (hs : s.f0.size ≤ 2000000) : Ts (l ++ [s]) := fun x hx => by
 rcases List.mem_append.1 hx with hx | hx
 ·exact h x hx
 ·rw [List.mem_singleton.1 hx]; exact hs
def PartsP (Lt Mo Fi : ByteArray) (Rs : List ByteArray) (keep : Int) (n t : Nat) : Prop :=
 ∀ (m : Nat) (way : ByteArray) (out : List S93), m ≤ 1000000 → pos (L Fi) m < n → n - pos (L Fi) m < t → way.size ≤ 1000 → out.length + cost Mo Fi t (pos (L Fi) m) (pos (L Fi) (m + 1)) ≤ 1000000 → Ts out →
  ∃ r, Ev (fun k => impl_Sieve_parts.f k Lt Mo Fi Rs keep (m : Int) way out) r ∧ (r.2 = true → r.1.length ≤ out.length + cost Mo Fi t (pos (L Fi) m) (pos (L Fi) (m + 1)) ∧ Ts r.1)
theorem parts_l0 (h : Fm Lt Mo Fi Rs n) (t tq : Nat) (hto : tq ≤ n) (hP : PartsP Lt Mo Fi Rs keep n t) (way : ByteArray) (hw : way.size ≤ 5) (d : Nat) : ∀ (i : Nat) (out : List S93), i ≤ tq → tq - i = d → n - i ≤ t → out.length + cost Mo Fi (t + 1) i tq ≤ 1000000 → Ts out →
  ∃ r, Ev (fun k => impl_Sieve_parts.l0 k way out (tq : Int) (i : Int) Lt Mo Fi Rs keep) r ∧ (r.2 = true → r.1.length ≤ out.length + cost Mo Fi (t + 1) i tq ∧ Ts r.1) := by
 have hfew := h.few
 have s1 := size_L Lt
 have s2 := size_L Mo
 have h1l := h.ln
 have h2l := h.mn
 induction d with
 | zero =>
  intro i out g1 g2 g3 g4 g5
  refine ⟨(out, true), ev_succ ?_, fun _ => ⟨by show out.length ≤ _; omega, g5⟩⟩
  simp only [impl_Sieve_parts.l0]
  exact ev_neg (by omega) (ev_some rfl)
 | succ d ih =>
  intro i out g1 g2 g3 g4 g5
  have hlt : i < tq := by omega
  have hin : i < n := by omega
  have hw64 : ∀ _ : Unit, wrap64 ((i : Int) + 1) = ((i + 1 : Nat) : Int) := fun _ => by rw [w64 (by omega) (by omega)]; omega
  have key : ∀ way' : ByteArray, way'.size ≤ 6 → ∃ r, Ev (fun k => impl_Sieve_parts.j1 k way out (tq : Int) (i : Int) way' Lt Mo Fi Rs keep) r ∧ (r.2 = true → r.1.length ≤ out.length + cost Mo Fi (t + 1) i tq ∧ Ts r.1) := by
   intro way' hw'
   rcases bit_or h.mb (show i < (L Mo).length by omega) with h48 | h49
   ·have hc := cost_leaf (Mo := Mo) (Fi := Fi) (t := t) hlt h48
    have hb : bt Mo (i : Int) = 48 := (bt_is (n := 48) (by omega)).2 h48
    obtain ⟨hr1, hr2⟩ := rest_eq (keep := keep) h i hin h48
    have hrs := h.sz _ (show Rs.getD (i - onesB (L Mo) i) ByteArray.empty ∈ Rs by rw [getD_lt _ hr2]; exact List.getElem_mem _)
    have hcm := complete_eq (keep := keep) h i hin h48
    generalize Rs.getD (i - onesB (L Mo) i) ByteArray.empty = rv at hr1 hrs hcm
    generalize decide ((L Lt).getD i 0 = 45 ∨ ((L rv).length : Int) < keep) = cv at hcm
    obtain ⟨r, hr, hb2⟩ := ih (i + 1) (out ++ [⟨way' ++ rv, cv⟩]) (by omega) (by omega) (by omega) (by rw [List.length_append]; simp only [List.length_cons, List.length_nil]; omega) (g5.snoc (by show (way' ++ rv).size ≤ _; rw [ByteArray.size_append]; omega))
    refine ⟨r, ev_succ ?_, fun q => ⟨by have := (hb2 q).1; rw [List.length_append] at this; simp only [List.length_cons, List.length_nil] at this; omega, (hb2 q).2⟩⟩
    simp only [impl_Sieve_parts.j1]
    refine ev_pos (by omega) (ev_pos (by omega) (ev_pos hb ?_))
    simp only [hr1, Option.bind_some]
    refine ev_pos (by omega) ?_
    simp only [hcm, Option.bind_some]
    refine ev_pos (by omega) ?_
    rw [hw64 ()]; exact hr
   ·have hc := cost_node (Mo := Mo) (Fi := Fi) (t := t) hlt h49
    have hb : ¬ bt Mo (i : Int) = 48 := fun q => by
     have := (bt_is (n := 48) (by omega)).1 q
     rw [h49] at this; exact absurd this (by decide)
    have hno : ∀ b : Bool, b = true → Ev (fun k => impl_Sieve_parts.j2 k way out (tq : Int) (i : Int) way' b Lt Mo Fi Rs keep) ([], false) := by
     intro b hb
     refine ev_succ ?_
     simp only [impl_Sieve_parts.j2]
     exact ev_pos hb (ev_some rfl)
    have hone := onesB_le (L Mo) (i + 1)
    have hbr := branches_ev (keep := keep) h (onesB (L Mo) (i + 1)) (by omega)
    have hno' : ∀ b : Bool, b = true → ∃ r, Ev (fun k => impl_Sieve_parts.j2 k way out (tq : Int) (i : Int) way' b Lt Mo Fi Rs keep) r ∧ (r.2 = true → r.1.length ≤ out.length + cost Mo Fi (t + 1) i tq ∧ Ts r.1) := fun b hb => ⟨_, hno b hb, fun q => by cases q⟩
    have hj : ∃ r, Ev (fun k => (if (brI (L Fi) (onesB (L Mo) (i + 1))).1 ≤ (i : Int) then (impl_Sieve_parts.j2 k way out (tq : Int) (i : Int) way' true Lt Mo Fi Rs keep) else (if (i : Int) < (Lt.size : Int) then (impl_Sieve_parts.j2 k way out (tq : Int) (i : Int) way' ((bt Lt (i : Int)) == 45) Lt Mo Fi Rs keep) else none))) r ∧ (r.2 = true → r.1.length ≤ out.length + cost Mo Fi (t + 1) i tq ∧ Ts r.1) := by
     by_cases c : (brI (L Fi) (onesB (L Mo) (i + 1))).1 ≤ (i : Int)
     ·obtain ⟨r, h1, h2⟩ := hno' true rfl
      exact ⟨r, ev_pos c h1, h2⟩
     ·by_cases c2 : ((bt Lt (i : Int)) == 45) = true
      ·obtain ⟨r, h1, h2⟩ := hno' _ c2
       exact ⟨r, ev_neg c (ev_pos (by omega) h1), h2⟩
      ·have hpos : pos (L Fi) (onesB (L Mo) (i + 1)) < n := by
        by_cases z : pos (L Fi) (onesB (L Mo) (i + 1)) < (L Fi).length
        ·have := h.fn; omega
        ·unfold brI at c
         rw [if_neg z] at c
         exact absurd (show (0 : Int) ≤ (i : Int) by omega) c
       have hgt : i < pos (L Fi) (onesB (L Mo) (i + 1)) := by
        unfold brI at c
        rw [if_pos (by have := h.fn; omega)] at c
        simp only at c; omega
       obtain ⟨r1, e1, b1⟩ := hP (onesB (L Mo) (i + 1)) way' out (by omega) hpos (by omega) (by omega) (by omega) g5
       have hfin : ∃ r, Ev (fun k => impl_Sieve_parts.j2 k way out (tq : Int) (i : Int) way' ((bt Lt (i : Int)) == 45) Lt Mo Fi Rs keep) r ∧ (r.2 = true → r.1.length ≤ out.length + cost Mo Fi (t + 1) i tq ∧ Ts r.1) := by
        by_cases q : r1.2 = true
        ·obtain ⟨b1', b1''⟩ := b1 q
         obtain ⟨r, hr, hb2⟩ := ih (i + 1) r1.1 (by omega) (by omega) (by omega) (by omega) b1''
         refine ⟨r, ev_succ ?_, fun q2 => ⟨by have := (hb2 q2).1; omega, (hb2 q2).2⟩⟩
         simp only [impl_Sieve_parts.j2]
         refine ev_neg c2 (ev_bindc (node_eq h i hin) (Ev.bind e1 (ev_pos q ?_)))
         rw [hw64 ()]; exact hr
        ·refine ⟨([], false), ev_succ ?_, fun q2 => by cases q2⟩
         simp only [impl_Sieve_parts.j2]
         exact ev_neg c2 (ev_bindc (node_eq h i hin) (Ev.bind e1 (ev_neg q (ev_some rfl))))
       obtain ⟨r, h1, h2⟩ := hfin
       exact ⟨r, ev_neg c (ev_pos (by omega) h1), h2⟩
    obtain ⟨r, h1, h2⟩ := hj
    refine ⟨r, ev_succ ?_, h2⟩
    simp only [impl_Sieve_parts.j1]
    exact ev_pos (by omega) (ev_pos (by omega) (ev_neg hb (ev_bindc (node_eq h i hin) (Ev.bind hbr h1))))
  by_cases c : bt Lt (i : Int) = 45
  ·obtain ⟨r, h1, h2⟩ := key way (by omega)
   refine ⟨r, ev_succ ?_, h2⟩
   simp only [impl_Sieve_parts.l0]
   exact ev_pos (by omega) (ev_pos (by omega) (ev_pos (by omega) (ev_pos c h1)))
  ·have hz := cut_one_size Lt (show i < (L Lt).length by omega)
   have hw64' : ∀ _ : Unit, wrap64 ((i : Int) + 1) = (i : Int) + 1 := fun _ => w64 (by omega) (by omega)
   obtain ⟨r, h1, h2⟩ := key (way ++ Lt.extract ((i : Int)).toNat ((i : Int) + 1).toNat) (by rw [ByteArray.size_append]; omega)
   refine ⟨r, ev_succ ?_, h2⟩
   simp only [impl_Sieve_parts.l0]
   rw [hw64' ()]
   exact ev_pos (by omega) (ev_pos (by omega) (ev_pos (by omega) (ev_neg c (ev_pos (by omega) (ev_pos (by omega) (ev_pos (by omega) h1))))))
theorem parts_P (h : Fm Lt Mo Fi Rs n) : ∀ t, PartsP Lt Mo Fi Rs keep n t := by
 have hfew := h.few
 intro t
 induction t with
 | zero => intro m way out _ g1 g2; omega
 | succ t ih =>
  intro m way out hm g1 g2 g3 g4 g5
  have hbr := branches_ev (keep := keep) h m hm
  unfold brI at hbr
  rw [if_pos (by have := h.fn; omega)] at hbr
  by_cases c : (way.size : Int) > 5
  ·refine ⟨([], false), ev_succ ?_, fun q => by cases q⟩
   simp only [impl_Sieve_parts.f]
   exact ev_pos c (ev_some rfl)
  ·have hto : pos (L Fi) (m + 1) ≤ n := by have := pos_le (L Fi) (m + 1); have := h.fn; omega
   have hle := pos_mono (L Fi) (show m ≤ m + 1 by omega)
   obtain ⟨r, e1, b1⟩ := parts_l0 h t (pos (L Fi) (m + 1)) hto ih way (by omega) _ (pos (L Fi) m) out hle rfl (by omega) g4 g5
   refine ⟨r, ev_succ ?_, b1⟩
   simp only [impl_Sieve_parts.f]
   exact ev_neg c (Ev.bind hbr e1)
theorem parts_any (h : Fm Lt Mo Fi Rs n) : ∃ r, Ev (fun k => impl_Sieve_parts.f k Lt Mo Fi Rs keep 0 (⟨#[]⟩ : ByteArray) []) r ∧ (r.2 = true → r.1.length ≤ 1000000 ∧ Ts r.1) := by
 have hfew := h.few
 by_cases c : pos (L Fi) 0 < n
 ·have hcost : cost Mo Fi (n + 1) (pos (L Fi) 0) (pos (L Fi) (0 + 1)) ≤ (n + 1) * n := wgt_all _ _ h.mn h.fn _ _ _ (by have := pos_le (L Fi) (0 + 1); have := h.fn; omega)
  have h400 : (n + 1) * n ≤ 401 * 400 := Nat.mul_le_mul (by omega) (by omega)
  obtain ⟨r, e, b⟩ := parts_P (keep := keep) h (n + 1) 0 (⟨#[]⟩ : ByteArray) [] (by omega) c (by omega) (by show 0 ≤ 1000; omega) (by simp only [List.length_nil]; omega) (fun s hs => by cases hs)
  exact ⟨r, e, fun q => ⟨by have := (b q).1; simp only [List.length_nil] at this; omega, (b q).2⟩⟩
 ·refine ⟨([], true), ev_succ ?_, fun _ => ⟨by simp, fun s hs => by cases hs⟩⟩
  have hbr := branches_ev (keep := keep) h 0 (by omega)
  unfold brI at hbr
  rw [if_neg (by have := h.fn; omega)] at hbr
  simp only [impl_Sieve_parts.f]
  refine ev_neg (by show ¬ ((0 : Nat) : Int) > 5; omega) (Ev.bind hbr (ev_succ ?_))
  simp only [impl_Sieve_parts.l0]
  exact ev_neg (by omega) (ev_some rfl)
end
end Go.Proofs.Ytifgcajpkgamgaa.Pb
end
