/- What the law FnKeysBoth needs, part 5: the kit's printed words, the printed functions with their proofs, and plain facts on them. -/
import Derived.Test.YtonagfbadoacjaaBFnKeysBothd
section
set_option linter.unusedVariables false
set_option linter.unusedSimpArgs false
namespace Go.Proofs.Ytonagfbadoacjaa.Pb
open Go Go.RowKit Go.Proofs.YtonagfbadoacjaaW.PrintWords Go.Proofs.YtonagfbadoacjaaW.PrintLast Go.Proofs.YtonagfbadoacjaaW.PrintMore Go.Proofs.Ytonagfbadoacjaa.Trie Go.Proofs.Ytonagfbadoacjaa.Q
def bitsOnesI (l : List UInt8) (a : Int) : Int := if bitsB l = true ∧ 0 ≤ a ∧ a ≤ l.length then (onesB l a.toNat : Int) else -1
def bitsOneI (l : List UInt8) (n : Int) : Int × Bool := if bitsB l = true ∧ 0 ≤ n ∧ pos l n.toNat < l.length then ((pos l n.toNat : Int), true) else (0, false)
theorem many_ev (C : Nat) (hC : C ≤ 1000000) : ∀ (n : Nat) (x0 x5 : ByteArray), n ≤ 1000000 → (1 ≤ n → x0.size ≤ C) → x5.size + n * x0.size ≤ C →
    ∃ r, Ev (fun k => spec_l6Many.l0 k x0 (n : Int) x5) r ∧ r.size ≤ C := by
  intro n
  induction n using Nat.strongRecOn with
  | _ n ih =>
    intro x0 x5 hn h0 h1
    by_cases c : (n : Int) > 0
    · have h0' := h0 (by omega)
      have hsz : (x0 ++ x0).size = x0.size + x0.size := ByteArray.size_append
      have hd : wrap64 (Int.tdiv (n : Int) 2) = ((n / 2 : Nat) : Int) := by
        rw [Int.tdiv_eq_ediv_of_nonneg (by omega)]
        unfold wrap64
        omega
      have hnC : n ≤ C ∨ x0.size = 0 := by
        by_cases z : x0.size = 0
        · exact .inr z
        · exact .inl (by have : n ≤ n * x0.size := Nat.le_mul_of_pos_right n (by omega); omega)
      have hmul : (n / 2) * (x0.size + x0.size) ≤ n * x0.size := by
        have : (n / 2) * 2 ≤ n := Nat.div_mul_le_self n 2
        calc (n / 2) * (x0.size + x0.size) = ((n / 2) * 2) * x0.size := by rw [Nat.mul_assoc, Nat.two_mul]
          _ ≤ n * x0.size := Nat.mul_le_mul_right _ this
      have hb : 1 ≤ n / 2 → x0.size + x0.size ≤ C := by
        intro q
        have : 1 * (x0.size + x0.size) ≤ (n / 2) * (x0.size + x0.size) := Nat.mul_le_mul_right _ q
        omega
      by_cases od : Int.tmod (n : Int) 2 = 1
      · have hodd : n * x0.size = (n / 2) * (x0.size + x0.size) + x0.size := by
          rw [Int.tmod_eq_emod_of_nonneg (by omega)] at od
          have : n = (n / 2) * 2 + 1 := by omega
          conv => lhs; rw [this]
          rw [Nat.add_mul, Nat.mul_assoc, Nat.two_mul, Nat.one_mul]
        have hsz2 : (x5 ++ x0).size = x5.size + x0.size := ByteArray.size_append
        obtain ⟨r, hr, hs⟩ := ih (n / 2) (by omega) (x0 ++ x0) (x5 ++ x0) (by omega) (by rw [hsz]; exact hb) (by rw [hsz, hsz2]; omega)
        refine ⟨r, ev_succ ?_, hs⟩
        simp only [spec_l6Many.l0]
        refine ev_pos c (ev_pos od (ev_pos (by omega) (ev_pos (by omega) ?_)))
        rw [hd]; exact hr
      · obtain ⟨r, hr, hs⟩ := ih (n / 2) (by omega) (x0 ++ x0) x5 (by omega) (by rw [hsz]; exact hb) (by rw [hsz]; omega)
        refine ⟨r, ev_succ ?_, hs⟩
        simp only [spec_l6Many.l0]
        refine ev_pos c (ev_neg od (ev_pos (by omega) ?_))
        rw [hd]; exact hr
    · refine ⟨x5, ev_succ ?_, by omega⟩
      simp only [spec_l6Many.l0]
      exact ev_neg c (ev_some rfl)
end Go.Proofs.Ytonagfbadoacjaa.Pb
end
section
namespace Go.Proofs.Ytonagfbadoacjaa.Q
open Go.RowKit Go.Proofs.YtonagfbadoacjaaW.PrintWords Go.Proofs.YtonagfbadoacjaaW.PrintLast Go.Proofs.YtonagfbadoacjaaW.PrintMore
attribute [local go_sem] max2_int min2_int max_two min_two max_three min_three max_four min_four   
set_option linter.unusedVariables false
set_option linter.unusedSimpArgs false
mutual
def spec_KeyFirst.l0 : Nat → List ByteArray → ByteArray → Int → Option (ByteArray × Bool)
  | 0, _, _, _ => none
  | k + 1, x0, x1, x6 => if x6 < (x0.length : Int) then ((spec_KeysOk.f k x0).bind fun t556 => (spec_KeyFirst.j1 k x0 x1 x6 t556)) else (spec_KeyFirst.j1 k x0 x1 x6 false)
def spec_KeyFirst.j1 : Nat → List ByteArray → ByteArray → Int → Bool → Option (ByteArray × Bool)
  | 0, _, _, _, _ => none
  | k + 1, x0, x1, x6, x14 => if x14 = true then (if 0 ≤ x6 then (if x6 < (x0.length : Int) then (if ((Op.bytesLess ((rdOf ByteArray.empty x0 x6).toList) x1.toList) = true) then (spec_KeyFirst.l0 k x0 x1 (wrap64 (x6 + 1))) else (some (rdOf ByteArray.empty x0 x6, true))) else (none)) else (none)) else (some ((⟨#[]⟩ : ByteArray), false))
end
def spec_KeyFirst.f (k : Nat) (l0 : List ByteArray) (a1 : ByteArray) : Option (ByteArray × Bool) := spec_KeyFirst.l0 k l0 a1 0
theorem spec_KeyFirst.mono_l : ∀ k, (∀ y0 y1 y2, LeO (spec_KeyFirst.l0 k y0 y1 y2) (spec_KeyFirst.l0 (k + 1) y0 y1 y2)) ∧ (∀ y0 y1 y2 y3, LeO (spec_KeyFirst.j1 k y0 y1 y2 y3) (spec_KeyFirst.j1 (k + 1) y0 y1 y2 y3))
  | 0 => ⟨fun _ _ _ r h => by simp [spec_KeyFirst.l0] at h, fun _ _ _ _ r h => by simp [spec_KeyFirst.j1] at h⟩
  | k + 1 => by
    obtain ⟨ih0, ih1⟩ := spec_KeyFirst.mono_l k
    refine ⟨?_, ?_⟩
    · intro y0 y1 y2
      unfold spec_KeyFirst.l0
      repeat' first
      | (with_reducible exact ih0 _ _ _)
      | (with_reducible exact ih1 _ _ _ _)
      | (with_reducible exact spec_KeysOk.mono _ _)
      | (with_reducible exact LeO.refl _)
      | (with_reducible exact LeO.none _)
      | (with_reducible refine LeO.ite ?_ ?_)
      | (with_reducible refine LeO.bind ?_ (fun _ => ?_))
      | exact ih0 _ _ _
      | exact ih1 _ _ _ _
      | exact spec_KeysOk.mono _ _
      | exact LeO.none _
      | refine LeO.ite ?_ ?_
      | refine LeO.bind ?_ (fun _ => ?_)
    · intro y0 y1 y2 y3
      unfold spec_KeyFirst.j1
      repeat' first
      | (with_reducible exact ih0 _ _ _)
      | (with_reducible exact ih1 _ _ _ _)
      | (with_reducible exact spec_KeysOk.mono _ _)
      | (with_reducible exact LeO.refl _)
      | (with_reducible exact LeO.none _)
      | (with_reducible refine LeO.ite ?_ ?_)
      | (with_reducible refine LeO.bind ?_ (fun _ => ?_))
      | exact ih0 _ _ _
      | exact ih1 _ _ _ _
      | exact spec_KeysOk.mono _ _
      | exact LeO.none _
      | refine LeO.ite ?_ ?_
      | refine LeO.bind ?_ (fun _ => ?_)
theorem spec_KeyFirst.mono : ∀ a0 a1 k, LeO (spec_KeyFirst.f k a0 a1) (spec_KeyFirst.f (k + 1) a0 a1) := by
  intro a0 a1 k
  obtain ⟨ih0, ih1⟩ := spec_KeyFirst.mono_l k
  unfold spec_KeyFirst.f
  repeat' first
      | (with_reducible exact ih0 _ _ _)
      | (with_reducible exact ih1 _ _ _ _)
      | (with_reducible exact spec_KeysOk.mono _ _)
      | (with_reducible exact LeO.refl _)
      | (with_reducible exact LeO.none _)
      | (with_reducible refine LeO.ite ?_ ?_)
      | (with_reducible refine LeO.bind ?_ (fun _ => ?_))
      | exact ih0 _ _ _
      | exact ih1 _ _ _ _
      | exact spec_KeysOk.mono _ _
      | exact LeO.none _
      | refine LeO.ite ?_ ?_
      | refine LeO.bind ?_ (fun _ => ?_)
set_option maxHeartbeats 8000000 in
set_option maxRecDepth 100000 in
theorem spec_KeyFirst.calls (k : Nat) (A0 : Option Addr) (c0 : Nat) (l0 : List ByteArray) (a1 : ByteArray) (r1 : ByteArray) (r2 : Bool) (w : World) (hr0 : Kd.C Kd.string w A0 l0.length l0) (hc0 : l0.length ≤ c0) (h : spec_KeyFirst.f k l0 a1 = some (r1, r2)) :
    Calls Try.prog 55 #[.slice A0 l0.length c0, .string a1] w fun e w' => e = .returned (.tuple #[.string r1, .bool r2]) ∧ Drawn0 w w' := by
  have HR0 := Aside0.mk hr0
  have HC0 := Aside0.mk hc0
  clear hr0 hc0
  have H : (spec_KeyFirst.l0 k l0 a1 0) = some (r1, r2) := h
  clear h
  have H' := Aside0.mk H
  clear H
  go_enter Try.func55, Try.ntmps55
  go_wp2
  go_loopg [6] k (fun kq v6 w' => ∃ (x6_1 : Int), v6 = .int .i64 x6_1 ∧ Aside0 (spec_KeyFirst.l0 kq l0 a1 x6_1 = some (r1, r2)) ∧ Aside0 (kq ≤ k) ∧ Drawn0 w w')
  case atStart => exact ⟨(0), (by first | rfl | (simp; done) | (simp [*]; done)), H', ⟨Nat.le_refl _⟩, by repeat (first | exact Drawn0.refl _ | apply Drawn0.step)⟩
  case round =>
    clear H'
    try clear p2
    obtain ⟨x6_1, rfl, HA, HK1, ⟨m1, rfl⟩⟩ := hrel
    cases gk with
    | zero => exact absurd HA.out (by simp [spec_KeyFirst.l0])
    | succ k1 =>
      have H := HA.out
      clear HA
      simp only [spec_KeyFirst.l0] at H
      have HC3 := Aside0.mk H
      clear H
      go_upto_region 2 with (fail)
      go_cut [14] (fun v14 wc => ∃ (kq : Nat) (x14_2 : Bool), v14 = .bool x14_2 ∧ Aside0 (spec_KeyFirst.j1 kq l0 a1 x6_1 x14_2 = some (r1, r2)) ∧ Aside0 (kq ≤ k1) ∧ Drawn0 w wc)
      case first =>
        have H := HC3.out
        clear HC3
        by_cases c4 : x6_1 < (l0.length : Int)
        · rw [if_pos c4] at H
          have c4b0 : decide (x6_1 < (l0.length : Int)) = true := decide_eq_true c4
          clear c4
          (first | rw [c4b0] | (simp only [i64_w, i32_w]; rw [c4b0]) | simp only [*, Bool.not_true, Bool.not_false] | skip)
          replace H := Option.bind_eq_some_iff.mp H
          obtain ⟨t556, A50, H⟩ := H
          (try dsimp only at H)
          have A5 := Aside0.mk A50
          clear A50
          have H' := Aside0.mk H
          clear H
          go_wp2_with (first | (go_at_call 51; (with_reducible refine (spec_KeysOk.calls k1 _ _ l0 t556 _ ?side1 ?side2 A5.out).mono ?_); (case side1 => repeat (first | exact HR0.out | (with_reducible refine Kd.C_alloc ?_ _) | (with_reducible refine Kd.C_drewN ?_ _) | (with_reducible refine Kd.C_drew ?_))); (case side2 => exact HC0.out); rintro e w' ⟨rfl, ⟨nd, rfl⟩⟩))
          go_meet
          case rel => exact ⟨_, (t556), (by first | rfl | (simp; done) | (simp [*]; done)), H', ⟨by have := HK1.out; first | omega | exact Nat.le_refl _⟩, by repeat (first | exact Drawn0.refl _ | apply Drawn0.step)⟩
        · rw [if_neg c4] at H
          have c4b0 : decide (x6_1 < (l0.length : Int)) = false := decide_eq_false c4
          clear c4
          (first | rw [c4b0] | (simp only [i64_w, i32_w]; rw [c4b0]) | simp only [*, Bool.not_true, Bool.not_false] | skip)
          have H' := Aside0.mk H
          clear H
          go_wp2
          go_meet
          case rel => exact ⟨_, (false), (by first | rfl | (simp; done) | (simp [*]; done)), H', ⟨by have := HK1.out; first | omega | exact Nat.le_refl _⟩, by repeat (first | exact Drawn0.refl _ | apply Drawn0.step)⟩
      case rest =>
        clear HC3
        try clear p2
        try clear c4
        try clear c4b0
        try clear c5
        try clear p2
        obtain ⟨kq, x14_2, rfl, HA, HJ2, ⟨mc2, rfl⟩⟩ := hcut
        cases kq with
        | zero => exact absurd HA.out (by simp [spec_KeyFirst.j1])
        | succ kj2 =>
          have H := HA.out
          clear HA
          simp only [spec_KeyFirst.j1] at H
          by_cases c6 : x14_2 = true
          · subst c6
            have H1 : (if 0 ≤ x6_1 then (if x6_1 < (l0.length : Int) then (if ((Op.bytesLess ((rdOf ByteArray.empty l0 x6_1).toList) a1.toList) = true) then (spec_KeyFirst.l0 kj2 l0 a1 (wrap64 (x6_1 + 1))) else (some (rdOf ByteArray.empty l0 x6_1, true))) else (none)) else (none)) = some (r1, r2) := by rw [if_pos rfl] at H; exact H
            clear H
            have H := H1
            clear H1
            by_cases c7 : 0 ≤ x6_1
            · rw [if_pos c7] at H
              have c7b0 : decide (0 ≤ x6_1) = true := decide_eq_true c7
              clear c7
              by_cases c8 : x6_1 < (l0.length : Int)
              · rw [if_pos c8] at H
                have c8b0 : decide (x6_1 < (l0.length : Int)) = true := decide_eq_true c8
                clear c8
                by_cases c9 : ((Op.bytesLess ((rdOf ByteArray.empty l0 x6_1).toList) a1.toList) = true)
                · rw [if_pos c9] at H
                  have c9b0 : (Op.bytesLess ((rdOf ByteArray.empty l0 x6_1).toList) a1.toList) = true := c9
                  clear c9
                  have H' := Aside0.mk H
                  clear H
                  have p557 : 0 ≤ (x6_1 : Int) := of_decide_eq_true (by first | (with_reducible assumption) | assumption)
                  have q557 : x6_1 < (l0.length : Int) := of_decide_eq_true (by first | (with_reducible assumption) | assumption)
                  obtain ⟨ad557, e557, hx557_0⟩ := Kd.at_string HR0.out x6_1 p557 q557
                  cases e557
                  replace p557 := eq_true p557
                  replace q557 := eq_true q557
                  go_wp2
                  go_roundg kj2
                  case measure => have := HK1.out; have := HJ2.out; omega
                  case rel => exact ⟨(wrap64 (x6_1 + 1)), (by first | rfl | (simp; done) | (simp [*]; done)), H', ⟨by have := HK1.out; have := HJ2.out; omega⟩, by repeat (first | exact Drawn0.refl _ | apply Drawn0.step)⟩
                · rw [if_neg c9] at H
                  have c9b0 : (Op.bytesLess ((rdOf ByteArray.empty l0 x6_1).toList) a1.toList) = false := by simpa using c9
                  clear c9
                  simp only [Option.some.injEq, Prod.mk.injEq] at H
                  obtain ⟨rfl, rfl⟩ := H
                  have p557 : 0 ≤ (x6_1 : Int) := of_decide_eq_true (by first | (with_reducible assumption) | assumption)
                  have q557 : x6_1 < (l0.length : Int) := of_decide_eq_true (by first | (with_reducible assumption) | assumption)
                  obtain ⟨ad557, e557, hx557_0⟩ := Kd.at_string HR0.out x6_1 p557 q557
                  cases e557
                  replace p557 := eq_true p557
                  replace q557 := eq_true q557
                  have p558 : 0 ≤ (x6_1 : Int) := of_decide_eq_true (by first | (with_reducible assumption) | assumption)
                  have q558 : x6_1 < (l0.length : Int) := of_decide_eq_true (by first | (with_reducible assumption) | assumption)
                  obtain ⟨ad558, e558, hx558_0⟩ := Kd.at_string HR0.out x6_1 p558 q558
                  obtain rfl : ad557 = ad558 := (by injection e558)
                  replace p558 := eq_true p558
                  replace q558 := eq_true q558
                  go_wp2
                  go_ret2
                  exact ⟨by first | rfl | (simp; done) | (simp [*]; done), by repeat (first | exact Drawn0.refl _ | apply Drawn0.step)⟩
              · rw [if_neg c8] at H
                exact absurd H (by simp)
            · rw [if_neg c7] at H
              exact absurd H (by simp)
          · replace c6 := Bool.eq_false_iff.mpr c6
            subst c6
            have H1 : (some ((⟨#[]⟩ : ByteArray), false)) = some (r1, r2) := by rw [if_neg (show ¬ (false = true) by decide)] at H; exact H
            clear H
            have H := H1
            clear H1
            simp only [Option.some.injEq, Prod.mk.injEq] at H
            obtain ⟨rfl, rfl⟩ := H
            go_wp2
            go_ret2
            exact ⟨by first | rfl | (simp; done) | (simp [*]; done), by repeat (first | exact Drawn0.refl _ | apply Drawn0.step)⟩
end Go.Proofs.Ytonagfbadoacjaa.Q
end
section
namespace Go.Proofs.Ytonagfbadoacjaa.Q
open Go.RowKit Go.Proofs.YtonagfbadoacjaaW.PrintWords Go.Proofs.YtonagfbadoacjaaW.PrintLast Go.Proofs.YtonagfbadoacjaaW.PrintMore
attribute [local go_sem] max2_int min2_int max_two min_two max_three min_three max_four min_four   
set_option linter.unusedVariables false
set_option linter.unusedSimpArgs false
def impl_KeyFirst.l0 : Nat → ByteArray → List ByteArray → Int → Int → Option (ByteArray × Bool)
  | 0, _, _, _, _ => none
  | k + 1, x1, x11, x12, x13 => if x13 < x12 then (if 0 ≤ x13 then (if x13 < (x11.length : Int) then (if ((Op.bytesLess ((rdOf ByteArray.empty x11 x13).toList) x1.toList) = true) then (impl_KeyFirst.l0 k x1 x11 x12 (wrap64 (x13 + 1))) else (some (rdOf ByteArray.empty x11 x13, true))) else (none)) else (none)) else (some ((⟨#[]⟩ : ByteArray), false))
def impl_KeyFirst.f (k : Nat) (l0 : List ByteArray) (a1 : ByteArray) : Option (ByteArray × Bool) := (impl_KeysOk.f k l0).bind fun t559 => (if t559 = true then (impl_KeyFirst.l0 k a1 l0 (l0.length : Int) 0) else (some ((⟨#[]⟩ : ByteArray), false)))
theorem impl_KeyFirst.mono_l : ∀ k, (∀ y0 y1 y2 y3, LeO (impl_KeyFirst.l0 k y0 y1 y2 y3) (impl_KeyFirst.l0 (k + 1) y0 y1 y2 y3))
  | 0 => fun _ _ _ _ r h => by simp [impl_KeyFirst.l0] at h
  | k + 1 => by
    have ih0 := impl_KeyFirst.mono_l k
    · intro y0 y1 y2 y3
      unfold impl_KeyFirst.l0
      repeat' first
      | (with_reducible exact ih0 _ _ _ _)
      | (with_reducible exact impl_KeysOk.mono _ _)
      | (with_reducible exact LeO.refl _)
      | (with_reducible exact LeO.none _)
      | (with_reducible refine LeO.ite ?_ ?_)
      | (with_reducible refine LeO.bind ?_ (fun _ => ?_))
      | exact ih0 _ _ _ _
      | exact impl_KeysOk.mono _ _
      | exact LeO.none _
      | refine LeO.ite ?_ ?_
      | refine LeO.bind ?_ (fun _ => ?_)
theorem impl_KeyFirst.mono : ∀ a0 a1 k, LeO (impl_KeyFirst.f k a0 a1) (impl_KeyFirst.f (k + 1) a0 a1) := by
  intro a0 a1 k
  have ih0 := impl_KeyFirst.mono_l k
  unfold impl_KeyFirst.f
  repeat' first
      | (with_reducible exact ih0 _ _ _ _)
      | (with_reducible exact impl_KeysOk.mono _ _)
      | (with_reducible exact LeO.refl _)
      | (with_reducible exact LeO.none _)
      | (with_reducible refine LeO.ite ?_ ?_)
      | (with_reducible refine LeO.bind ?_ (fun _ => ?_))
      | exact ih0 _ _ _ _
      | exact impl_KeysOk.mono _ _
      | exact LeO.none _
      | refine LeO.ite ?_ ?_
      | refine LeO.bind ?_ (fun _ => ?_)
set_option maxHeartbeats 8000000 in
set_option maxRecDepth 100000 in
theorem impl_KeyFirst.calls (k : Nat) (A0 : Option Addr) (c0 : Nat) (l0 : List ByteArray) (a1 : ByteArray) (r1 : ByteArray) (r2 : Bool) (w : World) (hr0 : Kd.C Kd.string w A0 l0.length l0) (hc0 : l0.length ≤ c0) (h : impl_KeyFirst.f k l0 a1 = some (r1, r2)) :
    Calls Try.prog 56 #[.slice A0 l0.length c0, .string a1] w fun e w' => e = .returned (.tuple #[.string r1, .bool r2]) ∧ Drawn0 w w' := by
  have HR0 := Aside0.mk hr0
  have HC0 := Aside0.mk hc0
  clear hr0 hc0
  have H : ((impl_KeysOk.f k l0).bind fun t559 => (if t559 = true then (impl_KeyFirst.l0 k a1 l0 (l0.length : Int) 0) else (some ((⟨#[]⟩ : ByteArray), false)))) = some (r1, r2) := h
  clear h
  replace H := Option.bind_eq_some_iff.mp H
  obtain ⟨t559, A30, H⟩ := H
  (try dsimp only at H)
  have A3 := Aside0.mk A30
  clear A30
  by_cases c4 : t559 = true
  · subst c4
    have H1 : (impl_KeyFirst.l0 k a1 l0 (l0.length : Int) 0) = some (r1, r2) := by rw [if_pos rfl] at H; exact H
    clear H
    have H := H1
    clear H1
    have H' := Aside0.mk H
    clear H
    go_enter Try.func56, Try.ntmps56
    go_wp2_with (first | ((with_reducible refine gate_callee (f := 53) rfl ?_); refine goesL_ (some 9) rfl rfl Try.func53 (by kernel_rfl) rfl #[.slice A0 l0.length c0] rfl (by (try simp only [List.map_toArray, List.map_cons, List.map_nil]); first | done | rfl | (simp only [List.length_drop, List.length_take]; rfl)) ?_; (with_reducible refine (impl_KeysOk.calls k _ _ l0 true _ ?side1 ?side2 A3.out).mono ?_); (case side1 => repeat (first | exact HR0.out | (with_reducible refine Kd.C_alloc ?_ _) | (with_reducible refine Kd.C_drewN ?_ _) | (with_reducible refine Kd.C_drew ?_))); (case side2 => exact HC0.out); rintro e w' ⟨rfl, ⟨nd, rfl⟩⟩; refine ⟨_, rfl, ?_⟩))
    go_loopg [13] k (fun kq v13 w' => ∃ (x13_1 : Int), v13 = .int .i64 x13_1 ∧ Aside0 (impl_KeyFirst.l0 kq a1 l0 (l0.length : Int) x13_1 = some (r1, r2)) ∧ Aside0 (kq ≤ k) ∧ Drawn0 w w')
    case atStart => exact ⟨(0), (by first | rfl | (simp; done) | (simp [*]; done)), H', ⟨Nat.le_refl _⟩, by repeat (first | exact Drawn0.refl _ | apply Drawn0.step)⟩
    case round =>
      clear H'
      try clear p2
      try clear c4
      obtain ⟨x13_1, rfl, HA, HK1, ⟨m1, rfl⟩⟩ := hrel
      cases gk with
      | zero => exact absurd HA.out (by simp [impl_KeyFirst.l0])
      | succ k1 =>
        have H := HA.out
        clear HA
        simp only [impl_KeyFirst.l0] at H
        by_cases c5 : x13_1 < (l0.length : Int)
        · rw [if_pos c5] at H
          have c5b0 : decide (x13_1 < (l0.length : Int)) = true := decide_eq_true c5
          clear c5
          by_cases c6 : 0 ≤ x13_1
          · rw [if_pos c6] at H
            have c6b0 : decide (0 ≤ x13_1) = true := decide_eq_true c6
            clear c6
            by_cases c7 : x13_1 < (l0.length : Int)
            · rw [if_pos c7] at H
              have c7b0 : decide (x13_1 < (l0.length : Int)) = true := decide_eq_true c7
              clear c7
              by_cases c8 : ((Op.bytesLess ((rdOf ByteArray.empty l0 x13_1).toList) a1.toList) = true)
              · rw [if_pos c8] at H
                have c8b0 : (Op.bytesLess ((rdOf ByteArray.empty l0 x13_1).toList) a1.toList) = true := c8
                clear c8
                have H' := Aside0.mk H
                clear H
                have p560 : 0 ≤ (x13_1 : Int) := of_decide_eq_true (by first | (with_reducible assumption) | assumption)
                have q560 : x13_1 < (l0.length : Int) := of_decide_eq_true (by first | (with_reducible assumption) | assumption)
                obtain ⟨ad560, e560, hx560_0⟩ := Kd.at_string HR0.out x13_1 p560 q560
                cases e560
                replace p560 := eq_true p560
                replace q560 := eq_true q560
                go_wp2
                go_roundg k1
                case measure => have := HK1.out; omega
                case rel => exact ⟨(wrap64 (x13_1 + 1)), (by first | rfl | (simp; done) | (simp [*]; done)), H', ⟨by have := HK1.out; omega⟩, by repeat (first | exact Drawn0.refl _ | apply Drawn0.step)⟩
              · rw [if_neg c8] at H
                have c8b0 : (Op.bytesLess ((rdOf ByteArray.empty l0 x13_1).toList) a1.toList) = false := by simpa using c8
                clear c8
                simp only [Option.some.injEq, Prod.mk.injEq] at H
                obtain ⟨rfl, rfl⟩ := H
                have p560 : 0 ≤ (x13_1 : Int) := of_decide_eq_true (by first | (with_reducible assumption) | assumption)
                have q560 : x13_1 < (l0.length : Int) := of_decide_eq_true (by first | (with_reducible assumption) | assumption)
                obtain ⟨ad560, e560, hx560_0⟩ := Kd.at_string HR0.out x13_1 p560 q560
                cases e560
                replace p560 := eq_true p560
                replace q560 := eq_true q560
                go_wp2
                go_ret2
                exact ⟨by first | rfl | (simp; done) | (simp [*]; done), by repeat (first | exact Drawn0.refl _ | apply Drawn0.step)⟩
            · rw [if_neg c7] at H
              exact absurd H (by simp)
          · rw [if_neg c6] at H
            exact absurd H (by simp)
        · rw [if_neg c5] at H
          have c5b0 : decide (x13_1 < (l0.length : Int)) = false := decide_eq_false c5
          clear c5
          simp only [Option.some.injEq, Prod.mk.injEq] at H
          obtain ⟨rfl, rfl⟩ := H
          go_wp2
          go_ret2
          exact ⟨by first | rfl | (simp; done) | (simp [*]; done), by repeat (first | exact Drawn0.refl _ | apply Drawn0.step)⟩
  · replace c4 := Bool.eq_false_iff.mpr c4
    subst c4
    have H1 : (some ((⟨#[]⟩ : ByteArray), false)) = some (r1, r2) := by rw [if_neg (show ¬ (false = true) by decide)] at H; exact H
    clear H
    have H := H1
    clear H1
    simp only [Option.some.injEq, Prod.mk.injEq] at H
    obtain ⟨rfl, rfl⟩ := H
    go_enter Try.func56, Try.ntmps56
    go_wp2_with (first | ((with_reducible refine gate_callee (f := 53) rfl ?_); refine goesL_ (some 9) rfl rfl Try.func53 (by kernel_rfl) rfl #[.slice A0 l0.length c0] rfl (by (try simp only [List.map_toArray, List.map_cons, List.map_nil]); first | done | rfl | (simp only [List.length_drop, List.length_take]; rfl)) ?_; (with_reducible refine (impl_KeysOk.calls k _ _ l0 false _ ?side1 ?side2 A3.out).mono ?_); (case side1 => repeat (first | exact HR0.out | (with_reducible refine Kd.C_alloc ?_ _) | (with_reducible refine Kd.C_drewN ?_ _) | (with_reducible refine Kd.C_drew ?_))); (case side2 => exact HC0.out); rintro e w' ⟨rfl, ⟨nd, rfl⟩⟩; refine ⟨_, rfl, ?_⟩))
    go_ret2
    exact ⟨by first | rfl | (simp; done) | (simp [*]; done), by repeat (first | exact Drawn0.refl _ | apply Drawn0.step)⟩
end Go.Proofs.Ytonagfbadoacjaa.Q
end
section
namespace Go.Proofs.Ytonagfbadoacjaa.Q
open Go.RowKit Go.Proofs.YtonagfbadoacjaaW.PrintWords Go.Proofs.YtonagfbadoacjaaW.PrintLast Go.Proofs.YtonagfbadoacjaaW.PrintMore
attribute [local go_sem] max2_int min2_int max_two min_two max_three min_three max_four min_four   
set_option linter.unusedVariables false
set_option linter.unusedSimpArgs false
def spec_DrawKeyFirst.f (k : Nat) (l0 : List Int) : Option (List ByteArray × ByteArray) := (spec_l6Open.f l0).bind fun bt736 => ((spec_l71Keys.f k bt736.1 bt736.2 10).bind fun bt739 => ((spec_l6Rd_pick.f k bt736.1 bt739.2 12).bind fun bt743 => (if bt743.1 = 0 then ((spec_l71Mess.f k bt736.1 bt743.2).bind fun bt745 => ((spec_l71Near.f k bt736.1 bt745.2 bt745.1).bind fun bt749 => (some (bt745.1, bt749.1)))) else ((spec_l71Near.f k bt736.1 bt743.2 bt739.1).bind fun bt751 => (some (bt739.1, bt751.1))))))
theorem spec_DrawKeyFirst.mono : ∀ a0 k, LeO (spec_DrawKeyFirst.f k a0) (spec_DrawKeyFirst.f (k + 1) a0) := by
  intro a0 k
  unfold spec_DrawKeyFirst.f
  repeat' first
      | (with_reducible exact spec_l6Rd_pick.mono _ _ _ _)
      | (with_reducible exact spec_l71Keys.mono _ _ _ _)
      | (with_reducible exact spec_l71Mess.mono _ _ _)
      | (with_reducible exact spec_l71Near.mono _ _ _ _)
      | (with_reducible exact LeO.refl _)
      | (with_reducible exact LeO.none _)
      | (with_reducible refine LeO.ite ?_ ?_)
      | (with_reducible refine LeO.bind ?_ (fun _ => ?_))
      | exact spec_l6Rd_pick.mono _ _ _ _
      | exact spec_l71Keys.mono _ _ _ _
      | exact spec_l71Mess.mono _ _ _
      | exact spec_l71Near.mono _ _ _ _
      | exact LeO.none _
      | refine LeO.ite ?_ ?_
      | refine LeO.bind ?_ (fun _ => ?_)
set_option maxHeartbeats 8000000 in
set_option maxRecDepth 100000 in
theorem spec_DrawKeyFirst.calls (k : Nat) (A0 : Option Addr) (c0 : Nat) (l0 : List Int) (r1 : List ByteArray) (r2 : ByteArray) (w : World) (hr0 : Kd.C (Kd.int .u8) w A0 l0.length l0) (hc0 : l0.length ≤ c0) (h : spec_DrawKeyFirst.f k l0 = some (r1, r2)) :
    Calls Try.prog 64 #[.slice A0 l0.length c0] w fun e w' => ∃ v0_ : Value, e = .returned (.tuple #[v0_, .string r2]) ∧ Kd.R Kd.string 9 w' w.heap.size (fun _ => True) v0_ r1 ∧ Below w.heap.size w w' := by
  have HR0 := Aside0.mk hr0
  have HC0 := Aside0.mk hc0
  clear hr0 hc0
  have HB := Aside0.mk (Below.refl w.heap.size w)
  have H : ((spec_l6Open.f l0).bind fun bt736 => ((spec_l71Keys.f k bt736.1 bt736.2 10).bind fun bt739 => ((spec_l6Rd_pick.f k bt736.1 bt739.2 12).bind fun bt743 => (if bt743.1 = 0 then ((spec_l71Mess.f k bt736.1 bt743.2).bind fun bt745 => ((spec_l71Near.f k bt736.1 bt745.2 bt745.1).bind fun bt749 => (some (bt745.1, bt749.1)))) else ((spec_l71Near.f k bt736.1 bt743.2 bt739.1).bind fun bt751 => (some (bt739.1, bt751.1))))))) = some (r1, r2) := h
  clear h
  replace H := Option.bind_eq_some_iff.mp H
  obtain ⟨⟨t736, t737⟩, A20, H⟩ := H
  (try dsimp only at H)
  have A2 := Aside0.mk A20
  clear A20
  replace H := Option.bind_eq_some_iff.mp H
  obtain ⟨⟨t739, t742⟩, A30, H⟩ := H
  (try dsimp only at H)
  have A3 := Aside0.mk A30
  clear A30
  replace H := Option.bind_eq_some_iff.mp H
  obtain ⟨⟨t743, t744⟩, A40, H⟩ := H
  (try dsimp only at H)
  have A4 := Aside0.mk A40
  clear A40
  go_enter Try.func64, Try.ntmps64
  go_upto_if 12 with (first | ((with_reducible refine gate_callee (f := 102) rfl ?_); refine goesL_ (some 7) rfl rfl Try.func102 (by kernel_rfl) rfl #[.slice A0 l0.length c0] rfl (by (try simp only [List.map_toArray, List.map_cons, List.map_nil]); first | done | rfl | (simp only [List.length_drop, List.length_take]; rfl)) ?_; (with_reducible refine (spec_l6Open.calls _ _ l0 t736 t737 w _ ?side1 ?side2 ?side3 A2.out).mono ?_); (case side1 => repeat (first | (with_reducible first | exact HB.out | apply below_alloc | apply pw_below_drewN | apply below_drew1) | exact HB.out)); (case side2 => exact HR0.out); (case side3 => exact HC0.out); rintro e w5 ⟨g738, rfl, hi, hb, hb2⟩; refine ⟨_, rfl, ?_⟩; have n0_ := Aside0.mk (hb); have n1_ := Aside0.mk (hi); clear HB; have HB := n0_; have HI738 := n1_; clear n0_ n1_; (try clear hb); (try clear hb2); (try clear hk); (try clear hi)) | ((with_reducible refine gate_callee (f := 112) rfl ?_); refine goesL_ (some 9) rfl rfl Try.func112 (by kernel_rfl) rfl #[.pointer (some ⟨g738, 0, none⟩), .int .i64 10] rfl (by (try simp only [List.map_toArray, List.map_cons, List.map_nil]); first | done | rfl | (simp only [List.length_drop, List.length_take]; rfl)) ?_; (with_reducible refine (spec_l71Keys.calls k g738 t736 t737 10 t739 t742 w _ ?side1 ?side2 A3.out).mono ?_); (case side1 => repeat (first | (with_reducible first | exact HI738.out | apply IsS109.alloc | apply IsS109.drewN | apply IsS109.drew | apply IsS109.set_1) | exact HI738.out)); (case side2 => repeat (first | (with_reducible first | exact HB.out | apply below_alloc | apply pw_below_drewN | apply below_drew1 | refine below_set ?_ (IsS109.ge HI738.out)) | exact HB.out)); rintro e w6 ⟨v740, rfl, ho0, hi, hb, hk⟩; refine ⟨_, rfl, ?_⟩; have n0_ := Aside0.mk (Kd.R_lower ho0 (below_size (by repeat (first | (with_reducible first | exact HB.out | apply below_alloc | apply pw_below_drewN | apply below_drew1 | refine below_set ?_ (IsS109.ge HI738.out)) | exact HB.out)))); have n1_ := Aside0.mk (hb); have n2_ := Aside0.mk (hi); clear HB; clear HI738; have HO741 := n0_; have HB := n1_; have HI738 := n2_; clear n0_ n1_ n2_; (try clear hb); (try clear hb2); (try clear hk); (try clear hi); (try clear ho0)) | ((with_reducible refine gate_callee (f := 113) rfl ?_); refine goesL_ (some 11) rfl rfl Try.func113 (by kernel_rfl) rfl #[.pointer (some ⟨g738, 0, none⟩), .int .i64 12] rfl (by (try simp only [List.map_toArray, List.map_cons, List.map_nil]); first | done | rfl | (simp only [List.length_drop, List.length_take]; rfl)) ?_; (with_reducible refine (spec_l6Rd_pick.calls k g738 t736 t742 12 t743 t744 w _ ?side1 ?side2 A4.out).mono ?_); (case side1 => repeat (first | (with_reducible first | exact HI738.out | apply IsS109.alloc | apply IsS109.drewN | apply IsS109.drew | apply IsS109.set_1) | exact HI738.out)); (case side2 => repeat (first | (with_reducible first | exact HB.out | apply below_alloc | apply pw_below_drewN | apply below_drew1 | refine below_set ?_ (IsS109.ge HI738.out)) | exact HB.out)); rintro e w7 ⟨rfl, hi, hb, hk⟩; refine ⟨_, rfl, ?_⟩; have n0_ := Aside0.mk (Kd.R_mono (Kd.R_keep (IsS109.apart (show IsS109 w _ g738 t736 t742 from by repeat (first | (with_reducible first | exact HI738.out | apply IsS109.alloc | apply IsS109.drewN | apply IsS109.drew | apply IsS109.set_1) | exact HI738.out)) (by (with_reducible repeat (first | apply Kd.R_alloc | apply Kd.R_drewN | apply Kd.R_drew)); exact HO741.out) (by decide)) hk (fun _ h => h.2)) (fun _ h => h.1)); have n1_ := Aside0.mk (hb); have n2_ := Aside0.mk (hi); clear HO741; clear HB; clear HI738; have HO741 := n0_; have HB := n1_; have HI738 := n2_; clear n0_ n1_ n2_; (try clear hb); (try clear hb2); (try clear hk); (try clear hi)))
  by_cases c8 : t743 = 0
  · rw [if_pos c8] at H
    have c8b0 : (t743 == 0) = true := beq_iff_eq.mpr c8
    have c8b1 : (t743 != 0) = false := bne_eq_false_iff_eq.mpr c8
    clear c8
    (first | rw [c8b0] | (simp only [i64_w, i32_w]; rw [c8b0]) | simp only [*, Bool.not_true, Bool.not_false] | skip)
    replace H := Option.bind_eq_some_iff.mp H
    obtain ⟨⟨t745, t748⟩, A90, H⟩ := H
    (try dsimp only at H)
    have A9 := Aside0.mk A90
    clear A90
    replace H := Option.bind_eq_some_iff.mp H
    obtain ⟨⟨t749, t750⟩, A100, H⟩ := H
    (try dsimp only at H)
    have A10 := Aside0.mk A100
    clear A100
    simp only [Option.some.injEq, Prod.mk.injEq] at H
    obtain ⟨rfl, rfl⟩ := H
    go_wp2_with (first | ((with_reducible refine gate_callee (f := 114) rfl ?_); refine goesL_ (some 14) rfl rfl Try.func114 (by kernel_rfl) rfl #[.pointer (some ⟨g738, 0, none⟩)] rfl (by (try simp only [List.map_toArray, List.map_cons, List.map_nil]); first | done | rfl | (simp only [List.length_drop, List.length_take]; rfl)) ?_; (with_reducible refine (spec_l71Mess.calls k g738 t736 t744 t745 t748 w _ ?side1 ?side2 A9.out).mono ?_); (case side1 => repeat (first | (with_reducible first | exact HI738.out | apply IsS109.alloc | apply IsS109.drewN | apply IsS109.drew | apply IsS109.set_1) | exact HI738.out)); (case side2 => repeat (first | (with_reducible first | exact HB.out | apply below_alloc | apply pw_below_drewN | apply below_drew1 | refine below_set ?_ (IsS109.ge HI738.out)) | exact HB.out)); rintro e w11 ⟨v746, rfl, ho0, hi, hb, hk⟩; refine ⟨_, rfl, ?_⟩; have n0_ := Aside0.mk (Kd.R_mono (Kd.R_told (Kd.R_oldK (IsS109.apart (show IsS109 w _ g738 t736 t744 from by repeat (first | (with_reducible first | exact HI738.out | apply IsS109.alloc | apply IsS109.drewN | apply IsS109.drew | apply IsS109.set_1) | exact HI738.out)) (by (with_reducible repeat (first | apply Kd.R_alloc | apply Kd.R_drewN | apply Kd.R_drew)); exact HO741.out) (by decide)) hk) (Kd.R_base ho0)) (fun _ h_ => h_.1)); have n1_ := Aside0.mk (Kd.R_lower (Kd.R_new' ho0 (Kd.R_lt (by (with_reducible repeat (first | apply Kd.R_alloc | apply Kd.R_drewN | apply Kd.R_drew)); exact HO741.out))) (below_size (by repeat (first | (with_reducible first | exact HB.out | apply below_alloc | apply pw_below_drewN | apply below_drew1 | refine below_set ?_ (IsS109.ge HI738.out)) | exact HB.out)))); have n2_ := Aside0.mk (hb); have n3_ := Aside0.mk (hi); clear HO741; clear HB; clear HI738; have HO741 := n0_; have HO747 := n1_; have HB := n2_; have HI738 := n3_; clear n0_ n1_ n2_ n3_; (try clear hb); (try clear hb2); (try clear hk); (try clear hi); (try clear ho0); obtain ⟨Ao12, co12, eo12⟩ := Kd.R_slice HO747.out; subst eo12) | ((with_reducible refine gate_callee (f := 104) rfl ?_); refine goesL_ (some 18) rfl rfl Try.func104 (by kernel_rfl) rfl #[.pointer (some ⟨g738, 0, none⟩), .slice Ao12 t745.length co12] rfl (by (try simp only [List.map_toArray, List.map_cons, List.map_nil]); first | done | rfl | (simp only [List.length_drop, List.length_take]; rfl)) ?_; (with_reducible refine (spec_l71Near.calls k g738 t736 t748 _ _ t745 t749 t750 w _ ?side1 ?side2 ?side3 ?side4 ?side5 A10.out).mono ?_); (case side1 => repeat (first | (with_reducible first | exact HI738.out | apply IsS109.alloc | apply IsS109.drewN | apply IsS109.drew | apply IsS109.set_1) | exact HI738.out)); (case side2 => repeat (first | (with_reducible first | exact HB.out | apply below_alloc | apply pw_below_drewN | apply below_drew1 | refine below_set ?_ (IsS109.ge HI738.out)) | exact HB.out)); (case side3 => repeat (first | exact (Kd.R_reads' HO747.out).2.2 | (with_reducible refine Kd.C_alloc ?_ _) | (with_reducible refine Kd.C_drewN ?_ _) | (with_reducible refine Kd.C_drew ?_))); (case side4 => exact (Kd.R_reads' HO747.out).2.1); (case side5 => exact far_slice (IsS109.own_ne HI738.out HO747.out (by decide))); rintro e w13 ⟨rfl, hi, hb, hk⟩; refine ⟨_, rfl, ?_⟩; have n0_ := Aside0.mk (Kd.R_mono (Kd.R_keep (IsS109.apart (show IsS109 w _ g738 t736 t748 from by repeat (first | (with_reducible first | exact HI738.out | apply IsS109.alloc | apply IsS109.drewN | apply IsS109.drew | apply IsS109.set_1) | exact HI738.out)) (by (with_reducible repeat (first | apply Kd.R_alloc | apply Kd.R_drewN | apply Kd.R_drew)); exact HO741.out) (by decide)) hk (fun _ h => h.2)) (fun _ h => h.1)); have n1_ := Aside0.mk (Kd.R_mono (Kd.R_keep (IsS109.apart (show IsS109 w _ g738 t736 t748 from by repeat (first | (with_reducible first | exact HI738.out | apply IsS109.alloc | apply IsS109.drewN | apply IsS109.drew | apply IsS109.set_1) | exact HI738.out)) (by (with_reducible repeat (first | apply Kd.R_alloc | apply Kd.R_drewN | apply Kd.R_drew)); exact HO747.out) (by decide)) hk (fun _ h => h.2)) (fun _ h => h.1)); have n2_ := Aside0.mk (hb); have n3_ := Aside0.mk (hi); clear HO741; clear HO747; clear HB; clear HI738; have HO741 := n0_; have HO747 := n1_; have HB := n2_; have HI738 := n3_; clear n0_ n1_ n2_ n3_; (try clear hb); (try clear hb2); (try clear hk); (try clear hi)))
    go_ret2
    exact ⟨_, by first | rfl | (simp [errW_none, errW_some] <;> rfl) | (simp [*, errW_none, errW_some] <;> rfl), by (with_reducible repeat (first | apply Kd.R_alloc | apply Kd.R_drewN | apply Kd.R_drew)); exact Kd.R_mono HO747.out (fun _ hk => trivial), by repeat (first | (with_reducible first | exact HB.out | apply below_alloc | apply pw_below_drewN | apply below_drew1 | refine below_set ?_ (IsS109.ge HI738.out)) | exact HB.out)⟩
  · rw [if_neg c8] at H
    have c8b0 : (t743 == 0) = false := beq_eq_false_iff_ne.mpr c8
    have c8b1 : (t743 != 0) = true := bne_iff_ne.mpr c8
    (first | rw [c8b0] | (simp only [i64_w, i32_w]; rw [c8b0]) | simp only [*, Bool.not_true, Bool.not_false] | skip)
    replace H := Option.bind_eq_some_iff.mp H
    obtain ⟨⟨t751, t752⟩, A140, H⟩ := H
    (try dsimp only at H)
    have A14 := Aside0.mk A140
    clear A140
    simp only [Option.some.injEq, Prod.mk.injEq] at H
    obtain ⟨rfl, rfl⟩ := H
    obtain ⟨Ao15, co15, eo15⟩ := Kd.R_slice HO741.out
    subst eo15
    go_wp2_with (first | ((with_reducible refine gate_callee (f := 104) rfl ?_); refine goesL_ (some 18) rfl rfl Try.func104 (by kernel_rfl) rfl #[.pointer (some ⟨g738, 0, none⟩), .slice Ao15 t739.length co15] rfl (by (try simp only [List.map_toArray, List.map_cons, List.map_nil]); first | done | rfl | (simp only [List.length_drop, List.length_take]; rfl)) ?_; (with_reducible refine (spec_l71Near.calls k g738 t736 t744 _ _ t739 t751 t752 w _ ?side1 ?side2 ?side3 ?side4 ?side5 A14.out).mono ?_); (case side1 => repeat (first | (with_reducible first | exact HI738.out | apply IsS109.alloc | apply IsS109.drewN | apply IsS109.drew | apply IsS109.set_1) | exact HI738.out)); (case side2 => repeat (first | (with_reducible first | exact HB.out | apply below_alloc | apply pw_below_drewN | apply below_drew1 | refine below_set ?_ (IsS109.ge HI738.out)) | exact HB.out)); (case side3 => repeat (first | exact (Kd.R_reads' HO741.out).2.2 | (with_reducible refine Kd.C_alloc ?_ _) | (with_reducible refine Kd.C_drewN ?_ _) | (with_reducible refine Kd.C_drew ?_))); (case side4 => exact (Kd.R_reads' HO741.out).2.1); (case side5 => exact far_slice (IsS109.own_ne HI738.out HO741.out (by decide))); rintro e w16 ⟨rfl, hi, hb, hk⟩; refine ⟨_, rfl, ?_⟩; have n0_ := Aside0.mk (Kd.R_mono (Kd.R_keep (IsS109.apart (show IsS109 w _ g738 t736 t744 from by repeat (first | (with_reducible first | exact HI738.out | apply IsS109.alloc | apply IsS109.drewN | apply IsS109.drew | apply IsS109.set_1) | exact HI738.out)) (by (with_reducible repeat (first | apply Kd.R_alloc | apply Kd.R_drewN | apply Kd.R_drew)); exact HO741.out) (by decide)) hk (fun _ h => h.2)) (fun _ h => h.1)); have n1_ := Aside0.mk (hb); have n2_ := Aside0.mk (hi); clear HO741; clear HB; clear HI738; have HO741 := n0_; have HB := n1_; have HI738 := n2_; clear n0_ n1_ n2_; (try clear hb); (try clear hb2); (try clear hk); (try clear hi)))
    go_ret2
    exact ⟨_, by first | rfl | (simp [errW_none, errW_some] <;> rfl) | (simp [*, errW_none, errW_some] <;> rfl), by (with_reducible repeat (first | apply Kd.R_alloc | apply Kd.R_drewN | apply Kd.R_drew)); exact HO741.out, by repeat (first | (with_reducible first | exact HB.out | apply below_alloc | apply pw_below_drewN | apply below_drew1 | refine below_set ?_ (IsS109.ge HI738.out)) | exact HB.out)⟩
end Go.Proofs.Ytonagfbadoacjaa.Q
end
section
namespace Go.Proofs.Ytonagfbadoacjaa.Q
open Go.RowKit Go.Proofs.YtonagfbadoacjaaW.PrintWords Go.Proofs.YtonagfbadoacjaaW.PrintLast Go.Proofs.YtonagfbadoacjaaW.PrintMore
attribute [local go_sem] max2_int min2_int max_two min_two max_three min_three max_four min_four   
set_option linter.unusedVariables false
set_option linter.unusedSimpArgs false
def laws_ltIn.l0 : Nat → List ByteArray → ByteArray → Int → Option (Bool)
  | 0, _, _, _ => none
  | k + 1, x0, x1, x5 => if x5 < (x0.length : Int) then (if 0 ≤ x5 then (if (rdOf ByteArray.empty x0 x5).toList = x1.toList then (some true) else (laws_ltIn.l0 k x0 x1 (wrap64 (x5 + 1)))) else (none)) else (some false)
def laws_ltIn.f (k : Nat) (l0 : List ByteArray) (a1 : ByteArray) : Option (Bool) := laws_ltIn.l0 k l0 a1 0
theorem laws_ltIn.mono_l : ∀ k, (∀ y0 y1 y2, LeO (laws_ltIn.l0 k y0 y1 y2) (laws_ltIn.l0 (k + 1) y0 y1 y2))
  | 0 => fun _ _ _ r h => by simp [laws_ltIn.l0] at h
  | k + 1 => by
    have ih0 := laws_ltIn.mono_l k
    · intro y0 y1 y2
      unfold laws_ltIn.l0
      repeat' first
      | (with_reducible exact ih0 _ _ _)
      | (with_reducible exact LeO.refl _)
      | (with_reducible exact LeO.none _)
      | (with_reducible refine LeO.ite ?_ ?_)
      | (with_reducible refine LeO.bind ?_ (fun _ => ?_))
      | exact ih0 _ _ _
      | exact LeO.none _
      | refine LeO.ite ?_ ?_
      | refine LeO.bind ?_ (fun _ => ?_)
theorem laws_ltIn.mono : ∀ a0 a1 k, LeO (laws_ltIn.f k a0 a1) (laws_ltIn.f (k + 1) a0 a1) := by
  intro a0 a1 k
  have ih0 := laws_ltIn.mono_l k
  unfold laws_ltIn.f
  repeat' first
      | (with_reducible exact ih0 _ _ _)
      | (with_reducible exact LeO.refl _)
      | (with_reducible exact LeO.none _)
      | (with_reducible refine LeO.ite ?_ ?_)
      | (with_reducible refine LeO.bind ?_ (fun _ => ?_))
      | exact ih0 _ _ _
      | exact LeO.none _
      | refine LeO.ite ?_ ?_
      | refine LeO.bind ?_ (fun _ => ?_)
set_option maxHeartbeats 8000000 in
set_option maxRecDepth 100000 in
theorem laws_ltIn.calls (k : Nat) (A0 : Option Addr) (c0 : Nat) (l0 : List ByteArray) (a1 : ByteArray) (r : Bool) (w : World) (hr0 : Kd.C Kd.string w A0 l0.length l0) (hc0 : l0.length ≤ c0) (h : laws_ltIn.f k l0 a1 = some r) :
    Calls Try.prog 65 #[.slice A0 l0.length c0, .string a1] w fun e w' => e = .returned (.bool r) ∧ Drawn0 w w' := by
  have HR0 := Aside0.mk hr0
  have HC0 := Aside0.mk hc0
  clear hr0 hc0
  have H : (laws_ltIn.l0 k l0 a1 0) = some r := h
  clear h
  have H' := Aside0.mk H
  clear H
  go_enter Try.func65, Try.ntmps65
  go_wp2
  go_loopg [5] k (fun kq v5 w' => ∃ (x5_1 : Int), v5 = .int .i64 x5_1 ∧ Aside0 (laws_ltIn.l0 kq l0 a1 x5_1 = some r) ∧ Aside0 (kq ≤ k) ∧ Drawn0 w w')
  case atStart => exact ⟨(0), (by first | rfl | (simp; done) | (simp [*]; done)), H', ⟨Nat.le_refl _⟩, by repeat (first | exact Drawn0.refl _ | apply Drawn0.step)⟩
  case round =>
    clear H'
    try clear p2
    obtain ⟨x5_1, rfl, HA, HK1, ⟨m1, rfl⟩⟩ := hrel
    cases gk with
    | zero => exact absurd HA.out (by simp [laws_ltIn.l0])
    | succ k1 =>
      have H := HA.out
      clear HA
      simp only [laws_ltIn.l0] at H
      by_cases c3 : x5_1 < (l0.length : Int)
      · rw [if_pos c3] at H
        have c3b0 : decide (x5_1 < (l0.length : Int)) = true := decide_eq_true c3
        clear c3
        by_cases c4 : 0 ≤ x5_1
        · rw [if_pos c4] at H
          have c4b0 : decide (0 ≤ x5_1) = true := decide_eq_true c4
          clear c4
          by_cases c5 : (rdOf ByteArray.empty l0 x5_1).toList = a1.toList
          · rw [if_pos c5] at H
            have c5b0 : ((rdOf ByteArray.empty l0 x5_1).toList == a1.toList) = true := beq_iff_eq.mpr c5
            have c5b1 : ((rdOf ByteArray.empty l0 x5_1).toList != a1.toList) = false := bne_eq_false_iff_eq.mpr c5
            clear c5
            obtain rfl := Option.some.inj H
            have p753 : 0 ≤ (x5_1 : Int) := of_decide_eq_true (by first | (with_reducible assumption) | assumption)
            have q753 : x5_1 < (l0.length : Int) := of_decide_eq_true (by first | (with_reducible assumption) | assumption)
            obtain ⟨ad753, e753, hx753_0⟩ := Kd.at_string HR0.out x5_1 p753 q753
            cases e753
            replace p753 := eq_true p753
            replace q753 := eq_true q753
            go_wp2
            go_ret
            exact ⟨by first | rfl | (simp; done) | (simp [*]; done), by repeat (first | exact Drawn0.refl _ | apply Drawn0.step)⟩
          · rw [if_neg c5] at H
            have c5b0 : ((rdOf ByteArray.empty l0 x5_1).toList == a1.toList) = false := beq_eq_false_iff_ne.mpr c5
            have c5b1 : ((rdOf ByteArray.empty l0 x5_1).toList != a1.toList) = true := bne_iff_ne.mpr c5
            have H' := Aside0.mk H
            clear H
            have p753 : 0 ≤ (x5_1 : Int) := of_decide_eq_true (by first | (with_reducible assumption) | assumption)
            have q753 : x5_1 < (l0.length : Int) := of_decide_eq_true (by first | (with_reducible assumption) | assumption)
            obtain ⟨ad753, e753, hx753_0⟩ := Kd.at_string HR0.out x5_1 p753 q753
            cases e753
            replace p753 := eq_true p753
            replace q753 := eq_true q753
            go_wp2
            go_roundg k1
            case measure => have := HK1.out; omega
            case rel => exact ⟨(wrap64 (x5_1 + 1)), (by first | rfl | (simp; done) | (simp [*]; done)), H', ⟨by have := HK1.out; omega⟩, by repeat (first | exact Drawn0.refl _ | apply Drawn0.step)⟩
        · rw [if_neg c4] at H
          exact absurd H (by simp)
      · rw [if_neg c3] at H
        have c3b0 : decide (x5_1 < (l0.length : Int)) = false := decide_eq_false c3
        clear c3
        obtain rfl := Option.some.inj H
        go_wp2
        go_ret
        exact ⟨by first | rfl | (simp; done) | (simp [*]; done), by repeat (first | exact Drawn0.refl _ | apply Drawn0.step)⟩
end Go.Proofs.Ytonagfbadoacjaa.Q
end
section
set_option linter.unusedVariables false
set_option linter.unusedSimpArgs false
namespace Go.Proofs.Ytonagfbadoacjaa.Pb
open Go Go.RowKit Go.Proofs.YtonagfbadoacjaaW.PrintWords Go.Proofs.YtonagfbadoacjaaW.PrintLast Go.Proofs.YtonagfbadoacjaaW.PrintMore Go.Proofs.Ytonagfbadoacjaa.Trie Go.Proofs.Ytonagfbadoacjaa.Q
def putN (k : Key) : List Key → List Key
  | [] => [k]
  | y :: l => if k < y then k :: y :: l else y :: putN k l
def putB (K : List Key) (k : Key) : List Key := if k ∈ K then K else putN k K
theorem L_eq_iff {a b : ByteArray} : a.toList = b.toList ↔ L a = L b := by rw [toList_L, toList_L]
theorem l2Put_true (x0 : List ByteArray) (x1 : ByteArray) (hn : x0.length ≤ 2000000) (d : Nat) : ∀ (x5 : List ByteArray) (i : Nat), i ≤ x0.length → x0.length - i = d → x5.length ≤ i + 1 →
    ∃ r, Ev (fun k => spec_l2Put.l0 k x0 x1 x5 true (i : Int)) r ∧ LL r = if L x1 ∈ (LL x0).drop i then LL x0 else LL x5 ++ (LL x0).drop i := by
  have hz := LL_length x0
  induction d with
  | zero =>
    intro x5 i h1 h2 h3
    refine ⟨x5, ev_succ ?_, ?_⟩
    · simp only [spec_l2Put.l0]
      exact ev_neg (by omega) (ev_pos trivial (ev_some rfl))
    · rw [List.drop_eq_nil_of_le (by omega)]; simp
  | succ d ih =>
    intro x5 i h1 h2 h3
    have hr := L_rd x0 i
    obtain ⟨y, hy⟩ : ∃ y, rdOf ByteArray.empty x0 (i : Int) = y := ⟨_, rfl⟩
    rw [hy] at hr
    have hdrop : (LL x0).drop i = L y :: (LL x0).drop (i + 1) := by rw [drop_cons [] (by omega), ← hr]
    by_cases e : L y = L x1
    · refine ⟨x0, ev_succ ?_, ?_⟩
      · simp only [spec_l2Put.l0, hy]
        exact ev_pos (by omega) (ev_pos (by omega) (ev_pos (L_eq_iff.2 e) (ev_some rfl)))
      · rw [hdrop, if_pos (by simp [e])]
    · obtain ⟨r, hr, he⟩ := ih (x5 ++ [y]) (i + 1) (by omega) (by omega) (by simp; omega)
      refine ⟨r, ev_succ ?_, ?_⟩
      · simp only [spec_l2Put.l0, hy]
        refine ev_pos (by omega) (ev_pos (by omega) (ev_neg (fun q => e (L_eq_iff.1 q)) (ev_pos trivial (ev_pos (by omega) ?_))))
        rw [w64 (by omega) (by omega)]; exact hr
      · rw [he, hdrop]
        have hm : (L x1 ∈ L y :: (LL x0).drop (i + 1)) ↔ L x1 ∈ (LL x0).drop (i + 1) := by
          rw [List.mem_cons]
          exact ⟨fun h => h.resolve_left (fun q => e q.symm), .inr⟩
        by_cases m : L x1 ∈ (LL x0).drop (i + 1)
        · rw [if_pos m, if_pos (hm.2 m)]
        · rw [if_neg m, if_neg (fun q => m (hm.1 q)), LL_append]
          simp [LL]
theorem l2Put_false (x0 : List ByteArray) (x1 : ByteArray) (hn : x0.length ≤ 2000000) (d : Nat) : ∀ (x5 : List ByteArray) (i : Nat), i ≤ x0.length → x0.length - i = d → x5.length ≤ i →
    ∃ r, Ev (fun k => spec_l2Put.l0 k x0 x1 x5 false (i : Int)) r ∧ LL r = if L x1 ∈ (LL x0).drop i then LL x0 else LL x5 ++ putN (L x1) ((LL x0).drop i) := by
  have hz := LL_length x0
  induction d with
  | zero =>
    intro x5 i h1 h2 h3
    refine ⟨x5 ++ [x1], ev_succ ?_, ?_⟩
    · simp only [spec_l2Put.l0]
      exact ev_neg (by omega) (ev_neg (by simp) (ev_pos (by omega) (ev_some rfl)))
    · rw [List.drop_eq_nil_of_le (by omega), LL_append]
      simp [putN, LL]
  | succ d ih =>
    intro x5 i h1 h2 h3
    have hr := L_rd x0 i
    obtain ⟨y, hy⟩ : ∃ y, rdOf ByteArray.empty x0 (i : Int) = y := ⟨_, rfl⟩
    rw [hy] at hr
    have hdrop : (LL x0).drop i = L y :: (LL x0).drop (i + 1) := by rw [drop_cons [] (by omega), ← hr]
    by_cases e : L y = L x1
    · refine ⟨x0, ev_succ ?_, ?_⟩
      · simp only [spec_l2Put.l0, hy]
        exact ev_pos (by omega) (ev_pos (by omega) (ev_pos (L_eq_iff.2 e) (ev_some rfl)))
      · rw [hdrop, if_pos (by simp [e])]
    · have hm : (L x1 ∈ L y :: (LL x0).drop (i + 1)) ↔ L x1 ∈ (LL x0).drop (i + 1) := by
        rw [List.mem_cons]
        exact ⟨fun h => h.resolve_left (fun q => e q.symm), .inr⟩
      by_cases lt : L x1 < L y
      · obtain ⟨r, hr, he⟩ := l2Put_true x0 x1 hn d (x5 ++ [x1] ++ [y]) (i + 1) (by omega) (by omega) (by simp; omega)
        refine ⟨r, ev_succ ?_, ?_⟩
        · simp only [spec_l2Put.l0, hy]
          refine ev_pos (by omega) (ev_pos (by omega) (ev_neg (fun q => e (L_eq_iff.1 q)) (ev_neg (by simp) (ev_pos (by rw [less_L, decide_eq_true_eq, toList_L, toList_L]; exact lt) (ev_pos (by omega) (ev_bindc rfl (ev_pos (by simp; omega) ?_)))))))
          rw [w64 (by omega) (by omega)]; exact hr
        · rw [he, hdrop]
          by_cases m : L x1 ∈ (LL x0).drop (i + 1)
          · rw [if_pos m, if_pos (hm.2 m)]
          · rw [if_neg m, if_neg (fun q => m (hm.1 q)), putN, if_pos lt, LL_append, LL_append]
            simp [LL]
      · obtain ⟨r, hr, he⟩ := ih (x5 ++ [y]) (i + 1) (by omega) (by omega) (by simp; omega)
        refine ⟨r, ev_succ ?_, ?_⟩
        · simp only [spec_l2Put.l0, hy]
          refine ev_pos (by omega) (ev_pos (by omega) (ev_neg (fun q => e (L_eq_iff.1 q)) (ev_neg (by simp) (ev_neg (by rw [less_L, decide_eq_true_eq, toList_L, toList_L]; exact lt) (ev_pos (by omega) ?_)))))
          rw [w64 (by omega) (by omega)]; exact hr
        · rw [he, hdrop]
          by_cases m : L x1 ∈ (LL x0).drop (i + 1)
          · rw [if_pos m, if_pos (hm.2 m)]
          · rw [if_neg m, if_neg (fun q => m (hm.1 q)), putN, if_neg lt, LL_append]
            simp [LL]
theorem l2Put_ev (x0 : List ByteArray) (x1 : ByteArray) (hn : x0.length ≤ 2000000) : ∃ r, Ev (fun k => spec_l2Put.f k x0 x1) r ∧ LL r = putB (LL x0) (L x1) := by
  obtain ⟨r, hr, he⟩ := l2Put_false x0 x1 hn x0.length [] 0 (by omega) (by omega) (by simp)
  refine ⟨r, hr, ?_⟩
  rw [he, List.drop_zero]
  simp [putB, LL]
theorem putN_mem {k x : Key} {K : List Key} : x ∈ putN k K ↔ x = k ∨ x ∈ K := by
  induction K with
  | nil => simp [putN]
  | cons y l ih =>
    rw [putN]
    split
    · simp
    · simp only [List.mem_cons, ih]
      constructor
      · rintro (h | h | h)
        · exact .inr (.inl h)
        · exact .inl h
        · exact .inr (.inr h)
      · rintro (h | h | h)
        · exact .inr (.inl h)
        · exact .inl h
        · exact .inr (.inr h)
theorem putB_mem {k x : Key} {K : List Key} : x ∈ putB K k ↔ x = k ∨ x ∈ K := by
  unfold putB
  split
  · rename_i h
    exact ⟨.inr, fun q => q.elim (fun e => e ▸ h) id⟩
  · exact putN_mem
theorem putN_length {k : Key} {K : List Key} : (putN k K).length = K.length + 1 := by
  induction K with
  | nil => rfl
  | cons y l ih => rw [putN]; split <;> simp [ih]
theorem putB_length {k : Key} {K : List Key} : (putB K k).length ≤ K.length + 1 := by
  unfold putB
  split
  · omega
  · rw [putN_length]; omega
theorem putN_sorted {k : Key} {K : List Key} (hK : K.Pairwise (· < ·)) (hk : k ∉ K) : (putN k K).Pairwise (· < ·) := by
  induction K with
  | nil => simp [putN]
  | cons y l ih =>
    have h2 := List.pairwise_cons.1 hK
    rw [putN]
    by_cases c : k < y
    · rw [if_pos c]
      refine List.pairwise_cons.2 ⟨fun x hx => ?_, hK⟩
      rcases List.mem_cons.1 hx with rfl | hx
      · exact c
      · exact key_trans c (h2.1 x hx)
    · rw [if_neg c]
      refine List.pairwise_cons.2 ⟨fun x hx => ?_, ih h2.2 (fun q => hk (by simp [q]))⟩
      rcases putN_mem.1 hx with e | hx
      · rw [e]
        rcases key_le_total k y with h | h | h
        · exact absurd h c
        · exact absurd (by simp [h]) hk
        · exact h
      · exact h2.1 x hx
theorem putB_sorted {k : Key} {K : List Key} (hK : K.Pairwise (· < ·)) : (putB K k).Pairwise (· < ·) := by
  unfold putB
  split
  · exact hK
  · rename_i h; exact putN_sorted hK h
structure SOk (K : List Key) : Prop where
  ok : ∀ k ∈ K, KOk k
  sorted : K.Pairwise (· < ·)
theorem sok_put {K : List Key} (h : SOk K) {k : Key} (hk : KOk k) : SOk (putB K k) :=
  ⟨fun x hx => (putB_mem.1 hx).elim (fun e => e ▸ hk) (h.ok x), putB_sorted h.sorted⟩
theorem LL_mem {l : List ByteArray} {x : ByteArray} (h : x ∈ l) : L x ∈ LL l := List.mem_map_of_mem h
theorem keys_l0_ev {b : List Int} (hb : By b) (d : Nat) : ∀ (x5 : List ByteArray) (p : Int), 0 ≤ p → p + 20 * d ≤ 600000 → SOk (LL x5) → x5.length + d ≤ 100 →
    ∃ s q, Ev (fun k => spec_l71Keys.l0 k x5 (d : Int) b p) (s, q) ∧ SOk (LL s) ∧ s.length ≤ x5.length + d ∧ p ≤ q ∧ q ≤ p + 20 * d := by
  induction d with
  | zero =>
    intro x5 p h0 h1 h2 h3
    refine ⟨x5, p, ev_succ ?_, h2, by omega, by omega, by omega⟩
    simp only [spec_l71Keys.l0]
    exact ev_neg (by omega) (ev_some rfl)
  | succ d ih =>
    intro x5 p h0 h1 h2 h3
    obtain ⟨s, q, hs, ks, q0, q1⟩ := near_ev hb p h0 (by omega) x5 (by omega) (fun x hx => h2.ok _ (LL_mem hx))
    obtain ⟨r, hr, he⟩ := l2Put_ev x5 s (by omega)
    have hl : r.length ≤ x5.length + 1 := by
      have := putB_length (k := L s) (K := LL x5)
      rw [← he, LL_length, LL_length] at this; exact this
    obtain ⟨s', q', hs', k', l', a0, a1⟩ := ih r q (by omega) (by omega) (by rw [he]; exact sok_put h2 ks) (by omega)
    refine ⟨s', q', ev_succ ?_, k', by omega, by omega, by omega⟩
    simp only [spec_l71Keys.l0]
    refine ev_pos (by omega) (Ev.bind hs (Ev.bind hr ?_))
    rw [w64 (by omega) (by omega), show ((d + 1 : Nat) : Int) - 1 = (d : Int) by omega]
    exact hs'
theorem keys_ev {b : List Int} (hb : By b) (p : Int) (h0 : 0 ≤ p) (h1 : p ≤ 100000) (n : Nat) (hn : n ≤ 30) :
    ∃ s q, Ev (fun k => spec_l71Keys.f k b p (n : Int)) (s, q) ∧ SOk (LL s) ∧ s.length ≤ n ∧ p ≤ q ∧ q ≤ p + 1000 := by
  obtain ⟨r, hr, g0, g1, _⟩ := pick_ev hb p h0 (by omega) ((n : Int) + 1) (by omega)
  have g1 := g1 (by omega)
  obtain ⟨m, rfl⟩ : ∃ m : Nat, r = (m : Int) := ⟨r.toNat, by omega⟩
  obtain ⟨s, q, hs, k, l, a0, a1⟩ := keys_l0_ev hb m [] (p + 1) (by omega) (by omega) ⟨by simp [LL], by simp [LL]⟩ (by simp; omega)
  refine ⟨s, q, ?_, k, by simp at l; omega, by omega, by omega⟩
  unfold spec_l71Keys.f
  rw [w64 (i := (n : Int) + 1) (by omega) (by omega)]
  exact Ev.bind hr hs
end Go.Proofs.Ytonagfbadoacjaa.Pb
end
section
namespace Go.Proofs.Ytonagfbadoacjaa.Q
open Go.RowKit Go.Proofs.YtonagfbadoacjaaW.PrintWords Go.Proofs.YtonagfbadoacjaaW.PrintLast Go.Proofs.YtonagfbadoacjaaW.PrintMore
attribute [local go_sem] max2_int min2_int max_two min_two max_three min_three max_four min_four   
set_option linter.unusedVariables false
set_option linter.unusedSimpArgs false
def laws_szStringS.l0 : Nat → List ByteArray → Int → Int → Option (Int)
  | 0, _, _, _ => none
  | k + 1, x0, x1, x5 => if x5 < (x0.length : Int) then (if 0 ≤ x5 then (if (wrap64 (x1 - ((rdOf ByteArray.empty x0 x5).size : Int))) < 0 then (some (-1)) else (laws_szStringS.l0 k x0 (wrap64 (x1 - ((rdOf ByteArray.empty x0 x5).size : Int))) (wrap64 (x5 + 1)))) else (none)) else (some x1)
def laws_szStringS.f (k : Nat) (l0 : List ByteArray) (a1 : Int) : Option (Int) := if (wrap64 (a1 - (l0.length : Int))) < 0 then (some (-1)) else (laws_szStringS.l0 k l0 (wrap64 (a1 - (l0.length : Int))) 0)
theorem laws_szStringS.mono_l : ∀ k, (∀ y0 y1 y2, LeO (laws_szStringS.l0 k y0 y1 y2) (laws_szStringS.l0 (k + 1) y0 y1 y2))
  | 0 => fun _ _ _ r h => by simp [laws_szStringS.l0] at h
  | k + 1 => by
    have ih0 := laws_szStringS.mono_l k
    · intro y0 y1 y2
      unfold laws_szStringS.l0
      repeat' first
      | (with_reducible exact ih0 _ _ _)
      | (with_reducible exact LeO.refl _)
      | (with_reducible exact LeO.none _)
      | (with_reducible refine LeO.ite ?_ ?_)
      | (with_reducible refine LeO.bind ?_ (fun _ => ?_))
      | exact ih0 _ _ _
      | exact LeO.none _
      | refine LeO.ite ?_ ?_
      | refine LeO.bind ?_ (fun _ => ?_)
theorem laws_szStringS.mono : ∀ a0 a1 k, LeO (laws_szStringS.f k a0 a1) (laws_szStringS.f (k + 1) a0 a1) := by
  intro a0 a1 k
  have ih0 := laws_szStringS.mono_l k
  unfold laws_szStringS.f
  repeat' first
      | (with_reducible exact ih0 _ _ _)
      | (with_reducible exact LeO.refl _)
      | (with_reducible exact LeO.none _)
      | (with_reducible refine LeO.ite ?_ ?_)
      | (with_reducible refine LeO.bind ?_ (fun _ => ?_))
      | exact ih0 _ _ _
      | exact LeO.none _
      | refine LeO.ite ?_ ?_
      | refine LeO.bind ?_ (fun _ => ?_)
set_option maxHeartbeats 8000000 in
set_option maxRecDepth 100000 in
theorem laws_szStringS.calls (k : Nat) (A0 : Option Addr) (c0 : Nat) (l0 : List ByteArray) (a1 : Int) (r : Int) (w : World) (hr0 : Kd.C Kd.string w A0 l0.length l0) (hc0 : l0.length ≤ c0) (h : laws_szStringS.f k l0 a1 = some r) :
    Calls Try.prog 50 #[.slice A0 l0.length c0, .int .i64 a1] w fun e w' => e = .returned (.int .i64 r) ∧ Drawn0 w w' := by
  have HR0 := Aside0.mk hr0
  have HC0 := Aside0.mk hc0
  clear hr0 hc0
  have H : (if (wrap64 (a1 - (l0.length : Int))) < 0 then (some (-1)) else (laws_szStringS.l0 k l0 (wrap64 (a1 - (l0.length : Int))) 0)) = some r := h
  clear h
  by_cases c3 : (wrap64 (a1 - (l0.length : Int))) < 0
  · rw [if_pos c3] at H
    have c3b0 : decide ((wrap64 (a1 - (l0.length : Int))) < 0) = true := decide_eq_true c3
    clear c3
    obtain rfl := Option.some.inj H
    go_enter Try.func50, Try.ntmps50
    go_wp2
    go_ret
    exact ⟨by first | rfl | (simp; done) | (simp [*]; done), by repeat (first | exact Drawn0.refl _ | apply Drawn0.step)⟩
  · rw [if_neg c3] at H
    have c3b0 : decide ((wrap64 (a1 - (l0.length : Int))) < 0) = false := decide_eq_false c3
    clear c3
    have H' := Aside0.mk H
    clear H
    go_enter Try.func50, Try.ntmps50
    go_wp2
    go_loopg [1, 5] k (fun kq v1 v5 w' => ∃ (x1_1 : Int) (x5_1 : Int), v1 = .int .i64 x1_1 ∧ v5 = .int .i64 x5_1 ∧ Aside0 (laws_szStringS.l0 kq l0 x1_1 x5_1 = some r) ∧ Aside0 (kq ≤ k) ∧ Drawn0 w w')
    case atStart => exact ⟨(wrap64 (a1 - (l0.length : Int))), (0), (by first | rfl | (simp; done) | (simp [*]; done)), (by first | rfl | (simp; done) | (simp [*]; done)), H', ⟨Nat.le_refl _⟩, by repeat (first | exact Drawn0.refl _ | apply Drawn0.step)⟩
    case round =>
      clear H'
      try clear p2
      try clear c3
      try clear c3b0
      obtain ⟨x1_1, x5_1, rfl, rfl, HA, HK1, ⟨m1, rfl⟩⟩ := hrel
      cases gk with
      | zero => exact absurd HA.out (by simp [laws_szStringS.l0])
      | succ k1 =>
        have H := HA.out
        clear HA
        simp only [laws_szStringS.l0] at H
        by_cases c4 : x5_1 < (l0.length : Int)
        · rw [if_pos c4] at H
          have c4b0 : decide (x5_1 < (l0.length : Int)) = true := decide_eq_true c4
          clear c4
          by_cases c5 : 0 ≤ x5_1
          · rw [if_pos c5] at H
            have c5b0 : decide (0 ≤ x5_1) = true := decide_eq_true c5
            clear c5
            by_cases c6 : (wrap64 (x1_1 - ((rdOf ByteArray.empty l0 x5_1).size : Int))) < 0
            · rw [if_pos c6] at H
              have c6b0 : decide ((wrap64 (x1_1 - ((rdOf ByteArray.empty l0 x5_1).size : Int))) < 0) = true := decide_eq_true c6
              clear c6
              obtain rfl := Option.some.inj H
              have p535 : 0 ≤ (x5_1 : Int) := of_decide_eq_true (by first | (with_reducible assumption) | assumption)
              have q535 : x5_1 < (l0.length : Int) := of_decide_eq_true (by first | (with_reducible assumption) | assumption)
              obtain ⟨ad535, e535, hx535_0⟩ := Kd.at_string HR0.out x5_1 p535 q535
              cases e535
              replace p535 := eq_true p535
              replace q535 := eq_true q535
              go_wp2
              go_ret
              exact ⟨by first | rfl | (simp; done) | (simp [*]; done), by repeat (first | exact Drawn0.refl _ | apply Drawn0.step)⟩
            · rw [if_neg c6] at H
              have c6b0 : decide ((wrap64 (x1_1 - ((rdOf ByteArray.empty l0 x5_1).size : Int))) < 0) = false := decide_eq_false c6
              clear c6
              have H' := Aside0.mk H
              clear H
              have p535 : 0 ≤ (x5_1 : Int) := of_decide_eq_true (by first | (with_reducible assumption) | assumption)
              have q535 : x5_1 < (l0.length : Int) := of_decide_eq_true (by first | (with_reducible assumption) | assumption)
              obtain ⟨ad535, e535, hx535_0⟩ := Kd.at_string HR0.out x5_1 p535 q535
              cases e535
              replace p535 := eq_true p535
              replace q535 := eq_true q535
              go_wp2
              go_roundg k1
              case measure => have := HK1.out; omega
              case rel => exact ⟨(wrap64 (x1_1 - ((rdOf ByteArray.empty l0 x5_1).size : Int))), (wrap64 (x5_1 + 1)), (by first | rfl | (simp; done) | (simp [*]; done)), (by first | rfl | (simp; done) | (simp [*]; done)), H', ⟨by have := HK1.out; omega⟩, by repeat (first | exact Drawn0.refl _ | apply Drawn0.step)⟩
          · rw [if_neg c5] at H
            exact absurd H (by simp)
        · rw [if_neg c4] at H
          have c4b0 : decide (x5_1 < (l0.length : Int)) = false := decide_eq_false c4
          clear c4
          obtain rfl := Option.some.inj H
          go_wp2
          go_ret
          exact ⟨by first | rfl | (simp; done) | (simp [*]; done), by repeat (first | exact Drawn0.refl _ | apply Drawn0.step)⟩
end Go.Proofs.Ytonagfbadoacjaa.Q
end
section
namespace Go.Proofs.Ytonagfbadoacjaa.Q
open Go.RowKit Go.Proofs.YtonagfbadoacjaaW.PrintWords Go.Proofs.YtonagfbadoacjaaW.PrintLast Go.Proofs.YtonagfbadoacjaaW.PrintMore
attribute [local go_sem] max2_int min2_int max_two min_two max_three min_three max_four min_four   
set_option linter.unusedVariables false
set_option linter.unusedSimpArgs false
def laws_toStringS.l0 : Nat → List ByteArray → List ByteArray → Int → Option (List ByteArray)
  | 0, _, _, _ => none
  | k + 1, x0, x3, x4 => if x4 < (x0.length : Int) then (if 0 ≤ x4 then (if x4 < (x3.length : Int) then (laws_toStringS.l0 k x0 (x3.set (x4 : Int).toNat (rdOf ByteArray.empty x0 x4)) (wrap64 (x4 + 1))) else (none)) else (none)) else (some x3)
def laws_toStringS.f (k : Nat) (l0 : List ByteArray) : Option (List ByteArray) := if 0 ≤ (l0.length : Int) then (if ((l0.length : Int) : Int).toNat ≤ 17592186044416 then (laws_toStringS.l0 k l0 (List.replicate ((l0.length : Int) : Int).toNat (⟨#[]⟩ : ByteArray)) 0) else (none)) else (none)
theorem laws_toStringS.mono_l : ∀ k, (∀ y0 y1 y2, LeO (laws_toStringS.l0 k y0 y1 y2) (laws_toStringS.l0 (k + 1) y0 y1 y2))
  | 0 => fun _ _ _ r h => by simp [laws_toStringS.l0] at h
  | k + 1 => by
    have ih0 := laws_toStringS.mono_l k
    · intro y0 y1 y2
      unfold laws_toStringS.l0
      repeat' first
      | (with_reducible exact ih0 _ _ _)
      | (with_reducible exact LeO.refl _)
      | (with_reducible exact LeO.none _)
      | (with_reducible refine LeO.ite ?_ ?_)
      | (with_reducible refine LeO.bind ?_ (fun _ => ?_))
      | exact ih0 _ _ _
      | exact LeO.none _
      | refine LeO.ite ?_ ?_
      | refine LeO.bind ?_ (fun _ => ?_)
theorem laws_toStringS.mono : ∀ a0 k, LeO (laws_toStringS.f k a0) (laws_toStringS.f (k + 1) a0) := by
  intro a0 k
  have ih0 := laws_toStringS.mono_l k
  unfold laws_toStringS.f
  repeat' first
      | (with_reducible exact ih0 _ _ _)
      | (with_reducible exact LeO.refl _)
      | (with_reducible exact LeO.none _)
      | (with_reducible refine LeO.ite ?_ ?_)
      | (with_reducible refine LeO.bind ?_ (fun _ => ?_))
      | exact ih0 _ _ _
      | exact LeO.none _
      | refine LeO.ite ?_ ?_
      | refine LeO.bind ?_ (fun _ => ?_)
set_option maxHeartbeats 8000000 in
set_option maxRecDepth 100000 in
theorem laws_toStringS.calls (k : Nat) (A0 : Option Addr) (c0 : Nat) (l0 : List ByteArray) (r : List ByteArray) (w : World) (hr0 : Kd.C Kd.string w A0 l0.length l0) (hc0 : l0.length ≤ c0) (h : laws_toStringS.f k l0 = some r) :
    Calls Try.prog 52 #[.slice A0 l0.length c0] w fun e w' => ∃ v0_ : Value, e = .returned (v0_) ∧ Kd.R Kd.string 9 w' w.heap.size (fun _ => True) v0_ r ∧ Below w.heap.size w w' := by
  have HR0 := Aside0.mk hr0
  have HC0 := Aside0.mk hc0
  clear hr0 hc0
  have HB := Aside0.mk (Below.refl w.heap.size w)
  have H : (if 0 ≤ (l0.length : Int) then (if ((l0.length : Int) : Int).toNat ≤ 17592186044416 then (laws_toStringS.l0 k l0 (List.replicate ((l0.length : Int) : Int).toNat (⟨#[]⟩ : ByteArray)) 0) else (none)) else (none)) = some r := h
  clear h
  by_cases c2 : 0 ≤ (l0.length : Int)
  · rw [if_pos c2] at H
    have c2b0 := eq_true c2
    have c2b1 : decide (0 ≤ (l0.length : Int)) = true := decide_eq_true c2
    clear c2
    by_cases c3 : ((l0.length : Int) : Int).toNat ≤ 17592186044416
    · rw [if_pos c3] at H
      have c3b0 := eq_true c3
      have c3b1 : decide (((l0.length : Int) : Int).toNat ≤ 17592186044416) = true := decide_eq_true c3
      clear c3
      obtain ⟨y536, hy536⟩ : ∃ y_ : List ByteArray, y_ = (List.replicate ((l0.length : Int) : Int).toNat (⟨#[]⟩ : ByteArray)) := ⟨_, rfl⟩
      replace H : (laws_toStringS.l0 k l0 y536 0) = some r := by first | (rw [hy536]; with_reducible exact H) | (have H2_ := (Option.bind_some _ _).symm.trans H; rw [hy536]; with_reducible exact H2_) | (have H2_ := (Option.bind_some _ _).symm.trans H; with_reducible exact H2_) | with_reducible exact H | (rw [hy536]; exact H) | exact H
      have Ny536 := Aside0.mk hy536
      clear hy536
      have H' := Aside0.mk H
      clear H
      go_enter Try.func52, Try.ntmps52
      go_wp2_with (first | ((with_reducible refine gate_dst (N := 7) rfl ?_); refine Kd.R_make Kd.string _ 9 rfl (N := 7) rfl 26 _ _ rfl (l0.length : Int) rfl rfl Try.underlying26 (.string ⟨#[]⟩) 16 info9 rfl (by decide) (by omega) (⟨#[]⟩ : ByteArray) (ok := fun _ => True) (okp := fun _ => True) rfl (fun _ hk => hk) trivial (of_decide_eq_true (by first | (with_reducible assumption) | assumption)) (Nat.le_trans (Nat.mul_le_mul_right _ (of_decide_eq_true (by first | (with_reducible assumption) | assumption) : (l0.length : Int).toNat ≤ 17592186044416)) (by omega)) (Below.refl _ _) (Nat.le_refl _) ?_; intro v537 w4 ho5 hb hg_ hnew_; clear hg_ hnew_; (first | rw [← Ny536.out] at ho5 | (simp only [Int.reduceToNat] at ho5; rw [← Ny536.out] at ho5)); have n0_ := Aside0.mk (Kd.R_lower ho5 (below_size (by repeat (first | (with_reducible first | exact HB.out | apply below_alloc | apply pw_below_drewN | apply below_drew1) | exact HB.out)))); have n1_ := Aside0.mk (below_step (by repeat (first | (with_reducible first | exact HB.out | apply below_alloc | apply pw_below_drewN | apply below_drew1) | exact HB.out)) hb); clear HB; have HO538 := n0_; have HB := n1_; clear n0_ n1_; clear hb ho5))
      go_loopg [4] k (fun kq v4 w' => ∃ (x3_1 : List ByteArray) (x4_1 : Int), v4 = .int .i64 x4_1 ∧ Aside0 (laws_toStringS.l0 kq l0 x3_1 x4_1 = some r) ∧ Aside0 (kq ≤ k) ∧ Aside0 (Kd.R Kd.string 9 w' w.heap.size (fun _ => True) v537 x3_1) ∧ Aside0 (Below w.heap.size w w'))
      case atStart => exact ⟨(y536), (0), (by first | rfl | (simp; done) | (simp [*]; done)), H', ⟨Nat.le_refl _⟩, ⟨by (with_reducible repeat (first | apply Kd.R_alloc | apply Kd.R_drewN | apply Kd.R_drew)); exact HO538.out⟩, ⟨by repeat (first | (with_reducible first | exact HB.out | apply below_alloc | apply pw_below_drewN | apply below_drew1) | exact HB.out)⟩⟩
      case round =>
        clear H'
        try clear c2
        try clear c2b0
        try clear c2b1
        try clear p2
        try clear c3
        try clear c3b0
        try clear c3b1
        try clear c5
        obtain ⟨x3_1, x4_1, rfl, HA, HK1, HO_3, HB⟩ := hrel
        cases gk with
        | zero => exact absurd HA.out (by simp [laws_toStringS.l0])
        | succ k1 =>
          have H := HA.out
          clear HA
          simp only [laws_toStringS.l0] at H
          by_cases c6 : x4_1 < (l0.length : Int)
          · rw [if_pos c6] at H
            have c6b0 : decide (x4_1 < (l0.length : Int)) = true := decide_eq_true c6
            clear c6
            by_cases c7 : 0 ≤ x4_1
            · rw [if_pos c7] at H
              have c7b0 : decide (0 ≤ x4_1) = true := decide_eq_true c7
              clear c7
              by_cases c8 : x4_1 < (x3_1.length : Int)
              · rw [if_pos c8] at H
                have c8b0 : decide (x4_1 < (x3_1.length : Int)) = true := decide_eq_true c8
                clear c8
                obtain ⟨y540, hy540⟩ : ∃ y_ : List ByteArray, y_ = (x3_1.set (x4_1 : Int).toNat (rdOf ByteArray.empty l0 x4_1)) := ⟨_, rfl⟩
                replace H : (laws_toStringS.l0 k1 l0 y540 (wrap64 (x4_1 + 1))) = some r := by first | (rw [hy540]; with_reducible exact H) | (have H2_ := (Option.bind_some _ _).symm.trans H; rw [hy540]; with_reducible exact H2_) | (have H2_ := (Option.bind_some _ _).symm.trans H; with_reducible exact H2_) | with_reducible exact H | (rw [hy540]; exact H) | exact H
                have Ny540 := Aside0.mk hy540
                clear hy540
                have H' := Aside0.mk H
                clear H
                have p539 : 0 ≤ (x4_1 : Int) := of_decide_eq_true (by first | (with_reducible assumption) | assumption)
                have q539 : x4_1 < (l0.length : Int) := of_decide_eq_true (by first | (with_reducible assumption) | assumption)
                obtain ⟨ad539, e539, hx539_0⟩ := Kd.at_string HR0.out x4_1 p539 q539
                cases e539
                replace hx539_0 := (HB.out.cell (World.block_lt_of_cell? w _ hx539_0)).trans hx539_0
                replace p539 := eq_true p539
                replace q539 := eq_true q539
                have p9 : 0 ≤ (x4_1 : Int) := of_decide_eq_true (by first | (with_reducible assumption) | assumption)
                have q9 : (x4_1 : Int) < ((x3_1.length : Int) : Int) := of_decide_eq_true (by first | (with_reducible assumption) | assumption)
                obtain ⟨go9, co9, eo9, gb9, gl9, cl9, HG9⟩ := Kd.R_form HO_3.out (by omega)
                (first | cases eo9 | (injection eo9 with ea_ en_ ec_; (first | subst ea_ | (injection ea_ with ea_; subst ea_)); subst ec_; clear en_))
                have GB9 := Aside0.mk gb9
                have GG9 := Aside0.mk HG9
                clear gb9 gl9 HG9
                obtain ⟨hx9_0, hf9_0⟩ := Kd.R_celln (⟨#[]⟩ : ByteArray) HO_3.out (x4_1 : Int) p9 q9
                replace p9 := eq_true p9
                replace q9 := eq_true q9
                have HP10 := Kd.R_putg HO_3.out (x4_1 : Int) (rdOf ByteArray.empty l0 x4_1)
                go_wp2_with (first | ((with_reducible refine gate_store (t := 9) (p := 20) rfl ?_); refine store_event (t := 9) (p := 20) (v := ?vo_w11) (w1 := (wr.setCell ⟨go9, (x4_1 : Int).toNat, none⟩ (.string (rdOf ByteArray.empty l0 x4_1)))) ?hg ?ho ?hn ?hr ?_; (case ho => rfl); (case hg => rfl); (case hn => rfl); (case hr => first | (go_simp; done) | (go_simp; rfl)); intro w11 hw; have hg : wr.grownBy w11 (some go9) := (by rw [hw]; exact HP10.2); have hp_ : Kd.R Kd.string 9 w11 w.heap.size (fun _ => True) (.slice (some ⟨go9, 0, none⟩) x3_1.length co9) y540 := (by rw [hw, Ny540.out]; exact HP10.1); clear HP10; have n0_ := Aside0.mk (hp_); have n1_ := Aside0.mk ((by rw [hw]; exact below_set (HB.out) GB9.out : Below w.heap.size w w11)); clear HO_3; clear HB; have HO_3 := n0_; have HB := n1_; clear n0_ n1_; clear hg hw hp_))
                go_roundg k1
                case measure => have := HK1.out; omega
                case rel => exact ⟨(y540), (wrap64 (x4_1 + 1)), (by first | rfl | (simp; done) | (simp [*]; done)), H', ⟨by have := HK1.out; omega⟩, ⟨by (with_reducible repeat (first | apply Kd.R_alloc | apply Kd.R_drewN | apply Kd.R_drew)); exact HO_3.out⟩, ⟨by repeat (first | (with_reducible first | exact HB.out | apply below_alloc | apply pw_below_drewN | apply below_drew1) | exact HB.out)⟩⟩
              · rw [if_neg c8] at H
                exact absurd H (by simp)
            · rw [if_neg c7] at H
              exact absurd H (by simp)
          · rw [if_neg c6] at H
            have c6b0 : decide (x4_1 < (l0.length : Int)) = false := decide_eq_false c6
            clear c6
            obtain rfl := Option.some.inj H
            go_wp2
            go_ret
            exact ⟨_, by first | rfl | (simp [errW_none, errW_some] <;> rfl) | (simp [*, errW_none, errW_some] <;> rfl), by (with_reducible repeat (first | apply Kd.R_alloc | apply Kd.R_drewN | apply Kd.R_drew)); exact HO_3.out, by repeat (first | (with_reducible first | exact HB.out | apply below_alloc | apply pw_below_drewN | apply below_drew1) | exact HB.out)⟩
    · rw [if_neg c3] at H
      exact absurd H (by simp)
  · rw [if_neg c2] at H
    exact absurd H (by simp)
end Go.Proofs.Ytonagfbadoacjaa.Q
end
section
namespace Go.Proofs.Ytonagfbadoacjaa.Q
open Go.RowKit Go.Proofs.YtonagfbadoacjaaW.PrintWords Go.Proofs.YtonagfbadoacjaaW.PrintLast Go.Proofs.YtonagfbadoacjaaW.PrintMore
attribute [local go_sem] max2_int min2_int max_two min_two max_three min_three max_four min_four   
set_option linter.unusedVariables false
set_option linter.unusedSimpArgs false
def laws_eqStringS.l0 : Nat → List ByteArray → List ByteArray → Int → Option (Bool)
  | 0, _, _, _ => none
  | k + 1, x0, x1, x5 => if x5 < (x0.length : Int) then (if 0 ≤ x5 then (if x5 < (x1.length : Int) then (if (rdOf ByteArray.empty x0 x5).toList = (rdOf ByteArray.empty x1 x5).toList then (laws_eqStringS.l0 k x0 x1 (wrap64 (x5 + 1))) else (some false)) else (none)) else (none)) else (some true)
def laws_eqStringS.f (k : Nat) (l0 : List ByteArray) (l1 : List ByteArray) : Option (Bool) := if (l0.length : Int) = (l1.length : Int) then (laws_eqStringS.l0 k l0 l1 0) else (some false)
theorem laws_eqStringS.mono_l : ∀ k, (∀ y0 y1 y2, LeO (laws_eqStringS.l0 k y0 y1 y2) (laws_eqStringS.l0 (k + 1) y0 y1 y2))
  | 0 => fun _ _ _ r h => by simp [laws_eqStringS.l0] at h
  | k + 1 => by
    have ih0 := laws_eqStringS.mono_l k
    · intro y0 y1 y2
      unfold laws_eqStringS.l0
      repeat' first
      | (with_reducible exact ih0 _ _ _)
      | (with_reducible exact LeO.refl _)
      | (with_reducible exact LeO.none _)
      | (with_reducible refine LeO.ite ?_ ?_)
      | (with_reducible refine LeO.bind ?_ (fun _ => ?_))
      | exact ih0 _ _ _
      | exact LeO.none _
      | refine LeO.ite ?_ ?_
      | refine LeO.bind ?_ (fun _ => ?_)
theorem laws_eqStringS.mono : ∀ a0 a1 k, LeO (laws_eqStringS.f k a0 a1) (laws_eqStringS.f (k + 1) a0 a1) := by
  intro a0 a1 k
  have ih0 := laws_eqStringS.mono_l k
  unfold laws_eqStringS.f
  repeat' first
      | (with_reducible exact ih0 _ _ _)
      | (with_reducible exact LeO.refl _)
      | (with_reducible exact LeO.none _)
      | (with_reducible refine LeO.ite ?_ ?_)
      | (with_reducible refine LeO.bind ?_ (fun _ => ?_))
      | exact ih0 _ _ _
      | exact LeO.none _
      | refine LeO.ite ?_ ?_
      | refine LeO.bind ?_ (fun _ => ?_)
set_option maxHeartbeats 8000000 in
set_option maxRecDepth 100000 in
theorem laws_eqStringS.calls (k : Nat) (A0 : Option Addr) (c0 : Nat) (l0 : List ByteArray) (A1 : Option Addr) (c1 : Nat) (l1 : List ByteArray) (r : Bool) (w : World) (hr0 : Kd.C Kd.string w A0 l0.length l0) (hc0 : l0.length ≤ c0) (hr1 : Kd.C Kd.string w A1 l1.length l1) (hc1 : l1.length ≤ c1) (h : laws_eqStringS.f k l0 l1 = some r) :
    Calls Try.prog 54 #[.slice A0 l0.length c0, .slice A1 l1.length c1] w fun e w' => e = .returned (.bool r) ∧ Drawn0 w w' := by
  have HR0 := Aside0.mk hr0
  have HC0 := Aside0.mk hc0
  clear hr0 hc0
  have HR1 := Aside0.mk hr1
  have HC1 := Aside0.mk hc1
  clear hr1 hc1
  have H : (if (l0.length : Int) = (l1.length : Int) then (laws_eqStringS.l0 k l0 l1 0) else (some false)) = some r := h
  clear h
  by_cases c3 : (l0.length : Int) = (l1.length : Int)
  · rw [if_pos c3] at H
    have c3b0 : ((l0.length : Int) == (l1.length : Int)) = true := beq_iff_eq.mpr c3
    have c3b1 : ((l0.length : Int) != (l1.length : Int)) = false := bne_eq_false_iff_eq.mpr c3
    have c3b2 : (l0.length == l1.length) = true := by first | simpa using c3 | (simp at c3 ⊢; omega)
    clear c3
    have H' := Aside0.mk H
    clear H
    go_enter Try.func54, Try.ntmps54
    go_wp2
    repeat (go_quiet (fail); try go_wp2)
    go_loopg [5] k (fun kq v5 w' => ∃ (x5_1 : Int), v5 = .int .i64 x5_1 ∧ Aside0 (laws_eqStringS.l0 kq l0 l1 x5_1 = some r) ∧ Aside0 (kq ≤ k) ∧ Drawn0 w w')
    case atStart => exact ⟨(0), (by first | rfl | (simp; done) | (simp [*]; done)), H', ⟨Nat.le_refl _⟩, by repeat (first | exact Drawn0.refl _ | apply Drawn0.step)⟩
    case round =>
      clear H'
      try clear c1
      try clear p2
      try clear c3
      try clear c3b0
      try clear c3b1
      try clear c3b2
      obtain ⟨x5_1, rfl, HA, HK1, ⟨m1, rfl⟩⟩ := hrel
      cases gk with
      | zero => exact absurd HA.out (by simp [laws_eqStringS.l0])
      | succ k1 =>
        have H := HA.out
        clear HA
        simp only [laws_eqStringS.l0] at H
        by_cases c4 : x5_1 < (l0.length : Int)
        · rw [if_pos c4] at H
          have c4b0 : decide (x5_1 < (l0.length : Int)) = true := decide_eq_true c4
          clear c4
          by_cases c5 : 0 ≤ x5_1
          · rw [if_pos c5] at H
            have c5b0 : decide (0 ≤ x5_1) = true := decide_eq_true c5
            clear c5
            by_cases c6 : x5_1 < (l1.length : Int)
            · rw [if_pos c6] at H
              have c6b0 : decide (x5_1 < (l1.length : Int)) = true := decide_eq_true c6
              clear c6
              by_cases c7 : (rdOf ByteArray.empty l0 x5_1).toList = (rdOf ByteArray.empty l1 x5_1).toList
              · rw [if_pos c7] at H
                have c7b0 : ((rdOf ByteArray.empty l0 x5_1).toList == (rdOf ByteArray.empty l1 x5_1).toList) = true := beq_iff_eq.mpr c7
                have c7b1 : ((rdOf ByteArray.empty l0 x5_1).toList != (rdOf ByteArray.empty l1 x5_1).toList) = false := bne_eq_false_iff_eq.mpr c7
                clear c7
                have H' := Aside0.mk H
                clear H
                have p541 : 0 ≤ (x5_1 : Int) := of_decide_eq_true (by first | (with_reducible assumption) | assumption)
                have q541 : x5_1 < (l0.length : Int) := of_decide_eq_true (by first | (with_reducible assumption) | assumption)
                obtain ⟨ad541, e541, hx541_0⟩ := Kd.at_string HR0.out x5_1 p541 q541
                cases e541
                replace p541 := eq_true p541
                replace q541 := eq_true q541
                have p542 : 0 ≤ (x5_1 : Int) := of_decide_eq_true (by first | (with_reducible assumption) | assumption)
                have q542 : x5_1 < (l1.length : Int) := of_decide_eq_true (by first | (with_reducible assumption) | assumption)
                obtain ⟨ad542, e542, hx542_0⟩ := Kd.at_string HR1.out x5_1 p542 q542
                cases e542
                replace p542 := eq_true p542
                replace q542 := eq_true q542
                go_wp2
                repeat (go_quiet (fail); try go_wp2)
                go_roundg k1
                case measure => have := HK1.out; omega
                case rel => exact ⟨(wrap64 (x5_1 + 1)), (by first | rfl | (simp; done) | (simp [*]; done)), H', ⟨by have := HK1.out; omega⟩, by repeat (first | exact Drawn0.refl _ | apply Drawn0.step)⟩
              · rw [if_neg c7] at H
                have c7b0 : ((rdOf ByteArray.empty l0 x5_1).toList == (rdOf ByteArray.empty l1 x5_1).toList) = false := beq_eq_false_iff_ne.mpr c7
                have c7b1 : ((rdOf ByteArray.empty l0 x5_1).toList != (rdOf ByteArray.empty l1 x5_1).toList) = true := bne_iff_ne.mpr c7
                obtain rfl := Option.some.inj H
                have p541 : 0 ≤ (x5_1 : Int) := of_decide_eq_true (by first | (with_reducible assumption) | assumption)
                have q541 : x5_1 < (l0.length : Int) := of_decide_eq_true (by first | (with_reducible assumption) | assumption)
                obtain ⟨ad541, e541, hx541_0⟩ := Kd.at_string HR0.out x5_1 p541 q541
                cases e541
                replace p541 := eq_true p541
                replace q541 := eq_true q541
                have p542 : 0 ≤ (x5_1 : Int) := of_decide_eq_true (by first | (with_reducible assumption) | assumption)
                have q542 : x5_1 < (l1.length : Int) := of_decide_eq_true (by first | (with_reducible assumption) | assumption)
                obtain ⟨ad542, e542, hx542_0⟩ := Kd.at_string HR1.out x5_1 p542 q542
                cases e542
                replace p542 := eq_true p542
                replace q542 := eq_true q542
                go_wp2
                repeat (go_quiet (fail); try go_wp2)
                go_ret
                exact ⟨by first | rfl | (simp; done) | (simp [*]; done), by repeat (first | exact Drawn0.refl _ | apply Drawn0.step)⟩
            · rw [if_neg c6] at H
              exact absurd H (by simp)
          · rw [if_neg c5] at H
            exact absurd H (by simp)
        · rw [if_neg c4] at H
          have c4b0 : decide (x5_1 < (l0.length : Int)) = false := decide_eq_false c4
          clear c4
          obtain rfl := Option.some.inj H
          go_wp2
          repeat (go_quiet (fail); try go_wp2)
          go_ret
          exact ⟨by first | rfl | (simp; done) | (simp [*]; done), by repeat (first | exact Drawn0.refl _ | apply Drawn0.step)⟩
  · rw [if_neg c3] at H
    have c3b0 : ((l0.length : Int) == (l1.length : Int)) = false := beq_eq_false_iff_ne.mpr c3
    have c3b1 : ((l0.length : Int) != (l1.length : Int)) = true := bne_iff_ne.mpr c3
    have c3b2 : (l0.length == l1.length) = false := by first | simpa using c3 | (simp at c3 ⊢; omega)
    obtain rfl := Option.some.inj H
    go_enter Try.func54, Try.ntmps54
    go_wp2
    repeat (go_quiet (fail); try go_wp2)
    go_ret
    exact ⟨by first | rfl | (simp; done) | (simp [*]; done), by repeat (first | exact Drawn0.refl _ | apply Drawn0.step)⟩
end Go.Proofs.Ytonagfbadoacjaa.Q
end
section
set_option linter.unusedVariables false
set_option linter.unusedSimpArgs false
namespace Go.Proofs.Ytonagfbadoacjaa.Pb
open Go Go.RowKit Go.Proofs.YtonagfbadoacjaaW.PrintWords Go.Proofs.YtonagfbadoacjaaW.PrintLast Go.Proofs.YtonagfbadoacjaaW.PrintMore Go.Proofs.Ytonagfbadoacjaa.Trie Go.Proofs.Ytonagfbadoacjaa.Q
end Go.Proofs.Ytonagfbadoacjaa.Pb
end
section
namespace Go.Proofs.Ytonagfbadoacjaa.Q
open Go.RowKit Go.Proofs.YtonagfbadoacjaaW.PrintWords Go.Proofs.YtonagfbadoacjaaW.PrintLast Go.Proofs.YtonagfbadoacjaaW.PrintMore
attribute [local go_sem] max2_int min2_int max_two min_two max_three min_three max_four min_four   
set_option linter.unusedVariables false
set_option linter.unusedSimpArgs false
def laws_markText.l0 : Nat → Int → ByteArray → Option (ByteArray)
  | 0, _, _ => none
  | k + 1, x0, x3 => if x0 > 0 then ((some (([(wrap64 (48 + (Int.tmod x0 10))) % 256] : List Int) : List Int)).bind fun y1040 => (if (strOfNums y1040).size + x3.size ≤ 9223372036854775807 then (laws_markText.l0 k (wrap64 (Int.tdiv x0 10)) ((strOfNums y1040) ++ x3)) else (none))) else (if 1 + x3.size ≤ 9223372036854775807 then (some ((⟨#[109]⟩ : ByteArray) ++ x3)) else (none))
def laws_markText.f (k : Nat) (a0 : Int) : Option (ByteArray) := if a0 ≤ 0 then (some (⟨#[109, 48]⟩ : ByteArray)) else (laws_markText.l0 k a0 (⟨#[]⟩ : ByteArray))
theorem laws_markText.mono_l : ∀ k, (∀ y0 y1, LeO (laws_markText.l0 k y0 y1) (laws_markText.l0 (k + 1) y0 y1))
  | 0 => fun _ _ r h => by simp [laws_markText.l0] at h
  | k + 1 => by
    have ih0 := laws_markText.mono_l k
    · intro y0 y1
      unfold laws_markText.l0
      repeat' first
      | (with_reducible exact ih0 _ _)
      | (with_reducible exact LeO.refl _)
      | (with_reducible exact LeO.none _)
      | (with_reducible refine LeO.ite ?_ ?_)
      | (with_reducible refine LeO.bind ?_ (fun _ => ?_))
      | exact ih0 _ _
      | exact LeO.none _
      | refine LeO.ite ?_ ?_
      | refine LeO.bind ?_ (fun _ => ?_)
theorem laws_markText.mono : ∀ a0 k, LeO (laws_markText.f k a0) (laws_markText.f (k + 1) a0) := by
  intro a0 k
  have ih0 := laws_markText.mono_l k
  unfold laws_markText.f
  repeat' first
      | (with_reducible exact ih0 _ _)
      | (with_reducible exact LeO.refl _)
      | (with_reducible exact LeO.none _)
      | (with_reducible refine LeO.ite ?_ ?_)
      | (with_reducible refine LeO.bind ?_ (fun _ => ?_))
      | exact ih0 _ _
      | exact LeO.none _
      | refine LeO.ite ?_ ?_
      | refine LeO.bind ?_ (fun _ => ?_)
set_option maxHeartbeats 8000000 in
set_option maxRecDepth 100000 in
theorem laws_markText.calls (k : Nat) (a0 : Int) (r : ByteArray) (w : World) (h : laws_markText.f k a0 = some r) :
    Calls Try.prog 126 #[.int .i64 a0] w fun e w' => e = .returned (.string r) ∧ Below w.heap.size w w' := by
  have HB := Aside0.mk (Below.refl w.heap.size w)
  have H : (if a0 ≤ 0 then (some (⟨#[109, 48]⟩ : ByteArray)) else (laws_markText.l0 k a0 (⟨#[]⟩ : ByteArray))) = some r := h
  clear h
  by_cases c2 : a0 ≤ 0
  · rw [if_pos c2] at H
    have c2b0 : decide (a0 ≤ 0) = true := decide_eq_true c2
    clear c2
    obtain rfl := Option.some.inj H
    go_enter Try.func126, Try.ntmps126
    go_wp2
    go_ret
    exact ⟨by first | rfl | (simp [errW_none, errW_some] <;> rfl) | (simp [*, errW_none, errW_some] <;> rfl), by repeat (first | (with_reducible first | exact HB.out | apply below_alloc | apply pw_below_drewN | apply below_drew1) | exact HB.out)⟩
  · rw [if_neg c2] at H
    have c2b0 : decide (a0 ≤ 0) = false := decide_eq_false c2
    clear c2
    have H' := Aside0.mk H
    clear H
    go_enter Try.func126, Try.ntmps126
    go_wp2
    go_loopg [0, 3] k (fun kq v0 v3 w' => ∃ (x0_1 : Int) (x3_1 : ByteArray), v0 = .int .i64 x0_1 ∧ v3 = .string x3_1 ∧ Aside0 (laws_markText.l0 kq x0_1 x3_1 = some r) ∧ Aside0 (kq ≤ k) ∧ Aside0 (Below w.heap.size w w'))
    case atStart => exact ⟨(a0), ((⟨#[]⟩ : ByteArray)), (by first | rfl | (simp; done) | (simp [*]; done)), (by first | rfl | (simp; done) | (simp [*]; done)), H', ⟨Nat.le_refl _⟩, ⟨by repeat (first | (with_reducible first | exact HB.out | apply below_alloc | apply pw_below_drewN | apply below_drew1) | exact HB.out)⟩⟩
    case round =>
      clear H'
      try clear c1
      try clear c2
      try clear c2b0
      try clear p2
      obtain ⟨x0_1, x3_1, rfl, rfl, HA, HK1, HB⟩ := hrel
      cases gk with
      | zero => exact absurd HA.out (by simp [laws_markText.l0])
      | succ k1 =>
        have H := HA.out
        clear HA
        simp only [laws_markText.l0] at H
        by_cases c3 : x0_1 > 0
        · rw [if_pos c3] at H
          have c3b0 : decide (0 < x0_1) = true := decide_eq_true c3
          clear c3
          obtain ⟨y1040, hy1040⟩ : ∃ y_ : List Int, y_ = (([(wrap64 (48 + (Int.tmod x0_1 10))) % 256] : List Int)) := ⟨_, rfl⟩
          replace H : (if (strOfNums y1040).size + x3_1.size ≤ 9223372036854775807 then (laws_markText.l0 k1 (wrap64 (Int.tdiv x0_1 10)) ((strOfNums y1040) ++ x3_1)) else (none)) = some r := by first | (rw [hy1040]; with_reducible exact H) | (have H2_ := (Option.bind_some _ _).symm.trans H; rw [hy1040]; with_reducible exact H2_) | (have H2_ := (Option.bind_some _ _).symm.trans H; with_reducible exact H2_) | with_reducible exact H | (rw [hy1040]; exact H) | exact H
          have Ny1040 := Aside0.mk hy1040
          clear hy1040
          by_cases c4 : (strOfNums y1040).size + x3_1.size ≤ 9223372036854775807
          · rw [if_pos c4] at H
            have c4b0 := eq_true c4
            have c4b1 : decide ((strOfNums y1040).size + x3_1.size ≤ 9223372036854775807) = true := decide_eq_true c4
            try have c4b2 : (9223372036854775807 < (strOfNums y1040).size + x3_1.size) = False := eq_false (Nat.not_lt.2 c4)
            have H' := Aside0.mk H
            clear H
            go_wp2_with (first | ((with_reducible refine gate_dst (N := 12) rfl ?_); refine Kd.R_lit (Kd.int .u8) _ 5 ?hg (N := 12) ?hd (xs := ([(wrap64 (48 + (Int.tmod x0_1 10))) % 256] : List Int)) (inner := [.int .u8 ((wrap64 (48 + (Int.tmod x0_1 10))) % 256)]) (ok := fun _ => True) (okp := fun _ => True) ?hr ?hp (fun _ hk => hk) trivial (Below.refl _ _) (Nat.le_refl _) (by simp) ?_; (case hd => rfl); (case hg => rfl); (case hr => first | (go_simp; done) | (go_simp; rfl)); (case hp => exact (Reps.one (show Kd.M (Kd.int .u8) _ _ _ ((wrap64 (48 + (Int.tmod x0_1 10))) % 256) [.int .u8 ((wrap64 (48 + (Int.tmod x0_1 10))) % 256)] from rfl) (Reps.none _ _))); intro v1041 w5 ho6 hb hg_ hnew_; clear hg_ hnew_; (first | rw [← Ny1040.out] at ho6 | (simp only [Int.reduceToNat] at ho6; rw [← Ny1040.out] at ho6)); have n0_ := Aside0.mk (Kd.R_lower ho6 (below_size (by repeat (first | (with_reducible first | exact HB.out | apply below_alloc | apply pw_below_drewN | apply below_drew1) | exact HB.out)))); have n1_ := Aside0.mk (below_step (by repeat (first | (with_reducible first | exact HB.out | apply below_alloc | apply pw_below_drewN | apply below_drew1) | exact HB.out)) hb); clear HB; have HO1042 := n0_; have HB := n1_; clear n0_ n1_; clear hb ho6; have hcv7 := own_string (P := Try.prog) Try.underlying25 Try.underlying5 Try.underlying9 (Kd.own_of_R HO1042.out)))
            go_roundg k1
            case measure => have := HK1.out; omega
            case rel => exact ⟨(wrap64 (Int.tdiv x0_1 10)), ((strOfNums y1040) ++ x3_1), (by first | rfl | (simp; done) | (simp [*]; done)), (by first | rfl | (simp; done) | (simp [*]; done)), H', ⟨by have := HK1.out; omega⟩, ⟨by repeat (first | (with_reducible first | exact HB.out | apply below_alloc | apply pw_below_drewN | apply below_drew1) | exact HB.out)⟩⟩
          · rw [if_neg c4] at H
            exact absurd H (by simp)
        · rw [if_neg c3] at H
          have c3b0 : decide (0 < x0_1) = false := decide_eq_false c3
          clear c3
          by_cases c8 : 1 + x3_1.size ≤ 9223372036854775807
          · rw [if_pos c8] at H
            have c8b0 := eq_true c8
            have c8b1 : decide (1 + x3_1.size ≤ 9223372036854775807) = true := decide_eq_true c8
            try have c8b2 : (9223372036854775807 < 1 + x3_1.size) = False := eq_false (Nat.not_lt.2 c8)
            obtain rfl := Option.some.inj H
            go_wp2
            go_ret
            exact ⟨by first | rfl | (simp [errW_none, errW_some] <;> rfl) | (simp [*, errW_none, errW_some] <;> rfl), by repeat (first | (with_reducible first | exact HB.out | apply below_alloc | apply pw_below_drewN | apply below_drew1) | exact HB.out)⟩
          · rw [if_neg c8] at H
            exact absurd H (by simp)
end Go.Proofs.Ytonagfbadoacjaa.Q
end
section
namespace Go.Proofs.Ytonagfbadoacjaa.Q
open Go.RowKit Go.Proofs.YtonagfbadoacjaaW.PrintWords Go.Proofs.YtonagfbadoacjaaW.PrintLast Go.Proofs.YtonagfbadoacjaaW.PrintMore
attribute [local go_sem] max2_int min2_int max_two min_two max_three min_three max_four min_four   
set_option linter.unusedVariables false
set_option linter.unusedSimpArgs false
def laws_markStringS.l0 : Nat → List ByteArray → Int → Int → Option (Int × List ByteArray)
  | 0, _, _, _ => none
  | k + 1, x0, x1, x5 => if x5 < (x0.length : Int) then ((laws_markText.f k x1).bind fun t1043 => (if 0 ≤ x5 then (laws_markStringS.l0 k (x0.set (x5 : Int).toNat t1043) (wrap64 (x1 + 1)) (wrap64 (x5 + 1))) else (none))) else (some (x1, x0))
def laws_markStringS.f (k : Nat) (l0 : List ByteArray) (a1 : Int) : Option (Int × List ByteArray) := laws_markStringS.l0 k l0 a1 0
theorem laws_markStringS.mono_l : ∀ k, (∀ y0 y1 y2, LeO (laws_markStringS.l0 k y0 y1 y2) (laws_markStringS.l0 (k + 1) y0 y1 y2))
  | 0 => fun _ _ _ r h => by simp [laws_markStringS.l0] at h
  | k + 1 => by
    have ih0 := laws_markStringS.mono_l k
    · intro y0 y1 y2
      unfold laws_markStringS.l0
      repeat' first
      | (with_reducible exact ih0 _ _ _)
      | (with_reducible exact laws_markText.mono _ _)
      | (with_reducible exact LeO.refl _)
      | (with_reducible exact LeO.none _)
      | (with_reducible refine LeO.ite ?_ ?_)
      | (with_reducible refine LeO.bind ?_ (fun _ => ?_))
      | exact ih0 _ _ _
      | exact laws_markText.mono _ _
      | exact LeO.none _
      | refine LeO.ite ?_ ?_
      | refine LeO.bind ?_ (fun _ => ?_)
theorem laws_markStringS.mono : ∀ a0 a1 k, LeO (laws_markStringS.f k a0 a1) (laws_markStringS.f (k + 1) a0 a1) := by
  intro a0 a1 k
  have ih0 := laws_markStringS.mono_l k
  unfold laws_markStringS.f
  repeat' first
      | (with_reducible exact ih0 _ _ _)
      | (with_reducible exact laws_markText.mono _ _)
      | (with_reducible exact LeO.refl _)
      | (with_reducible exact LeO.none _)
      | (with_reducible refine LeO.ite ?_ ?_)
      | (with_reducible refine LeO.bind ?_ (fun _ => ?_))
      | exact ih0 _ _ _
      | exact laws_markText.mono _ _
      | exact LeO.none _
      | refine LeO.ite ?_ ?_
      | refine LeO.bind ?_ (fun _ => ?_)
set_option maxHeartbeats 8000000 in
set_option maxRecDepth 100000 in
theorem laws_markStringS.calls (k : Nat) (P0_ : Nat → Prop) (u9000_ : Value) (l0 : List ByteArray) (a1 : Int) (r1 : Int) (r2 : List ByteArray) (w0 w : World) (hB : Below w0.heap.size w0 w) (ho0 : Kd.R Kd.string 9 w w0.heap.size P0_ u9000_ l0) (h : laws_markStringS.f k l0 a1 = some (r1, r2)) :
    Calls Try.prog 75 #[u9000_, .int .i64 a1] w fun e w' => e = .returned (.int .i64 r1) ∧ Kd.R Kd.string 9 w' w0.heap.size (fun k_ => (P0_ k_ ∨ w.heap.size ≤ k_)) u9000_ r2 ∧ Below w0.heap.size w0 w' ∧ Kept w w' (fun k_ => P0_ k_) := by
  have HO0 := Aside0.mk (show Kd.R Kd.string 9 w w0.heap.size (fun k_ => (P0_ k_ ∨ w.heap.size ≤ k_)) u9000_ l0 from Kd.R_mono ho0 (fun k_ hk => (.inl hk)))
  have HK := Aside0.mk (Kept.refl w (fun k_ => P0_ k_))
  have HW0 := Aside0.mk hB.size
  have HB := Aside0.mk hB
  clear hB
  have H : (laws_markStringS.l0 k l0 a1 0) = some (r1, r2) := h
  clear h
  have H' := Aside0.mk H
  clear H
  go_enter Try.func75, Try.ntmps75
  go_wp2
  go_loopg [1, 5] k (fun kq v1 v5 w' => ∃ (x0_1 : List ByteArray) (x1_1 : Int) (x5_1 : Int), v1 = .int .i64 x1_1 ∧ v5 = .int .i64 x5_1 ∧ Aside0 (laws_markStringS.l0 kq x0_1 x1_1 x5_1 = some (r1, r2)) ∧ Aside0 (kq ≤ k) ∧ Aside0 (Kd.R Kd.string 9 w' w0.heap.size (fun k_ => (P0_ k_ ∨ w.heap.size ≤ k_)) u9000_ x0_1) ∧ Aside0 (Kept w w' (fun k_ => P0_ k_)) ∧ Aside0 (Below w0.heap.size w0 w'))
  case atStart => exact ⟨(l0), (a1), (0), (by first | rfl | (simp; done) | (simp [*]; done)), (by first | rfl | (simp; done) | (simp [*]; done)), H', ⟨Nat.le_refl _⟩, ⟨by (with_reducible repeat (first | apply Kd.R_alloc | apply Kd.R_drewN | apply Kd.R_drew)); exact HO0.out⟩, ⟨by repeat (first | (with_reducible first | exact HK.out | apply Kept.alloc | apply Kept.drewN | apply Kept.drew) | exact HK.out)⟩, ⟨by repeat (first | (with_reducible first | exact HB.out | apply below_alloc | apply pw_below_drewN | apply below_drew1) | exact HB.out)⟩⟩
  case round =>
    clear H'
    try clear p2
    obtain ⟨x0_1, x1_1, x5_1, rfl, rfl, HA, HK1, HO_0, HK, HB⟩ := hrel
    cases gk with
    | zero => exact absurd HA.out (by simp [laws_markStringS.l0])
    | succ k1 =>
      have H := HA.out
      clear HA
      simp only [laws_markStringS.l0] at H
      by_cases c3 : x5_1 < (x0_1.length : Int)
      · rw [if_pos c3] at H
        have c3b0 : decide (x5_1 < (x0_1.length : Int)) = true := decide_eq_true c3
        clear c3
        replace H := Option.bind_eq_some_iff.mp H
        obtain ⟨t1043, A40, H⟩ := H
        (try dsimp only at H)
        have A4 := Aside0.mk A40
        clear A40
        by_cases c5 : 0 ≤ x5_1
        · rw [if_pos c5] at H
          have c5b0 : decide (0 ≤ x5_1) = true := decide_eq_true c5
          clear c5
          obtain ⟨y1044, hy1044⟩ : ∃ y_ : List ByteArray, y_ = (x0_1.set (x5_1 : Int).toNat t1043) := ⟨_, rfl⟩
          replace H : (laws_markStringS.l0 k1 y1044 (wrap64 (x1_1 + 1)) (wrap64 (x5_1 + 1))) = some (r1, r2) := by first | (rw [hy1044]; with_reducible exact H) | (have H2_ := (Option.bind_some _ _).symm.trans H; rw [hy1044]; with_reducible exact H2_) | (have H2_ := (Option.bind_some _ _).symm.trans H; with_reducible exact H2_) | with_reducible exact H | (rw [hy1044]; exact H) | exact H
          have Ny1044 := Aside0.mk hy1044
          clear hy1044
          have H' := Aside0.mk H
          clear H
          obtain ⟨Ao7, co7, eo7⟩ := Kd.R_slice HO_0.out
          subst eo7
          go_wp2_with (first | ((with_reducible refine gate_callee (f := 126) rfl ?_); refine goesL_ (some 15) rfl rfl Try.func126 (by kernel_rfl) rfl #[.int .i64 x1_1] rfl (by (try simp only [List.map_toArray, List.map_cons, List.map_nil]); first | done | rfl | (simp only [List.length_drop, List.length_take]; rfl)) ?_; (with_reducible refine (laws_markText.calls k1 x1_1 t1043 _ A4.out).mono ?_); rintro e w8 ⟨rfl, hb⟩; refine ⟨_, rfl, ?_⟩; have n0_ := Aside0.mk (Kd.R_below (by (with_reducible repeat (first | apply Kd.R_alloc | apply Kd.R_drewN | apply Kd.R_drew)); exact HO_0.out) hb); have n1_ := Aside0.mk (Kept.below (S := (fun k_ => P0_ k_)) (by repeat (first | (with_reducible first | exact HK.out | apply Kept.alloc | apply Kept.drewN | apply Kept.drew) | exact HK.out)) hb); have n2_ := Aside0.mk (below_step (by repeat (first | (with_reducible first | exact HB.out | apply below_alloc | apply pw_below_drewN | apply below_drew1) | exact HB.out)) hb); clear HO_0; clear HK; clear HB; have HO_0 := n0_; have HK := n1_; have HB := n2_; clear n0_ n1_ n2_; (try clear hb); (try clear hb2); (try clear hk); (try clear hi); have p6 : 0 ≤ (x5_1 : Int) := of_decide_eq_true (by first | (with_reducible assumption) | assumption); have q6 : (x5_1 : Int) < ((x0_1.length : Int) : Int) := of_decide_eq_true (by first | (with_reducible assumption) | assumption); obtain ⟨go6, co6, eo6, gb6, gl6, cl6, HG6⟩ := Kd.R_form HO_0.out (by omega); (first | cases eo6 | (injection eo6 with ea_ en_ ec_; (first | subst ea_ | (injection ea_ with ea_; subst ea_)); subst ec_; clear en_)); have GB6 := Aside0.mk gb6; have GG6 := Aside0.mk HG6; clear gb6 gl6 HG6; have HMgo6 := Aside0.mk (show (P0_ go6 ∨ w.heap.size ≤ go6) from (HO_0.out.1 _ rfl)); obtain ⟨hx6_0, hf6_0⟩ := Kd.R_celln (⟨#[]⟩ : ByteArray) HO_0.out (x5_1 : Int) p6 q6; replace p6 := eq_true p6; replace q6 := eq_true q6; obtain ⟨hy9_, hz9_⟩ := Kd.R_celln (⟨#[]⟩ : ByteArray) HO_0.out (x5_1 : Int) (of_decide_eq_true (by first | (with_reducible assumption) | assumption)) (of_decide_eq_true (by first | (with_reducible assumption) | assumption)); have HP9 := Kd.R_putg HO_0.out (x5_1 : Int) t1043) | ((with_reducible refine gate_store (t := 9) (p := 16) rfl ?_); refine store_event (t := 9) (p := 16) (v := ?vo_w10) (w1 := (w8.setCell ⟨go6, (x5_1 : Int).toNat, none⟩ (.string t1043))) ?hg ?ho ?hn ?hr ?_; (case ho => rfl); (case hg => rfl); (case hn => rfl); (case hr => first | (go_simp; done) | (go_simp; rfl)); intro w10 hw; have hg : w8.grownBy w10 (some go6) := (by rw [hw]; exact HP9.2); have hp_ : Kd.R Kd.string 9 w10 w0.heap.size (fun k_ => (P0_ k_ ∨ w.heap.size ≤ k_)) (.slice (some ⟨go6, 0, none⟩) x0_1.length co7) y1044 := (by rw [hw, Ny1044.out]; exact HP9.1); clear HP9; have n0_ := Aside0.mk (hp_); have n1_ := Aside0.mk ((by rw [hw]; exact below_set (HB.out) GB6.out : Below w0.heap.size w0 w10)); have n2_ := Aside0.mk (Kept.of_grown (S := (fun k_ => P0_ k_)) hg (by repeat (first | (with_reducible first | exact HK.out | apply Kept.alloc | apply Kept.drewN | apply Kept.drew) | exact HK.out)) (fun k_ e_ => (HO_0.out.1 k_ e_))); clear HO_0; clear HB; clear HK; have HO_0 := n0_; have HB := n1_; have HK := n2_; clear n0_ n1_ n2_; clear hg hw hp_))
          go_roundg k1
          case measure => have := HK1.out; omega
          case rel => exact ⟨(y1044), (wrap64 (x1_1 + 1)), (wrap64 (x5_1 + 1)), (by first | rfl | (simp; done) | (simp [*]; done)), (by first | rfl | (simp; done) | (simp [*]; done)), H', ⟨by have := HK1.out; omega⟩, ⟨by (with_reducible repeat (first | apply Kd.R_alloc | apply Kd.R_drewN | apply Kd.R_drew)); exact HO_0.out⟩, ⟨by repeat (first | (with_reducible first | exact HK.out | apply Kept.alloc | apply Kept.drewN | apply Kept.drew) | exact HK.out)⟩, ⟨by repeat (first | (with_reducible first | exact HB.out | apply below_alloc | apply pw_below_drewN | apply below_drew1) | exact HB.out)⟩⟩
        · rw [if_neg c5] at H
          exact absurd H (by simp)
      · rw [if_neg c3] at H
        have c3b0 : decide (x5_1 < (x0_1.length : Int)) = false := decide_eq_false c3
        clear c3
        simp only [Option.some.injEq, Prod.mk.injEq] at H
        obtain ⟨rfl, rfl⟩ := H
        obtain ⟨Ao11, co11, eo11⟩ := Kd.R_slice HO_0.out
        subst eo11
        go_wp2
        go_ret
        exact ⟨by first | rfl | (simp [errW_none, errW_some] <;> rfl) | (simp [*, errW_none, errW_some] <;> rfl), by (with_reducible repeat (first | apply Kd.R_alloc | apply Kd.R_drewN | apply Kd.R_drew)); exact HO_0.out, by repeat (first | (with_reducible first | exact HB.out | apply below_alloc | apply pw_below_drewN | apply below_drew1) | exact HB.out), by repeat (first | (with_reducible first | exact HK.out | apply Kept.alloc | apply Kept.drewN | apply Kept.drew) | exact HK.out)⟩
end Go.Proofs.Ytonagfbadoacjaa.Q
end
section
namespace Go.Proofs.Ytonagfbadoacjaa.Q
open Go.RowKit Go.Proofs.YtonagfbadoacjaaW.PrintWords Go.Proofs.YtonagfbadoacjaaW.PrintLast Go.Proofs.YtonagfbadoacjaaW.PrintMore
attribute [local go_sem] max2_int min2_int max_two min_two max_three min_three max_four min_four   
set_option linter.unusedVariables false
set_option linter.unusedSimpArgs false
def laws_heldStringS.l0 : Nat → List ByteArray → Int → Int → Option (Int)
  | 0, _, _, _ => none
  | k + 1, x0, x1, x5 => if x5 < (x0.length : Int) then (if 0 ≤ x5 then ((laws_markText.f k x1).bind fun t1049 => (if (rdOf ByteArray.empty x0 x5).toList = t1049.toList then (laws_heldStringS.l0 k x0 (wrap64 (x1 + 1)) (wrap64 (x5 + 1))) else (some (-1)))) else (none)) else (some x1)
def laws_heldStringS.f (k : Nat) (l0 : List ByteArray) (a1 : Int) : Option (Int) := laws_heldStringS.l0 k l0 a1 0
theorem laws_heldStringS.mono_l : ∀ k, (∀ y0 y1 y2, LeO (laws_heldStringS.l0 k y0 y1 y2) (laws_heldStringS.l0 (k + 1) y0 y1 y2))
  | 0 => fun _ _ _ r h => by simp [laws_heldStringS.l0] at h
  | k + 1 => by
    have ih0 := laws_heldStringS.mono_l k
    · intro y0 y1 y2
      unfold laws_heldStringS.l0
      repeat' first
      | (with_reducible exact ih0 _ _ _)
      | (with_reducible exact laws_markText.mono _ _)
      | (with_reducible exact LeO.refl _)
      | (with_reducible exact LeO.none _)
      | (with_reducible refine LeO.ite ?_ ?_)
      | (with_reducible refine LeO.bind ?_ (fun _ => ?_))
      | exact ih0 _ _ _
      | exact laws_markText.mono _ _
      | exact LeO.none _
      | refine LeO.ite ?_ ?_
      | refine LeO.bind ?_ (fun _ => ?_)
theorem laws_heldStringS.mono : ∀ a0 a1 k, LeO (laws_heldStringS.f k a0 a1) (laws_heldStringS.f (k + 1) a0 a1) := by
  intro a0 a1 k
  have ih0 := laws_heldStringS.mono_l k
  unfold laws_heldStringS.f
  repeat' first
      | (with_reducible exact ih0 _ _ _)
      | (with_reducible exact laws_markText.mono _ _)
      | (with_reducible exact LeO.refl _)
      | (with_reducible exact LeO.none _)
      | (with_reducible refine LeO.ite ?_ ?_)
      | (with_reducible refine LeO.bind ?_ (fun _ => ?_))
      | exact ih0 _ _ _
      | exact laws_markText.mono _ _
      | exact LeO.none _
      | refine LeO.ite ?_ ?_
      | refine LeO.bind ?_ (fun _ => ?_)
set_option maxHeartbeats 8000000 in
set_option maxRecDepth 100000 in
theorem laws_heldStringS.calls (k : Nat) (A0 : Option Addr) (c0 : Nat) (l0 : List ByteArray) (a1 : Int) (r : Int) (w : World) (hr0 : Kd.C Kd.string w A0 l0.length l0) (hc0 : l0.length ≤ c0) (h : laws_heldStringS.f k l0 a1 = some r) :
    Calls Try.prog 79 #[.slice A0 l0.length c0, .int .i64 a1] w fun e w' => e = .returned (.int .i64 r) ∧ Below w.heap.size w w' := by
  have HR0 := Aside0.mk hr0
  have HC0 := Aside0.mk hc0
  clear hr0 hc0
  have HB := Aside0.mk (Below.refl w.heap.size w)
  have H : (laws_heldStringS.l0 k l0 a1 0) = some r := h
  clear h
  have H' := Aside0.mk H
  clear H
  go_enter Try.func79, Try.ntmps79
  go_wp2
  go_loopg [1, 5] k (fun kq v1 v5 w' => ∃ (x1_1 : Int) (x5_1 : Int), v1 = .int .i64 x1_1 ∧ v5 = .int .i64 x5_1 ∧ Aside0 (laws_heldStringS.l0 kq l0 x1_1 x5_1 = some r) ∧ Aside0 (kq ≤ k) ∧ Aside0 (Below w.heap.size w w'))
  case atStart => exact ⟨(a1), (0), (by first | rfl | (simp; done) | (simp [*]; done)), (by first | rfl | (simp; done) | (simp [*]; done)), H', ⟨Nat.le_refl _⟩, ⟨by repeat (first | (with_reducible first | exact HB.out | apply below_alloc | apply pw_below_drewN | apply below_drew1) | exact HB.out)⟩⟩
  case round =>
    clear H'
    try clear p2
    obtain ⟨x1_1, x5_1, rfl, rfl, HA, HK1, HB⟩ := hrel
    cases gk with
    | zero => exact absurd HA.out (by simp [laws_heldStringS.l0])
    | succ k1 =>
      have H := HA.out
      clear HA
      simp only [laws_heldStringS.l0] at H
      by_cases c3 : x5_1 < (l0.length : Int)
      · rw [if_pos c3] at H
        have c3b0 : decide (x5_1 < (l0.length : Int)) = true := decide_eq_true c3
        clear c3
        by_cases c4 : 0 ≤ x5_1
        · rw [if_pos c4] at H
          have c4b0 : decide (0 ≤ x5_1) = true := decide_eq_true c4
          clear c4
          replace H := Option.bind_eq_some_iff.mp H
          obtain ⟨t1049, A50, H⟩ := H
          (try dsimp only at H)
          have A5 := Aside0.mk A50
          clear A50
          try go_wp2
          have n0_ := Aside0.mk (below_drew1 HB.out)
          clear HB
          have HB := n0_
          clear n0_
          have p1048 : 0 ≤ (x5_1 : Int) := of_decide_eq_true (by first | (with_reducible assumption) | assumption)
          have q1048 : x5_1 < (l0.length : Int) := of_decide_eq_true (by first | (with_reducible assumption) | assumption)
          obtain ⟨ad1048, e1048, hx1048_0⟩ := Kd.at_string HR0.out x5_1 p1048 q1048
          have hw1048_0 := hx1048_0
          cases e1048
          replace hx1048_0 := (HB.out.cell (World.block_lt_of_cell? w _ hx1048_0)).trans hx1048_0
          replace p1048 := eq_true p1048
          replace q1048 := eq_true q1048
          refine start_ (n := 7) (S := fun w' => w'.cell? (ad1048.add (x5_1).toNat) = some (.string (rdOf ByteArray.empty l0 x5_1))) (ds := []) #[false, false, false, false, false, false, false] (by kernel_rfl) rfl rfl (((HB.out.cell (World.block_lt_of_cell? w _ hw1048_0)).trans hw1048_0)) (fun hHeld => ?_)
          generalize wr.drew = w6 at HB hx1048_0 hHeld ⊢
          refine pure_ (i := 0) (N := some 12) (v := ?_) (a' := ?_) #[true, false, false, false, false, false, false] rfl rfl (by kernel_rfl) (fun _ _ _ h => h) (Or.inl ⟨by rfl, ?_⟩) ?_ ?_
          rotate_left
          · intro w'
            go_simp
            with_reducible rfl
          rotate_left
          · simp only [Act.put, List.setIfInBounds_toArray, List.set_cons_zero, List.set_cons_succ, i64_w, i32_w]
            rfl
          refine pure_ (i := 1) (N := some 13) (v := ?_) (a' := ?_) #[true, true, false, false, false, false, false] rfl rfl (by kernel_rfl) (fun _ _ _ h => h) (Or.inl ⟨by rfl, ?_⟩) ?_ ?_
          rotate_left
          · intro w'
            go_simp
            with_reducible rfl
          rotate_left
          · simp only [Act.put, List.setIfInBounds_toArray, List.set_cons_zero, List.set_cons_succ, i64_w, i32_w]
            rfl
          refine pure_ (i := 2) (N := some 14) (v := ?_) (a' := ?_) #[true, true, true, false, false, false, false] rfl rfl (by kernel_rfl) (fun _ _ _ h => h) (Or.inl ⟨by rfl, ?_⟩) ?_ ?_
          rotate_left
          · intro w'
            go_simp
            with_reducible rfl
          rotate_left
          · simp only [Act.put, List.setIfInBounds_toArray, List.set_cons_zero, List.set_cons_succ, i64_w, i32_w]
            rfl
          refine pure_ (i := 4) (N := some 16) (v := ?_) (a' := ?_) #[true, true, true, false, true, false, false] rfl rfl (by kernel_rfl) (fun _ _ _ h => h) (Or.inl ⟨by rfl, ?_⟩) ?_ ?_
          rotate_left
          · intro w'
            go_simp
            with_reducible rfl
          rotate_left
          · simp only [Act.put, List.setIfInBounds_toArray, List.set_cons_zero, List.set_cons_succ, i64_w, i32_w]
            rfl
          refine take_ (i := 3) (N := some 15) (v := ?_) (a' := ?_) #[true, true, true, true, true, false, false] rfl rfl (by kernel_rfl) (fun _ _ _ h => h) (Or.inl ⟨by rfl, ?_⟩) hHeld ?_ ?_
          rotate_left
          · intro w' s0
            go_simp
            with_reducible rfl
          rotate_left
          · simp only [Act.put, List.setIfInBounds_toArray, List.set_cons_zero, List.set_cons_succ, i64_w, i32_w]
            rfl
          refine one_ (i := 5) (N := some 17) #[true, true, true, true, true, true, false] rfl rfl (by kernel_rfl) (by decide) (fun K hK => ?_)
          refine goes_ Try.func126 (by kernel_rfl) rfl #[.int .i64 x1_1] (by rfl) rfl rfl (by (try simp only [List.map_toArray, List.map_cons, List.map_nil]); first | done | rfl | (simp only [List.length_drop, List.length_take]; rfl)) ?_
          with_reducible refine (laws_markText.calls k1 x1_1 t1049 _ A5.out).mono ?_
          rintro e w7 ⟨rfl, hb⟩
          refine ⟨_, rfl, ?_⟩
          have n0_ := Aside0.mk (below_step (by repeat (first | (with_reducible first | exact HB.out | apply below_alloc | apply pw_below_drewN | apply below_drew1) | exact HB.out)) hb)
          clear HB
          have HB := n0_
          clear n0_
          (try clear hb)
          (try clear hb2)
          (try clear hk)
          (try clear hi)
          refine hK.out _ _ (((HB.out.cell (World.block_lt_of_cell? w _ hw1048_0)).trans hw1048_0)) (fun hHeld => ?_)
          clear hK K
          refine norm_ (a' := ?_) ?_ ?_
          rotate_left
          · show Act.put _ (some 17) _ = _
            simp only [Act.put, List.setIfInBounds_toArray, List.set_cons_zero, List.set_cons_succ, i64_w, i32_w]
            rfl
          refine pure_ (i := 6) (N := some 18) (v := ?_) (a' := ?_) #[true, true, true, true, true, true, true] rfl rfl (by kernel_rfl) (fun _ _ _ h => h) (Or.inl ⟨by rfl, ?_⟩) ?_ ?_
          rotate_left
          · intro w'
            go_simp
            with_reducible rfl
          rotate_left
          · simp only [Act.put, List.setIfInBounds_toArray, List.set_cons_zero, List.set_cons_succ, i64_w, i32_w]
            rfl
          refine done_ (by kernel_rfl) ?_
          go_upto_if 18 with (fail)
          by_cases c8 : (rdOf ByteArray.empty l0 x5_1).toList = t1049.toList
          · rw [if_pos c8] at H
            have c8b0 : ((rdOf ByteArray.empty l0 x5_1).toList == t1049.toList) = true := beq_iff_eq.mpr c8
            have c8b1 : ((rdOf ByteArray.empty l0 x5_1).toList != t1049.toList) = false := bne_eq_false_iff_eq.mpr c8
            clear c8
            (first | rw [c8b0] | (simp only [i64_w, i32_w]; rw [c8b0]) | simp only [*, Bool.not_true, Bool.not_false] | skip)
            have H' := Aside0.mk H
            clear H
            go_wp2
            go_roundg k1
            case measure => have := HK1.out; omega
            case rel => exact ⟨(wrap64 (x1_1 + 1)), (wrap64 (x5_1 + 1)), (by first | rfl | (simp; done) | (simp [*]; done)), (by first | rfl | (simp; done) | (simp [*]; done)), H', ⟨by have := HK1.out; omega⟩, ⟨by repeat (first | (with_reducible first | exact HB.out | apply below_alloc | apply pw_below_drewN | apply below_drew1) | exact HB.out)⟩⟩
          · rw [if_neg c8] at H
            have c8b0 : ((rdOf ByteArray.empty l0 x5_1).toList == t1049.toList) = false := beq_eq_false_iff_ne.mpr c8
            have c8b1 : ((rdOf ByteArray.empty l0 x5_1).toList != t1049.toList) = true := bne_iff_ne.mpr c8
            (first | rw [c8b0] | (simp only [i64_w, i32_w]; rw [c8b0]) | simp only [*, Bool.not_true, Bool.not_false] | skip)
            obtain rfl := Option.some.inj H
            go_wp2
            go_ret
            exact ⟨by first | rfl | (simp [errW_none, errW_some] <;> rfl) | (simp [*, errW_none, errW_some] <;> rfl), by repeat (first | (with_reducible first | exact HB.out | apply below_alloc | apply pw_below_drewN | apply below_drew1) | exact HB.out)⟩
        · rw [if_neg c4] at H
          exact absurd H (by simp)
      · rw [if_neg c3] at H
        have c3b0 : decide (x5_1 < (l0.length : Int)) = false := decide_eq_false c3
        clear c3
        obtain rfl := Option.some.inj H
        go_wp2
        go_ret
        exact ⟨by first | rfl | (simp [errW_none, errW_some] <;> rfl) | (simp [*, errW_none, errW_some] <;> rfl), by repeat (first | (with_reducible first | exact HB.out | apply below_alloc | apply pw_below_drewN | apply below_drew1) | exact HB.out)⟩
end Go.Proofs.Ytonagfbadoacjaa.Q
end
section
set_option linter.unusedVariables false
set_option linter.unusedSimpArgs false
namespace Go.Proofs.Ytonagfbadoacjaa.Pb
open Go Go.RowKit Go.Proofs.YtonagfbadoacjaaW.PrintWords Go.Proofs.YtonagfbadoacjaaW.PrintLast Go.Proofs.YtonagfbadoacjaaW.PrintMore Go.Proofs.Ytonagfbadoacjaa.Trie Go.Proofs.Ytonagfbadoacjaa.Q
theorem sorted_unique : ∀ {A B : List Key}, A.Pairwise (· < ·) → B.Pairwise (· < ·) → (∀ x, x ∈ A ↔ x ∈ B) → A = B := by
  intro A
  induction A with
  | nil =>
    intro B _ _ h
    cases B with
    | nil => rfl
    | cons b B => exact absurd ((h b).2 (by simp)) (by simp)
  | cons a A ih =>
    intro B hA hB h
    cases B with
    | nil => exact absurd ((h a).1 (by simp)) (by simp)
    | cons b B =>
      have pa := List.pairwise_cons.1 hA
      have pb := List.pairwise_cons.1 hB
      have hab : a = b := by
        have h1 := (h a).1 (by simp)
        have h2 := (h b).2 (by simp)
        rcases List.mem_cons.1 h1 with e | h1
        · exact e
        · rcases List.mem_cons.1 h2 with e | h2
          · exact e.symm
          · exact absurd (pb.1 a h1) (key_asymm (pa.1 b h2))
      subst hab
      congr 1
      refine ih pa.2 pb.2 (fun x => ?_)
      have hx := h x
      simp only [List.mem_cons] at hx
      constructor
      · intro q
        rcases hx.1 (.inr q) with e | e
        · subst e; exact absurd (pa.1 x q) (key_irrefl x)
        · exact e
      · intro q
        rcases hx.2 (.inr q) with e | e
        · subst e; exact absurd (pb.1 x q) (key_irrefl x)
        · exact e
theorem compact_spec (zs : List Key) (hs : ∀ i j, i ≤ j → j < zs.length → ¬ zs.toArray[j]! < zs.toArray[i]!) : ∀ m, m ≤ zs.length →
    (Lib.compactUpTo zs.toArray m).Pairwise (· < ·) ∧ ∀ x, x ∈ Lib.compactUpTo zs.toArray m ↔ ∃ j, j < m ∧ x = zs.toArray[j]! := by
  intro m
  induction m with
  | zero => intro _; simp [Lib.compactUpTo]
  | succ m ih =>
    intro h
    obtain ⟨h1, h2⟩ := ih (by omega)
    rw [Lib.compactUpTo_succ]
    by_cases k : m = 0 ∨ zs.toArray[m]! ≠ zs.toArray[m - 1]!
    · have hk : Lib.keeps zs.toArray m = true := by
        rcases k with k | k
        · exact Lib.keeps_lt_one _ _ (by omega)
        · exact Lib.keeps_pos k
      rw [hk, if_pos rfl]
      refine ⟨List.pairwise_append.2 ⟨h1, by simp, fun x hx y hy => ?_⟩, fun x => ?_⟩
      · obtain ⟨j, hj, rfl⟩ := (h2 x).1 hx
        rw [List.mem_singleton.1 hy]
        have a1 := hs j (m - 1) (by omega) (by omega)
        have a2 := hs (m - 1) m (by omega) (by omega)
        rcases k with k | k
        · omega
        · rcases key_le_total zs.toArray[m - 1]! zs.toArray[m]! with c | c | c
          · rcases key_le_total zs.toArray[j]! zs.toArray[m - 1]! with e | e | e
            · exact key_trans e c
            · rw [e]; exact c
            · exact absurd e a1
          · exact absurd c.symm k
          · exact absurd c a2
      · rw [List.mem_append, h2, List.mem_singleton]
        constructor
        · rintro (⟨j, hj, e⟩ | e)
          · exact ⟨j, by omega, e⟩
          · exact ⟨m, by omega, e⟩
        · rintro ⟨j, hj, e⟩
          by_cases q : j = m
          · subst q; exact .inr e
          · exact .inl ⟨j, by omega, e⟩
    · have hm : 0 < m := by omega
      have he : zs.toArray[m]! = zs.toArray[m - 1]! := Classical.byContradiction (fun q => k (.inr q))
      rw [Lib.keeps_neg hm he, if_neg (by simp), List.append_nil]
      refine ⟨h1, fun x => ?_⟩
      rw [h2]
      constructor
      · rintro ⟨j, hj, e⟩
        exact ⟨j, by omega, e⟩
      · rintro ⟨j, hj, e⟩
        by_cases q : j = m
        · subst q; exact ⟨j - 1, by omega, by rw [e, he]⟩
        · exact ⟨j, by omega, e⟩
theorem le_not {a b : Key} : decide (a ≤ b) = true ↔ ¬ b < a := by
  rw [decide_eq_true_eq]
  exact Iff.rfl
theorem sort_compact (K : List Key) : (Lib.compact (K.mergeSort fun x y => decide (x ≤ y))).Pairwise (· < ·) ∧ ∀ x, x ∈ Lib.compact (K.mergeSort fun x y => decide (x ≤ y)) ↔ x ∈ K := by
  have hp : (K.mergeSort fun x y => decide (x ≤ y)).Pairwise (fun a b => decide (a ≤ b) = true) := by
    apply List.pairwise_mergeSort
    · intro a b c h1 h2
      rw [le_not] at h1 h2 ⊢
      intro q
      rcases key_le_total a b with e | e | e
      · exact h2 (key_trans q e)
      · subst e; exact h2 q
      · exact h1 e
    · intro a b
      rw [Bool.or_eq_true, le_not, le_not]
      rcases key_le_total a b with e | e | e
      · exact .inl (key_asymm e)
      · subst e; exact .inl (key_irrefl _)
      · exact .inr (key_asymm e)
  have hm : ∀ x, x ∈ (K.mergeSort fun x y => decide (x ≤ y)) ↔ x ∈ K := fun x => List.mem_mergeSort
  generalize (K.mergeSort fun x y => decide (x ≤ y)) = zs at hp hm ⊢
  have hs : ∀ i j, i ≤ j → j < zs.length → ¬ zs.toArray[j]! < zs.toArray[i]! := by
    intro i j hij hj
    have e1 : zs.toArray[j]! = zs[j] := by simp [hj]
    have e2 : zs.toArray[i]! = zs[i]'(by omega) := by simp [show i < zs.length by omega]
    rw [e1, e2]
    by_cases q : i = j
    · subst q; exact key_irrefl _
    · exact le_not.1 (List.pairwise_iff_getElem.1 hp i j (by omega) hj (by omega))
  obtain ⟨h1, h2⟩ := compact_spec zs hs zs.length (Nat.le_refl _)
  refine ⟨h1, fun x => ?_⟩
  rw [← hm]
  have := h2 x
  unfold Lib.compact
  rw [this]
  constructor
  · rintro ⟨j, hj, e⟩
    rw [e, show zs.toArray[j]! = zs[j] by simp [hj]]
    exact List.getElem_mem _
  · intro h
    obtain ⟨j, hj, e⟩ := List.getElem_of_mem h
    exact ⟨j, hj, by rw [← e]; simp [hj]⟩
def keyS (s : ByteArray) : Bool := kokB (L s)
def mkS (l : List UInt8) : ByteArray := ⟨l.toArray⟩
theorem LL_mkS (zs : List Key) : LL (zs.map mkS) = zs := by
  simp only [LL, List.map_map]
  have : (L ∘ mkS) = id := by funext l; exact L_mk l
  rw [this, List.map_id]
def finS (m : List ByteArray) : List ByteArray := (Lib.compact ((LL m).mergeSort fun x y => decide (x ≤ y))).map mkS
theorem compact_few (zs : List Key) : (Lib.compact zs).length ≤ zs.length := by
  unfold Lib.compact Lib.compactUpTo
  rw [List.length_map]
  exact Nat.le_trans (List.length_filter_le _ _) (by simp)
theorem impl_KeysSort_l0 (l : List ByteArray) (hl : SzL l) (hn : l.length ≤ 2000000) (d : Nat) : ∀ (i : Nat) (x3 : List ByteArray), i ≤ l.length → l.length - i = d → x3.length ≤ i →
    Ev (fun k => impl_KeysSort.l0 k x3 l (l.length : Int) (i : Int)) (finS (x3 ++ (l.drop i).filter keyS)) := by
  induction d with
  | zero =>
    intro i x3 h1 h2 h3
    refine ev_succ ?_
    simp only [impl_KeysSort.l0]
    rw [List.drop_eq_nil_of_le (by omega), List.filter_nil, List.append_nil]
    have hz := LL_length x3
    have ms : ((LL x3).mergeSort fun x y => decide (x ≤ y)).length = x3.length := by rw [List.length_mergeSort, hz]
    have e1 : slices_Sort_string_string.f x3 = some (((LL x3).mergeSort fun x y => decide (x ≤ y)).map mkS) := by
      unfold slices_Sort_string_string.f
      rw [if_pos (by omega)]
      rfl
    have e2 : slices_Compact_string_string.f (((LL x3).mergeSort fun x y => decide (x ≤ y)).map mkS) = some (finS x3) := by
      unfold slices_Compact_string_string.f
      rw [if_pos (by rw [List.length_map]; omega)]
      have := LL_mkS ((LL x3).mergeSort fun x y => decide (x ≤ y))
      unfold LL at this
      have e3 : (((List.map L x3).mergeSort fun x y => decide (x ≤ y)).map mkS).map (fun s => s.data.toList) = ((List.map L x3).mergeSort fun x y => decide (x ≤ y)) := this
      unfold finS LL
      rw [e3]
      rfl
    have hf : (finS x3).length ≤ x3.length := by
      unfold finS
      rw [List.length_map]
      have := compact_few ((LL x3).mergeSort fun x y => decide (x ≤ y))
      omega
    refine ev_neg (by omega) (ev_bindc e1 (ev_bindc e2 (ev_pos (by simp only [List.length_nil]; omega) (ev_some (List.nil_append _)))))
  | succ d ih =>
    intro i x3 h1 h2 h3
    refine ev_succ ?_
    simp only [impl_KeysSort.l0]
    have hg : rdOf ByteArray.empty l (i : Int) = l.getD i ByteArray.empty := rfl
    refine ev_pos (by omega) (ev_pos (by omega) (ev_pos (by omega) (Ev.bind (impl_KeyOk_ev _ (rd_size hl i)) ?_)))
    rw [drop_cons ByteArray.empty (by omega), List.filter_cons, w64 (by omega) (by omega), hg]
    cases hk : kokB (L (l.getD i ByteArray.empty)) with
    | true =>
      refine ev_pos rfl (ev_pos (by omega) ?_)
      rw [if_pos (show keyS _ = true from hk)]
      have := ih (i + 1) (x3 ++ [l.getD i ByteArray.empty]) (by omega) (by omega) (by simp; omega)
      rwa [List.append_assoc] at this
    | false =>
      refine ev_neg (by simp) ?_
      rw [if_neg (by rw [show keyS _ = false from hk]; simp)]
      exact ih (i + 1) x3 (by omega) (by omega) (by omega)
theorem spec_KeysSort_l0 (l : List ByteArray) (hl : SzL l) (hn : l.length ≤ 2000000) (d : Nat) : ∀ (i : Nat) (x3 : List ByteArray), i ≤ l.length → l.length - i = d → x3.length ≤ i → (LL x3).Pairwise (· < ·) →
    ∃ r, Ev (fun k => spec_KeysSort.l0 k l x3 (i : Int)) r ∧ (LL r).Pairwise (· < ·) ∧ r.length ≤ l.length ∧ ∀ x, x ∈ LL r ↔ x ∈ LL x3 ∨ x ∈ LL ((l.drop i).filter keyS) := by
  induction d with
  | zero =>
    intro i x3 h1 h2 h3 h4
    refine ⟨x3, ev_succ ?_, h4, by omega, fun x => ?_⟩
    · simp only [spec_KeysSort.l0]
      exact ev_neg (by omega) (ev_some rfl)
    · rw [List.drop_eq_nil_of_le (by omega)]; simp [LL]
  | succ d ih =>
    intro i x3 h1 h2 h3 h4
    have hg : rdOf ByteArray.empty l (i : Int) = l.getD i ByteArray.empty := rfl
    rw [drop_cons ByteArray.empty (by omega), List.filter_cons]
    cases hk : kokB (L (l.getD i ByteArray.empty)) with
    | true =>
      obtain ⟨y, hy, he⟩ := l2Put_ev x3 (l.getD i ByteArray.empty) (by omega)
      have hyl : y.length ≤ x3.length + 1 := by
        have := putB_length (k := L (l.getD i ByteArray.empty)) (K := LL x3)
        rw [← he, LL_length, LL_length] at this; exact this
      obtain ⟨r, hr, g1, g2, g3⟩ := ih (i + 1) y (by omega) (by omega) (by omega) (by rw [he]; exact putB_sorted h4)
      refine ⟨r, ev_succ ?_, g1, g2, fun x => ?_⟩
      · simp only [spec_KeysSort.l0]
        refine ev_pos (by omega) (ev_pos (by omega) (Ev.bind (spec_KeyOk_ev _ (rd_size hl i)) ?_))
        rw [hg, hk, w64 (by omega) (by omega)]
        exact ev_pos rfl (Ev.bind hy hr)
      · rw [g3, he, putB_mem, if_pos (show keyS _ = true from hk)]
        simp only [LL, List.map_cons, List.mem_cons]
        constructor
        · rintro ((h | h) | h)
          · exact .inr (.inl h)
          · exact .inl h
          · exact .inr (.inr h)
        · rintro (h | h | h)
          · exact .inl (.inr h)
          · exact .inl (.inl h)
          · exact .inr h
    | false =>
      obtain ⟨r, hr, g1, g2, g3⟩ := ih (i + 1) x3 (by omega) (by omega) (by omega) h4
      refine ⟨r, ev_succ ?_, g1, g2, fun x => ?_⟩
      · simp only [spec_KeysSort.l0]
        refine ev_pos (by omega) (ev_pos (by omega) (Ev.bind (spec_KeyOk_ev _ (rd_size hl i)) ?_))
        rw [hg, hk, w64 (by omega) (by omega)]
        exact ev_neg (by simp) hr
      · rw [g3, if_neg (by rw [show keyS _ = false from hk]; simp)]
theorem KeysSort_ev (l : List ByteArray) (hl : SzL l) (hn : l.length ≤ 2000000) :
    ∃ r, Ev (fun k => impl_KeysSort.f k l) r ∧ Ev (fun k => spec_KeysSort.f k l) r ∧ (LL r).Pairwise (· < ·) ∧ r.length ≤ l.length ∧ ∀ x, x ∈ LL r ↔ x ∈ LL l ∧ kokB x = true := by
  have h1 := impl_KeysSort_l0 l hl hn l.length 0 [] (by omega) (by omega) (by simp)
  obtain ⟨r, h2, g1, g2, g3⟩ := spec_KeysSort_l0 l hl hn l.length 0 [] (by omega) (by omega) (by simp) (by simp [LL])
  rw [List.drop_zero, List.nil_append] at h1
  have hf : ∀ x, x ∈ LL (l.filter keyS) ↔ x ∈ LL l ∧ kokB x = true := by
    intro x
    simp only [LL, List.mem_map, List.mem_filter]
    constructor
    · rintro ⟨s, ⟨a, b⟩, rfl⟩; exact ⟨⟨s, a, rfl⟩, b⟩
    · rintro ⟨⟨s, a, rfl⟩, b⟩; exact ⟨s, ⟨a, b⟩, rfl⟩
  have hr : finS (l.filter keyS) = r := by
    apply LL_inj
    obtain ⟨s1, s2⟩ := sort_compact (LL (l.filter keyS))
    unfold finS
    rw [LL_mkS]
    refine sorted_unique s1 g1 (fun x => ?_)
    rw [s2, g3, List.drop_zero]
    simp [LL]
  rw [hr] at h1
  refine ⟨r, h1, h2, g1, g2, fun x => ?_⟩
  rw [g3, List.drop_zero, ← hf]
  simp [LL]
theorem same_l0 (l : List ByteArray) (hn : l.length ≤ 2000000) (d : Nat) : ∀ i : Nat, i ≤ l.length → l.length - i = d → Ev (fun k => laws_ltSames.l0 k l l (i : Int)) true := by
  induction d with
  | zero =>
    intro i h1 h2
    refine ev_succ ?_
    simp only [laws_ltSames.l0]
    exact ev_neg (by omega) (ev_some rfl)
  | succ d ih =>
    intro i h1 h2
    refine ev_succ ?_
    simp only [laws_ltSames.l0]
    refine ev_pos (by omega) (ev_pos (by omega) (ev_pos (by omega) (ev_pos trivial ?_)))
    rw [w64 (by omega) (by omega)]
    exact ih (i + 1) (by omega) (by omega)
theorem same_ev (l : List ByteArray) (hn : l.length ≤ 2000000) : Ev (fun k => laws_ltSames.f k l l) true := by
  unfold laws_ltSames.f
  exact ev_pos rfl (same_l0 l hn l.length 0 (by omega) (by omega))
end Go.Proofs.Ytonagfbadoacjaa.Pb
end
section
set_option linter.unusedVariables false
set_option linter.unusedSimpArgs false
namespace Go.Proofs.Ytonagfbadoacjaa.Pb
open Go Go.RowKit Go.Proofs.YtonagfbadoacjaaW.PrintWords Go.Proofs.YtonagfbadoacjaaW.PrintLast Go.Proofs.YtonagfbadoacjaaW.PrintMore Go.Proofs.Ytonagfbadoacjaa.Trie Go.Proofs.Ytonagfbadoacjaa.Q
def notLess (x : ByteArray) (y : ByteArray) : Bool := !decide (L y < L x)
def firstOf (o : Option ByteArray) : ByteArray × Bool := match o with | some y => (y, true) | none => ((⟨#[]⟩ : ByteArray), false)
def firstB (l : List ByteArray) (x : ByteArray) : ByteArray × Bool := if keysB (LL l) then firstOf (l.find? (notLess x)) else ((⟨#[]⟩ : ByteArray), false)
theorem mess_l0_ev (b : List Int) (p : Int) (d : Nat) : ∀ (x3 : List ByteArray) (i : Nat), 30 - i = d → i ≤ 30 → SOk (LL x3) → x3.length ≤ 10 + i →
    ∃ s, Ev (fun k => spec_l71Mess.l0 k x3 (i : Int) b p) (s, p) ∧ SOk (LL s) ∧ s.length ≤ 40 := by
  induction d with
  | zero =>
    intro x3 i h1 h2 h3 h4
    refine ⟨x3, ev_succ ?_, h3, by omega⟩
    simp only [spec_l71Mess.l0]
    exact ev_neg (by omega) (ev_some rfl)
  | succ d ih =>
    intro x3 i h1 h2 h3 h4
    have e1 : Int.tmod (i : Int) 5 = ((i % 5 : Nat) : Int) := by rw [Int.tmod_eq_emod_of_nonneg (by omega)]; omega
    have e2 : wrap64 (Int.tdiv (i : Int) 5) = ((i / 5 : Nat) : Int) := by rw [Int.tdiv_eq_ediv_of_nonneg (by omega), w64 (by omega) (by omega)]; omega
    have sm : ∀ j : Nat, j < 5 → ∃ u : ByteArray, rdOf ByteArray.empty ([(⟨#[]⟩ : ByteArray), (⟨#[97]⟩ : ByteArray), (⟨#[98]⟩ : ByteArray), (⟨#[99]⟩ : ByteArray), (⟨#[100]⟩ : ByteArray)] : List ByteArray) (j : Int) = u ∧ (L u).length ≤ 1 ∧ ∀ c ∈ L u, 97 ≤ c.toNat ∧ c.toNat ≤ 100 := by
      intro j hj
      have : j = 0 ∨ j = 1 ∨ j = 2 ∨ j = 3 ∨ j = 4 := by omega
      rcases this with rfl | rfl | rfl | rfl | rfl <;> refine ⟨_, rfl, by decide, by decide⟩
    have sm2 : ∀ j : Nat, j < 6 → ∃ u : ByteArray, rdOf ByteArray.empty ([(⟨#[]⟩ : ByteArray), (⟨#[97]⟩ : ByteArray), (⟨#[98]⟩ : ByteArray), (⟨#[99]⟩ : ByteArray), (⟨#[100]⟩ : ByteArray), (⟨#[100, 97]⟩ : ByteArray)] : List ByteArray) (j : Int) = u ∧ (L u).length ≤ 2 ∧ ∀ c ∈ L u, 97 ≤ c.toNat ∧ c.toNat ≤ 100 := by
      intro j hj
      have : j = 0 ∨ j = 1 ∨ j = 2 ∨ j = 3 ∨ j = 4 ∨ j = 5 := by omega
      rcases this with rfl | rfl | rfl | rfl | rfl | rfl <;> refine ⟨_, rfl, by decide, by decide⟩
    obtain ⟨u, hu, lu, au⟩ := sm (i % 5) (by omega)
    obtain ⟨v, hv, lv, av⟩ := sm2 (i / 5) (by omega)
    have su := size_L u
    have sv := size_L v
    have hd : (L (⟨#[100]⟩ : ByteArray)) = [100] := rfl
    have hL : L (((⟨#[100]⟩ : ByteArray) ++ u) ++ v) = [100] ++ L u ++ L v := by rw [L_append, L_append, hd]
    have hk : KOk (L (((⟨#[100]⟩ : ByteArray) ++ u) ++ v)) := by
      rw [hL]
      refine ⟨by simp; omega, fun c hc => ?_⟩
      simp only [List.mem_append, List.mem_singleton] at hc
      rcases hc with (rfl | hc) | hc
      · decide
      · exact au c hc
      · exact av c hc
    obtain ⟨r, hr, he⟩ := l2Put_ev x3 (((⟨#[100]⟩ : ByteArray) ++ u) ++ v) (by omega)
    have hl : r.length ≤ x3.length + 1 := by
      have := putB_length (k := L (((⟨#[100]⟩ : ByteArray) ++ u) ++ v)) (K := LL x3)
      rw [← he, LL_length, LL_length] at this; exact this
    obtain ⟨s, hs, ks, ls⟩ := ih r (i + 1) (by omega) (by omega) (by rw [he]; exact sok_put h3 hk) (by omega)
    refine ⟨s, ev_succ ?_, ks, ls⟩
    have hsz : ((⟨#[100]⟩ : ByteArray) ++ u).size = 1 + u.size := ByteArray.size_append
    simp only [spec_l71Mess.l0]
    rw [e1, e2]
    refine ev_pos (by omega) (ev_bindc rfl (ev_pos (by omega) (ev_pos (by simp only [List.length_cons, List.length_nil]; omega) ?_)))
    rw [hu]
    refine ev_pos (by omega) (ev_bindc rfl (ev_pos (by omega) (ev_pos (by simp only [List.length_cons, List.length_nil]; omega) ?_)))
    rw [hv]
    refine ev_pos (by rw [hsz]; omega) (Ev.bind hr ?_)
    rw [w64 (by omega) (by omega)]
    exact hs
theorem sok_short {l : List ByteArray} (h : SOk (LL l)) : ∀ x ∈ l, (L x).length ≤ 10 := fun x hx => by
  have := (h.ok _ (LL_mem hx)).len; omega
theorem mess_ev {b : List Int} (hb : By b) (p : Int) (h0 : 0 ≤ p) (h1 : p ≤ 50000) :
    ∃ s q, Ev (fun k => spec_l71Mess.f k b p) (s, q) ∧ (∀ x ∈ s, (L x).length ≤ 10) ∧ s.length ≤ 40 ∧ p ≤ q ∧ q ≤ p + 2000 := by
  obtain ⟨l, q, hl, kl, nl, q0, q1⟩ := keys_ev hb p h0 (by omega) 8 (by omega)
  obtain ⟨m, hm, m0, m1, _⟩ := pick_ev hb q (by omega) (by omega) 5 (by omega)
  have sh := sok_short kl
  have start : ∀ r, Ev (fun k => (if m = 0 then (if l.length < 8796093022208 then (some ((l ++ [(⟨#[97]⟩ : ByteArray)]), q + 1)) else (none)) else (if m = 1 then ((some (([(⟨#[120]⟩ : ByteArray), (⟨#[101]⟩ : ByteArray)] : List ByteArray) : List ByteArray)).bind fun y585 => (if l.length + y585.length < 8796093022208 then (some ((l ++ y585), q + 1)) else (none))) else (if m = 2 then ((spec_l6Rd_pick.f k b (q + 1) 2).bind fun bt591 => ((spec_l6Many.f k (⟨#[100]⟩ : ByteArray) (wrap64 (5 + bt591.1))).bind fun t593 => (if l.length < 8796093022208 then (some ((l ++ [t593]), bt591.2)) else (none)))) else (if m = 3 then (spec_l71Mess.l0 k l 0 b (q + 1)) else (some (l, q + 1))))))) r → Ev (fun k => spec_l71Mess.f k b p) r := by
    intro r h
    unfold spec_l71Mess.f
    exact Ev.bind hl (Ev.bind hm h)
  by_cases c0 : m = 0
  · refine ⟨l ++ [(⟨#[97]⟩ : ByteArray)], q + 1, start _ (ev_pos c0 (ev_pos (by omega) (ev_some rfl))), fun x hx => ?_, by simp; omega, by omega, by omega⟩
    rcases List.mem_append.1 hx with h | h
    · exact sh x h
    · simp at h; subst h; decide
  · by_cases c1 : m = 1
    · refine ⟨l ++ [(⟨#[120]⟩ : ByteArray), (⟨#[101]⟩ : ByteArray)], q + 1, start _ (ev_neg c0 (ev_pos c1 (ev_bindc rfl (ev_pos (by simp; omega) (ev_some rfl))))), fun x hx => ?_, by simp; omega, by omega, by omega⟩
      rcases List.mem_append.1 hx with h | h
      · exact sh x h
      · simp at h; rcases h with rfl | rfl <;> decide
    · by_cases c2 : m = 2
      · obtain ⟨z, hz, z0, z1, _⟩ := pick_ev hb (q + 1) (by omega) (by omega) 2 (by omega)
        have z1 := z1 (by omega)
        obtain ⟨n, hn⟩ : ∃ n : Nat, 5 + z = (n : Int) := ⟨(5 + z).toNat, by omega⟩
        have h21 : (⟨#[100]⟩ : ByteArray).size = 1 := rfl
        have h20 : (⟨#[]⟩ : ByteArray).size = 0 := rfl
        obtain ⟨s, hs, hsz⟩ := many_ev 10 (by omega) n (⟨#[100]⟩ : ByteArray) (⟨#[]⟩ : ByteArray) (by omega) (by rw [h21]; omega) (by rw [h21, h20]; omega)
        refine ⟨l ++ [s], q + 1 + 1, start _ (ev_neg c0 (ev_neg c1 (ev_pos c2 (Ev.bind hz ?_)))), fun x hx => ?_, by simp; omega, by omega, by omega⟩
        · simp only []
          rw [w64 (i := 5 + z) (by omega) (by omega), hn]
          exact Ev.bind hs (ev_pos (by omega) (ev_some rfl))
        · rcases List.mem_append.1 hx with h | h
          · exact sh x h
          · simp at h; subst h; rw [← size_L]; exact hsz
      · by_cases c3 : m = 3
        · obtain ⟨s, hs, ks, ls⟩ := mess_l0_ev b (q + 1) 30 l 0 (by omega) (by omega) kl (by omega)
          exact ⟨s, q + 1, start _ (ev_neg c0 (ev_neg c1 (ev_neg c2 (ev_pos c3 hs)))), sok_short ks, ls, by omega, by omega⟩
        · exact ⟨l, q + 1, start _ (ev_neg c0 (ev_neg c1 (ev_neg c2 (ev_neg c3 (ev_some rfl))))), sh, by omega, by omega, by omega⟩
theorem szl_of {s : List ByteArray} (h : ∀ x ∈ s, (L x).length ≤ 10) (hl : s.length ≤ 1000) : SzL s := ⟨by omega, fun x hx => by have := h x hx; rw [size_L]; omega⟩
end Go.Proofs.Ytonagfbadoacjaa.Pb
end
section
namespace Go.Proofs.Ytonagfbadoacjaa.Q
open Go.RowKit Go.Proofs.YtonagfbadoacjaaW.PrintWords Go.Proofs.YtonagfbadoacjaaW.PrintLast Go.Proofs.YtonagfbadoacjaaW.PrintMore
attribute [local go_sem] max2_int min2_int max_two min_two max_three min_three max_four min_four   
set_option linter.unusedVariables false
set_option linter.unusedSimpArgs false
def spec_DrawKeysOk.f (k : Nat) (l0 : List Int) : Option (List ByteArray) := (spec_l6Open.f l0).bind fun bt1286 => ((spec_l6Rd_pick.f k bt1286.1 bt1286.2 2).bind fun bt1289 => (if bt1289.1 = 0 then ((spec_l71Keys.f k bt1286.1 bt1289.2 10).bind fun bt1291 => (some bt1291.1)) else ((spec_l71Mess.f k bt1286.1 bt1289.2).bind fun bt1295 => (some bt1295.1))))
theorem spec_DrawKeysOk.mono : ∀ a0 k, LeO (spec_DrawKeysOk.f k a0) (spec_DrawKeysOk.f (k + 1) a0) := by
  intro a0 k
  unfold spec_DrawKeysOk.f
  repeat' first
      | (with_reducible exact spec_l6Rd_pick.mono _ _ _ _)
      | (with_reducible exact spec_l71Keys.mono _ _ _ _)
      | (with_reducible exact spec_l71Mess.mono _ _ _)
      | (with_reducible exact LeO.refl _)
      | (with_reducible exact LeO.none _)
      | (with_reducible refine LeO.ite ?_ ?_)
      | (with_reducible refine LeO.bind ?_ (fun _ => ?_))
      | exact spec_l6Rd_pick.mono _ _ _ _
      | exact spec_l71Keys.mono _ _ _ _
      | exact spec_l71Mess.mono _ _ _
      | exact LeO.none _
      | refine LeO.ite ?_ ?_
      | refine LeO.bind ?_ (fun _ => ?_)
set_option maxHeartbeats 8000000 in
set_option maxRecDepth 100000 in
theorem spec_DrawKeysOk.calls (k : Nat) (A0 : Option Addr) (c0 : Nat) (l0 : List Int) (r : List ByteArray) (w : World) (hr0 : Kd.C (Kd.int .u8) w A0 l0.length l0) (hc0 : l0.length ≤ c0) (h : spec_DrawKeysOk.f k l0 = some r) :
    Calls Try.prog 84 #[.slice A0 l0.length c0] w fun e w' => ∃ v0_ : Value, e = .returned (v0_) ∧ Kd.R Kd.string 9 w' w.heap.size (fun _ => True) v0_ r ∧ Below w.heap.size w w' := by
  have HR0 := Aside0.mk hr0
  have HC0 := Aside0.mk hc0
  clear hr0 hc0
  have HB := Aside0.mk (Below.refl w.heap.size w)
  have H : ((spec_l6Open.f l0).bind fun bt1286 => ((spec_l6Rd_pick.f k bt1286.1 bt1286.2 2).bind fun bt1289 => (if bt1289.1 = 0 then ((spec_l71Keys.f k bt1286.1 bt1289.2 10).bind fun bt1291 => (some bt1291.1)) else ((spec_l71Mess.f k bt1286.1 bt1289.2).bind fun bt1295 => (some bt1295.1))))) = some r := h
  clear h
  replace H := Option.bind_eq_some_iff.mp H
  obtain ⟨⟨t1286, t1287⟩, A20, H⟩ := H
  (try dsimp only at H)
  have A2 := Aside0.mk A20
  clear A20
  replace H := Option.bind_eq_some_iff.mp H
  obtain ⟨⟨t1289, t1290⟩, A30, H⟩ := H
  (try dsimp only at H)
  have A3 := Aside0.mk A30
  clear A30
  go_enter Try.func84, Try.ntmps84
  go_upto_if 8 with (first | ((with_reducible refine gate_callee (f := 102) rfl ?_); refine goesL_ (some 5) rfl rfl Try.func102 (by kernel_rfl) rfl #[.slice A0 l0.length c0] rfl (by (try simp only [List.map_toArray, List.map_cons, List.map_nil]); first | done | rfl | (simp only [List.length_drop, List.length_take]; rfl)) ?_; (with_reducible refine (spec_l6Open.calls _ _ l0 t1286 t1287 w _ ?side1 ?side2 ?side3 A2.out).mono ?_); (case side1 => repeat (first | (with_reducible first | exact HB.out | apply below_alloc | apply pw_below_drewN | apply below_drew1) | exact HB.out)); (case side2 => exact HR0.out); (case side3 => exact HC0.out); rintro e w4 ⟨g1288, rfl, hi, hb, hb2⟩; refine ⟨_, rfl, ?_⟩; have n0_ := Aside0.mk (hb); have n1_ := Aside0.mk (hi); clear HB; have HB := n0_; have HI1288 := n1_; clear n0_ n1_; (try clear hb); (try clear hb2); (try clear hk); (try clear hi)) | ((with_reducible refine gate_callee (f := 113) rfl ?_); refine goesL_ (some 7) rfl rfl Try.func113 (by kernel_rfl) rfl #[.pointer (some ⟨g1288, 0, none⟩), .int .i64 2] rfl (by (try simp only [List.map_toArray, List.map_cons, List.map_nil]); first | done | rfl | (simp only [List.length_drop, List.length_take]; rfl)) ?_; (with_reducible refine (spec_l6Rd_pick.calls k g1288 t1286 t1287 2 t1289 t1290 w _ ?side1 ?side2 A3.out).mono ?_); (case side1 => repeat (first | (with_reducible first | exact HI1288.out | apply IsS109.alloc | apply IsS109.drewN | apply IsS109.drew | apply IsS109.set_1) | exact HI1288.out)); (case side2 => repeat (first | (with_reducible first | exact HB.out | apply below_alloc | apply pw_below_drewN | apply below_drew1 | refine below_set ?_ (IsS109.ge HI1288.out)) | exact HB.out)); rintro e w5 ⟨rfl, hi, hb, hk⟩; refine ⟨_, rfl, ?_⟩; have n0_ := Aside0.mk (hb); have n1_ := Aside0.mk (hi); clear HB; clear HI1288; have HB := n0_; have HI1288 := n1_; clear n0_ n1_; (try clear hb); (try clear hb2); (try clear hk); (try clear hi)))
  by_cases c6 : t1289 = 0
  · rw [if_pos c6] at H
    have c6b0 : (t1289 == 0) = true := beq_iff_eq.mpr c6
    have c6b1 : (t1289 != 0) = false := bne_eq_false_iff_eq.mpr c6
    clear c6
    (first | rw [c6b0] | (simp only [i64_w, i32_w]; rw [c6b0]) | simp only [*, Bool.not_true, Bool.not_false] | skip)
    replace H := Option.bind_eq_some_iff.mp H
    obtain ⟨⟨t1291, t1294⟩, A70, H⟩ := H
    (try dsimp only at H)
    have A7 := Aside0.mk A70
    clear A70
    obtain rfl := Option.some.inj H
    go_wp2_with (first | ((with_reducible refine gate_callee (f := 112) rfl ?_); refine goesL_ (some 10) rfl rfl Try.func112 (by kernel_rfl) rfl #[.pointer (some ⟨g1288, 0, none⟩), .int .i64 10] rfl (by (try simp only [List.map_toArray, List.map_cons, List.map_nil]); first | done | rfl | (simp only [List.length_drop, List.length_take]; rfl)) ?_; (with_reducible refine (spec_l71Keys.calls k g1288 t1286 t1290 10 t1291 t1294 w _ ?side1 ?side2 A7.out).mono ?_); (case side1 => repeat (first | (with_reducible first | exact HI1288.out | apply IsS109.alloc | apply IsS109.drewN | apply IsS109.drew | apply IsS109.set_1) | exact HI1288.out)); (case side2 => repeat (first | (with_reducible first | exact HB.out | apply below_alloc | apply pw_below_drewN | apply below_drew1 | refine below_set ?_ (IsS109.ge HI1288.out)) | exact HB.out)); rintro e w8 ⟨v1292, rfl, ho0, hi, hb, hk⟩; refine ⟨_, rfl, ?_⟩; have n0_ := Aside0.mk (Kd.R_lower ho0 (below_size (by repeat (first | (with_reducible first | exact HB.out | apply below_alloc | apply pw_below_drewN | apply below_drew1 | refine below_set ?_ (IsS109.ge HI1288.out)) | exact HB.out)))); have n1_ := Aside0.mk (hb); have n2_ := Aside0.mk (hi); clear HB; clear HI1288; have HO1293 := n0_; have HB := n1_; have HI1288 := n2_; clear n0_ n1_ n2_; (try clear hb); (try clear hb2); (try clear hk); (try clear hi); (try clear ho0)))
    go_ret
    exact ⟨_, by first | rfl | (simp [errW_none, errW_some] <;> rfl) | (simp [*, errW_none, errW_some] <;> rfl), by (with_reducible repeat (first | apply Kd.R_alloc | apply Kd.R_drewN | apply Kd.R_drew)); exact HO1293.out, by repeat (first | (with_reducible first | exact HB.out | apply below_alloc | apply pw_below_drewN | apply below_drew1 | refine below_set ?_ (IsS109.ge HI1288.out)) | exact HB.out)⟩
  · rw [if_neg c6] at H
    have c6b0 : (t1289 == 0) = false := beq_eq_false_iff_ne.mpr c6
    have c6b1 : (t1289 != 0) = true := bne_iff_ne.mpr c6
    (first | rw [c6b0] | (simp only [i64_w, i32_w]; rw [c6b0]) | simp only [*, Bool.not_true, Bool.not_false] | skip)
    replace H := Option.bind_eq_some_iff.mp H
    obtain ⟨⟨t1295, t1298⟩, A90, H⟩ := H
    (try dsimp only at H)
    have A9 := Aside0.mk A90
    clear A90
    obtain rfl := Option.some.inj H
    go_wp2_with (first | ((with_reducible refine gate_callee (f := 114) rfl ?_); refine goesL_ (some 12) rfl rfl Try.func114 (by kernel_rfl) rfl #[.pointer (some ⟨g1288, 0, none⟩)] rfl (by (try simp only [List.map_toArray, List.map_cons, List.map_nil]); first | done | rfl | (simp only [List.length_drop, List.length_take]; rfl)) ?_; (with_reducible refine (spec_l71Mess.calls k g1288 t1286 t1290 t1295 t1298 w _ ?side1 ?side2 A9.out).mono ?_); (case side1 => repeat (first | (with_reducible first | exact HI1288.out | apply IsS109.alloc | apply IsS109.drewN | apply IsS109.drew | apply IsS109.set_1) | exact HI1288.out)); (case side2 => repeat (first | (with_reducible first | exact HB.out | apply below_alloc | apply pw_below_drewN | apply below_drew1 | refine below_set ?_ (IsS109.ge HI1288.out)) | exact HB.out)); rintro e w10 ⟨v1296, rfl, ho0, hi, hb, hk⟩; refine ⟨_, rfl, ?_⟩; have n0_ := Aside0.mk (Kd.R_lower ho0 (below_size (by repeat (first | (with_reducible first | exact HB.out | apply below_alloc | apply pw_below_drewN | apply below_drew1 | refine below_set ?_ (IsS109.ge HI1288.out)) | exact HB.out)))); have n1_ := Aside0.mk (hb); have n2_ := Aside0.mk (hi); clear HB; clear HI1288; have HO1297 := n0_; have HB := n1_; have HI1288 := n2_; clear n0_ n1_ n2_; (try clear hb); (try clear hb2); (try clear hk); (try clear hi); (try clear ho0)))
    go_ret
    exact ⟨_, by first | rfl | (simp [errW_none, errW_some] <;> rfl) | (simp [*, errW_none, errW_some] <;> rfl), by (with_reducible repeat (first | apply Kd.R_alloc | apply Kd.R_drewN | apply Kd.R_drew)); exact HO1297.out, by repeat (first | (with_reducible first | exact HB.out | apply below_alloc | apply pw_below_drewN | apply below_drew1 | refine below_set ?_ (IsS109.ge HI1288.out)) | exact HB.out)⟩
end Go.Proofs.Ytonagfbadoacjaa.Q
end
section
set_option linter.unusedVariables false
set_option linter.unusedSimpArgs false
namespace Go.Proofs.Ytonagfbadoacjaa.Pb
open Go Go.RowKit Go.Proofs.YtonagfbadoacjaaW.PrintWords Go.Proofs.YtonagfbadoacjaaW.PrintLast Go.Proofs.YtonagfbadoacjaaW.PrintMore Go.Proofs.Ytonagfbadoacjaa.Trie Go.Proofs.Ytonagfbadoacjaa.Q
theorem uniqS {r r' : List ByteArray} (h : (LL r).Pairwise (· < ·)) (h' : (LL r').Pairwise (· < ·)) (e : ∀ x, x ∈ LL r ↔ x ∈ LL r') : r = r' := LL_inj (sorted_unique h h' e)
theorem DrawKeysSort_l0 {b : List Int} (hb : By b) (d : Nat) : ∀ (x4 : List ByteArray) (p : Int), 0 ≤ p → p + 20 * d ≤ 40000 → (∀ x ∈ x4, KOk (L x)) → x4.length + d ≤ 20 →
    ∃ s, Ev (fun k => spec_DrawKeysSort.l0 k x4 (d : Int) b p) s ∧ (∀ x ∈ s, (L x).length ≤ 10) ∧ s.length ≤ 70 := by
  induction d with
  | zero =>
    intro x4 p h0 h1 h2 h3
    obtain ⟨s, q, hs, g, n, _, _⟩ := mess_ev hb p h0 (by omega)
    refine ⟨x4 ++ s, ev_succ ?_, fun x hx => ?_, by simp; omega⟩
    · simp only [spec_DrawKeysSort.l0]
      exact ev_neg (by omega) (Ev.bind hs (ev_pos (by simp only []; omega) (ev_some rfl)))
    · rcases List.mem_append.1 hx with h | h
      · have := (h2 x h).len; omega
      · exact g x h
  | succ d ih =>
    intro x4 p h0 h1 h2 h3
    obtain ⟨s, q, hs, ks, q0, q1⟩ := near_ev hb p h0 (by omega) x4 (by omega) h2
    obtain ⟨r, hr, g⟩ := ih (x4 ++ [s]) q (by omega) (by omega) (fun x hx => by
      rcases List.mem_append.1 hx with h | h
      · exact h2 x h
      · rw [List.mem_singleton.1 h]; exact ks) (by simp; omega)
    refine ⟨r, ev_succ ?_, g⟩
    simp only [spec_DrawKeysSort.l0]
    refine ev_pos (by omega) (Ev.bind hs (ev_pos (by omega) ?_))
    rw [w64 (by omega) (by omega), show ((d + 1 : Nat) : Int) - 1 = (d : Int) by omega]
    exact hr
theorem DrawKeysSort_ev (l0 : List Int) (hl : l0.length ≤ maxLen) (hw : ∀ x ∈ l0, (Lit.int .u8 x).wf = true) :
    ∃ s, Ev (fun k => spec_DrawKeysSort.f k l0) s ∧ SzL s ∧ s.length ≤ 70 := by
  obtain ⟨b, ho, hb⟩ := open_ev l0 hl hw
  obtain ⟨m, hm, m0, m1, _⟩ := pick_ev hb 0 (by omega) (by omega) 10 (by omega)
  have m1 := m1 (by omega)
  obtain ⟨n, rfl⟩ : ∃ n : Nat, m = (n : Int) := ⟨m.toNat, by omega⟩
  obtain ⟨s, hs, g, gl⟩ := DrawKeysSort_l0 hb n [] (0 + 1) (by omega) (by omega) (by simp) (by simp; omega)
  refine ⟨s, ?_, szl_of g (by omega), gl⟩
  unfold spec_DrawKeysSort.f
  exact ev_bindc ho (Ev.bind hm hs)
theorem szl_append {a b : List ByteArray} (ha : SzL a) (hb : SzL b) (hn : a.length + b.length ≤ 1000000) : SzL (a ++ b) :=
  ⟨by simp; omega, fun s hs => (List.mem_append.1 hs).elim (ha.each s) (hb.each s)⟩
theorem szl_sub {r l : List ByteArray} (hl : SzL l) (hn : r.length ≤ l.length) (h : ∀ x, x ∈ LL r → x ∈ LL l) : SzL r := by
  refine ⟨Nat.le_trans hn hl.len, fun s hs => ?_⟩
  obtain ⟨t, ht, e⟩ := List.mem_map.1 (h _ (LL_mem hs))
  have := hl.each t ht
  rw [size_L] at this ⊢
  rw [← e]; exact this
end Go.Proofs.Ytonagfbadoacjaa.Pb
end
section
set_option linter.unusedVariables false
set_option linter.unusedSimpArgs false
namespace Go.Proofs.Ytonagfbadoacjaa.Pure
open Go Go.RowKit Go.Proofs.YtonagfbadoacjaaW.PrintWords Go.Proofs.YtonagfbadoacjaaW.PrintLast Go.Proofs.YtonagfbadoacjaaW.PrintMore Go.Proofs.Ytonagfbadoacjaa.Trie Go.Proofs.Ytonagfbadoacjaa.Q Go.Proofs.Ytonagfbadoacjaa.Pb
theorem FnKeysBoth : laws_FnKeysBoth.Pure := by
  intro l0 l1 h0 h1 h2 g0 g1 g2
  refine Ev.rounds ?_
  have main : ∀ b : Bool, Ev (fun k => laws_FnKeysBoth.j0 k l0 l1 b) true := by
    intro b
    refine ev_succ ?_
    simp only [laws_FnKeysBoth.j0]
    cases b with
    | true => exact ev_pos rfl (ev_some rfl)
    | false =>
      obtain ⟨s, hd, hs, hn⟩ := DrawKeysSort_ev l0 h0 h2
      obtain ⟨t, hd', ht, hn'⟩ := DrawKeysSort_ev l1 g0 g2
      have hst : SzL (s ++ t) := szl_append hs ht (by omega)
      have hts : SzL (t ++ s) := szl_append ht hs (by omega)
      obtain ⟨x, x1, _, sx, nx, mx_⟩ := KeysSort_ev (s ++ t) hst (by simp; omega)
      obtain ⟨y, y1, _, sy, ny, my⟩ := KeysSort_ev (t ++ s) hts (by simp; omega)
      obtain ⟨a, a1, a2, sa, na, ma⟩ := KeysSort_ev s hs (by omega)
      obtain ⟨b, b1, _, sb, nb, mb⟩ := KeysSort_ev t ht (by omega)
      have ha : SzL a := szl_sub hs na (fun x hx => ((ma x).1 hx).1)
      have hb : SzL b := szl_sub ht nb (fun x hx => ((mb x).1 hx).1)
      obtain ⟨z, z1, _, sz, nz, mz⟩ := KeysSort_ev (a ++ b) (szl_append ha hb (by omega)) (by simp; omega)
      have exy : y = x := uniqS sy sx (fun k => by
        rw [my, mx_, LL_append, LL_append, List.mem_append, List.mem_append]
        exact ⟨fun ⟨p, q⟩ => ⟨p.symm, q⟩, fun ⟨p, q⟩ => ⟨p.symm, q⟩⟩)
      have exz : z = x := uniqS sz sx (fun k => by
        rw [mz, mx_, LL_append, LL_append, List.mem_append, List.mem_append, ma, mb]
        constructor
        · rintro ⟨p | p, q⟩
          · exact ⟨.inl p.1, q⟩
          · exact ⟨.inr p.1, q⟩
        · rintro ⟨p | p, q⟩
          · exact ⟨.inl ⟨p, q⟩, q⟩
          · exact ⟨.inr ⟨p, q⟩, q⟩)
      rw [exy] at y1
      rw [exz] at z1
      simp only [List.length_append] at nx
      refine ev_neg (by simp) (Ev.bind hd (Ev.bind hd' (ev_bindc rfl (ev_pos (by simp; omega) (ev_bindc rfl (ev_pos (by simp; omega) ?_))))))
      simp only [List.nil_append]
      refine Ev.bind x1 (ev_bindc rfl (ev_pos (by simp; omega) (ev_bindc rfl (ev_pos (by simp; omega) ?_))))
      simp only [List.nil_append]
      refine Ev.bind y1 (Ev.bind a1 (Ev.bind a2 (Ev.bind (same_ev a (by omega)) (ev_pos rfl (Ev.bind (same_ev x (by omega)) (ev_pos rfl (Ev.bind a1 (Ev.bind b1 (ev_pos (by omega) (Ev.bind z1 (Ev.bind (same_ev x (by omega)) (ev_some rfl))))))))))))
  unfold laws_FnKeysBoth.f
  by_cases c : (l0.length : Int) > 1048576
  · exact ev_pos c (main _)
  · exact ev_neg c (main _)
end Go.Proofs.Ytonagfbadoacjaa.Pure
end
