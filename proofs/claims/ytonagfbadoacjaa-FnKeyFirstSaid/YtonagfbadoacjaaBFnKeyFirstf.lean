/- What the law FnKeyFirst needs, part 6: the kit's printed words, the printed functions with their proofs, and plain facts on them. -/
import Derived.Test.YtonagfbadoacjaaBFnKeyFirste
section
namespace Go.Proofs.Ytonagfbadoacjaa.Q
open Go.RowKit Go.Proofs.YtonagfbadoacjaaW.PrintWords Go.Proofs.YtonagfbadoacjaaW.PrintLast Go.Proofs.YtonagfbadoacjaaW.PrintMore
attribute [local go_sem] max2_int min2_int max_two min_two max_three min_three max_four min_four   
set_option linter.unusedVariables false
set_option linter.unusedSimpArgs false
def stringslite_HasPrefix.f (a0 : ByteArray) (a1 : ByteArray) : Option (Bool) := if (a0.size : Int) ≥ (a1.size : Int) then (if 0 ≤ (a1.size : Int) then (if (a1.size : Int) ≤ (a0.size : Int) then (some ((a0.extract 0 ((a1.size : Int) : Int).toNat).toList == a1.toList)) else (none)) else (none)) else (some false)
set_option maxHeartbeats 8000000 in
set_option maxRecDepth 100000 in
theorem stringslite_HasPrefix.calls (a0 : ByteArray) (a1 : ByteArray) (r : Bool) (w : World) (h : stringslite_HasPrefix.f a0 a1 = some r) :
    Calls Try.prog 156 #[.string a0, .string a1] w fun e w' => e = .returned (.bool r) ∧ Drawn0 w w' := by
  have H : (if (a0.size : Int) ≥ (a1.size : Int) then (if 0 ≤ (a1.size : Int) then (if (a1.size : Int) ≤ (a0.size : Int) then (some ((a0.extract 0 ((a1.size : Int) : Int).toNat).toList == a1.toList)) else (none)) else (none)) else (some false)) = some r := h
  clear h
  by_cases c3 : (a0.size : Int) ≥ (a1.size : Int)
  · rw [if_pos c3] at H
    have c3b0 : decide ((a1.size : Int) ≤ (a0.size : Int)) = true := decide_eq_true c3
    have c3b1 : decide (a1.size ≤ a0.size) = true := decide_eq_true (Int.ofNat_le.mp c3)
    clear c3
    by_cases c4 : 0 ≤ (a1.size : Int)
    · rw [if_pos c4] at H
      have c4b0 := eq_true c4
      have c4b1 : decide (0 ≤ (a1.size : Int)) = true := decide_eq_true c4
      clear c4
      by_cases c5 : (a1.size : Int) ≤ (a0.size : Int)
      · rw [if_pos c5] at H
        have c5b0 := eq_true c5
        have c5b1 : decide ((a1.size : Int) ≤ (a0.size : Int)) = true := decide_eq_true c5
        clear c5
        obtain rfl := Option.some.inj H
        go_enter Try.func156, Try.ntmps156
        go_wp2
        go_ret
        exact ⟨by first | rfl | (simp; done) | (simp [*]; done), by repeat (first | exact Drawn0.refl _ | apply Drawn0.step)⟩
      · rw [if_neg c5] at H
        exact absurd H (by simp)
    · rw [if_neg c4] at H
      exact absurd H (by simp)
  · rw [if_neg c3] at H
    have c3b0 : decide ((a1.size : Int) ≤ (a0.size : Int)) = false := decide_eq_false c3
    have c3b1 : decide (a1.size ≤ a0.size) = false := decide_eq_false (fun h => c3 (Int.ofNat_le.mpr h))
    clear c3
    obtain rfl := Option.some.inj H
    go_enter Try.func156, Try.ntmps156
    go_wp2
    go_ret
    exact ⟨by first | rfl | (simp; done) | (simp [*]; done), by repeat (first | exact Drawn0.refl _ | apply Drawn0.step)⟩
end Go.Proofs.Ytonagfbadoacjaa.Q
end
section
namespace Go.Proofs.Ytonagfbadoacjaa.Q
open Go.RowKit Go.Proofs.YtonagfbadoacjaaW.PrintWords Go.Proofs.YtonagfbadoacjaaW.PrintLast Go.Proofs.YtonagfbadoacjaaW.PrintMore
attribute [local go_sem] max2_int min2_int max_two min_two max_three min_three max_four min_four   
set_option linter.unusedVariables false
set_option linter.unusedSimpArgs false
def strings_HasPrefix.f (a0 : ByteArray) (a1 : ByteArray) : Option (Bool) := (stringslite_HasPrefix.f a0 a1).bind fun t403 => (some t403)
set_option maxHeartbeats 8000000 in
set_option maxRecDepth 100000 in
theorem strings_HasPrefix.calls (a0 : ByteArray) (a1 : ByteArray) (r : Bool) (w : World) (h : strings_HasPrefix.f a0 a1 = some r) :
    Calls Try.prog 130 #[.string a0, .string a1] w fun e w' => e = .returned (.bool r) ∧ Drawn0 w w' := by
  have H : ((stringslite_HasPrefix.f a0 a1).bind fun t403 => (some t403)) = some r := h
  clear h
  replace H := Option.bind_eq_some_iff.mp H
  obtain ⟨t403, A30, H⟩ := H
  (try dsimp only at H)
  have A3 := Aside0.mk A30
  clear A30
  obtain rfl := Option.some.inj H
  go_enter Try.func130, Try.ntmps130
  go_wp2_with (first | ((with_reducible refine gate_callee (f := 156) rfl ?_); refine goesL_ (some 7) rfl rfl Try.func156 (by kernel_rfl) rfl #[.string a0, .string a1] rfl (by (try simp only [List.map_toArray, List.map_cons, List.map_nil]); first | done | rfl | (simp only [List.length_drop, List.length_take]; rfl)) ?_; (with_reducible refine (stringslite_HasPrefix.calls a0 a1 t403 _ A3.out).mono ?_); rintro e w' ⟨rfl, ⟨nd, rfl⟩⟩; refine ⟨_, rfl, ?_⟩))
  go_ret
  exact ⟨by first | rfl | (simp; done) | (simp [*]; done), by repeat (first | exact Drawn0.refl _ | apply Drawn0.step)⟩
end Go.Proofs.Ytonagfbadoacjaa.Q
end
section
namespace Go.Proofs.Ytonagfbadoacjaa.Q
open Go.RowKit Go.Proofs.YtonagfbadoacjaaW.PrintWords Go.Proofs.YtonagfbadoacjaaW.PrintLast Go.Proofs.YtonagfbadoacjaaW.PrintMore
attribute [local go_sem] max2_int min2_int max_two min_two max_three min_three max_four min_four   
set_option linter.unusedVariables false
set_option linter.unusedSimpArgs false
def impl_KeyBegins.f (a0 : ByteArray) (a1 : ByteArray) : Option (Bool) := (strings_HasPrefix.f a0 a1).bind fun t404 => (some t404)
set_option maxHeartbeats 8000000 in
set_option maxRecDepth 100000 in
theorem impl_KeyBegins.calls (a0 : ByteArray) (a1 : ByteArray) (r : Bool) (w : World) (h : impl_KeyBegins.f a0 a1 = some r) :
    Calls Try.prog 81 #[.string a0, .string a1] w fun e w' => e = .returned (.bool r) ∧ Drawn0 w w' := by
  have H : ((strings_HasPrefix.f a0 a1).bind fun t404 => (some t404)) = some r := h
  clear h
  replace H := Option.bind_eq_some_iff.mp H
  obtain ⟨t404, A30, H⟩ := H
  (try dsimp only at H)
  have A3 := Aside0.mk A30
  clear A30
  obtain rfl := Option.some.inj H
  go_enter Try.func81, Try.ntmps81
  go_wp2_with (first | ((with_reducible refine gate_callee (f := 130) rfl ?_); refine goesL_ (some 7) rfl rfl Try.func130 (by kernel_rfl) rfl #[.string a0, .string a1] rfl (by (try simp only [List.map_toArray, List.map_cons, List.map_nil]); first | done | rfl | (simp only [List.length_drop, List.length_take]; rfl)) ?_; (with_reducible refine (strings_HasPrefix.calls a0 a1 t404 _ A3.out).mono ?_); rintro e w' ⟨rfl, ⟨nd, rfl⟩⟩; refine ⟨_, rfl, ?_⟩))
  go_ret
  exact ⟨by first | rfl | (simp; done) | (simp [*]; done), by repeat (first | exact Drawn0.refl _ | apply Drawn0.step)⟩
end Go.Proofs.Ytonagfbadoacjaa.Q
end
section
namespace Go.Proofs.Ytonagfbadoacjaa.Q
open Go.RowKit Go.Proofs.YtonagfbadoacjaaW.PrintWords Go.Proofs.YtonagfbadoacjaaW.PrintLast Go.Proofs.YtonagfbadoacjaaW.PrintMore
attribute [local go_sem] max2_int min2_int max_two min_two max_three min_three max_four min_four   
set_option linter.unusedVariables false
set_option linter.unusedSimpArgs false
def spec_KeyBegins.f (a0 : ByteArray) (a1 : ByteArray) : Option (Bool) := if (a1.size : Int) ≤ (a0.size : Int) then (if 0 ≤ (a1.size : Int) then (some ((a0.extract 0 ((a1.size : Int) : Int).toNat).toList == a1.toList)) else (none)) else (some false)
set_option maxHeartbeats 8000000 in
set_option maxRecDepth 100000 in
theorem spec_KeyBegins.calls (a0 : ByteArray) (a1 : ByteArray) (r : Bool) (w : World) (h : spec_KeyBegins.f a0 a1 = some r) :
    Calls Try.prog 109 #[.string a0, .string a1] w fun e w' => e = .returned (.bool r) ∧ Drawn0 w w' := by
  have H : (if (a1.size : Int) ≤ (a0.size : Int) then (if 0 ≤ (a1.size : Int) then (some ((a0.extract 0 ((a1.size : Int) : Int).toNat).toList == a1.toList)) else (none)) else (some false)) = some r := h
  clear h
  by_cases c3 : (a1.size : Int) ≤ (a0.size : Int)
  · rw [if_pos c3] at H
    have c3b0 : decide ((a1.size : Int) ≤ (a0.size : Int)) = true := decide_eq_true c3
    have c3b1 : decide (a1.size ≤ a0.size) = true := decide_eq_true (Int.ofNat_le.mp c3)
    clear c3
    by_cases c4 : 0 ≤ (a1.size : Int)
    · rw [if_pos c4] at H
      have c4b0 := eq_true c4
      have c4b1 : decide (0 ≤ (a1.size : Int)) = true := decide_eq_true c4
      clear c4
      have c5b0 := eq_true (of_decide_eq_true (by first | (with_reducible assumption) | assumption) : (a1.size : Int) ≤ (a0.size : Int))
      obtain rfl := Option.some.inj H
      go_enter Try.func109, Try.ntmps109
      go_wp2
      go_ret
      exact ⟨by first | rfl | (simp; done) | (simp [*]; done), by repeat (first | exact Drawn0.refl _ | apply Drawn0.step)⟩
    · rw [if_neg c4] at H
      exact absurd H (by simp)
  · rw [if_neg c3] at H
    have c3b0 : decide ((a1.size : Int) ≤ (a0.size : Int)) = false := decide_eq_false c3
    have c3b1 : decide (a1.size ≤ a0.size) = false := decide_eq_false (fun h => c3 (Int.ofNat_le.mpr h))
    clear c3
    obtain rfl := Option.some.inj H
    go_enter Try.func109, Try.ntmps109
    go_wp2
    go_ret
    exact ⟨by first | rfl | (simp; done) | (simp [*]; done), by repeat (first | exact Drawn0.refl _ | apply Drawn0.step)⟩
end Go.Proofs.Ytonagfbadoacjaa.Q
end
section
set_option linter.unusedVariables false
set_option linter.unusedSimpArgs false
namespace Go.Proofs.Ytonagfbadoacjaa.Pb
open Go Go.RowKit Go.Proofs.YtonagfbadoacjaaW.PrintWords Go.Proofs.YtonagfbadoacjaaW.PrintLast Go.Proofs.YtonagfbadoacjaaW.PrintMore Go.Proofs.Ytonagfbadoacjaa.Trie Go.Proofs.Ytonagfbadoacjaa.Q
theorem kok_nil : KOk [] := ⟨by simp, by simp⟩
theorem kok_snoc {l : Key} (h : KOk l) {c : UInt8} (hc : 97 ≤ c.toNat ∧ c.toNat ≤ 100) (hl : l.length < 5) : KOk (l ++ [c]) := by
  refine ⟨by simp; omega, fun x hx => ?_⟩
  rcases List.mem_append.1 hx with h1 | h1
  · exact h.alph x h1
  · simp at h1; subst h1; exact hc
theorem kok_take {l : Key} (h : KOk l) (n : Nat) : KOk (l.take n) := ⟨by rw [List.length_take]; have := h.len; omega, fun c hc => h.alph c (List.mem_of_mem_take hc)⟩
theorem key_l0_ev {b : List Int} (hb : By b) (d : Nat) : ∀ (x3 : ByteArray) (p : Int), 0 ≤ p → p + d ≤ 900000 → KOk (L x3) → (L x3).length + d ≤ 5 →
    ∃ s, Ev (fun k => spec_l71Key.l0 k x3 (d : Int) b p) (s, p + d) ∧ KOk (L s) := by
  induction d with
  | zero =>
    intro x3 p h0 h1 h2 h3
    refine ⟨x3, ev_succ ?_, h2⟩
    simp only [spec_l71Key.l0]
    exact ev_neg (by omega) (ev_some (by simp))
  | succ d ih =>
    intro x3 p h0 h1 h2 h3
    obtain ⟨t, ht, hm⟩ := of_ev hb p h0 (by omega) ([(⟨#[97]⟩ : ByteArray), (⟨#[98]⟩ : ByteArray), (⟨#[97]⟩ : ByteArray), (⟨#[99]⟩ : ByteArray), (⟨#[100]⟩ : ByteArray)]) (by simp) (by simp)
    have hts : ∃ c : UInt8, L t = [c] ∧ 97 ≤ c.toNat ∧ c.toNat ≤ 100 := by
      simp only [List.mem_cons, List.not_mem_nil, or_false] at hm
      rcases hm with rfl | rfl | rfl | rfl | rfl <;> exact ⟨_, rfl, by decide, by decide⟩
    obtain ⟨c, hc, hcr⟩ := hts
    have hz : t.size = 1 := by rw [size_L, hc]; rfl
    have hx := size_L x3
    have hL : L (x3 ++ t) = L x3 ++ [c] := by rw [L_append, hc]
    obtain ⟨s, hr, g⟩ := ih (x3 ++ t) (p + 1) (by omega) (by omega) (by rw [hL]; exact kok_snoc h2 hcr (by omega)) (by rw [hL, List.length_append]; simp only [List.length_cons, List.length_nil]; omega)
    refine ⟨s, ev_succ ?_, g⟩
    simp only [spec_l71Key.l0]
    refine ev_pos (by omega) (Ev.bind ht (ev_pos (by rw [hz]; omega) ?_))
    rw [w64 (by omega) (by omega), show ((d + 1 : Nat) : Int) - 1 = (d : Int) by omega, show p + ((d + 1 : Nat) : Int) = p + 1 + (d : Int) by omega]
    exact hr
theorem key_ev {b : List Int} (hb : By b) (p : Int) (h0 : 0 ≤ p) (h1 : p ≤ 800000) :
    ∃ s q, Ev (fun k => spec_l71Key.f k b p) (s, q) ∧ KOk (L s) ∧ p < q ∧ q ≤ p + 10 := by
  obtain ⟨r, hr, g0, g1, _⟩ := pick_ev hb p h0 (by omega) 6 (by omega)
  have g1 := g1 (by omega)
  obtain ⟨n, rfl⟩ : ∃ n : Nat, r = (n : Int) := ⟨r.toNat, by omega⟩
  obtain ⟨s, hs, g⟩ := key_l0_ev hb n (⟨#[]⟩ : ByteArray) (p + 1) (by omega) (by omega) (by exact kok_nil) (by show 0 + n ≤ 5; omega)
  refine ⟨s, p + 1 + n, ?_, g, by omega, by omega⟩
  unfold spec_l71Key.f
  exact Ev.bind hr hs
theorem near_gen (Pd : Key → Prop) (hK : ∀ k, KOk k → Pd k) (hT : ∀ k n, Pd k → Pd (k.take n)) (hS : ∀ (k : Key) (c : UInt8), Pd k → k.length < 5 → (97 ≤ c.toNat ∧ c.toNat ≤ 100) → Pd (k ++ [c])) (hLn : ∀ k, Pd k → k.length ≤ 1000) {b : List Int} (hb : By b) (p : Int) (h0 : 0 ≤ p) (h1 : p ≤ 700000) (l : List ByteArray) (hl : l.length ≤ 1000) (hk : ∀ x ∈ l, Pd (L x)) :
    ∃ s q, Ev (fun k => spec_l71Near.f k b p l) (s, q) ∧ Pd (L s) ∧ p < q ∧ q ≤ p + 20 := by
  have plain : ∀ p' : Int, 0 ≤ p' → p' ≤ 700010 → ∃ s q, Ev (fun k => spec_l71Near.j0 k l true b p') (s, q) ∧ Pd (L s) ∧ p' < q ∧ q ≤ p' + 10 := by
    intro p' a0 a1
    obtain ⟨s, q, hs, g, q0, q1⟩ := key_ev hb p' a0 (by omega)
    refine ⟨s, q, ev_succ ?_, hK _ g, q0, q1⟩
    simp only [spec_l71Near.j0]
    exact ev_pos (by simp) (Ev.bind hs (ev_some rfl))
  by_cases c0 : (l.length : Int) = 0
  · obtain ⟨s, q, hs, g, q0, q1⟩ := plain p h0 (by omega)
    refine ⟨s, q, ?_, g, q0, by omega⟩
    unfold spec_l71Near.f
    exact ev_pos c0 hs
  · obtain ⟨r, hr, _, _, _⟩ := pick_ev hb p h0 (by omega) 4 (by omega)
    by_cases c1 : r = 0
    · obtain ⟨s, q, hs, g, q0, q1⟩ := plain (p + 1) (by omega) (by omega)
      refine ⟨s, q, ?_, g, by omega, by omega⟩
      unfold spec_l71Near.f
      refine ev_neg c0 (Ev.bind hr ?_)
      simp only [c1]
      exact hs
    · have hrb : (r == 0) = false := by simpa using c1
      obtain ⟨i, hi, i0, i1, _⟩ := pick_ev hb (p + 1) (by omega) (by omega) (l.length : Int) (by omega)
      have i1 := i1 (by omega)
      obtain ⟨j, rfl⟩ : ∃ j : Nat, i = (j : Int) := ⟨i.toNat, by omega⟩
      obtain ⟨x, hx⟩ : ∃ x, rdOf ByteArray.empty l (j : Int) = x := ⟨_, rfl⟩
      have hxk : Pd (L x) := by
        refine hk x ?_
        rw [← hx, show rdOf ByteArray.empty l (j : Int) = l.getD j ByteArray.empty from rfl, getD_lt _ (by omega)]
        exact List.getElem_mem _
      have hxs := size_L x
      have hxl := hLn _ hxk
      obtain ⟨m, hm, m0, m1, _⟩ := pick_ev hb (p + 1 + 1) (by omega) (by omega) 4 (by omega)
      have go : ∀ s q, Ev (fun k => (if m = 0 then ((spec_l6Rd_pick.f k b (p + 1 + 1 + 1) (wrap64 ((x.size : Int) + 1))).bind fun bt135 => (if 0 ≤ bt135.1 then (if bt135.1 ≤ (x.size : Int) then (some (x.extract 0 (bt135.1 : Int).toNat, bt135.2)) else (none)) else (none))) else (if m = 1 then (if (x.size : Int) < 5 then ((spec_l6Rd_of.f k b (p + 1 + 1 + 1) (([(⟨#[97]⟩ : ByteArray), (⟨#[98]⟩ : ByteArray), (⟨#[100]⟩ : ByteArray)] : List ByteArray))).bind fun bt140 => (if x.size + bt140.1.size ≤ 9223372036854775807 then (some (x ++ bt140.1, bt140.2)) else (none))) else (some (x, p + 1 + 1 + 1))) else (some (x, p + 1 + 1 + 1))))) (s, q) → Ev (fun k => spec_l71Near.f k b p l) (s, q) := by
        intro s q h
        unfold spec_l71Near.f
        refine ev_neg c0 (Ev.bind hr ?_)
        simp only [hrb]
        refine ev_succ ?_
        simp only [spec_l71Near.j0]
        refine ev_neg (by simp) (Ev.bind hi (ev_pos i0 (ev_pos i1 (Ev.bind hm ?_))))
        simp only [hx]
        exact h
      by_cases d0 : m = 0
      · obtain ⟨z, hz, z0, z1, _⟩ := pick_ev hb (p + 1 + 1 + 1) (by omega) (by omega) ((x.size : Int) + 1) (by omega)
        have z1 := z1 (by omega)
        refine ⟨x.extract 0 z.toNat, p + 1 + 1 + 1 + 1, go _ _ ?_, ?_, by omega, by omega⟩
        · refine ev_pos d0 ?_
          rw [w64 (i := (x.size : Int) + 1) (by omega) (by omega)]
          exact Ev.bind hz (ev_pos z0 (ev_pos (by simp only []; omega) (ev_some rfl)))
        · rw [L_extract, List.drop_zero]
          exact hT _ _ hxk
      · by_cases d1 : m = 1
        · by_cases d2 : (x.size : Int) < 5
          · obtain ⟨t, ht, hm⟩ := of_ev hb (p + 1 + 1 + 1) (by omega) (by omega) ([(⟨#[97]⟩ : ByteArray), (⟨#[98]⟩ : ByteArray), (⟨#[100]⟩ : ByteArray)]) (by simp) (by simp)
            have hts : ∃ c : UInt8, L t = [c] ∧ 97 ≤ c.toNat ∧ c.toNat ≤ 100 := by
              simp only [List.mem_cons, List.not_mem_nil, or_false] at hm
              rcases hm with rfl | rfl | rfl <;> exact ⟨_, rfl, by decide, by decide⟩
            obtain ⟨c, hc, hcr⟩ := hts
            have hz : t.size = 1 := by rw [size_L, hc]; rfl
            refine ⟨x ++ t, p + 1 + 1 + 1 + 1, go _ _ ?_, ?_, by omega, by omega⟩
            · exact ev_neg d0 (ev_pos d1 (ev_pos d2 (Ev.bind ht (ev_pos (by rw [hz]; omega) (ev_some rfl)))))
            · rw [L_append, hc]
              exact hS _ _ hxk (by omega) hcr
          · exact ⟨x, p + 1 + 1 + 1, go _ _ (ev_neg d0 (ev_pos d1 (ev_neg d2 (ev_some rfl)))), hxk, by omega, by omega⟩
        · exact ⟨x, p + 1 + 1 + 1, go _ _ (ev_neg d0 (ev_neg d1 (ev_some rfl))), hxk, by omega, by omega⟩
theorem near_ev {b : List Int} (hb : By b) (p : Int) (h0 : 0 ≤ p) (h1 : p ≤ 700000) (l : List ByteArray) (hl : l.length ≤ 1000) (hk : ∀ x ∈ l, KOk (L x)) :
    ∃ s q, Ev (fun k => spec_l71Near.f k b p l) (s, q) ∧ KOk (L s) ∧ p < q ∧ q ≤ p + 20 :=
  near_gen KOk (fun _ h => h) (fun _ n h => kok_take h n) (fun _ _ h hl hc => kok_snoc h hc hl) (fun _ h => by have := h.len; omega) hb p h0 h1 l hl hk
theorem near_ev' {b : List Int} (hb : By b) (p : Int) (h0 : 0 ≤ p) (h1 : p ≤ 700000) (l : List ByteArray) (hl : l.length ≤ 1000) (hk : ∀ x ∈ l, (L x).length ≤ 10) :
    ∃ s q, Ev (fun k => spec_l71Near.f k b p l) (s, q) ∧ (L s).length ≤ 10 ∧ p < q ∧ q ≤ p + 20 :=
  near_gen (fun k => k.length ≤ 10) (fun _ h => by have := h.len; omega) (fun k n (h : k.length ≤ 10) => by simp only [List.length_take]; omega) (fun k c (h : k.length ≤ 10) hl _ => by simp only [List.length_append, List.length_cons, List.length_nil]; omega) (fun k (h : k.length ≤ 10) => by omega) hb p h0 h1 l hl hk
theorem pre_L (x y : ByteArray) (h : (y.size : Int) ≤ (x.size : Int)) : ((x.extract 0 ((y.size : Int) : Int).toNat).toList == y.toList) = (L y).isPrefixOf (L x) := by
  rw [toList_L, toList_L, L_extract, List.drop_zero, Bool.eq_iff_iff, List.isPrefixOf_iff_prefix, beq_iff_eq]
  have hy := size_L y
  rw [show ((y.size : Nat) : Int).toNat = (L y).length by omega]
  constructor
  · intro q; rw [← q]; exact List.take_prefix _ _
  · rintro ⟨s, hs⟩
    rw [← hs, List.take_left]
theorem pre_long (x y : ByteArray) (h : ¬ (y.size : Int) ≤ (x.size : Int)) : (L y).isPrefixOf (L x) = false := by
  rw [← Bool.not_eq_true, List.isPrefixOf_iff_prefix]
  intro q
  have := q.length_le
  have hy := size_L y
  have hx := size_L x
  omega
theorem spec_KeyBegins_eq (x y : ByteArray) : spec_KeyBegins.f x y = some ((L y).isPrefixOf (L x)) := by
  unfold spec_KeyBegins.f
  by_cases h : (y.size : Int) ≤ (x.size : Int)
  · rw [if_pos h, if_pos (by omega), pre_L x y h]
  · rw [if_neg h, pre_long x y h]
theorem impl_KeyBegins_eq (x y : ByteArray) : impl_KeyBegins.f x y = some ((L y).isPrefixOf (L x)) := by
  unfold impl_KeyBegins.f strings_HasPrefix.f stringslite_HasPrefix.f
  by_cases h : (y.size : Int) ≤ (x.size : Int)
  · rw [if_pos h, if_pos (by omega), if_pos h, pre_L x y h]; rfl
  · rw [if_neg h, pre_long x y h]; rfl
end Go.Proofs.Ytonagfbadoacjaa.Pb
end
section
namespace Go.Proofs.Ytonagfbadoacjaa.Q
open Go.RowKit Go.Proofs.YtonagfbadoacjaaW.PrintWords Go.Proofs.YtonagfbadoacjaaW.PrintLast Go.Proofs.YtonagfbadoacjaaW.PrintMore
attribute [local go_sem] max2_int min2_int max_two min_two max_three min_three max_four min_four   
set_option linter.unusedVariables false
set_option linter.unusedSimpArgs false
def spec_BitsOnes.f (k : Nat) (a0 : ByteArray) (a1 : Int) : Option (Int) := (spec_BitsOk.f k a0).bind fun t728 => (if t728 = true then ((spec_l6In.f a1 0 (a0.size : Int)).bind fun t729 => (if t729 = true then ((spec_l1Ones.f k a0 a1).bind fun t730 => (some t730)) else (some (-1)))) else (some (-1)))
theorem spec_BitsOnes.mono : ∀ a0 a1 k, LeO (spec_BitsOnes.f k a0 a1) (spec_BitsOnes.f (k + 1) a0 a1) := by
  intro a0 a1 k
  unfold spec_BitsOnes.f
  repeat' first
      | (with_reducible exact spec_BitsOk.mono _ _)
      | (with_reducible exact spec_l1Ones.mono _ _ _)
      | (with_reducible exact LeO.refl _)
      | (with_reducible exact LeO.none _)
      | (with_reducible refine LeO.ite ?_ ?_)
      | (with_reducible refine LeO.bind ?_ (fun _ => ?_))
      | exact spec_BitsOk.mono _ _
      | exact spec_l1Ones.mono _ _ _
      | exact LeO.none _
      | refine LeO.ite ?_ ?_
      | refine LeO.bind ?_ (fun _ => ?_)
set_option maxHeartbeats 8000000 in
set_option maxRecDepth 100000 in
theorem spec_BitsOnes.calls (k : Nat) (a0 : ByteArray) (a1 : Int) (r : Int) (w : World) (h : spec_BitsOnes.f k a0 a1 = some r) :
    Calls Try.prog 62 #[.string a0, .int .i64 a1] w fun e w' => e = .returned (.int .i64 r) ∧ Drawn0 w w' := by
  have H : ((spec_BitsOk.f k a0).bind fun t728 => (if t728 = true then ((spec_l6In.f a1 0 (a0.size : Int)).bind fun t729 => (if t729 = true then ((spec_l1Ones.f k a0 a1).bind fun t730 => (some t730)) else (some (-1)))) else (some (-1)))) = some r := h
  clear h
  replace H := Option.bind_eq_some_iff.mp H
  obtain ⟨t728, A30, H⟩ := H
  (try dsimp only at H)
  have A3 := Aside0.mk A30
  clear A30
  by_cases c4 : t728 = true
  · subst c4
    have H1 : ((spec_l6In.f a1 0 (a0.size : Int)).bind fun t729 => (if t729 = true then ((spec_l1Ones.f k a0 a1).bind fun t730 => (some t730)) else (some (-1)))) = some r := by rw [if_pos rfl] at H; exact H
    clear H
    have H := H1
    clear H1
    replace H := Option.bind_eq_some_iff.mp H
    obtain ⟨t729, A50, H⟩ := H
    (try dsimp only at H)
    have A5 := Aside0.mk A50
    clear A50
    by_cases c6 : t729 = true
    · subst c6
      have H1 : ((spec_l1Ones.f k a0 a1).bind fun t730 => (some t730)) = some r := by rw [if_pos rfl] at H; exact H
      clear H
      have H := H1
      clear H1
      replace H := Option.bind_eq_some_iff.mp H
      obtain ⟨t730, A70, H⟩ := H
      (try dsimp only at H)
      have A7 := Aside0.mk A70
      clear A70
      obtain rfl := Option.some.inj H
      go_enter Try.func62, Try.ntmps62
      go_wp2_with (first | ((with_reducible refine gate_callee (f := 69) rfl ?_); refine goesL_ (some 6) rfl rfl Try.func69 (by kernel_rfl) rfl #[.string a0] rfl (by (try simp only [List.map_toArray, List.map_cons, List.map_nil]); first | done | rfl | (simp only [List.length_drop, List.length_take]; rfl)) ?_; (with_reducible refine (spec_BitsOk.calls k a0 true _ A3.out).mono ?_); rintro e w' ⟨rfl, ⟨nd, rfl⟩⟩; refine ⟨_, rfl, ?_⟩) | (go_at_call 98; (with_reducible refine (spec_l6In.calls a1 0 (a0.size : Int) true _ A5.out).mono ?_); rintro e w' ⟨rfl, ⟨nd, rfl⟩⟩) | ((with_reducible refine gate_callee (f := 107) rfl ?_); refine goesL_ (some 17) rfl rfl Try.func107 (by kernel_rfl) rfl #[.string a0, .int .i64 a1] rfl (by (try simp only [List.map_toArray, List.map_cons, List.map_nil]); first | done | rfl | (simp only [List.length_drop, List.length_take]; rfl)) ?_; (with_reducible refine (spec_l1Ones.calls k a0 a1 t730 _ A7.out).mono ?_); rintro e w' ⟨rfl, ⟨nd, rfl⟩⟩; refine ⟨_, rfl, ?_⟩))
      go_ret
      exact ⟨by first | rfl | (simp; done) | (simp [*]; done), by repeat (first | exact Drawn0.refl _ | apply Drawn0.step)⟩
    · replace c6 := Bool.eq_false_iff.mpr c6
      subst c6
      have H1 : (some (-1)) = some r := by rw [if_neg (show ¬ (false = true) by decide)] at H; exact H
      clear H
      have H := H1
      clear H1
      obtain rfl := Option.some.inj H
      go_enter Try.func62, Try.ntmps62
      go_wp2_with (first | ((with_reducible refine gate_callee (f := 69) rfl ?_); refine goesL_ (some 6) rfl rfl Try.func69 (by kernel_rfl) rfl #[.string a0] rfl (by (try simp only [List.map_toArray, List.map_cons, List.map_nil]); first | done | rfl | (simp only [List.length_drop, List.length_take]; rfl)) ?_; (with_reducible refine (spec_BitsOk.calls k a0 true _ A3.out).mono ?_); rintro e w' ⟨rfl, ⟨nd, rfl⟩⟩; refine ⟨_, rfl, ?_⟩) | (go_at_call 98; (with_reducible refine (spec_l6In.calls a1 0 (a0.size : Int) false _ A5.out).mono ?_); rintro e w' ⟨rfl, ⟨nd, rfl⟩⟩))
      go_ret
      exact ⟨by first | rfl | (simp; done) | (simp [*]; done), by repeat (first | exact Drawn0.refl _ | apply Drawn0.step)⟩
  · replace c4 := Bool.eq_false_iff.mpr c4
    subst c4
    have H1 : (some (-1)) = some r := by rw [if_neg (show ¬ (false = true) by decide)] at H; exact H
    clear H
    have H := H1
    clear H1
    obtain rfl := Option.some.inj H
    go_enter Try.func62, Try.ntmps62
    go_wp2_with (first | ((with_reducible refine gate_callee (f := 69) rfl ?_); refine goesL_ (some 6) rfl rfl Try.func69 (by kernel_rfl) rfl #[.string a0] rfl (by (try simp only [List.map_toArray, List.map_cons, List.map_nil]); first | done | rfl | (simp only [List.length_drop, List.length_take]; rfl)) ?_; (with_reducible refine (spec_BitsOk.calls k a0 false _ A3.out).mono ?_); rintro e w' ⟨rfl, ⟨nd, rfl⟩⟩; refine ⟨_, rfl, ?_⟩))
    go_ret
    exact ⟨by first | rfl | (simp; done) | (simp [*]; done), by repeat (first | exact Drawn0.refl _ | apply Drawn0.step)⟩
end Go.Proofs.Ytonagfbadoacjaa.Q
end
section
namespace Go.Proofs.Ytonagfbadoacjaa.Q
open Go.RowKit Go.Proofs.YtonagfbadoacjaaW.PrintWords Go.Proofs.YtonagfbadoacjaaW.PrintLast Go.Proofs.YtonagfbadoacjaaW.PrintMore
attribute [local go_sem] max2_int min2_int max_two min_two max_three min_three max_four min_four   
set_option linter.unusedVariables false
set_option linter.unusedSimpArgs false
def impl_BitsOnes.f (k : Nat) (a0 : ByteArray) (a1 : Int) : Option (Int) := (impl_BitsOk.f k a0).bind fun t731 => (if t731 = true then ((impl_in.f a1 0 (a0.size : Int)).bind fun t732 => (if t732 = true then (if 0 ≤ a1 then (if a1 ≤ (a0.size : Int) then ((strings_Count.f (a0.extract 0 (a1 : Int).toNat) (⟨#[49]⟩ : ByteArray)).bind fun t733 => (some t733)) else (none)) else (none)) else (some (-1)))) else (some (-1)))
theorem impl_BitsOnes.mono : ∀ a0 a1 k, LeO (impl_BitsOnes.f k a0 a1) (impl_BitsOnes.f (k + 1) a0 a1) := by
  intro a0 a1 k
  unfold impl_BitsOnes.f
  repeat' first
      | (with_reducible exact impl_BitsOk.mono _ _)
      | (with_reducible exact LeO.refl _)
      | (with_reducible exact LeO.none _)
      | (with_reducible refine LeO.ite ?_ ?_)
      | (with_reducible refine LeO.bind ?_ (fun _ => ?_))
      | exact impl_BitsOk.mono _ _
      | exact LeO.none _
      | refine LeO.ite ?_ ?_
      | refine LeO.bind ?_ (fun _ => ?_)
set_option maxHeartbeats 8000000 in
set_option maxRecDepth 100000 in
theorem impl_BitsOnes.calls (k : Nat) (a0 : ByteArray) (a1 : Int) (r : Int) (w : World) (h : impl_BitsOnes.f k a0 a1 = some r) :
    Calls Try.prog 63 #[.string a0, .int .i64 a1] w fun e w' => e = .returned (.int .i64 r) ∧ Drawn0 w w' := by
  have H : ((impl_BitsOk.f k a0).bind fun t731 => (if t731 = true then ((impl_in.f a1 0 (a0.size : Int)).bind fun t732 => (if t732 = true then (if 0 ≤ a1 then (if a1 ≤ (a0.size : Int) then ((strings_Count.f (a0.extract 0 (a1 : Int).toNat) (⟨#[49]⟩ : ByteArray)).bind fun t733 => (some t733)) else (none)) else (none)) else (some (-1)))) else (some (-1)))) = some r := h
  clear h
  replace H := Option.bind_eq_some_iff.mp H
  obtain ⟨t731, A30, H⟩ := H
  (try dsimp only at H)
  have A3 := Aside0.mk A30
  clear A30
  by_cases c4 : t731 = true
  · subst c4
    have H1 : ((impl_in.f a1 0 (a0.size : Int)).bind fun t732 => (if t732 = true then (if 0 ≤ a1 then (if a1 ≤ (a0.size : Int) then ((strings_Count.f (a0.extract 0 (a1 : Int).toNat) (⟨#[49]⟩ : ByteArray)).bind fun t733 => (some t733)) else (none)) else (none)) else (some (-1)))) = some r := by rw [if_pos rfl] at H; exact H
    clear H
    have H := H1
    clear H1
    replace H := Option.bind_eq_some_iff.mp H
    obtain ⟨t732, A50, H⟩ := H
    (try dsimp only at H)
    have A5 := Aside0.mk A50
    clear A50
    by_cases c6 : t732 = true
    · subst c6
      have H1 : (if 0 ≤ a1 then (if a1 ≤ (a0.size : Int) then ((strings_Count.f (a0.extract 0 (a1 : Int).toNat) (⟨#[49]⟩ : ByteArray)).bind fun t733 => (some t733)) else (none)) else (none)) = some r := by rw [if_pos rfl] at H; exact H
      clear H
      have H := H1
      clear H1
      by_cases c7 : 0 ≤ a1
      · rw [if_pos c7] at H
        have c7b0 := eq_true c7
        have c7b1 : decide (0 ≤ a1) = true := decide_eq_true c7
        clear c7
        by_cases c8 : a1 ≤ (a0.size : Int)
        · rw [if_pos c8] at H
          have c8b0 := eq_true c8
          have c8b1 : decide (a1 ≤ (a0.size : Int)) = true := decide_eq_true c8
          clear c8
          replace H := Option.bind_eq_some_iff.mp H
          obtain ⟨t733, A90, H⟩ := H
          (try dsimp only at H)
          have A9 := Aside0.mk A90
          clear A90
          obtain rfl := Option.some.inj H
          go_enter Try.func63, Try.ntmps63
          go_wp2_with (first | ((with_reducible refine gate_callee (f := 99) rfl ?_); refine goesL_ (some 6) rfl rfl Try.func99 (by kernel_rfl) rfl #[.string a0] rfl (by (try simp only [List.map_toArray, List.map_cons, List.map_nil]); first | done | rfl | (simp only [List.length_drop, List.length_take]; rfl)) ?_; (with_reducible refine (impl_BitsOk.calls k a0 true _ A3.out).mono ?_); rintro e w' ⟨rfl, ⟨nd, rfl⟩⟩; refine ⟨_, rfl, ?_⟩) | (go_at_call 100; (with_reducible refine (impl_in.calls a1 0 (a0.size : Int) true _ A5.out).mono ?_); rintro e w' ⟨rfl, ⟨nd, rfl⟩⟩) | ((with_reducible refine gate_callee (f := 120) rfl ?_); refine goesL_ (some 18) rfl rfl Try.func120 (by kernel_rfl) rfl #[.string (a0.extract 0 (a1 : Int).toNat), .string (⟨#[49]⟩ : ByteArray)] rfl (by (try simp only [List.map_toArray, List.map_cons, List.map_nil]); first | done | rfl | (simp only [List.length_drop, List.length_take]; rfl)) ?_; (with_reducible refine (strings_Count.calls (a0.extract 0 (a1 : Int).toNat) (⟨#[49]⟩ : ByteArray) t733 _ A9.out).mono ?_); rintro e w' ⟨rfl, ⟨nd, rfl⟩⟩; refine ⟨_, rfl, ?_⟩))
          go_ret
          exact ⟨by first | rfl | (simp; done) | (simp [*]; done), by repeat (first | exact Drawn0.refl _ | apply Drawn0.step)⟩
        · rw [if_neg c8] at H
          exact absurd H (by simp)
      · rw [if_neg c7] at H
        exact absurd H (by simp)
    · replace c6 := Bool.eq_false_iff.mpr c6
      subst c6
      have H1 : (some (-1)) = some r := by rw [if_neg (show ¬ (false = true) by decide)] at H; exact H
      clear H
      have H := H1
      clear H1
      obtain rfl := Option.some.inj H
      go_enter Try.func63, Try.ntmps63
      go_wp2_with (first | ((with_reducible refine gate_callee (f := 99) rfl ?_); refine goesL_ (some 6) rfl rfl Try.func99 (by kernel_rfl) rfl #[.string a0] rfl (by (try simp only [List.map_toArray, List.map_cons, List.map_nil]); first | done | rfl | (simp only [List.length_drop, List.length_take]; rfl)) ?_; (with_reducible refine (impl_BitsOk.calls k a0 true _ A3.out).mono ?_); rintro e w' ⟨rfl, ⟨nd, rfl⟩⟩; refine ⟨_, rfl, ?_⟩) | (go_at_call 100; (with_reducible refine (impl_in.calls a1 0 (a0.size : Int) false _ A5.out).mono ?_); rintro e w' ⟨rfl, ⟨nd, rfl⟩⟩))
      go_ret
      exact ⟨by first | rfl | (simp; done) | (simp [*]; done), by repeat (first | exact Drawn0.refl _ | apply Drawn0.step)⟩
  · replace c4 := Bool.eq_false_iff.mpr c4
    subst c4
    have H1 : (some (-1)) = some r := by rw [if_neg (show ¬ (false = true) by decide)] at H; exact H
    clear H
    have H := H1
    clear H1
    obtain rfl := Option.some.inj H
    go_enter Try.func63, Try.ntmps63
    go_wp2_with (first | ((with_reducible refine gate_callee (f := 99) rfl ?_); refine goesL_ (some 6) rfl rfl Try.func99 (by kernel_rfl) rfl #[.string a0] rfl (by (try simp only [List.map_toArray, List.map_cons, List.map_nil]); first | done | rfl | (simp only [List.length_drop, List.length_take]; rfl)) ?_; (with_reducible refine (impl_BitsOk.calls k a0 false _ A3.out).mono ?_); rintro e w' ⟨rfl, ⟨nd, rfl⟩⟩; refine ⟨_, rfl, ?_⟩))
    go_ret
    exact ⟨by first | rfl | (simp; done) | (simp [*]; done), by repeat (first | exact Drawn0.refl _ | apply Drawn0.step)⟩
end Go.Proofs.Ytonagfbadoacjaa.Q
end
section
namespace Go.Proofs.Ytonagfbadoacjaa.Q
open Go.RowKit Go.Proofs.YtonagfbadoacjaaW.PrintWords Go.Proofs.YtonagfbadoacjaaW.PrintLast Go.Proofs.YtonagfbadoacjaaW.PrintMore
attribute [local go_sem] max2_int min2_int max_two min_two max_three min_three max_four min_four   
set_option linter.unusedVariables false
set_option linter.unusedSimpArgs false
def spec_l71Bits.l0 : Nat → ByteArray → Int → List Int → Int → Option (ByteArray × Int)
  | 0, _, _, _, _ => none
  | k + 1, x3, x4, x1000, x1001 => if x4 > 0 then ((spec_l6Rd_of.f k x1000 x1001 (([(⟨#[48]⟩ : ByteArray), (⟨#[49]⟩ : ByteArray)] : List ByteArray))).bind fun bt771 => (if x3.size + bt771.1.size ≤ 9223372036854775807 then (spec_l71Bits.l0 k (x3 ++ bt771.1) (wrap64 (x4 - 1)) x1000 bt771.2) else (none))) else ((spec_l6Rd_pick.f k x1000 x1001 24).bind fun bt773 => (if bt773.1 = 0 then (if x3.size + 1 ≤ 9223372036854775807 then (some (x3 ++ (⟨#[50]⟩ : ByteArray), bt773.2)) else (none)) else (if bt773.1 = 1 then ((spec_l6Rd_pick.f k x1000 bt773.2 2).bind fun bt775 => ((spec_l6Many.f k (⟨#[49, 48]⟩ : ByteArray) (wrap64 (200 + bt775.1))).bind fun t777 => (some (t777, bt775.2)))) else (some (x3, bt773.2)))))
def spec_l71Bits.f (k : Nat) (s0_0 : List Int) (s0_1 : Int) : Option (ByteArray × Int) := (spec_l6Rd_pick.f k s0_0 s0_1 20).bind fun bt766 => (spec_l71Bits.l0 k (⟨#[]⟩ : ByteArray) bt766.1 s0_0 bt766.2)
theorem spec_l71Bits.mono_l : ∀ k, (∀ y0 y1 y2 y3, LeO (spec_l71Bits.l0 k y0 y1 y2 y3) (spec_l71Bits.l0 (k + 1) y0 y1 y2 y3))
  | 0 => fun _ _ _ _ r h => by simp [spec_l71Bits.l0] at h
  | k + 1 => by
    have ih0 := spec_l71Bits.mono_l k
    · intro y0 y1 y2 y3
      unfold spec_l71Bits.l0
      repeat' first
      | (with_reducible exact ih0 _ _ _ _)
      | (with_reducible exact spec_l6Many.mono _ _ _)
      | (with_reducible exact spec_l6Rd_of.mono _ _ _ _)
      | (with_reducible exact spec_l6Rd_pick.mono _ _ _ _)
      | (with_reducible exact LeO.refl _)
      | (with_reducible exact LeO.none _)
      | (with_reducible refine LeO.ite ?_ ?_)
      | (with_reducible refine LeO.bind ?_ (fun _ => ?_))
      | exact ih0 _ _ _ _
      | exact spec_l6Many.mono _ _ _
      | exact spec_l6Rd_of.mono _ _ _ _
      | exact spec_l6Rd_pick.mono _ _ _ _
      | exact LeO.none _
      | refine LeO.ite ?_ ?_
      | refine LeO.bind ?_ (fun _ => ?_)
theorem spec_l71Bits.mono : ∀ a0 a1 k, LeO (spec_l71Bits.f k a0 a1) (spec_l71Bits.f (k + 1) a0 a1) := by
  intro a0 a1 k
  have ih0 := spec_l71Bits.mono_l k
  unfold spec_l71Bits.f
  repeat' first
      | (with_reducible exact ih0 _ _ _ _)
      | (with_reducible exact spec_l6Many.mono _ _ _)
      | (with_reducible exact spec_l6Rd_of.mono _ _ _ _)
      | (with_reducible exact spec_l6Rd_pick.mono _ _ _ _)
      | (with_reducible exact LeO.refl _)
      | (with_reducible exact LeO.none _)
      | (with_reducible refine LeO.ite ?_ ?_)
      | (with_reducible refine LeO.bind ?_ (fun _ => ?_))
      | exact ih0 _ _ _ _
      | exact spec_l6Many.mono _ _ _
      | exact spec_l6Rd_of.mono _ _ _ _
      | exact spec_l6Rd_pick.mono _ _ _ _
      | exact LeO.none _
      | refine LeO.ite ?_ ?_
      | refine LeO.bind ?_ (fun _ => ?_)
set_option maxHeartbeats 8000000 in
set_option maxRecDepth 100000 in
theorem spec_l71Bits.calls (k : Nat) (g : Nat) (s0_0 : List Int) (s0_1 : Int) (r1 : ByteArray) (r2 : Int) (w0 w : World) (hI : IsS109 w0 w g s0_0 s0_1) (hB : Below w0.heap.size w0 w) (h : spec_l71Bits.f k s0_0 s0_1 = some (r1, r2)) :
    Calls Try.prog 121 #[.pointer (some ⟨g, 0, none⟩)] w fun e w' => e = .returned (.string r1) ∧ IsS109 w0 w' g s0_0 r2 ∧ Below w0.heap.size w0 w' ∧ KeepBut w w' g none := by
  have HI0 := Aside0.mk hI
  have HK := Aside0.mk (KeepBut.refl w g none)
  have HL := Aside0.mk hB.size
  clear hI
  have HW0 := Aside0.mk hB.size
  have HB := Aside0.mk hB
  clear hB
  have H : ((spec_l6Rd_pick.f k s0_0 s0_1 20).bind fun bt766 => (spec_l71Bits.l0 k (⟨#[]⟩ : ByteArray) bt766.1 s0_0 bt766.2)) = some (r1, r2) := h
  clear h
  replace H := Option.bind_eq_some_iff.mp H
  obtain ⟨⟨t766, t767⟩, A20, H⟩ := H
  (try dsimp only at H)
  have A2 := Aside0.mk A20
  clear A20
  have H' := Aside0.mk H
  clear H
  go_enter Try.func121, Try.ntmps121
  go_wp2_with (first | ((with_reducible refine gate_callee (f := 113) rfl ?_); refine goesL_ (some 6) rfl rfl Try.func113 (by kernel_rfl) rfl #[.pointer (some ⟨g, 0, none⟩), .int .i64 20] rfl (by (try simp only [List.map_toArray, List.map_cons, List.map_nil]); first | done | rfl | (simp only [List.length_drop, List.length_take]; rfl)) ?_; (with_reducible refine (spec_l6Rd_pick.calls k g s0_0 s0_1 20 t766 t767 w0 _ ?side1 ?side2 A2.out).mono ?_); (case side1 => repeat (first | (with_reducible first | exact HI0.out | apply IsS109.alloc | apply IsS109.drewN | apply IsS109.drew | apply IsS109.set_1) | exact HI0.out)); (case side2 => repeat (first | (with_reducible first | exact HB.out | apply below_alloc | apply pw_below_drewN | apply below_drew1 | refine below_set ?_ (IsS109.ge HI0.out)) | exact HB.out)); rintro e w3 ⟨rfl, hi, hb, hk⟩; refine ⟨_, rfl, ?_⟩; have n0_ := Aside0.mk (KeepBut.trans (by repeat (first | (with_reducible first | exact HK.out | apply KeepBut.set_ | apply keep_drewN | apply keep_drew | apply keep_alloc) | exact HK.out)) hk (.inl rfl)); have n1_ := Aside0.mk (hb); have n2_ := Aside0.mk (hi); clear HK; clear HB; clear HI0; have HK := n0_; have HB := n1_; have HI0 := n2_; clear n0_ n1_ n2_; (try clear hb); (try clear hb2); (try clear hk); (try clear hi)))
  go_loopg [3, 4] k (fun kq v3 v4 w' => ∃ (x3_1 : ByteArray) (x4_1 : Int) (x1001_1 : Int), v3 = .string x3_1 ∧ v4 = .int .i64 x4_1 ∧ Aside0 (spec_l71Bits.l0 kq x3_1 x4_1 s0_0 x1001_1 = some (r1, r2)) ∧ Aside0 (kq ≤ k) ∧ Aside0 (IsS109 w0 w' g s0_0 x1001_1) ∧ Aside0 (KeepBut w w' g none) ∧ Aside0 (Below w0.heap.size w0 w'))
  case atStart => exact ⟨((⟨#[]⟩ : ByteArray)), (t766), (t767), (by first | rfl | (simp; done) | (simp [*]; done)), (by first | rfl | (simp; done) | (simp [*]; done)), H', ⟨Nat.le_refl _⟩, ⟨by repeat (first | (with_reducible first | exact HI0.out | apply IsS109.alloc | apply IsS109.drewN | apply IsS109.drew | apply IsS109.set_1) | exact HI0.out)⟩, ⟨by repeat (first | (with_reducible first | exact HK.out | apply KeepBut.set_ | apply keep_drewN | apply keep_drew | apply keep_alloc) | exact HK.out)⟩, ⟨by repeat (first | (with_reducible first | exact HB.out | apply below_alloc | apply pw_below_drewN | apply below_drew1 | refine below_set ?_ (IsS109.ge HI0.out)) | exact HB.out)⟩⟩
  case round =>
    clear H'
    try clear c1
    try clear p2
    obtain ⟨x3_1, x4_1, x1001_1, rfl, rfl, HA, HK1, HI0, HK, HB⟩ := hrel
    cases gk with
    | zero => exact absurd HA.out (by simp [spec_l71Bits.l0])
    | succ k1 =>
      have H := HA.out
      clear HA
      simp only [spec_l71Bits.l0] at H
      by_cases c4 : x4_1 > 0
      · rw [if_pos c4] at H
        have c4b0 : decide (0 < x4_1) = true := decide_eq_true c4
        clear c4
        obtain ⟨y768, hy768⟩ : ∃ y_ : List ByteArray, y_ = (([(⟨#[48]⟩ : ByteArray), (⟨#[49]⟩ : ByteArray)] : List ByteArray)) := ⟨_, rfl⟩
        replace H : ((spec_l6Rd_of.f k1 s0_0 x1001_1 y768).bind fun bt771 => (if x3_1.size + bt771.1.size ≤ 9223372036854775807 then (spec_l71Bits.l0 k1 (x3_1 ++ bt771.1) (wrap64 (x4_1 - 1)) s0_0 bt771.2) else (none))) = some (r1, r2) := by first | (rw [hy768]; with_reducible exact H) | (have H2_ := (Option.bind_some _ _).symm.trans H; rw [hy768]; with_reducible exact H2_) | (have H2_ := (Option.bind_some _ _).symm.trans H; with_reducible exact H2_) | with_reducible exact H | (rw [hy768]; exact H) | exact H
        have Ny768 := Aside0.mk hy768
        clear hy768
        replace H := Option.bind_eq_some_iff.mp H
        obtain ⟨⟨t771, t772⟩, A50, H⟩ := H
        (try dsimp only at H)
        have A5 := Aside0.mk A50
        clear A50
        by_cases c6 : x3_1.size + t771.size ≤ 9223372036854775807
        · rw [if_pos c6] at H
          have c6b0 := eq_true c6
          have c6b1 : decide (x3_1.size + t771.size ≤ 9223372036854775807) = true := decide_eq_true c6
          try have c6b2 : (9223372036854775807 < x3_1.size + t771.size) = False := eq_false (Nat.not_lt.2 c6)
          have H' := Aside0.mk H
          clear H
          go_wp2_with (first | ((with_reducible refine gate_dst (N := 13) rfl ?_); refine Kd.R_lit Kd.string _ 9 ?hg (N := 13) ?hd (xs := ([(⟨#[48]⟩ : ByteArray), (⟨#[49]⟩ : ByteArray)] : List ByteArray)) (inner := [.string (⟨#[48]⟩ : ByteArray), .string (⟨#[49]⟩ : ByteArray)]) (ok := fun _ => True) (okp := fun _ => True) ?hr ?hp (fun _ hk => hk) trivial (Below.refl _ _) (Nat.le_refl _) (by simp) ?_; (case hd => rfl); (case hg => rfl); (case hr => first | (go_simp; done) | (go_simp; rfl)); (case hp => exact (Reps.one (show Kd.M Kd.string _ _ _ (⟨#[48]⟩ : ByteArray) [.string (⟨#[48]⟩ : ByteArray)] from rfl) (Reps.one (show Kd.M Kd.string _ _ _ (⟨#[49]⟩ : ByteArray) [.string (⟨#[49]⟩ : ByteArray)] from rfl) (Reps.none _ _)))); intro v769 w7 ho8 hb hg_ hnew_; clear hg_ hnew_; (first | rw [← Ny768.out] at ho8 | (simp only [Int.reduceToNat] at ho8; rw [← Ny768.out] at ho8)); have n0_ := Aside0.mk (Kd.R_lower ho8 (keep_size (w := w) (g := g) (row := none) (by repeat (first | (with_reducible first | exact HK.out | apply KeepBut.set_ | apply keep_drewN | apply keep_drew | apply keep_alloc) | exact HK.out)))); have n1_ := Aside0.mk (IsS109.below (by repeat (first | (with_reducible first | exact HI0.out | apply IsS109.alloc | apply IsS109.drewN | apply IsS109.drew | apply IsS109.set_1) | exact HI0.out)) hb); have n2_ := Aside0.mk (KeepBut.trans (by repeat (first | (with_reducible first | exact HK.out | apply KeepBut.set_ | apply keep_drewN | apply keep_drew | apply keep_alloc) | exact HK.out)) (KeepBut.of_below hb g none) (.inl rfl)); have n3_ := Aside0.mk (below_step (by repeat (first | (with_reducible first | exact HB.out | apply below_alloc | apply pw_below_drewN | apply below_drew1 | refine below_set ?_ (IsS109.ge HI0.out)) | exact HB.out)) hb); clear HI0; clear HK; clear HB; have HO770 := n0_; have HI0 := n1_; have HK := n2_; have HB := n3_; clear n0_ n1_ n2_ n3_; clear hb ho8; obtain ⟨Ao9, co9, eo9⟩ := Kd.R_slice HO770.out; subst eo9) | ((with_reducible refine gate_callee (f := 133) rfl ?_); refine goesL_ (some 14) rfl rfl Try.func133 (by kernel_rfl) rfl #[.pointer (some ⟨g, 0, none⟩), .slice Ao9 y768.length co9] rfl (by (try simp only [List.map_toArray, List.map_cons, List.map_nil]); first | done | rfl | (simp only [List.length_drop, List.length_take]; rfl)) ?_; (with_reducible refine (spec_l6Rd_of.calls k1 g s0_0 x1001_1 _ _ y768 t771 t772 w0 _ ?side1 ?side2 ?side3 ?side4 ?side5 A5.out).mono ?_); (case side1 => repeat (first | (with_reducible first | exact HI0.out | apply IsS109.alloc | apply IsS109.drewN | apply IsS109.drew | apply IsS109.set_1) | exact HI0.out)); (case side2 => repeat (first | (with_reducible first | exact HB.out | apply below_alloc | apply pw_below_drewN | apply below_drew1 | refine below_set ?_ (IsS109.ge HI0.out)) | exact HB.out)); (case side3 => repeat (first | exact (Kd.R_reads' HO770.out).2.2 | (with_reducible refine Kd.C_alloc ?_ _) | (with_reducible refine Kd.C_drewN ?_ _) | (with_reducible refine Kd.C_drew ?_))); (case side4 => exact (Kd.R_reads' HO770.out).2.1); (case side5 => exact far_slice (IsS109.own_ne HI0.out HO770.out (by decide))); rintro e w10 ⟨rfl, hi, hb, hk⟩; refine ⟨_, rfl, ?_⟩; have n0_ := Aside0.mk (Kd.R_mono (Kd.R_keep (IsS109.apart (show IsS109 w0 _ g s0_0 x1001_1 from by repeat (first | (with_reducible first | exact HI0.out | apply IsS109.alloc | apply IsS109.drewN | apply IsS109.drew | apply IsS109.set_1) | exact HI0.out)) (by (with_reducible repeat (first | apply Kd.R_alloc | apply Kd.R_drewN | apply Kd.R_drew)); exact HO770.out) (by decide)) hk (fun _ h => h.2)) (fun _ h => h.1)); have n1_ := Aside0.mk (KeepBut.trans (by repeat (first | (with_reducible first | exact HK.out | apply KeepBut.set_ | apply keep_drewN | apply keep_drew | apply keep_alloc) | exact HK.out)) hk (.inl rfl)); have n2_ := Aside0.mk (hb); have n3_ := Aside0.mk (hi); clear HO770; clear HK; clear HB; clear HI0; have HO770 := n0_; have HK := n1_; have HB := n2_; have HI0 := n3_; clear n0_ n1_ n2_ n3_; (try clear hb); (try clear hb2); (try clear hk); (try clear hi)))
          go_roundg k1
          case measure => have := HK1.out; omega
          case rel => exact ⟨(x3_1 ++ t771), (wrap64 (x4_1 - 1)), (t772), (by first | rfl | (simp; done) | (simp [*]; done)), (by first | rfl | (simp; done) | (simp [*]; done)), H', ⟨by have := HK1.out; omega⟩, ⟨by repeat (first | (with_reducible first | exact HI0.out | apply IsS109.alloc | apply IsS109.drewN | apply IsS109.drew | apply IsS109.set_1) | exact HI0.out)⟩, ⟨by repeat (first | (with_reducible first | exact HK.out | apply KeepBut.set_ | apply keep_drewN | apply keep_drew | apply keep_alloc) | exact HK.out)⟩, ⟨by repeat (first | (with_reducible first | exact HB.out | apply below_alloc | apply pw_below_drewN | apply below_drew1 | refine below_set ?_ (IsS109.ge HI0.out)) | exact HB.out)⟩⟩
        · rw [if_neg c6] at H
          exact absurd H (by simp)
      · rw [if_neg c4] at H
        have c4b0 : decide (0 < x4_1) = false := decide_eq_false c4
        clear c4
        replace H := Option.bind_eq_some_iff.mp H
        obtain ⟨⟨t773, t774⟩, A110, H⟩ := H
        (try dsimp only at H)
        have A11 := Aside0.mk A110
        clear A110
        go_upto_if 18 with (first | ((with_reducible refine gate_callee (f := 113) rfl ?_); refine goesL_ (some 17) rfl rfl Try.func113 (by kernel_rfl) rfl #[.pointer (some ⟨g, 0, none⟩), .int .i64 24] rfl (by (try simp only [List.map_toArray, List.map_cons, List.map_nil]); first | done | rfl | (simp only [List.length_drop, List.length_take]; rfl)) ?_; (with_reducible refine (spec_l6Rd_pick.calls k1 g s0_0 x1001_1 24 t773 t774 w0 _ ?side1 ?side2 A11.out).mono ?_); (case side1 => repeat (first | (with_reducible first | exact HI0.out | apply IsS109.alloc | apply IsS109.drewN | apply IsS109.drew | apply IsS109.set_1) | exact HI0.out)); (case side2 => repeat (first | (with_reducible first | exact HB.out | apply below_alloc | apply pw_below_drewN | apply below_drew1 | refine below_set ?_ (IsS109.ge HI0.out)) | exact HB.out)); rintro e w12 ⟨rfl, hi, hb, hk⟩; refine ⟨_, rfl, ?_⟩; have n0_ := Aside0.mk (KeepBut.trans (by repeat (first | (with_reducible first | exact HK.out | apply KeepBut.set_ | apply keep_drewN | apply keep_drew | apply keep_alloc) | exact HK.out)) hk (.inl rfl)); have n1_ := Aside0.mk (hb); have n2_ := Aside0.mk (hi); clear HK; clear HB; clear HI0; have HK := n0_; have HB := n1_; have HI0 := n2_; clear n0_ n1_ n2_; (try clear hb); (try clear hb2); (try clear hk); (try clear hi)))
        by_cases c13 : t773 = 0
        · rw [if_pos c13] at H
          have c13b0 : (t773 == 0) = true := beq_iff_eq.mpr c13
          have c13b1 : (t773 != 0) = false := bne_eq_false_iff_eq.mpr c13
          clear c13
          (first | rw [c13b0] | (simp only [i64_w, i32_w]; rw [c13b0]) | simp only [*, Bool.not_true, Bool.not_false] | skip)
          by_cases c14 : x3_1.size + 1 ≤ 9223372036854775807
          · rw [if_pos c14] at H
            have c14b0 := eq_true c14
            have c14b1 : decide (x3_1.size + 1 ≤ 9223372036854775807) = true := decide_eq_true c14
            try have c14b2 : (9223372036854775807 < x3_1.size + 1) = False := eq_false (Nat.not_lt.2 c14)
            simp only [Option.some.injEq, Prod.mk.injEq] at H
            obtain ⟨rfl, rfl⟩ := H
            go_wp2
            go_ret
            exact ⟨by first | rfl | (simp [errW_none, errW_some] <;> rfl) | (simp [*, errW_none, errW_some] <;> rfl), by repeat (first | (with_reducible first | exact HI0.out | apply IsS109.alloc | apply IsS109.drewN | apply IsS109.drew | apply IsS109.set_1) | exact HI0.out), by repeat (first | (with_reducible first | exact HB.out | apply below_alloc | apply pw_below_drewN | apply below_drew1 | refine below_set ?_ (IsS109.ge HI0.out)) | exact HB.out), by repeat (first | (with_reducible first | exact HK.out | apply KeepBut.set_ | apply keep_drewN | apply keep_drew | apply keep_alloc) | exact HK.out)⟩
          · rw [if_neg c14] at H
            exact absurd H (by simp)
        · rw [if_neg c13] at H
          have c13b0 : (t773 == 0) = false := beq_eq_false_iff_ne.mpr c13
          have c13b1 : (t773 != 0) = true := bne_iff_ne.mpr c13
          (first | rw [c13b0] | (simp only [i64_w, i32_w]; rw [c13b0]) | simp only [*, Bool.not_true, Bool.not_false] | skip)
          by_cases c15 : t773 = 1
          · rw [if_pos c15] at H
            have c15b0 : (t773 == 1) = true := beq_iff_eq.mpr c15
            have c15b1 : (t773 != 1) = false := bne_eq_false_iff_eq.mpr c15
            clear c15
            replace H := Option.bind_eq_some_iff.mp H
            obtain ⟨⟨t775, t776⟩, A160, H⟩ := H
            (try dsimp only at H)
            have A16 := Aside0.mk A160
            clear A160
            replace H := Option.bind_eq_some_iff.mp H
            obtain ⟨t777, A170, H⟩ := H
            (try dsimp only at H)
            have A17 := Aside0.mk A170
            clear A170
            simp only [Option.some.injEq, Prod.mk.injEq] at H
            obtain ⟨rfl, rfl⟩ := H
            go_wp2_with (first | ((with_reducible refine gate_callee (f := 113) rfl ?_); refine goesL_ (some 25) rfl rfl Try.func113 (by kernel_rfl) rfl #[.pointer (some ⟨g, 0, none⟩), .int .i64 2] rfl (by (try simp only [List.map_toArray, List.map_cons, List.map_nil]); first | done | rfl | (simp only [List.length_drop, List.length_take]; rfl)) ?_; (with_reducible refine (spec_l6Rd_pick.calls k1 g s0_0 t774 2 t775 t776 w0 _ ?side1 ?side2 A16.out).mono ?_); (case side1 => repeat (first | (with_reducible first | exact HI0.out | apply IsS109.alloc | apply IsS109.drewN | apply IsS109.drew | apply IsS109.set_1) | exact HI0.out)); (case side2 => repeat (first | (with_reducible first | exact HB.out | apply below_alloc | apply pw_below_drewN | apply below_drew1 | refine below_set ?_ (IsS109.ge HI0.out)) | exact HB.out)); rintro e w18 ⟨rfl, hi, hb, hk⟩; refine ⟨_, rfl, ?_⟩; have n0_ := Aside0.mk (KeepBut.trans (by repeat (first | (with_reducible first | exact HK.out | apply KeepBut.set_ | apply keep_drewN | apply keep_drew | apply keep_alloc) | exact HK.out)) hk (.inl rfl)); have n1_ := Aside0.mk (hb); have n2_ := Aside0.mk (hi); clear HK; clear HB; clear HI0; have HK := n0_; have HB := n1_; have HI0 := n2_; clear n0_ n1_ n2_; (try clear hb); (try clear hb2); (try clear hk); (try clear hi)) | ((with_reducible refine gate_callee (f := 145) rfl ?_); refine goesL_ (some 27) rfl rfl Try.func145 (by kernel_rfl) rfl #[.string (⟨#[49, 48]⟩ : ByteArray), .int .i64 (wrap64 (200 + t775))] rfl (by (try simp only [List.map_toArray, List.map_cons, List.map_nil]); first | done | rfl | (simp only [List.length_drop, List.length_take]; rfl)) ?_; (with_reducible refine (spec_l6Many.calls k1 (⟨#[49, 48]⟩ : ByteArray) (wrap64 (200 + t775)) t777 _ A17.out).mono ?_); rintro e w' ⟨rfl, ⟨nd, rfl⟩⟩; refine ⟨_, rfl, ?_⟩))
            go_ret
            exact ⟨by first | rfl | (simp [errW_none, errW_some] <;> rfl) | (simp [*, errW_none, errW_some] <;> rfl), by repeat (first | (with_reducible first | exact HI0.out | apply IsS109.alloc | apply IsS109.drewN | apply IsS109.drew | apply IsS109.set_1) | exact HI0.out), by repeat (first | (with_reducible first | exact HB.out | apply below_alloc | apply pw_below_drewN | apply below_drew1 | refine below_set ?_ (IsS109.ge HI0.out)) | exact HB.out), by repeat (first | (with_reducible first | exact HK.out | apply KeepBut.set_ | apply keep_drewN | apply keep_drew | apply keep_alloc) | exact HK.out)⟩
          · rw [if_neg c15] at H
            have c15b0 : (t773 == 1) = false := beq_eq_false_iff_ne.mpr c15
            have c15b1 : (t773 != 1) = true := bne_iff_ne.mpr c15
            simp only [Option.some.injEq, Prod.mk.injEq] at H
            obtain ⟨rfl, rfl⟩ := H
            go_wp2
            go_ret
            exact ⟨by first | rfl | (simp [errW_none, errW_some] <;> rfl) | (simp [*, errW_none, errW_some] <;> rfl), by repeat (first | (with_reducible first | exact HI0.out | apply IsS109.alloc | apply IsS109.drewN | apply IsS109.drew | apply IsS109.set_1) | exact HI0.out), by repeat (first | (with_reducible first | exact HB.out | apply below_alloc | apply pw_below_drewN | apply below_drew1 | refine below_set ?_ (IsS109.ge HI0.out)) | exact HB.out), by repeat (first | (with_reducible first | exact HK.out | apply KeepBut.set_ | apply keep_drewN | apply keep_drew | apply keep_alloc) | exact HK.out)⟩
end Go.Proofs.Ytonagfbadoacjaa.Q
end
section
namespace Go.Proofs.Ytonagfbadoacjaa.Q
open Go.RowKit Go.Proofs.YtonagfbadoacjaaW.PrintWords Go.Proofs.YtonagfbadoacjaaW.PrintLast Go.Proofs.YtonagfbadoacjaaW.PrintMore
attribute [local go_sem] max2_int min2_int max_two min_two max_three min_three max_four min_four   
set_option linter.unusedVariables false
set_option linter.unusedSimpArgs false
def impl_BitsOne.f (k : Nat) (a0 : ByteArray) (a1 : Int) : Option (Int × Bool) := (impl_BitsOk.f k a0).bind fun t794 => (if t794 = true then (if a1 < 0 then (some (0, false)) else ((impl_one.f k a0 a1).bind fun t795 => (some (mx 0 t795, decide (t795 ≥ 0))))) else (some (0, false)))
theorem impl_BitsOne.mono : ∀ a0 a1 k, LeO (impl_BitsOne.f k a0 a1) (impl_BitsOne.f (k + 1) a0 a1) := by
  intro a0 a1 k
  unfold impl_BitsOne.f
  repeat' first
      | (with_reducible exact impl_BitsOk.mono _ _)
      | (with_reducible exact impl_one.mono _ _ _)
      | (with_reducible exact LeO.refl _)
      | (with_reducible exact LeO.none _)
      | (with_reducible refine LeO.ite ?_ ?_)
      | (with_reducible refine LeO.bind ?_ (fun _ => ?_))
      | exact impl_BitsOk.mono _ _
      | exact impl_one.mono _ _ _
      | exact LeO.none _
      | refine LeO.ite ?_ ?_
      | refine LeO.bind ?_ (fun _ => ?_)
set_option maxHeartbeats 8000000 in
set_option maxRecDepth 100000 in
theorem impl_BitsOne.calls (k : Nat) (a0 : ByteArray) (a1 : Int) (r1 : Int) (r2 : Bool) (w : World) (h : impl_BitsOne.f k a0 a1 = some (r1, r2)) :
    Calls Try.prog 67 #[.string a0, .int .i64 a1] w fun e w' => e = .returned (.tuple #[.int .i64 r1, .bool r2]) ∧ Below w.heap.size w w' := by
  have HB := Aside0.mk (Below.refl w.heap.size w)
  have H : ((impl_BitsOk.f k a0).bind fun t794 => (if t794 = true then (if a1 < 0 then (some (0, false)) else ((impl_one.f k a0 a1).bind fun t795 => (some (mx 0 t795, decide (t795 ≥ 0))))) else (some (0, false)))) = some (r1, r2) := h
  clear h
  replace H := Option.bind_eq_some_iff.mp H
  obtain ⟨t794, A30, H⟩ := H
  (try dsimp only at H)
  have A3 := Aside0.mk A30
  clear A30
  by_cases c4 : t794 = true
  · subst c4
    have H1 : (if a1 < 0 then (some (0, false)) else ((impl_one.f k a0 a1).bind fun t795 => (some (mx 0 t795, decide (t795 ≥ 0))))) = some (r1, r2) := by rw [if_pos rfl] at H; exact H
    clear H
    have H := H1
    clear H1
    go_enter Try.func67, Try.ntmps67
    go_upto_if 13 with (first | ((with_reducible refine gate_callee (f := 99) rfl ?_); refine goesL_ (some 8) rfl rfl Try.func99 (by kernel_rfl) rfl #[.string a0] rfl (by (try simp only [List.map_toArray, List.map_cons, List.map_nil]); first | done | rfl | (simp only [List.length_drop, List.length_take]; rfl)) ?_; (with_reducible refine (impl_BitsOk.calls k a0 true _ A3.out).mono ?_); rintro e w' ⟨rfl, ⟨nd, rfl⟩⟩; refine ⟨_, rfl, ?_⟩))
    by_cases c5 : a1 < 0
    · rw [if_pos c5] at H
      have c5b0 : decide (a1 < 0) = true := decide_eq_true c5
      clear c5
      (first | rw [c5b0] | (simp only [i64_w, i32_w]; rw [c5b0]) | simp only [*, Bool.not_true, Bool.not_false] | skip)
      simp only [Option.some.injEq, Prod.mk.injEq] at H
      obtain ⟨rfl, rfl⟩ := H
      go_wp2
      go_ret2
      exact ⟨by first | rfl | (simp [errW_none, errW_some] <;> rfl) | (simp [*, errW_none, errW_some] <;> rfl), by repeat (first | (with_reducible first | exact HB.out | apply below_alloc | apply pw_below_drewN | apply below_drew1) | exact HB.out)⟩
    · rw [if_neg c5] at H
      have c5b0 : decide (a1 < 0) = false := decide_eq_false c5
      clear c5
      (first | rw [c5b0] | (simp only [i64_w, i32_w]; rw [c5b0]) | simp only [*, Bool.not_true, Bool.not_false] | skip)
      replace H := Option.bind_eq_some_iff.mp H
      obtain ⟨t795, A60, H⟩ := H
      (try dsimp only at H)
      have A6 := Aside0.mk A60
      clear A60
      obtain ⟨ji7, hji7⟩ : ∃ j_ : Int, (mx 0 t795) = j_ := ⟨_, rfl⟩
      replace H : (some (ji7, decide (t795 ≥ 0))) = some (r1, r2) := by first | (rw [hji7] at H; exact H) | (simp only [hji7] at H ⊢; exact H)
      (try rw [hji7] at A6)
      (try (have hji7l : 0 ≤ ji7 := by (rw [← hji7]; unfold mx; (repeat' split) <;> omega)))
      (try (have hji7m : 0 ≤ ji7 := by omega))
      have hji7_ : (if 0 < t795 then t795 else 0) = ji7 := hji7
      simp only [Option.some.injEq, Prod.mk.injEq] at H
      obtain ⟨rfl, rfl⟩ := H
      go_wp2_with (first | ((with_reducible refine gate_callee (f := 122) rfl ?_); refine goesL_ (some 16) rfl rfl Try.func122 (by kernel_rfl) rfl #[.string a0, .int .i64 a1] rfl (by (try simp only [List.map_toArray, List.map_cons, List.map_nil]); first | done | rfl | (simp only [List.length_drop, List.length_take]; rfl)) ?_; (with_reducible refine (impl_one.calls k a0 a1 t795 _ A6.out).mono ?_); rintro e w' ⟨rfl, ⟨nd, rfl⟩⟩; refine ⟨_, rfl, ?_⟩))
      go_ret2
      exact ⟨by first | rfl | (simp [errW_none, errW_some] <;> rfl) | (simp only [← hji7]; first | rfl | (simp [errW_none, errW_some] <;> rfl)) | (simp [*, errW_none, errW_some] <;> rfl), by repeat (first | (with_reducible first | exact HB.out | apply below_alloc | apply pw_below_drewN | apply below_drew1) | exact HB.out)⟩
  · replace c4 := Bool.eq_false_iff.mpr c4
    subst c4
    have H1 : (some (0, false)) = some (r1, r2) := by rw [if_neg (show ¬ (false = true) by decide)] at H; exact H
    clear H
    have H := H1
    clear H1
    simp only [Option.some.injEq, Prod.mk.injEq] at H
    obtain ⟨rfl, rfl⟩ := H
    go_enter Try.func67, Try.ntmps67
    go_wp2_with (first | ((with_reducible refine gate_callee (f := 99) rfl ?_); refine goesL_ (some 8) rfl rfl Try.func99 (by kernel_rfl) rfl #[.string a0] rfl (by (try simp only [List.map_toArray, List.map_cons, List.map_nil]); first | done | rfl | (simp only [List.length_drop, List.length_take]; rfl)) ?_; (with_reducible refine (impl_BitsOk.calls k a0 false _ A3.out).mono ?_); rintro e w' ⟨rfl, ⟨nd, rfl⟩⟩; refine ⟨_, rfl, ?_⟩))
    go_ret2
    exact ⟨by first | rfl | (simp [errW_none, errW_some] <;> rfl) | (simp [*, errW_none, errW_some] <;> rfl), by repeat (first | (with_reducible first | exact HB.out | apply below_alloc | apply pw_below_drewN | apply below_drew1) | exact HB.out)⟩
end Go.Proofs.Ytonagfbadoacjaa.Q
end
section
set_option linter.unusedVariables false
set_option linter.unusedSimpArgs false
namespace Go.Proofs.Ytonagfbadoacjaa.Pb
open Go Go.RowKit Go.Proofs.YtonagfbadoacjaaW.PrintWords Go.Proofs.YtonagfbadoacjaaW.PrintLast Go.Proofs.YtonagfbadoacjaaW.PrintMore Go.Proofs.Ytonagfbadoacjaa.Trie Go.Proofs.Ytonagfbadoacjaa.Q
theorem pos_lt_iff : ∀ (l : List UInt8) (m : Nat), pos l m < l.length ↔ m < onesB l l.length := by
  intro l
  induction l with
  | nil => intro m; simp [pos, onesB]
  | cons c l ih =>
    intro m
    have e : onesB (c :: l) (c :: l).length = (if c = 49 then 1 else 0) + onesB l l.length := by
      unfold onesB
      rw [List.take_of_length_le (Nat.le_refl _), List.take_of_length_le (Nat.le_refl _), List.countP_cons]
      by_cases q : c = 49
      · simp [q]; omega
      · simp [q]
    rw [e, pos]
    have h1 := ih m
    have h2 := ih (m - 1)
    simp only [List.length_cons]
    by_cases q : c = 49
    · rw [if_pos q, if_pos q]
      by_cases z : m = 0
      · rw [if_pos z]; omega
      · rw [if_neg z]; omega
    · rw [if_neg q, if_neg q]; omega
theorem pos_one : ∀ (l : List UInt8) (m : Nat), pos l m < l.length → l.getD (pos l m) 0 = 49 ∧ onesB l (pos l m) = m := by
  intro l
  induction l with
  | nil => intro m h; simp [pos] at h
  | cons c l ih =>
    intro m h
    rw [pos] at h ⊢
    by_cases q : c = 49
    · rw [if_pos q] at h ⊢
      by_cases z : m = 0
      · rw [if_pos z]
        exact ⟨by simp [q], by simp [onesB, z]⟩
      · rw [if_neg z] at h ⊢
        have := ih (m - 1) (by simp only [List.length_cons] at h; omega)
        rw [show 1 + pos l (m - 1) = pos l (m - 1) + 1 by omega]
        refine ⟨by simpa using this.1, ?_⟩
        have h2 := this.2
        unfold onesB at h2 ⊢
        rw [List.take_succ_cons, List.countP_cons, h2]
        simp [q]; omega
    · rw [if_neg q] at h ⊢
      have := ih m (by simp only [List.length_cons] at h; omega)
      rw [show 1 + pos l m = pos l m + 1 by omega]
      refine ⟨by simpa using this.1, ?_⟩
      have h2 := this.2
      unfold onesB at h2 ⊢
      rw [List.take_succ_cons, List.countP_cons, h2]
      simp [q]
theorem onesB_self (l : List UInt8) (n : Nat) : onesB l n ≤ n := by
  unfold onesB
  have h1 := List.countP_le_length (p := fun c : UInt8 => c == 49) (l := l.take n)
  have h2 := List.length_take (i := n) (l := l)
  omega
theorem pos_ge (l : List UInt8) (m : Nat) (h : pos l m < l.length) : m ≤ pos l m := by
  have h1 := (pos_one l m h).2
  have h2 := onesB_self l (pos l m)
  omega
def bitsOnesI (l : List UInt8) (a : Int) : Int := if bitsB l = true ∧ 0 ≤ a ∧ a ≤ l.length then (onesB l a.toNat : Int) else -1
theorem spec_BitsOnes_ev (x : ByteArray) (hx : x.size ≤ 140737488355328) (a : Int) : Ev (fun k => spec_BitsOnes.f k x a) (bitsOnesI (L x) a) := by
  unfold spec_BitsOnes.f
  refine Ev.bind (spec_BitsOk_ev x hx) ?_
  unfold bitsOnesI
  have hs := size_L x
  cases hb : bitsB (L x) with
  | false => exact ev_neg (by simp) (ev_some (by simp))
  | true =>
    refine ev_pos rfl (ev_bindc (spec_l6In_eq _ _ _) ?_)
    by_cases c : 0 ≤ a ∧ a ≤ (x.size : Int)
    · refine ev_pos (by simpa using c) ?_
      rw [if_pos ⟨rfl, c.1, by omega⟩]
      exact Ev.bind (spec_l1Ones_ev x hx a (by omega)) (ev_some rfl)
    · refine ev_neg (by simpa using c) (ev_some ?_)
      rw [if_neg (fun h => c ⟨h.2.1, by omega⟩)]
theorem impl_BitsOnes_ev (x : ByteArray) (hx : x.size ≤ 140737488355328) (a : Int) : Ev (fun k => impl_BitsOnes.f k x a) (bitsOnesI (L x) a) := by
  unfold impl_BitsOnes.f
  refine Ev.bind (impl_BitsOk_ev x hx) ?_
  unfold bitsOnesI
  have hs := size_L x
  cases hb : bitsB (L x) with
  | false => exact ev_neg (by simp) (ev_some (by simp))
  | true =>
    refine ev_pos rfl (ev_bindc (impl_in_eq _ _ _) ?_)
    by_cases c : 0 ≤ a ∧ a ≤ (x.size : Int)
    · refine ev_pos (by simpa using c) (ev_pos c.1 (ev_pos c.2 ?_))
      rw [if_pos ⟨rfl, c.1, by omega⟩]
      refine ev_bindc (count_L (c := 49) rfl) (ev_some ?_)
      rw [L_extract, List.drop_zero, onesB_count]
    · refine ev_neg (by simpa using c) (ev_some ?_)
      rw [if_neg (fun h => c ⟨h.2.1, by omega⟩)]
def bitsOneI (l : List UInt8) (n : Int) : Int × Bool := if bitsB l = true ∧ 0 ≤ n ∧ pos l n.toNat < l.length then ((pos l n.toNat : Int), true) else (0, false)
theorem impl_BitsOne_ev (x : ByteArray) (hx : x.size ≤ 140737488355328) (n : Int) (hn : n ≤ 9223372036854775807) : Ev (fun k => impl_BitsOne.f k x n) (bitsOneI (L x) n) := by
  unfold impl_BitsOne.f
  refine Ev.bind (impl_BitsOk_ev x hx) ?_
  unfold bitsOneI
  cases hb : bitsB (L x) with
  | false => exact ev_neg (by simp) (ev_some (by simp))
  | true =>
    refine ev_pos rfl ?_
    by_cases c : n < 0
    · refine ev_pos c (ev_some ?_)
      rw [if_neg (fun h => by omega)]
    · refine ev_neg c ?_
      obtain ⟨m, rfl⟩ : ∃ m : Nat, n = (m : Int) := ⟨n.toNat, by omega⟩
      refine Ev.bind (impl_one_ev x hx m hn) (ev_some ?_)
      unfold oneI
      rw [Int.toNat_natCast]
      by_cases q : pos (L x) m < (L x).length
      · rw [if_pos q, if_pos ⟨rfl, by omega, q⟩]
        refine Prod.ext ?_ (by simp)
        show (if (0 : Int) < (pos (L x) m : Int) then (pos (L x) m : Int) else 0) = _
        by_cases z : (0 : Int) < (pos (L x) m : Int)
        · rw [if_pos z]
        · rw [if_neg z]; omega
      · rw [if_neg q, if_neg (fun h => q h.2.2)]
        rfl
theorem many_ev (C : Nat) (hC : C ≤ 1000000) : ∀ (n : Nat) (x0 x5 : ByteArray), n ≤ 1000000 → (1 ≤ n → x0.size ≤ C) → x5.size + n * x0.size ≤ C →
    ∃ r, Ev (fun k => spec_l6Many.l0 k x0 (n : Int) x5) r ∧ r.size ≤ C := by
  intro n
  induction n using Nat.strongRecOn with
  | _ n ih =>
    intro x0 x5 hn h0 h1
    by_cases c : (n : Int) > 0
    · have h0' := h0 (by omega)
      have hsz : (x0 ++ x0).size = x0.size + x0.size := ByteArray.size_append
      have hd : wrap64 (Int.tdiv (n : Int) 2) = ((n / 2 : Nat) : Int) := by
        rw [Int.tdiv_eq_ediv_of_nonneg (by omega)]
        unfold wrap64
        omega
      have hnC : n ≤ C ∨ x0.size = 0 := by
        by_cases z : x0.size = 0
        · exact .inr z
        · exact .inl (by have : n ≤ n * x0.size := Nat.le_mul_of_pos_right n (by omega); omega)
      have hmul : (n / 2) * (x0.size + x0.size) ≤ n * x0.size := by
        have : (n / 2) * 2 ≤ n := Nat.div_mul_le_self n 2
        calc (n / 2) * (x0.size + x0.size) = ((n / 2) * 2) * x0.size := by rw [Nat.mul_assoc, Nat.two_mul]
          _ ≤ n * x0.size := Nat.mul_le_mul_right _ this
      have hb : 1 ≤ n / 2 → x0.size + x0.size ≤ C := by
        intro q
        have : 1 * (x0.size + x0.size) ≤ (n / 2) * (x0.size + x0.size) := Nat.mul_le_mul_right _ q
        omega
      by_cases od : Int.tmod (n : Int) 2 = 1
      · have hodd : n * x0.size = (n / 2) * (x0.size + x0.size) + x0.size := by
          rw [Int.tmod_eq_emod_of_nonneg (by omega)] at od
          have : n = (n / 2) * 2 + 1 := by omega
          conv => lhs; rw [this]
          rw [Nat.add_mul, Nat.mul_assoc, Nat.two_mul, Nat.one_mul]
        have hsz2 : (x5 ++ x0).size = x5.size + x0.size := ByteArray.size_append
        obtain ⟨r, hr, hs⟩ := ih (n / 2) (by omega) (x0 ++ x0) (x5 ++ x0) (by omega) (by rw [hsz]; exact hb) (by rw [hsz, hsz2]; omega)
        refine ⟨r, ev_succ ?_, hs⟩
        simp only [spec_l6Many.l0]
        refine ev_pos c (ev_pos od (ev_pos (by omega) (ev_pos (by omega) ?_)))
        rw [hd]; exact hr
      · obtain ⟨r, hr, hs⟩ := ih (n / 2) (by omega) (x0 ++ x0) x5 (by omega) (by rw [hsz]; exact hb) (by rw [hsz]; omega)
        refine ⟨r, ev_succ ?_, hs⟩
        simp only [spec_l6Many.l0]
        refine ev_pos c (ev_neg od (ev_pos (by omega) ?_))
        rw [hd]; exact hr
    · refine ⟨x5, ev_succ ?_, by omega⟩
      simp only [spec_l6Many.l0]
      exact ev_neg c (ev_some rfl)
theorem bits_l0_ev {b : List Int} (hb : By b) (d : Nat) : ∀ (x3 : ByteArray) (p : Int), 0 ≤ p → p + d ≤ 1000 → x3.size + d ≤ 100 →
    ∃ s q, Ev (fun k => spec_l71Bits.l0 k x3 (d : Int) b p) (s, q) ∧ s.size ≤ 1000 ∧ 0 ≤ q ∧ q ≤ 2000 := by
  induction d with
  | zero =>
    intro x3 p h0 h1 h2
    obtain ⟨r, hr, _, _, _⟩ := pick_ev hb p h0 (by omega) 24 (by omega)
    by_cases c0 : r = 0
    · refine ⟨x3 ++ (⟨#[50]⟩ : ByteArray), p + 1, ev_succ ?_, by rw [ByteArray.size_append]; show x3.size + 1 ≤ 1000; omega, by omega, by omega⟩
      simp only [spec_l71Bits.l0]
      refine ev_neg (by omega) (Ev.bind hr ?_)
      exact ev_pos c0 (ev_pos (by omega) (ev_some rfl))
    · by_cases c1 : r = 1
      · obtain ⟨r2, hr2, g0, g1, _⟩ := pick_ev hb (p + 1) (by omega) (by omega) 2 (by omega)
        have g1 := g1 (by omega)
        obtain ⟨m, hm⟩ : ∃ m : Nat, 200 + r2 = (m : Int) := ⟨(200 + r2).toNat, by omega⟩
        have h21 : (⟨#[49, 48]⟩ : ByteArray).size = 2 := rfl
        have h20 : (⟨#[]⟩ : ByteArray).size = 0 := rfl
        obtain ⟨s, hs, hsz⟩ := many_ev 1000 (by omega) m (⟨#[49, 48]⟩ : ByteArray) (⟨#[]⟩ : ByteArray) (by omega) (by rw [h21]; omega) (by rw [h21, h20]; omega)
        refine ⟨s, p + 1 + 1, ev_succ ?_, hsz, by omega, by omega⟩
        simp only [spec_l71Bits.l0]
        refine ev_neg (by omega) (Ev.bind hr ?_)
        refine ev_neg c0 (ev_pos c1 (Ev.bind hr2 ?_))
        simp only []
        rw [w64 (i := 200 + r2) (by omega) (by omega), hm]
        exact Ev.bind hs (ev_some rfl)
      · refine ⟨x3, p + 1, ev_succ ?_, by omega, by omega, by omega⟩
        simp only [spec_l71Bits.l0]
        refine ev_neg (by omega) (Ev.bind hr ?_)
        exact ev_neg c0 (ev_neg c1 (ev_some rfl))
  | succ d ih =>
    intro x3 p h0 h1 h2
    obtain ⟨t, ht, hm⟩ := of_ev hb p h0 (by omega) ([(⟨#[48]⟩ : ByteArray), (⟨#[49]⟩ : ByteArray)]) (by simp) (by simp)
    have hts : t.size = 1 := by
      simp only [List.mem_cons, List.not_mem_nil, or_false] at hm
      rcases hm with rfl | rfl <;> rfl
    have hz : (x3 ++ t).size = x3.size + 1 := by rw [ByteArray.size_append, hts]
    obtain ⟨s, q, hr, g⟩ := ih (x3 ++ t) (p + 1) (by omega) (by omega) (by omega)
    refine ⟨s, q, ev_succ ?_, g⟩
    simp only [spec_l71Bits.l0]
    refine ev_pos (by omega) (Ev.bind ht (ev_pos (by rw [hts]; omega) ?_))
    rw [w64 (by omega) (by omega), show ((d + 1 : Nat) : Int) - 1 = (d : Int) by omega]
    exact hr
theorem bits_ev {b : List Int} (hb : By b) : ∃ s q, Ev (fun k => spec_l71Bits.f k b 0) (s, q) ∧ s.size ≤ 1000 ∧ 0 ≤ q ∧ q ≤ 2000 := by
  obtain ⟨r, hr, g0, g1, _⟩ := pick_ev hb 0 (by omega) (by omega) 20 (by omega)
  have g1 := g1 (by omega)
  obtain ⟨n, rfl⟩ : ∃ n : Nat, r = (n : Int) := ⟨r.toNat, by omega⟩
  have h20 : (⟨#[]⟩ : ByteArray).size = 0 := rfl
  obtain ⟨s, q, hs, g⟩ := bits_l0_ev hb n (⟨#[]⟩ : ByteArray) (0 + 1) (by omega) (by omega) (by rw [h20]; omega)
  refine ⟨s, q, ?_, g⟩
  unfold spec_l71Bits.f
  exact Ev.bind hr hs
end Go.Proofs.Ytonagfbadoacjaa.Pb
end
section
set_option linter.unusedVariables false
set_option linter.unusedSimpArgs false
namespace Go.Proofs.Ytonagfbadoacjaa.Pb
open Go Go.RowKit Go.Proofs.YtonagfbadoacjaaW.PrintWords Go.Proofs.YtonagfbadoacjaaW.PrintLast Go.Proofs.YtonagfbadoacjaaW.PrintMore Go.Proofs.Ytonagfbadoacjaa.Trie Go.Proofs.Ytonagfbadoacjaa.Q
def putN (k : Key) : List Key → List Key
  | [] => [k]
  | y :: l => if k < y then k :: y :: l else y :: putN k l
def putB (K : List Key) (k : Key) : List Key := if k ∈ K then K else putN k K
theorem L_eq_iff {a b : ByteArray} : a.toList = b.toList ↔ L a = L b := by rw [toList_L, toList_L]
theorem l2Put_true (x0 : List ByteArray) (x1 : ByteArray) (hn : x0.length ≤ 1000000) (d : Nat) : ∀ (x5 : List ByteArray) (i : Nat), i ≤ x0.length → x0.length - i = d → x5.length ≤ i + 1 →
    ∃ r, Ev (fun k => spec_l2Put.l0 k x0 x1 x5 true (i : Int)) r ∧ LL r = if L x1 ∈ (LL x0).drop i then LL x0 else LL x5 ++ (LL x0).drop i := by
  have hz := LL_length x0
  induction d with
  | zero =>
    intro x5 i h1 h2 h3
    refine ⟨x5, ev_succ ?_, ?_⟩
    · simp only [spec_l2Put.l0]
      exact ev_neg (by omega) (ev_pos trivial (ev_some rfl))
    · rw [List.drop_eq_nil_of_le (by omega)]; simp
  | succ d ih =>
    intro x5 i h1 h2 h3
    have hr := L_rd x0 i
    obtain ⟨y, hy⟩ : ∃ y, rdOf ByteArray.empty x0 (i : Int) = y := ⟨_, rfl⟩
    rw [hy] at hr
    have hdrop : (LL x0).drop i = L y :: (LL x0).drop (i + 1) := by rw [drop_cons [] (by omega), ← hr]
    by_cases e : L y = L x1
    · refine ⟨x0, ev_succ ?_, ?_⟩
      · simp only [spec_l2Put.l0, hy]
        exact ev_pos (by omega) (ev_pos (by omega) (ev_pos (L_eq_iff.2 e) (ev_some rfl)))
      · rw [hdrop, if_pos (by simp [e])]
    · obtain ⟨r, hr, he⟩ := ih (x5 ++ [y]) (i + 1) (by omega) (by omega) (by simp; omega)
      refine ⟨r, ev_succ ?_, ?_⟩
      · simp only [spec_l2Put.l0, hy]
        refine ev_pos (by omega) (ev_pos (by omega) (ev_neg (fun q => e (L_eq_iff.1 q)) (ev_pos trivial (ev_pos (by omega) ?_))))
        rw [w64 (by omega) (by omega)]; exact hr
      · rw [he, hdrop]
        have hm : (L x1 ∈ L y :: (LL x0).drop (i + 1)) ↔ L x1 ∈ (LL x0).drop (i + 1) := by
          rw [List.mem_cons]
          exact ⟨fun h => h.resolve_left (fun q => e q.symm), .inr⟩
        by_cases m : L x1 ∈ (LL x0).drop (i + 1)
        · rw [if_pos m, if_pos (hm.2 m)]
        · rw [if_neg m, if_neg (fun q => m (hm.1 q)), LL_append]
          simp [LL]
theorem l2Put_false (x0 : List ByteArray) (x1 : ByteArray) (hn : x0.length ≤ 1000000) (d : Nat) : ∀ (x5 : List ByteArray) (i : Nat), i ≤ x0.length → x0.length - i = d → x5.length ≤ i →
    ∃ r, Ev (fun k => spec_l2Put.l0 k x0 x1 x5 false (i : Int)) r ∧ LL r = if L x1 ∈ (LL x0).drop i then LL x0 else LL x5 ++ putN (L x1) ((LL x0).drop i) := by
  have hz := LL_length x0
  induction d with
  | zero =>
    intro x5 i h1 h2 h3
    refine ⟨x5 ++ [x1], ev_succ ?_, ?_⟩
    · simp only [spec_l2Put.l0]
      exact ev_neg (by omega) (ev_neg (by simp) (ev_pos (by omega) (ev_some rfl)))
    · rw [List.drop_eq_nil_of_le (by omega), LL_append]
      simp [putN, LL]
  | succ d ih =>
    intro x5 i h1 h2 h3
    have hr := L_rd x0 i
    obtain ⟨y, hy⟩ : ∃ y, rdOf ByteArray.empty x0 (i : Int) = y := ⟨_, rfl⟩
    rw [hy] at hr
    have hdrop : (LL x0).drop i = L y :: (LL x0).drop (i + 1) := by rw [drop_cons [] (by omega), ← hr]
    by_cases e : L y = L x1
    · refine ⟨x0, ev_succ ?_, ?_⟩
      · simp only [spec_l2Put.l0, hy]
        exact ev_pos (by omega) (ev_pos (by omega) (ev_pos (L_eq_iff.2 e) (ev_some rfl)))
      · rw [hdrop, if_pos (by simp [e])]
    · have hm : (L x1 ∈ L y :: (LL x0).drop (i + 1)) ↔ L x1 ∈ (LL x0).drop (i + 1) := by
        rw [List.mem_cons]
        exact ⟨fun h => h.resolve_left (fun q => e q.symm), .inr⟩
      by_cases lt : L x1 < L y
      · obtain ⟨r, hr, he⟩ := l2Put_true x0 x1 hn d (x5 ++ [x1] ++ [y]) (i + 1) (by omega) (by omega) (by simp; omega)
        refine ⟨r, ev_succ ?_, ?_⟩
        · simp only [spec_l2Put.l0, hy]
          refine ev_pos (by omega) (ev_pos (by omega) (ev_neg (fun q => e (L_eq_iff.1 q)) (ev_neg (by simp) (ev_pos (by rw [less_L, decide_eq_true_eq, toList_L, toList_L]; exact lt) (ev_pos (by omega) (ev_bindc rfl (ev_pos (by simp; omega) ?_)))))))
          rw [w64 (by omega) (by omega)]; exact hr
        · rw [he, hdrop]
          by_cases m : L x1 ∈ (LL x0).drop (i + 1)
          · rw [if_pos m, if_pos (hm.2 m)]
          · rw [if_neg m, if_neg (fun q => m (hm.1 q)), putN, if_pos lt, LL_append, LL_append]
            simp [LL]
      · obtain ⟨r, hr, he⟩ := ih (x5 ++ [y]) (i + 1) (by omega) (by omega) (by simp; omega)
        refine ⟨r, ev_succ ?_, ?_⟩
        · simp only [spec_l2Put.l0, hy]
          refine ev_pos (by omega) (ev_pos (by omega) (ev_neg (fun q => e (L_eq_iff.1 q)) (ev_neg (by simp) (ev_neg (by rw [less_L, decide_eq_true_eq, toList_L, toList_L]; exact lt) (ev_pos (by omega) ?_)))))
          rw [w64 (by omega) (by omega)]; exact hr
        · rw [he, hdrop]
          by_cases m : L x1 ∈ (LL x0).drop (i + 1)
          · rw [if_pos m, if_pos (hm.2 m)]
          · rw [if_neg m, if_neg (fun q => m (hm.1 q)), putN, if_neg lt, LL_append]
            simp [LL]
theorem l2Put_ev (x0 : List ByteArray) (x1 : ByteArray) (hn : x0.length ≤ 1000000) : ∃ r, Ev (fun k => spec_l2Put.f k x0 x1) r ∧ LL r = putB (LL x0) (L x1) := by
  obtain ⟨r, hr, he⟩ := l2Put_false x0 x1 hn x0.length [] 0 (by omega) (by omega) (by simp)
  refine ⟨r, hr, ?_⟩
  rw [he, List.drop_zero]
  simp [putB, LL]
theorem putN_mem {k x : Key} {K : List Key} : x ∈ putN k K ↔ x = k ∨ x ∈ K := by
  induction K with
  | nil => simp [putN]
  | cons y l ih =>
    rw [putN]
    split
    · simp
    · simp only [List.mem_cons, ih]
      constructor
      · rintro (h | h | h)
        · exact .inr (.inl h)
        · exact .inl h
        · exact .inr (.inr h)
      · rintro (h | h | h)
        · exact .inr (.inl h)
        · exact .inl h
        · exact .inr (.inr h)
theorem putB_mem {k x : Key} {K : List Key} : x ∈ putB K k ↔ x = k ∨ x ∈ K := by
  unfold putB
  split
  · rename_i h
    exact ⟨.inr, fun q => q.elim (fun e => e ▸ h) id⟩
  · exact putN_mem
theorem putN_length {k : Key} {K : List Key} : (putN k K).length = K.length + 1 := by
  induction K with
  | nil => rfl
  | cons y l ih => rw [putN]; split <;> simp [ih]
theorem putB_length {k : Key} {K : List Key} : (putB K k).length ≤ K.length + 1 := by
  unfold putB
  split
  · omega
  · rw [putN_length]; omega
theorem putN_sorted {k : Key} {K : List Key} (hK : K.Pairwise (· < ·)) (hk : k ∉ K) : (putN k K).Pairwise (· < ·) := by
  induction K with
  | nil => simp [putN]
  | cons y l ih =>
    have h2 := List.pairwise_cons.1 hK
    rw [putN]
    by_cases c : k < y
    · rw [if_pos c]
      refine List.pairwise_cons.2 ⟨fun x hx => ?_, hK⟩
      rcases List.mem_cons.1 hx with rfl | hx
      · exact c
      · exact key_trans c (h2.1 x hx)
    · rw [if_neg c]
      refine List.pairwise_cons.2 ⟨fun x hx => ?_, ih h2.2 (fun q => hk (by simp [q]))⟩
      rcases putN_mem.1 hx with e | hx
      · rw [e]
        rcases key_le_total k y with h | h | h
        · exact absurd h c
        · exact absurd (by simp [h]) hk
        · exact h
      · exact h2.1 x hx
theorem putB_sorted {k : Key} {K : List Key} (hK : K.Pairwise (· < ·)) : (putB K k).Pairwise (· < ·) := by
  unfold putB
  split
  · exact hK
  · rename_i h; exact putN_sorted hK h
structure SOk (K : List Key) : Prop where
  ok : ∀ k ∈ K, KOk k
  sorted : K.Pairwise (· < ·)
theorem sok_put {K : List Key} (h : SOk K) {k : Key} (hk : KOk k) : SOk (putB K k) :=
  ⟨fun x hx => (putB_mem.1 hx).elim (fun e => e ▸ hk) (h.ok x), putB_sorted h.sorted⟩
theorem LL_mem {l : List ByteArray} {x : ByteArray} (h : x ∈ l) : L x ∈ LL l := List.mem_map_of_mem h
theorem keys_l0_ev {b : List Int} (hb : By b) (d : Nat) : ∀ (x5 : List ByteArray) (p : Int), 0 ≤ p → p + 20 * d ≤ 600000 → SOk (LL x5) → x5.length + d ≤ 100 →
    ∃ s q, Ev (fun k => spec_l71Keys.l0 k x5 (d : Int) b p) (s, q) ∧ SOk (LL s) ∧ s.length ≤ x5.length + d ∧ p ≤ q ∧ q ≤ p + 20 * d := by
  induction d with
  | zero =>
    intro x5 p h0 h1 h2 h3
    refine ⟨x5, p, ev_succ ?_, h2, by omega, by omega, by omega⟩
    simp only [spec_l71Keys.l0]
    exact ev_neg (by omega) (ev_some rfl)
  | succ d ih =>
    intro x5 p h0 h1 h2 h3
    obtain ⟨s, q, hs, ks, q0, q1⟩ := near_ev hb p h0 (by omega) x5 (by omega) (fun x hx => h2.ok _ (LL_mem hx))
    obtain ⟨r, hr, he⟩ := l2Put_ev x5 s (by omega)
    have hl : r.length ≤ x5.length + 1 := by
      have := putB_length (k := L s) (K := LL x5)
      rw [← he, LL_length, LL_length] at this; exact this
    obtain ⟨s', q', hs', k', l', a0, a1⟩ := ih r q (by omega) (by omega) (by rw [he]; exact sok_put h2 ks) (by omega)
    refine ⟨s', q', ev_succ ?_, k', by omega, by omega, by omega⟩
    simp only [spec_l71Keys.l0]
    refine ev_pos (by omega) (Ev.bind hs (Ev.bind hr ?_))
    rw [w64 (by omega) (by omega), show ((d + 1 : Nat) : Int) - 1 = (d : Int) by omega]
    exact hs'
theorem keys_ev {b : List Int} (hb : By b) (p : Int) (h0 : 0 ≤ p) (h1 : p ≤ 100000) (n : Nat) (hn : n ≤ 30) :
    ∃ s q, Ev (fun k => spec_l71Keys.f k b p (n : Int)) (s, q) ∧ SOk (LL s) ∧ s.length ≤ n ∧ p ≤ q ∧ q ≤ p + 1000 := by
  obtain ⟨r, hr, g0, g1, _⟩ := pick_ev hb p h0 (by omega) ((n : Int) + 1) (by omega)
  have g1 := g1 (by omega)
  obtain ⟨m, rfl⟩ : ∃ m : Nat, r = (m : Int) := ⟨r.toNat, by omega⟩
  obtain ⟨s, q, hs, k, l, a0, a1⟩ := keys_l0_ev hb m [] (p + 1) (by omega) (by omega) ⟨by simp [LL], by simp [LL]⟩ (by simp; omega)
  refine ⟨s, q, ?_, k, by simp at l; omega, by omega, by omega⟩
  unfold spec_l71Keys.f
  rw [w64 (i := (n : Int) + 1) (by omega) (by omega)]
  exact Ev.bind hr hs
end Go.Proofs.Ytonagfbadoacjaa.Pb
end
section
set_option linter.unusedVariables false
set_option linter.unusedSimpArgs false
namespace Go.Proofs.Ytonagfbadoacjaa.Pb
open Go Go.RowKit Go.Proofs.YtonagfbadoacjaaW.PrintWords Go.Proofs.YtonagfbadoacjaaW.PrintLast Go.Proofs.YtonagfbadoacjaaW.PrintMore Go.Proofs.Ytonagfbadoacjaa.Trie Go.Proofs.Ytonagfbadoacjaa.Q
def notLess (x : ByteArray) (y : ByteArray) : Bool := !decide (L y < L x)
def firstOf (o : Option ByteArray) : ByteArray × Bool := match o with | some y => (y, true) | none => ((⟨#[]⟩ : ByteArray), false)
def firstB (l : List ByteArray) (x : ByteArray) : ByteArray × Bool := if keysB (LL l) then firstOf (l.find? (notLess x)) else ((⟨#[]⟩ : ByteArray), false)
theorem less_iff (y x : ByteArray) : (Op.bytesLess y.toList x.toList = true) ↔ L y < L x := by
  rw [less_L, decide_eq_true_eq, toList_L, toList_L]
theorem spec_KeyFirst_l0 (l : List ByteArray) (hl : SzL l) (x : ByteArray) (hn : l.length ≤ 8796093022208) (d : Nat) : ∀ i : Nat, i ≤ l.length → l.length - i = d →
    Ev (fun k => spec_KeyFirst.l0 k l x (i : Int)) (if keysB (LL l) then firstOf ((l.drop i).find? (notLess x)) else ((⟨#[]⟩ : ByteArray), false)) := by
  induction d with
  | zero =>
    intro i h1 h2
    refine ev_succ ?_
    simp only [spec_KeyFirst.l0]
    refine ev_neg (by omega) (ev_succ ?_)
    simp only [spec_KeyFirst.j1]
    refine ev_neg (by simp) (ev_some ?_)
    rw [List.drop_eq_nil_of_le (by omega)]
    split <;> rfl
  | succ d ih =>
    intro i h1 h2
    refine ev_succ ?_
    simp only [spec_KeyFirst.l0]
    refine ev_pos (by omega) (Ev.bind (spec_KeysOk_ev l hl) (ev_succ ?_))
    simp only [spec_KeyFirst.j1]
    have ih := ih (i + 1) (by omega) (by omega)
    cases hk : keysB (LL l) with
    | false => exact ev_neg (by simp) (ev_some rfl)
    | true =>
      rw [hk] at ih
      refine ev_pos rfl (ev_pos (by omega) (ev_pos (by omega) ?_))
      have hg : rdOf ByteArray.empty l (i : Int) = l.getD i ByteArray.empty := rfl
      rw [drop_cons ByteArray.empty (by omega), List.find?_cons]
      rw [w64 (by omega) (by omega)]
      by_cases c : L (l.getD i ByteArray.empty) < L x
      · have hb : notLess x (l.getD i ByteArray.empty) = false := by unfold notLess; rw [decide_eq_true c]; rfl
        refine ev_pos ((less_iff _ _).2 c) ?_
        rw [hb]; exact ih
      · have hb : notLess x (l.getD i ByteArray.empty) = true := by unfold notLess; rw [decide_eq_false c]; rfl
        refine ev_neg (fun q => c ((less_iff _ _).1 q)) (ev_some ?_)
        rw [hb]; rfl
theorem spec_KeyFirst_ev (l : List ByteArray) (hl : SzL l) (x : ByteArray) : Ev (fun k => spec_KeyFirst.f k l x) (firstB l x) := by
  have := spec_KeyFirst_l0 l hl x hl.len l.length 0 (by omega) (by omega)
  simpa [spec_KeyFirst.f, firstB] using this
theorem impl_KeyFirst_l0 (l : List ByteArray) (hl : SzL l) (x : ByteArray) (d : Nat) : ∀ i : Nat, i ≤ l.length → l.length - i = d →
    Ev (fun k => impl_KeyFirst.l0 k x l (l.length : Int) (i : Int)) (firstOf ((l.drop i).find? (notLess x))) := by
  have hn := hl.len
  induction d with
  | zero =>
    intro i h1 h2
    refine ev_succ ?_
    simp only [impl_KeyFirst.l0]
    refine ev_neg (by omega) (ev_some ?_)
    rw [List.drop_eq_nil_of_le (by omega)]
    rfl
  | succ d ih =>
    intro i h1 h2
    refine ev_succ ?_
    simp only [impl_KeyFirst.l0]
    have ih := ih (i + 1) (by omega) (by omega)
    refine ev_pos (by omega) (ev_pos (by omega) (ev_pos (by omega) ?_))
    have hg : rdOf ByteArray.empty l (i : Int) = l.getD i ByteArray.empty := rfl
    rw [drop_cons ByteArray.empty (by omega), List.find?_cons]
    rw [w64 (by omega) (by omega)]
    by_cases c : L (l.getD i ByteArray.empty) < L x
    · have hb : notLess x (l.getD i ByteArray.empty) = false := by unfold notLess; rw [decide_eq_true c]; rfl
      refine ev_pos ((less_iff _ _).2 c) ?_
      rw [hb]; exact ih
    · have hb : notLess x (l.getD i ByteArray.empty) = true := by unfold notLess; rw [decide_eq_false c]; rfl
      refine ev_neg (fun q => c ((less_iff _ _).1 q)) (ev_some ?_)
      rw [hb]; rfl
theorem impl_KeyFirst_ev (l : List ByteArray) (hl : SzL l) (x : ByteArray) : Ev (fun k => impl_KeyFirst.f k l x) (firstB l x) := by
  unfold impl_KeyFirst.f
  refine Ev.bind (impl_KeysOk_ev l hl) ?_
  unfold firstB
  cases hk : keysB (LL l) with
  | false => exact ev_neg (by simp) (ev_some (by simp))
  | true => exact ev_pos rfl (impl_KeyFirst_l0 l hl x l.length 0 (by omega) (by omega))
theorem ltIn_l0 (l : List ByteArray) (hl : SzL l) (x : ByteArray) (d : Nat) : ∀ i : Nat, i ≤ l.length → l.length - i = d →
    Ev (fun k => laws_ltIn.l0 k l x (i : Int)) (decide (L x ∈ (LL l).drop i)) := by
  have hn := hl.len
  have hz := LL_length l
  induction d with
  | zero =>
    intro i h1 h2
    refine ev_succ ?_
    simp only [laws_ltIn.l0]
    refine ev_neg (by omega) (ev_some ?_)
    rw [List.drop_eq_nil_of_le (by omega)]
    simp
  | succ d ih =>
    intro i h1 h2
    refine ev_succ ?_
    simp only [laws_ltIn.l0]
    have hr := L_rd l i
    have hdrop : (LL l).drop i = L (rdOf ByteArray.empty l (i : Int)) :: (LL l).drop (i + 1) := by rw [drop_cons [] (by omega), ← hr]
    refine ev_pos (by omega) (ev_pos (by omega) ?_)
    rw [w64 (by omega) (by omega), hdrop]
    by_cases e : L (rdOf ByteArray.empty l (i : Int)) = L x
    · exact ev_pos (L_eq_iff.2 e) (ev_some (by rw [eq_comm, decide_eq_true_eq]; simp [e]))
    · refine ev_neg (fun q => e (L_eq_iff.1 q)) (ev_eq (ih (i + 1) (by omega) (by omega)) ?_)
      rw [decide_eq_decide, List.mem_cons]
      exact ⟨.inr, fun h => h.resolve_left (fun q => e q.symm)⟩
theorem ltIn_ev (l : List ByteArray) (hl : SzL l) (x : ByteArray) : Ev (fun k => laws_ltIn.f k l x) (decide (L x ∈ LL l)) := by
  have := ltIn_l0 l hl x l.length 0 (by omega) (by omega)
  simpa [laws_ltIn.f] using this
theorem mess_l0_ev (b : List Int) (p : Int) (d : Nat) : ∀ (x3 : List ByteArray) (i : Nat), 30 - i = d → i ≤ 30 → SOk (LL x3) → x3.length ≤ 10 + i →
    ∃ s, Ev (fun k => spec_l71Mess.l0 k x3 (i : Int) b p) (s, p) ∧ SOk (LL s) ∧ s.length ≤ 40 := by
  induction d with
  | zero =>
    intro x3 i h1 h2 h3 h4
    refine ⟨x3, ev_succ ?_, h3, by omega⟩
    simp only [spec_l71Mess.l0]
    exact ev_neg (by omega) (ev_some rfl)
  | succ d ih =>
    intro x3 i h1 h2 h3 h4
    have e1 : Int.tmod (i : Int) 5 = ((i % 5 : Nat) : Int) := by rw [Int.tmod_eq_emod_of_nonneg (by omega)]; omega
    have e2 : wrap64 (Int.tdiv (i : Int) 5) = ((i / 5 : Nat) : Int) := by rw [Int.tdiv_eq_ediv_of_nonneg (by omega), w64 (by omega) (by omega)]; omega
    have sm : ∀ j : Nat, j < 5 → ∃ u : ByteArray, rdOf ByteArray.empty ([(⟨#[]⟩ : ByteArray), (⟨#[97]⟩ : ByteArray), (⟨#[98]⟩ : ByteArray), (⟨#[99]⟩ : ByteArray), (⟨#[100]⟩ : ByteArray)] : List ByteArray) (j : Int) = u ∧ (L u).length ≤ 1 ∧ ∀ c ∈ L u, 97 ≤ c.toNat ∧ c.toNat ≤ 100 := by
      intro j hj
      have : j = 0 ∨ j = 1 ∨ j = 2 ∨ j = 3 ∨ j = 4 := by omega
      rcases this with rfl | rfl | rfl | rfl | rfl <;> refine ⟨_, rfl, by decide, by decide⟩
    have sm2 : ∀ j : Nat, j < 6 → ∃ u : ByteArray, rdOf ByteArray.empty ([(⟨#[]⟩ : ByteArray), (⟨#[97]⟩ : ByteArray), (⟨#[98]⟩ : ByteArray), (⟨#[99]⟩ : ByteArray), (⟨#[100]⟩ : ByteArray), (⟨#[100, 97]⟩ : ByteArray)] : List ByteArray) (j : Int) = u ∧ (L u).length ≤ 2 ∧ ∀ c ∈ L u, 97 ≤ c.toNat ∧ c.toNat ≤ 100 := by
      intro j hj
      have : j = 0 ∨ j = 1 ∨ j = 2 ∨ j = 3 ∨ j = 4 ∨ j = 5 := by omega
      rcases this with rfl | rfl | rfl | rfl | rfl | rfl <;> refine ⟨_, rfl, by decide, by decide⟩
    obtain ⟨u, hu, lu, au⟩ := sm (i % 5) (by omega)
    obtain ⟨v, hv, lv, av⟩ := sm2 (i / 5) (by omega)
    have su := size_L u
    have sv := size_L v
    have hd : (L (⟨#[100]⟩ : ByteArray)) = [100] := rfl
    have hL : L (((⟨#[100]⟩ : ByteArray) ++ u) ++ v) = [100] ++ L u ++ L v := by rw [L_append, L_append, hd]
    have hk : KOk (L (((⟨#[100]⟩ : ByteArray) ++ u) ++ v)) := by
      rw [hL]
      refine ⟨by simp; omega, fun c hc => ?_⟩
      simp only [List.mem_append, List.mem_singleton] at hc
      rcases hc with (rfl | hc) | hc
      · decide
      · exact au c hc
      · exact av c hc
    obtain ⟨r, hr, he⟩ := l2Put_ev x3 (((⟨#[100]⟩ : ByteArray) ++ u) ++ v) (by omega)
    have hl : r.length ≤ x3.length + 1 := by
      have := putB_length (k := L (((⟨#[100]⟩ : ByteArray) ++ u) ++ v)) (K := LL x3)
      rw [← he, LL_length, LL_length] at this; exact this
    obtain ⟨s, hs, ks, ls⟩ := ih r (i + 1) (by omega) (by omega) (by rw [he]; exact sok_put h3 hk) (by omega)
    refine ⟨s, ev_succ ?_, ks, ls⟩
    have hsz : ((⟨#[100]⟩ : ByteArray) ++ u).size = 1 + u.size := ByteArray.size_append
    simp only [spec_l71Mess.l0]
    rw [e1, e2]
    refine ev_pos (by omega) (ev_bindc rfl (ev_pos (by omega) (ev_pos (by simp only [List.length_cons, List.length_nil]; omega) ?_)))
    rw [hu]
    refine ev_pos (by omega) (ev_bindc rfl (ev_pos (by omega) (ev_pos (by simp only [List.length_cons, List.length_nil]; omega) ?_)))
    rw [hv]
    refine ev_pos (by rw [hsz]; omega) (Ev.bind hr ?_)
    rw [w64 (by omega) (by omega)]
    exact hs
theorem sok_short {l : List ByteArray} (h : SOk (LL l)) : ∀ x ∈ l, (L x).length ≤ 10 := fun x hx => by
  have := (h.ok _ (LL_mem hx)).len; omega
theorem mess_ev {b : List Int} (hb : By b) (p : Int) (h0 : 0 ≤ p) (h1 : p ≤ 50000) :
    ∃ s q, Ev (fun k => spec_l71Mess.f k b p) (s, q) ∧ (∀ x ∈ s, (L x).length ≤ 10) ∧ s.length ≤ 40 ∧ p ≤ q ∧ q ≤ p + 2000 := by
  obtain ⟨l, q, hl, kl, nl, q0, q1⟩ := keys_ev hb p h0 (by omega) 8 (by omega)
  obtain ⟨m, hm, m0, m1, _⟩ := pick_ev hb q (by omega) (by omega) 5 (by omega)
  have sh := sok_short kl
  have start : ∀ r, Ev (fun k => (if m = 0 then (if l.length < 8796093022208 then (some ((l ++ [(⟨#[97]⟩ : ByteArray)]), q + 1)) else (none)) else (if m = 1 then ((some (([(⟨#[120]⟩ : ByteArray), (⟨#[101]⟩ : ByteArray)] : List ByteArray) : List ByteArray)).bind fun y585 => (if l.length + y585.length < 8796093022208 then (some ((l ++ y585), q + 1)) else (none))) else (if m = 2 then ((spec_l6Rd_pick.f k b (q + 1) 2).bind fun bt591 => ((spec_l6Many.f k (⟨#[100]⟩ : ByteArray) (wrap64 (5 + bt591.1))).bind fun t593 => (if l.length < 8796093022208 then (some ((l ++ [t593]), bt591.2)) else (none)))) else (if m = 3 then (spec_l71Mess.l0 k l 0 b (q + 1)) else (some (l, q + 1))))))) r → Ev (fun k => spec_l71Mess.f k b p) r := by
    intro r h
    unfold spec_l71Mess.f
    exact Ev.bind hl (Ev.bind hm h)
  by_cases c0 : m = 0
  · refine ⟨l ++ [(⟨#[97]⟩ : ByteArray)], q + 1, start _ (ev_pos c0 (ev_pos (by omega) (ev_some rfl))), fun x hx => ?_, by simp; omega, by omega, by omega⟩
    rcases List.mem_append.1 hx with h | h
    · exact sh x h
    · simp at h; subst h; decide
  · by_cases c1 : m = 1
    · refine ⟨l ++ [(⟨#[120]⟩ : ByteArray), (⟨#[101]⟩ : ByteArray)], q + 1, start _ (ev_neg c0 (ev_pos c1 (ev_bindc rfl (ev_pos (by simp; omega) (ev_some rfl))))), fun x hx => ?_, by simp; omega, by omega, by omega⟩
      rcases List.mem_append.1 hx with h | h
      · exact sh x h
      · simp at h; rcases h with rfl | rfl <;> decide
    · by_cases c2 : m = 2
      · obtain ⟨z, hz, z0, z1, _⟩ := pick_ev hb (q + 1) (by omega) (by omega) 2 (by omega)
        have z1 := z1 (by omega)
        obtain ⟨n, hn⟩ : ∃ n : Nat, 5 + z = (n : Int) := ⟨(5 + z).toNat, by omega⟩
        have h21 : (⟨#[100]⟩ : ByteArray).size = 1 := rfl
        have h20 : (⟨#[]⟩ : ByteArray).size = 0 := rfl
        obtain ⟨s, hs, hsz⟩ := many_ev 10 (by omega) n (⟨#[100]⟩ : ByteArray) (⟨#[]⟩ : ByteArray) (by omega) (by rw [h21]; omega) (by rw [h21, h20]; omega)
        refine ⟨l ++ [s], q + 1 + 1, start _ (ev_neg c0 (ev_neg c1 (ev_pos c2 (Ev.bind hz ?_)))), fun x hx => ?_, by simp; omega, by omega, by omega⟩
        · simp only []
          rw [w64 (i := 5 + z) (by omega) (by omega), hn]
          exact Ev.bind hs (ev_pos (by omega) (ev_some rfl))
        · rcases List.mem_append.1 hx with h | h
          · exact sh x h
          · simp at h; subst h; rw [← size_L]; exact hsz
      · by_cases c3 : m = 3
        · obtain ⟨s, hs, ks, ls⟩ := mess_l0_ev b (q + 1) 30 l 0 (by omega) (by omega) kl (by omega)
          exact ⟨s, q + 1, start _ (ev_neg c0 (ev_neg c1 (ev_neg c2 (ev_pos c3 hs)))), sok_short ks, ls, by omega, by omega⟩
        · exact ⟨l, q + 1, start _ (ev_neg c0 (ev_neg c1 (ev_neg c2 (ev_neg c3 (ev_some rfl))))), sh, by omega, by omega, by omega⟩
theorem szl_of {s : List ByteArray} (h : ∀ x ∈ s, (L x).length ≤ 10) (hl : s.length ≤ 1000) : SzL s := ⟨by omega, fun x hx => by have := h x hx; rw [size_L]; omega⟩
theorem DrawKeyFirst_ev (l0 : List Int) (hl : l0.length ≤ maxLen) (hw : ∀ x ∈ l0, (Lit.int .u8 x).wf = true) :
    ∃ s x, Ev (fun k => spec_DrawKeyFirst.f k l0) (s, x) ∧ SzL s ∧ x.size ≤ 10 := by
  obtain ⟨b, ho, hb⟩ := open_ev l0 hl hw
  obtain ⟨s, q, hs, ks, ns, q0, q1⟩ := keys_ev hb 0 (by omega) (by omega) 10 (by omega)
  obtain ⟨m, hm, m0, m1, _⟩ := pick_ev hb q (by omega) (by omega) 12 (by omega)
  by_cases c : m = 0
  · obtain ⟨s', q', hs', ks', ns', a0, a1⟩ := mess_ev hb (q + 1) (by omega) (by omega)
    obtain ⟨x, q'', hx, lx, _, _⟩ := near_ev' hb q' (by omega) (by omega) s' (by omega) ks'
    refine ⟨s', x, ?_, szl_of ks' (by omega), by rw [size_L]; exact lx⟩
    unfold spec_DrawKeyFirst.f
    exact ev_bindc ho (Ev.bind hs (Ev.bind hm (ev_pos c (Ev.bind hs' (Ev.bind hx (ev_some rfl))))))
  · obtain ⟨x, q'', hx, lx, _, _⟩ := near_ev' hb (q + 1) (by omega) (by omega) s (by omega) (sok_short ks)
    refine ⟨s, x, ?_, szl_of (sok_short ks) (by omega), by rw [size_L]; exact lx⟩
    unfold spec_DrawKeyFirst.f
    exact ev_bindc ho (Ev.bind hs (Ev.bind hm (ev_neg c (Ev.bind hx (ev_some rfl)))))
end Go.Proofs.Ytonagfbadoacjaa.Pb
end
section
set_option linter.unusedVariables false
set_option linter.unusedSimpArgs false
namespace Go.Proofs.Ytonagfbadoacjaa.Pure
open Go Go.RowKit Go.Proofs.YtonagfbadoacjaaW.PrintWords Go.Proofs.YtonagfbadoacjaaW.PrintLast Go.Proofs.YtonagfbadoacjaaW.PrintMore Go.Proofs.Ytonagfbadoacjaa.Trie Go.Proofs.Ytonagfbadoacjaa.Q Go.Proofs.Ytonagfbadoacjaa.Pb
theorem find_sorted {l : List ByteArray} {x y z : ByteArray} (hs : (LL l).Pairwise (· < ·)) (hf : l.find? (notLess x) = some y) (hz : z ∈ l) (hx : ¬ L z < L x) : ¬ L z < L y := by
  obtain ⟨hy, l1, bs, rfl, ha⟩ := List.find?_eq_some_iff_append.1 hf
  rw [LL_append] at hs
  have h2 := (List.pairwise_append.1 hs).2.1
  rcases List.mem_append.1 hz with h | h
  · have := ha z h
    unfold notLess at this
    rw [decide_eq_false hx] at this
    exact absurd this (by simp)
  · rcases List.mem_cons.1 h with rfl | h
    · exact key_irrefl _
    · have h3 : LL (y :: bs) = L y :: LL bs := rfl
      rw [h3] at h2
      exact key_asymm ((List.pairwise_cons.1 h2).1 _ (LL_mem h))
theorem law_l0 (l : List ByteArray) (hl : SzL l) (x : ByteArray) (hs : (LL l).Pairwise (· < ·)) (d : Nat) : ∀ i : Nat, i ≤ l.length → l.length - i = d →
    Ev (fun k => laws_FnKeyFirst.l0 k l x (firstOf (l.find? (notLess x))).1 (firstOf (l.find? (notLess x))).2 (i : Int)) true := by
  have hn := hl.len
  induction d with
  | zero =>
    intro i h1 h2
    refine ev_succ ?_
    simp only [laws_FnKeyFirst.l0]
    refine ev_neg (by omega) ?_
    cases hf : l.find? (notLess x) with
    | none => exact ev_neg (by simp [firstOf]) (ev_some rfl)
    | some y =>
      refine ev_pos rfl (ev_neg ?_ (Ev.bind (ltIn_ev l hl y) (ev_some ?_)))
      · intro q
        have h := List.find?_some hf
        unfold notLess at h
        rw [decide_eq_true (show L y < L x from (less_iff _ _).1 q)] at h
        exact absurd h (by simp)
      · rw [decide_eq_true_eq]
        exact LL_mem (List.mem_of_find?_eq_some hf)
  | succ d ih =>
    intro i h1 h2
    refine ev_succ ?_
    simp only [laws_FnKeyFirst.l0]
    have ih := ih (i + 1) (by omega) (by omega)
    refine ev_pos (by omega) (ev_pos (by omega) ?_)
    have hg : rdOf ByteArray.empty l (i : Int) = l.getD i ByteArray.empty := rfl
    have hmem : l.getD i ByteArray.empty ∈ l := by rw [getD_lt _ (by omega)]; exact List.getElem_mem _
    rw [hg, w64 (by omega) (by omega)]
    by_cases c : L (l.getD i ByteArray.empty) < L x
    · exact ev_pos ((less_iff _ _).2 c) ih
    · refine ev_neg (fun q => c ((less_iff _ _).1 q)) ?_
      cases hf : l.find? (notLess x) with
      | none =>
        have := List.find?_eq_none.1 hf _ hmem
        unfold notLess at this
        rw [decide_eq_false c] at this
        exact absurd rfl this
      | some y =>
        refine ev_pos rfl (ev_neg (fun q => find_sorted hs hf hmem c ((less_iff _ _).1 q)) ?_)
        rw [hf] at ih
        exact ih
theorem FnKeyFirst : laws_FnKeyFirst.Pure := by
  intro l0 h0 h1 h2
  refine Ev.rounds ?_
  unfold laws_FnKeyFirst.f
  by_cases c : (l0.length : Int) > 1048576
  · exact ev_pos c (ev_some rfl)
  · obtain ⟨s, x, hd, hs, hx⟩ := DrawKeyFirst_ev l0 h0 h2
    refine ev_neg c (Ev.bind hd (Ev.bind (spec_KeyFirst_ev s hs x) (Ev.bind (impl_KeyFirst_ev s hs x) ?_)))
    refine ev_neg (by simp) (ev_pos rfl (Ev.bind (spec_KeysOk_ev s hs) (ev_succ ?_)))
    simp only [laws_FnKeyFirst.j0]
    cases hk : keysB (LL s) with
    | false => exact ev_pos rfl (ev_pos (by simp) (ev_some (by simp)))
    | true =>
      refine ev_neg (by simp) ?_
      unfold firstB
      rw [if_pos hk]
      exact law_l0 s hs x (keysB_iff.1 hk).sorted s.length 0 (by omega) (by omega)
end Go.Proofs.Ytonagfbadoacjaa.Pure
end
