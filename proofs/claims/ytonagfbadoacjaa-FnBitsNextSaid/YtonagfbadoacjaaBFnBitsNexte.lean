/- What the law FnBitsNext needs, part 5: the kit's printed words, the printed functions with their proofs, and plain facts on them. -/
import Derived.Test.YtonagfbadoacjaaBFnBitsNextd
section
namespace Go.Proofs.Ytonagfbadoacjaa.Q
open Go.RowKit Go.Proofs.YtonagfbadoacjaaW.PrintWords Go.Proofs.YtonagfbadoacjaaW.PrintLast Go.Proofs.YtonagfbadoacjaaW.PrintMore
attribute [local go_sem] max2_int min2_int max_two min_two max_three min_three max_four min_four   
set_option linter.unusedVariables false
set_option linter.unusedSimpArgs false
def spec_BitsOne.f (k : Nat) (a0 : ByteArray) (a1 : Int) : Option (Int × Bool) := (spec_BitsOk.f k a0).bind fun t1008 => (if t1008 = true then ((spec_l1Ones.f k a0 (a0.size : Int)).bind fun t1009 => ((spec_l6In.f a1 0 (wrap64 (t1009 - 1))).bind fun t1010 => (if t1010 = true then ((spec_l1One.f k a0 a1).bind fun t1011 => (some (t1011, true))) else (some (0, false))))) else (some (0, false)))
theorem spec_BitsOne.mono : ∀ a0 a1 k, LeO (spec_BitsOne.f k a0 a1) (spec_BitsOne.f (k + 1) a0 a1) := by
  intro a0 a1 k
  unfold spec_BitsOne.f
  repeat' first
      | (with_reducible exact spec_BitsOk.mono _ _)
      | (with_reducible exact spec_l1One.mono _ _ _)
      | (with_reducible exact spec_l1Ones.mono _ _ _)
      | (with_reducible exact LeO.refl _)
      | (with_reducible exact LeO.none _)
      | (with_reducible refine LeO.ite ?_ ?_)
      | (with_reducible refine LeO.bind ?_ (fun _ => ?_))
      | exact spec_BitsOk.mono _ _
      | exact spec_l1One.mono _ _ _
      | exact spec_l1Ones.mono _ _ _
      | exact LeO.none _
      | refine LeO.ite ?_ ?_
      | refine LeO.bind ?_ (fun _ => ?_)
set_option maxHeartbeats 8000000 in
set_option maxRecDepth 100000 in
theorem spec_BitsOne.calls (k : Nat) (a0 : ByteArray) (a1 : Int) (r1 : Int) (r2 : Bool) (w : World) (h : spec_BitsOne.f k a0 a1 = some (r1, r2)) :
    Calls Try.prog 73 #[.string a0, .int .i64 a1] w fun e w' => e = .returned (.tuple #[.int .i64 r1, .bool r2]) ∧ Drawn0 w w' := by
  have H : ((spec_BitsOk.f k a0).bind fun t1008 => (if t1008 = true then ((spec_l1Ones.f k a0 (a0.size : Int)).bind fun t1009 => ((spec_l6In.f a1 0 (wrap64 (t1009 - 1))).bind fun t1010 => (if t1010 = true then ((spec_l1One.f k a0 a1).bind fun t1011 => (some (t1011, true))) else (some (0, false))))) else (some (0, false)))) = some (r1, r2) := h
  clear h
  replace H := Option.bind_eq_some_iff.mp H
  obtain ⟨t1008, A30, H⟩ := H
  (try dsimp only at H)
  have A3 := Aside0.mk A30
  clear A30
  by_cases c4 : t1008 = true
  · subst c4
    have H1 : ((spec_l1Ones.f k a0 (a0.size : Int)).bind fun t1009 => ((spec_l6In.f a1 0 (wrap64 (t1009 - 1))).bind fun t1010 => (if t1010 = true then ((spec_l1One.f k a0 a1).bind fun t1011 => (some (t1011, true))) else (some (0, false))))) = some (r1, r2) := by rw [if_pos rfl] at H; exact H
    clear H
    have H := H1
    clear H1
    replace H := Option.bind_eq_some_iff.mp H
    obtain ⟨t1009, A50, H⟩ := H
    (try dsimp only at H)
    have A5 := Aside0.mk A50
    clear A50
    replace H := Option.bind_eq_some_iff.mp H
    obtain ⟨t1010, A60, H⟩ := H
    (try dsimp only at H)
    have A6 := Aside0.mk A60
    clear A60
    by_cases c7 : t1010 = true
    · subst c7
      have H1 : ((spec_l1One.f k a0 a1).bind fun t1011 => (some (t1011, true))) = some (r1, r2) := by rw [if_pos rfl] at H; exact H
      clear H
      have H := H1
      clear H1
      replace H := Option.bind_eq_some_iff.mp H
      obtain ⟨t1011, A80, H⟩ := H
      (try dsimp only at H)
      have A8 := Aside0.mk A80
      clear A80
      simp only [Option.some.injEq, Prod.mk.injEq] at H
      obtain ⟨rfl, rfl⟩ := H
      go_enter Try.func73, Try.ntmps73
      go_wp2_with (first | ((with_reducible refine gate_callee (f := 69) rfl ?_); refine goesL_ (some 7) rfl rfl Try.func69 (by kernel_rfl) rfl #[.string a0] rfl (by (try simp only [List.map_toArray, List.map_cons, List.map_nil]); first | done | rfl | (simp only [List.length_drop, List.length_take]; rfl)) ?_; (with_reducible refine (spec_BitsOk.calls k a0 true _ A3.out).mono ?_); rintro e w' ⟨rfl, ⟨nd, rfl⟩⟩; refine ⟨_, rfl, ?_⟩) | (go_at_call 107; (with_reducible refine (spec_l1Ones.calls k a0 (a0.size : Int) t1009 _ A5.out).mono ?_); rintro e w' ⟨rfl, ⟨nd, rfl⟩⟩) | (go_at_call 98; (with_reducible refine (spec_l6In.calls a1 0 (wrap64 (t1009 - 1)) true _ A6.out).mono ?_); rintro e w' ⟨rfl, ⟨nd, rfl⟩⟩) | ((with_reducible refine gate_callee (f := 119) rfl ?_); refine goesL_ (some 21) rfl rfl Try.func119 (by kernel_rfl) rfl #[.string a0, .int .i64 a1] rfl (by (try simp only [List.map_toArray, List.map_cons, List.map_nil]); first | done | rfl | (simp only [List.length_drop, List.length_take]; rfl)) ?_; (with_reducible refine (spec_l1One.calls k a0 a1 t1011 _ A8.out).mono ?_); rintro e w' ⟨rfl, ⟨nd, rfl⟩⟩; refine ⟨_, rfl, ?_⟩))
      go_ret2
      exact ⟨by first | rfl | (simp; done) | (simp [*]; done), by repeat (first | exact Drawn0.refl _ | apply Drawn0.step)⟩
    · replace c7 := Bool.eq_false_iff.mpr c7
      subst c7
      have H1 : (some (0, false)) = some (r1, r2) := by rw [if_neg (show ¬ (false = true) by decide)] at H; exact H
      clear H
      have H := H1
      clear H1
      simp only [Option.some.injEq, Prod.mk.injEq] at H
      obtain ⟨rfl, rfl⟩ := H
      go_enter Try.func73, Try.ntmps73
      go_wp2_with (first | ((with_reducible refine gate_callee (f := 69) rfl ?_); refine goesL_ (some 7) rfl rfl Try.func69 (by kernel_rfl) rfl #[.string a0] rfl (by (try simp only [List.map_toArray, List.map_cons, List.map_nil]); first | done | rfl | (simp only [List.length_drop, List.length_take]; rfl)) ?_; (with_reducible refine (spec_BitsOk.calls k a0 true _ A3.out).mono ?_); rintro e w' ⟨rfl, ⟨nd, rfl⟩⟩; refine ⟨_, rfl, ?_⟩) | (go_at_call 107; (with_reducible refine (spec_l1Ones.calls k a0 (a0.size : Int) t1009 _ A5.out).mono ?_); rintro e w' ⟨rfl, ⟨nd, rfl⟩⟩) | (go_at_call 98; (with_reducible refine (spec_l6In.calls a1 0 (wrap64 (t1009 - 1)) false _ A6.out).mono ?_); rintro e w' ⟨rfl, ⟨nd, rfl⟩⟩))
      go_ret2
      exact ⟨by first | rfl | (simp; done) | (simp [*]; done), by repeat (first | exact Drawn0.refl _ | apply Drawn0.step)⟩
  · replace c4 := Bool.eq_false_iff.mpr c4
    subst c4
    have H1 : (some (0, false)) = some (r1, r2) := by rw [if_neg (show ¬ (false = true) by decide)] at H; exact H
    clear H
    have H := H1
    clear H1
    simp only [Option.some.injEq, Prod.mk.injEq] at H
    obtain ⟨rfl, rfl⟩ := H
    go_enter Try.func73, Try.ntmps73
    go_wp2_with (first | ((with_reducible refine gate_callee (f := 69) rfl ?_); refine goesL_ (some 7) rfl rfl Try.func69 (by kernel_rfl) rfl #[.string a0] rfl (by (try simp only [List.map_toArray, List.map_cons, List.map_nil]); first | done | rfl | (simp only [List.length_drop, List.length_take]; rfl)) ?_; (with_reducible refine (spec_BitsOk.calls k a0 false _ A3.out).mono ?_); rintro e w' ⟨rfl, ⟨nd, rfl⟩⟩; refine ⟨_, rfl, ?_⟩))
    go_ret2
    exact ⟨by first | rfl | (simp; done) | (simp [*]; done), by repeat (first | exact Drawn0.refl _ | apply Drawn0.step)⟩
end Go.Proofs.Ytonagfbadoacjaa.Q
end
section
set_option linter.unusedVariables false
set_option linter.unusedSimpArgs false
namespace Go.Proofs.Ytonagfbadoacjaa.Pb
open Go Go.RowKit Go.Proofs.YtonagfbadoacjaaW.PrintWords Go.Proofs.YtonagfbadoacjaaW.PrintLast Go.Proofs.YtonagfbadoacjaaW.PrintMore Go.Proofs.Ytonagfbadoacjaa.Trie Go.Proofs.Ytonagfbadoacjaa.Q
theorem spec_BitsOne_ev (x : ByteArray) (hx : x.size ≤ 140737488355328) (n : Int) (hn : n ≤ 9223372036854775807) : Ev (fun k => spec_BitsOne.f k x n) (bitsOneI (L x) n) := by
  unfold spec_BitsOne.f
  refine Ev.bind (spec_BitsOk_ev x hx) ?_
  unfold bitsOneI
  have hs := size_L x
  cases hb : bitsB (L x) with
  | false => exact ev_neg (by simp) (ev_some (by simp))
  | true =>
    refine ev_pos rfl (Ev.bind (spec_l1Ones_ev x hx _ (by omega)) ?_)
    have hle := onesB_le (L x) (L x).length
    rw [show ((x.size : Nat) : Int).toNat = (L x).length by omega, w64 (by omega) (by omega)]
    refine ev_bindc (spec_l6In_eq _ _ _) ?_
    by_cases c : 0 ≤ n ∧ n ≤ ((onesB (L x) (L x).length : Nat) : Int) - 1
    · obtain ⟨m, rfl⟩ : ∃ m : Nat, n = (m : Int) := ⟨n.toNat, by omega⟩
      rw [Int.toNat_natCast, if_pos ⟨rfl, c.1, (pos_lt_iff _ _).2 (by omega)⟩]
      refine ev_pos (by simpa using c) (Ev.bind (spec_l1One_ev x hx m hn) (ev_some rfl))
    · refine ev_neg (by simpa using c) (ev_some ?_)
      rw [if_neg (fun h => c ⟨h.2.1, by have := (pos_lt_iff _ _).1 h.2.2; omega⟩)]
def nextI (l : List UInt8) (a : Int) : Int × Bool :=
  if bitsB l = true ∧ 0 ≤ a ∧ a ≤ l.length ∧ pos l (onesB l a.toNat) < l.length then ((pos l (onesB l a.toNat) : Int), true) else (0, false)
theorem pos_next {l : List UInt8} {i : Nat} (h : i ≤ l.length) : pos l (onesB l i) = i + pos (l.drop i) 0 := by
  have := pos_drop l i 0 h
  rwa [Nat.zero_add] at this
theorem pos_le : ∀ (l : List UInt8) (m : Nat), pos l m ≤ l.length := by
  intro l
  induction l with
  | nil => intro m; simp [pos]
  | cons c l ih =>
    intro m
    rw [pos]
    have h1 := ih m
    have h2 := ih (m - 1)
    simp only [List.length_cons]
    split
    · split <;> omega
    · omega
theorem spec_BitsNext_l0 (x : ByteArray) (hx : x.size ≤ 140737488355328) (d : Nat) : ∀ i : Nat, i ≤ (L x).length → (L x).length - i = d →
    Ev (fun k => spec_BitsNext.l0 k x (i : Int)) (if i + pos ((L x).drop i) 0 < (L x).length then (((i + pos ((L x).drop i) 0 : Nat) : Int), true) else (0, false)) := by
  have hs := size_L x
  induction d with
  | zero =>
    intro i h1 h2
    refine ev_succ ?_
    simp only [spec_BitsNext.l0]
    refine ev_neg (by omega) (ev_some ?_)
    rw [if_neg (by omega)]
  | succ d ih =>
    intro i h1 h2
    have hi : i < (L x).length := by omega
    refine ev_succ ?_
    simp only [spec_BitsNext.l0]
    refine ev_pos (by omega) (ev_pos (by omega) ?_)
    rw [w64 (i := (i : Int) + 1) (by omega) (by omega), drop_cons 0 hi]
    by_cases c : (L x).getD i 0 = 49
    · refine ev_pos ((bt_is (n := 49) (by omega)).2 c) (ev_some ?_)
      rw [pos, if_pos c, if_pos rfl, if_pos (by omega)]
      rfl
    · refine ev_neg (fun q => c ((bt_is (n := 49) (by omega)).1 q)) ?_
      rw [pos, if_neg c]
      refine ev_eq (ih (i + 1) (by omega) (by omega)) ?_
      rw [show i + (1 + pos ((L x).drop (i + 1)) 0) = i + 1 + pos ((L x).drop (i + 1)) 0 by omega]
theorem spec_BitsNext_ev (x : ByteArray) (hx : x.size ≤ 140737488355328) (a : Int) : Ev (fun k => spec_BitsNext.f k x a) (nextI (L x) a) := by
  unfold spec_BitsNext.f
  refine Ev.bind (spec_BitsOk_ev x hx) ?_
  unfold nextI
  have hs := size_L x
  cases hb : bitsB (L x) with
  | false =>
    refine ev_neg (by simp) (ev_succ ?_)
    simp only [spec_BitsNext.j0]
    exact ev_pos (by simp) (ev_some (by simp))
  | true =>
    refine ev_pos rfl (ev_bindc (spec_l6In_eq _ _ _) (ev_succ ?_))
    simp only [spec_BitsNext.j0]
    by_cases c : 0 ≤ a ∧ a ≤ (x.size : Int)
    · obtain ⟨i, rfl⟩ : ∃ i : Nat, a = (i : Int) := ⟨a.toNat, by omega⟩
      refine ev_neg (by simp only [decide_eq_true c]; simp) ?_
      refine ev_eq (spec_BitsNext_l0 x hx _ i (by omega) rfl) ?_
      rw [Int.toNat_natCast, pos_next (by omega)]
      by_cases q : i + pos ((L x).drop i) 0 < (L x).length
      · have hc : True ∧ (0 : Int) ≤ (i : Int) ∧ (i : Int) ≤ ((L x).length : Int) ∧ i + pos ((L x).drop i) 0 < (L x).length := ⟨trivial, by omega, by omega, q⟩
        rw [if_pos q, if_pos hc]
      · rw [if_neg q, if_neg (fun h => q h.2.2.2)]
    · refine ev_pos (by simp only [decide_eq_false c]; simp) (ev_some ?_)
      rw [if_neg (fun h => c ⟨h.2.1, by omega⟩)]
theorem indexByte_pos : ∀ l : List UInt8, Lib.indexByte l 49 = oneI l 0 := by
  intro l
  induction l with
  | nil => rfl
  | cons c l ih =>
    unfold oneI at ih ⊢
    rw [Lib.indexByte, pos]
    by_cases q : c = 49
    · simp [q]
    · rw [if_neg q]
      simp only [List.length_cons]
      have hq : (c == 49) = false := by simpa using q
      rw [ih, hq, if_neg (by decide)]
      by_cases z : pos l 0 < l.length
      · have z2 : 1 + pos l 0 < l.length + 1 := by omega
        rw [if_pos z, if_pos z2]; simp [hq]; omega
      · have z2 : ¬ 1 + pos l 0 < l.length + 1 := by omega
        rw [if_neg z, if_neg z2]; simp [hq]
theorem impl_BitsNext_ev (x : ByteArray) (hx : x.size ≤ 140737488355328) (a : Int) : Ev (fun k => impl_BitsNext.f k x a) (nextI (L x) a) := by
  unfold impl_BitsNext.f
  refine Ev.bind (impl_BitsOk_ev x hx) ?_
  unfold nextI
  have hs := size_L x
  cases hb : bitsB (L x) with
  | false =>
    refine ev_neg (by simp) (ev_succ ?_)
    simp only [impl_BitsNext.j0]
    exact ev_pos (by simp) (ev_some (by simp))
  | true =>
    refine ev_pos rfl (ev_bindc (impl_in_eq _ _ _) (ev_succ ?_))
    simp only [impl_BitsNext.j0]
    by_cases c : 0 ≤ a ∧ a ≤ (x.size : Int)
    · obtain ⟨i, rfl⟩ : ∃ i : Nat, a = (i : Int) := ⟨a.toNat, by omega⟩
      refine ev_neg (by simp only [decide_eq_true c]; simp) ?_
      refine ev_pos c.1 (ev_pos c.2 ?_)
      rw [Int.toNat_natCast, pos_next (by omega)]
      have e : strings_IndexByte.f (x.extract i x.size) 49 = some (oneI ((L x).drop i) 0) := by
        unfold strings_IndexByte.f
        rw [← indexByte_pos]
        congr 2
        rw [show (x.extract i x.size).data.toList = L (x.extract i x.size) from rfl, L_extract, hs, List.take_of_length_le (Nat.le_refl _)]
      refine ev_bindc e ?_
      unfold oneI
      rw [List.length_drop]
      by_cases q : i + pos ((L x).drop i) 0 < (L x).length
      · have hc : True ∧ (0 : Int) ≤ (i : Int) ∧ (i : Int) ≤ ((L x).length : Int) ∧ i + pos ((L x).drop i) 0 < (L x).length := ⟨trivial, by omega, by omega, q⟩
        have z2 : pos ((L x).drop i) 0 < (L x).length - i := by omega
        rw [if_pos hc, if_pos z2]
        refine ev_neg (by omega) (ev_some ?_)
        rw [w64 (by omega) (by omega)]
        rfl
      · have z2 : ¬ pos ((L x).drop i) 0 < (L x).length - i := by omega
        have hc : ¬ (True ∧ (0 : Int) ≤ (i : Int) ∧ (i : Int) ≤ ((L x).length : Int) ∧ i + pos ((L x).drop i) 0 < (L x).length) := fun h => q h.2.2.2
        rw [if_neg hc, if_neg z2]
        exact ev_pos (by omega) (ev_some rfl)
    · refine ev_pos (by simp only [decide_eq_false c]; simp) (ev_some ?_)
      rw [if_neg (fun h => c ⟨h.2.1, by omega⟩)]
theorem less_ev (s : ByteArray) {b : List Int} (hb : By b) (p : Int) (h0 : 0 ≤ p) (h1 : p ≤ 10000) (n : Int) (g0 : 1 ≤ n) (g1 : n ≤ 100000) :
    ∃ a, Ev (fun k => (spec_l6Rd_pick.f k b p n).bind fun u => (spec_l6Rd_pick.f k b u.2 12).bind fun v => some (s, wrap64 (u.1 - (wrap64 (Int.tdiv v.1 11))))) (s, a) ∧ -1 ≤ a ∧ a < n := by
  obtain ⟨r, hr, e0, e1, _⟩ := pick_ev hb p h0 (by omega) n (by omega)
  have e1 := e1 g0
  obtain ⟨r2, hr2, f0, f1, _⟩ := pick_ev hb (p + 1) (by omega) (by omega) 12 (by omega)
  have f1 := f1 (by omega)
  have hd : Int.tdiv r2 11 = 0 ∨ Int.tdiv r2 11 = 1 := by
    rw [Int.tdiv_eq_ediv_of_nonneg f0]; omega
  refine ⟨r - Int.tdiv r2 11, Ev.bind hr (Ev.bind hr2 (ev_some ?_)), by omega, by omega⟩
  rw [w64 (i := Int.tdiv r2 11) (by omega) (by omega), w64 (by omega) (by omega)]
theorem DrawBitsNext_ev (l : List Int) (hl : l.length ≤ maxLen) (hw : ∀ x ∈ l, (Lit.int .u8 x).wf = true) :
    ∃ s a, Ev (fun k => spec_DrawBitsNext.f k l) (s, a) ∧ s.size ≤ 1000 ∧ -1 ≤ a ∧ a ≤ 10000 := by
  obtain ⟨b, ho, hb⟩ := open_ev l hl hw
  obtain ⟨s, q, hs, g, q0, q1⟩ := bits_ev hb
  obtain ⟨a, ha, a0, a1⟩ := less_ev s hb q q0 (by omega) ((s.size : Int) + 2) (by omega) (by omega)
  refine ⟨s, a, ?_, g, a0, by omega⟩
  unfold spec_DrawBitsNext.f
  refine ev_bindc ho (Ev.bind hs ?_)
  simp only []
  rw [w64 (i := (s.size : Int) + 2) (by omega) (by omega)]
  exact ha
theorem DrawBitsOnes_ev (l : List Int) (hl : l.length ≤ maxLen) (hw : ∀ x ∈ l, (Lit.int .u8 x).wf = true) :
    ∃ s a, Ev (fun k => spec_DrawBitsOnes.f k l) (s, a) ∧ s.size ≤ 1000 ∧ -1 ≤ a ∧ a ≤ 10000 := by
  have := DrawBitsNext_ev l hl hw
  exact this
theorem DrawBitsOne_ev (l : List Int) (hl : l.length ≤ maxLen) (hw : ∀ x ∈ l, (Lit.int .u8 x).wf = true) :
    ∃ s a, Ev (fun k => spec_DrawBitsOne.f k l) (s, a) ∧ s.size ≤ 1000 ∧ -1 ≤ a ∧ a ≤ 10000 := by
  obtain ⟨b, ho, hb⟩ := open_ev l hl hw
  obtain ⟨s, q, hs, g, q0, q1⟩ := bits_ev hb
  have hz := size_L s
  have hle := onesB_le (L s) ((s.size : Int)).toNat
  obtain ⟨a, ha, a0, a1⟩ := less_ev s hb q q0 (by omega) (((onesB (L s) ((s.size : Int)).toNat : Nat) : Int) + 1) (by omega) (by omega)
  refine ⟨s, a, ?_, g, a0, by omega⟩
  unfold spec_DrawBitsOne.f
  refine ev_bindc ho (Ev.bind hs ?_)
  simp only []
  refine Ev.bind (spec_l1Ones_ev s (by omega) _ (by omega)) ?_
  rw [w64 (i := ((onesB (L s) ((s.size : Int)).toNat : Nat) : Int) + 1) (by omega) (by omega)]
  exact ha
end Go.Proofs.Ytonagfbadoacjaa.Pb
end
section
set_option linter.unusedVariables false
set_option linter.unusedSimpArgs false
namespace Go.Proofs.Ytonagfbadoacjaa.Pure
open Go Go.RowKit Go.Proofs.YtonagfbadoacjaaW.PrintWords Go.Proofs.YtonagfbadoacjaaW.PrintLast Go.Proofs.YtonagfbadoacjaaW.PrintMore Go.Proofs.Ytonagfbadoacjaa.Trie Go.Proofs.Ytonagfbadoacjaa.Q Go.Proofs.Ytonagfbadoacjaa.Pb
theorem FnBitsNext : laws_FnBitsNext.Pure := by
  intro l0 h0 h1 h2
  refine Ev.rounds ?_
  unfold laws_FnBitsNext.f
  by_cases c : (l0.length : Int) > 1048576
  · exact ev_pos c (ev_some rfl)
  · obtain ⟨s, a, hd, hs, ha0, ha1⟩ := DrawBitsNext_ev l0 h0 h2
    have hz := size_L s
    refine ev_neg c (Ev.bind hd ?_)
    simp only []
    refine Ev.bind (spec_BitsNext_ev s (by omega) a) (Ev.bind (impl_BitsNext_ev s (by omega) a) ?_)
    refine ev_neg (by simp) (ev_pos rfl (Ev.bind (spec_BitsOk_ev s (by omega)) ?_))
    have plain : Ev (fun k => laws_FnBitsNext.j0 k s a (nextI (L s) a).1 (nextI (L s) a).2 (nextI (L s) a).1 (nextI (L s) a).2 true) true := by
      refine ev_succ ?_
      simp only [laws_FnBitsNext.j0]
      exact ev_pos (by simp) (ev_pos (by simp) (ev_some (by simp)))
    cases hb : bitsB (L s) with
    | false => exact ev_neg (by simp) plain
    | true =>
      refine ev_pos rfl ?_
      by_cases q0 : a < 0
      · exact ev_pos q0 plain
      · refine ev_neg q0 ?_
        by_cases q1 : a > (s.size : Int)
        · rw [decide_eq_true q1]; exact plain
        · rw [decide_eq_false q1]
          obtain ⟨i, rfl⟩ : ∃ i : Nat, a = (i : Int) := ⟨a.toNat, by omega⟩
          refine ev_succ ?_
          simp only [laws_FnBitsNext.j0]
          have hle := onesB_le (L s) i
          refine ev_neg (by simp) (Ev.bind (impl_BitsOnes_ev s (by omega) _) ?_)
          have e : bitsOnesI (L s) (i : Int) = (onesB (L s) i : Int) := by
            unfold bitsOnesI
            rw [if_pos ⟨hb, by omega, by omega⟩, Int.toNat_natCast]
          rw [e]
          refine Ev.bind (impl_BitsOne_ev s (by omega) _ (by omega)) ?_
          by_cases p : pos (L s) (onesB (L s) i) < (L s).length
          · have en : nextI (L s) (i : Int) = (((pos (L s) (onesB (L s) i) : Nat) : Int), true) := by
              unfold nextI
              rw [Int.toNat_natCast, if_pos ⟨hb, by omega, by omega, p⟩]
            have eo : bitsOneI (L s) (onesB (L s) i : Int) = (((pos (L s) (onesB (L s) i) : Nat) : Int), true) := by
              unfold bitsOneI
              rw [Int.toNat_natCast, if_pos ⟨hb, by omega, p⟩]
            rw [en, eo]
            have hn := pos_next (l := L s) (i := i) (by omega)
            refine ev_pos (by simp) (ev_pos rfl (ev_pos rfl (ev_some ?_)))
            simp only [ge_iff_le, decide_eq_true_eq]; omega
          · have en : nextI (L s) (i : Int) = (0, false) := by
              unfold nextI
              rw [Int.toNat_natCast, if_neg (fun h => p h.2.2.2)]
            have eo : bitsOneI (L s) (onesB (L s) i : Int) = (0, false) := by
              unfold bitsOneI
              rw [Int.toNat_natCast, if_neg (fun h => p h.2.2)]
            rw [en, eo]
            exact ev_pos (by simp) (ev_neg (by simp) (ev_some rfl))
end Go.Proofs.Ytonagfbadoacjaa.Pure
end
