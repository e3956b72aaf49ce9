/- What the law FnBitsOne needs, part 5: the kit's printed words, the printed functions with their proofs, and plain facts on them. -/
import Derived.Test.YtonagfbadoacjaaBFnBitsOned
section
set_option linter.unusedVariables false
set_option linter.unusedSimpArgs false
namespace Go.Proofs.Ytonagfbadoacjaa.Pb
open Go Go.RowKit Go.Proofs.YtonagfbadoacjaaW.PrintWords Go.Proofs.YtonagfbadoacjaaW.PrintLast Go.Proofs.YtonagfbadoacjaaW.PrintMore Go.Proofs.Ytonagfbadoacjaa.Trie Go.Proofs.Ytonagfbadoacjaa.Q
theorem spec_BitsOne_ev (x : ByteArray) (hx : x.size ≤ 140737488355328) (n : Int) (hn : n ≤ 9223372036854775807) : Ev (fun k => spec_BitsOne.f k x n) (bitsOneI (L x) n) := by
  unfold spec_BitsOne.f
  refine Ev.bind (spec_BitsOk_ev x hx) ?_
  unfold bitsOneI
  have hs := size_L x
  cases hb : bitsB (L x) with
  | false => exact ev_neg (by simp) (ev_some (by simp))
  | true =>
    refine ev_pos rfl (Ev.bind (spec_l1Ones_ev x hx _ (by omega)) ?_)
    have hle := onesB_le (L x) (L x).length
    rw [show ((x.size : Nat) : Int).toNat = (L x).length by omega, w64 (by omega) (by omega)]
    refine ev_bindc (spec_l6In_eq _ _ _) ?_
    by_cases c : 0 ≤ n ∧ n ≤ ((onesB (L x) (L x).length : Nat) : Int) - 1
    · obtain ⟨m, rfl⟩ : ∃ m : Nat, n = (m : Int) := ⟨n.toNat, by omega⟩
      rw [Int.toNat_natCast, if_pos ⟨rfl, c.1, (pos_lt_iff _ _).2 (by omega)⟩]
      refine ev_pos (by simpa using c) (Ev.bind (spec_l1One_ev x hx m hn) (ev_some rfl))
    · refine ev_neg (by simpa using c) (ev_some ?_)
      rw [if_neg (fun h => c ⟨h.2.1, by have := (pos_lt_iff _ _).1 h.2.2; omega⟩)]
def nextI (l : List UInt8) (a : Int) : Int × Bool :=
  if bitsB l = true ∧ 0 ≤ a ∧ a ≤ l.length ∧ pos l (onesB l a.toNat) < l.length then ((pos l (onesB l a.toNat) : Int), true) else (0, false)
theorem pos_next {l : List UInt8} {i : Nat} (h : i ≤ l.length) : pos l (onesB l i) = i + pos (l.drop i) 0 := by
  have := pos_drop l i 0 h
  rwa [Nat.zero_add] at this
theorem pos_le : ∀ (l : List UInt8) (m : Nat), pos l m ≤ l.length := by
  intro l
  induction l with
  | nil => intro m; simp [pos]
  | cons c l ih =>
    intro m
    rw [pos]
    have h1 := ih m
    have h2 := ih (m - 1)
    simp only [List.length_cons]
    split
    · split <;> omega
    · omega
theorem spec_BitsNext_l0 (x : ByteArray) (hx : x.size ≤ 140737488355328) (d : Nat) : ∀ i : Nat, i ≤ (L x).length → (L x).length - i = d →
    Ev (fun k => spec_BitsNext.l0 k x (i : Int)) (if i + pos ((L x).drop i) 0 < (L x).length then (((i + pos ((L x).drop i) 0 : Nat) : Int), true) else (0, false)) := by
  have hs := size_L x
  induction d with
  | zero =>
    intro i h1 h2
    refine ev_succ ?_
    simp only [spec_BitsNext.l0]
    refine ev_neg (by omega) (ev_some ?_)
    rw [if_neg (by omega)]
  | succ d ih =>
    intro i h1 h2
    have hi : i < (L x).length := by omega
    refine ev_succ ?_
    simp only [spec_BitsNext.l0]
    refine ev_pos (by omega) (ev_pos (by omega) ?_)
    rw [w64 (i := (i : Int) + 1) (by omega) (by omega), drop_cons 0 hi]
    by_cases c : (L x).getD i 0 = 49
    · refine ev_pos ((bt_is (n := 49) (by omega)).2 c) (ev_some ?_)
      rw [pos, if_pos c, if_pos rfl, if_pos (by omega)]
      rfl
    · refine ev_neg (fun q => c ((bt_is (n := 49) (by omega)).1 q)) ?_
      rw [pos, if_neg c]
      refine ev_eq (ih (i + 1) (by omega) (by omega)) ?_
      rw [show i + (1 + pos ((L x).drop (i + 1)) 0) = i + 1 + pos ((L x).drop (i + 1)) 0 by omega]
theorem spec_BitsNext_ev (x : ByteArray) (hx : x.size ≤ 140737488355328) (a : Int) : Ev (fun k => spec_BitsNext.f k x a) (nextI (L x) a) := by
  unfold spec_BitsNext.f
  refine Ev.bind (spec_BitsOk_ev x hx) ?_
  unfold nextI
  have hs := size_L x
  cases hb : bitsB (L x) with
  | false =>
    refine ev_neg (by simp) (ev_succ ?_)
    simp only [spec_BitsNext.j0]
    exact ev_pos (by simp) (ev_some (by simp))
  | true =>
    refine ev_pos rfl (ev_bindc (spec_l6In_eq _ _ _) (ev_succ ?_))
    simp only [spec_BitsNext.j0]
    by_cases c : 0 ≤ a ∧ a ≤ (x.size : Int)
    · obtain ⟨i, rfl⟩ : ∃ i : Nat, a = (i : Int) := ⟨a.toNat, by omega⟩
      refine ev_neg (by simp only [decide_eq_true c]; simp) ?_
      refine ev_eq (spec_BitsNext_l0 x hx _ i (by omega) rfl) ?_
      rw [Int.toNat_natCast, pos_next (by omega)]
      by_cases q : i + pos ((L x).drop i) 0 < (L x).length
      · have hc : True ∧ (0 : Int) ≤ (i : Int) ∧ (i : Int) ≤ ((L x).length : Int) ∧ i + pos ((L x).drop i) 0 < (L x).length := ⟨trivial, by omega, by omega, q⟩
        rw [if_pos q, if_pos hc]
      · rw [if_neg q, if_neg (fun h => q h.2.2.2)]
    · refine ev_pos (by simp only [decide_eq_false c]; simp) (ev_some ?_)
      rw [if_neg (fun h => c ⟨h.2.1, by omega⟩)]
theorem indexByte_pos : ∀ l : List UInt8, Lib.indexByte l 49 = oneI l 0 := by
  intro l
  induction l with
  | nil => rfl
  | cons c l ih =>
    unfold oneI at ih ⊢
    rw [Lib.indexByte, pos]
    by_cases q : c = 49
    · simp [q]
    · rw [if_neg q]
      simp only [List.length_cons]
      have hq : (c == 49) = false := by simpa using q
      rw [ih, hq, if_neg (by decide)]
      by_cases z : pos l 0 < l.length
      · have z2 : 1 + pos l 0 < l.length + 1 := by omega
        rw [if_pos z, if_pos z2]; simp [hq]; omega
      · have z2 : ¬ 1 + pos l 0 < l.length + 1 := by omega
        rw [if_neg z, if_neg z2]; simp [hq]
theorem impl_BitsNext_ev (x : ByteArray) (hx : x.size ≤ 140737488355328) (a : Int) : Ev (fun k => impl_BitsNext.f k x a) (nextI (L x) a) := by
  unfold impl_BitsNext.f
  refine Ev.bind (impl_BitsOk_ev x hx) ?_
  unfold nextI
  have hs := size_L x
  cases hb : bitsB (L x) with
  | false =>
    refine ev_neg (by simp) (ev_succ ?_)
    simp only [impl_BitsNext.j0]
    exact ev_pos (by simp) (ev_some (by simp))
  | true =>
    refine ev_pos rfl (ev_bindc (impl_in_eq _ _ _) (ev_succ ?_))
    simp only [impl_BitsNext.j0]
    by_cases c : 0 ≤ a ∧ a ≤ (x.size : Int)
    · obtain ⟨i, rfl⟩ : ∃ i : Nat, a = (i : Int) := ⟨a.toNat, by omega⟩
      refine ev_neg (by simp only [decide_eq_true c]; simp) ?_
      refine ev_pos c.1 (ev_pos c.2 ?_)
      rw [Int.toNat_natCast, pos_next (by omega)]
      have e : strings_IndexByte.f (x.extract i x.size) 49 = some (oneI ((L x).drop i) 0) := by
        unfold strings_IndexByte.f
        rw [← indexByte_pos]
        congr 2
        rw [show (x.extract i x.size).data.toList = L (x.extract i x.size) from rfl, L_extract, hs, List.take_of_length_le (Nat.le_refl _)]
      refine ev_bindc e ?_
      unfold oneI
      rw [List.length_drop]
      by_cases q : i + pos ((L x).drop i) 0 < (L x).length
      · have hc : True ∧ (0 : Int) ≤ (i : Int) ∧ (i : Int) ≤ ((L x).length : Int) ∧ i + pos ((L x).drop i) 0 < (L x).length := ⟨trivial, by omega, by omega, q⟩
        have z2 : pos ((L x).drop i) 0 < (L x).length - i := by omega
        rw [if_pos hc, if_pos z2]
        refine ev_neg (by omega) (ev_some ?_)
        rw [w64 (by omega) (by omega)]
        rfl
      · have z2 : ¬ pos ((L x).drop i) 0 < (L x).length - i := by omega
        have hc : ¬ (True ∧ (0 : Int) ≤ (i : Int) ∧ (i : Int) ≤ ((L x).length : Int) ∧ i + pos ((L x).drop i) 0 < (L x).length) := fun h => q h.2.2.2
        rw [if_neg hc, if_neg z2]
        exact ev_pos (by omega) (ev_some rfl)
    · refine ev_pos (by simp only [decide_eq_false c]; simp) (ev_some ?_)
      rw [if_neg (fun h => c ⟨h.2.1, by omega⟩)]
theorem less_ev (s : ByteArray) {b : List Int} (hb : By b) (p : Int) (h0 : 0 ≤ p) (h1 : p ≤ 10000) (n : Int) (g0 : 1 ≤ n) (g1 : n ≤ 100000) :
    ∃ a, Ev (fun k => (spec_l6Rd_pick.f k b p n).bind fun u => (spec_l6Rd_pick.f k b u.2 12).bind fun v => some (s, wrap64 (u.1 - (wrap64 (Int.tdiv v.1 11))))) (s, a) ∧ -1 ≤ a ∧ a < n := by
  obtain ⟨r, hr, e0, e1, _⟩ := pick_ev hb p h0 (by omega) n (by omega)
  have e1 := e1 g0
  obtain ⟨r2, hr2, f0, f1, _⟩ := pick_ev hb (p + 1) (by omega) (by omega) 12 (by omega)
  have f1 := f1 (by omega)
  have hd : Int.tdiv r2 11 = 0 ∨ Int.tdiv r2 11 = 1 := by
    rw [Int.tdiv_eq_ediv_of_nonneg f0]; omega
  refine ⟨r - Int.tdiv r2 11, Ev.bind hr (Ev.bind hr2 (ev_some ?_)), by omega, by omega⟩
  rw [w64 (i := Int.tdiv r2 11) (by omega) (by omega), w64 (by omega) (by omega)]
theorem DrawBitsNext_ev (l : List Int) (hl : l.length ≤ maxLen) (hw : ∀ x ∈ l, (Lit.int .u8 x).wf = true) :
    ∃ s a, Ev (fun k => spec_DrawBitsNext.f k l) (s, a) ∧ s.size ≤ 1000 ∧ -1 ≤ a ∧ a ≤ 10000 := by
  obtain ⟨b, ho, hb⟩ := open_ev l hl hw
  obtain ⟨s, q, hs, g, q0, q1⟩ := bits_ev hb
  obtain ⟨a, ha, a0, a1⟩ := less_ev s hb q q0 (by omega) ((s.size : Int) + 2) (by omega) (by omega)
  refine ⟨s, a, ?_, g, a0, by omega⟩
  unfold spec_DrawBitsNext.f
  refine ev_bindc ho (Ev.bind hs ?_)
  simp only []
  rw [w64 (i := (s.size : Int) + 2) (by omega) (by omega)]
  exact ha
theorem DrawBitsOnes_ev (l : List Int) (hl : l.length ≤ maxLen) (hw : ∀ x ∈ l, (Lit.int .u8 x).wf = true) :
    ∃ s a, Ev (fun k => spec_DrawBitsOnes.f k l) (s, a) ∧ s.size ≤ 1000 ∧ -1 ≤ a ∧ a ≤ 10000 := by
  have := DrawBitsNext_ev l hl hw
  exact this
theorem DrawBitsOne_ev (l : List Int) (hl : l.length ≤ maxLen) (hw : ∀ x ∈ l, (Lit.int .u8 x).wf = true) :
    ∃ s a, Ev (fun k => spec_DrawBitsOne.f k l) (s, a) ∧ s.size ≤ 1000 ∧ -1 ≤ a ∧ a ≤ 10000 := by
  obtain ⟨b, ho, hb⟩ := open_ev l hl hw
  obtain ⟨s, q, hs, g, q0, q1⟩ := bits_ev hb
  have hz := size_L s
  have hle := onesB_le (L s) ((s.size : Int)).toNat
  obtain ⟨a, ha, a0, a1⟩ := less_ev s hb q q0 (by omega) (((onesB (L s) ((s.size : Int)).toNat : Nat) : Int) + 1) (by omega) (by omega)
  refine ⟨s, a, ?_, g, a0, by omega⟩
  unfold spec_DrawBitsOne.f
  refine ev_bindc ho (Ev.bind hs ?_)
  simp only []
  refine Ev.bind (spec_l1Ones_ev s (by omega) _ (by omega)) ?_
  rw [w64 (i := ((onesB (L s) ((s.size : Int)).toNat : Nat) : Int) + 1) (by omega) (by omega)]
  exact ha
end Go.Proofs.Ytonagfbadoacjaa.Pb
end
section
set_option linter.unusedVariables false
set_option linter.unusedSimpArgs false
namespace Go.Proofs.Ytonagfbadoacjaa.Pure
open Go Go.RowKit Go.Proofs.YtonagfbadoacjaaW.PrintWords Go.Proofs.YtonagfbadoacjaaW.PrintLast Go.Proofs.YtonagfbadoacjaaW.PrintMore Go.Proofs.Ytonagfbadoacjaa.Trie Go.Proofs.Ytonagfbadoacjaa.Q Go.Proofs.Ytonagfbadoacjaa.Pb
theorem FnBitsOne : laws_FnBitsOne.Pure := by
  intro l0 h0 h1 h2
  refine Ev.rounds ?_
  unfold laws_FnBitsOne.f
  by_cases c : (l0.length : Int) > 1048576
  · exact ev_pos c (ev_some rfl)
  · obtain ⟨s, a, hd, hs, ha0, ha1⟩ := DrawBitsOne_ev l0 h0 h2
    have hz := size_L s
    refine ev_neg c (Ev.bind hd ?_)
    simp only []
    refine Ev.bind (spec_BitsOne_ev s (by omega) a (by omega)) (Ev.bind (impl_BitsOne_ev s (by omega) a (by omega)) ?_)
    refine ev_neg (by simp) (ev_pos rfl ?_)
    by_cases p : bitsB (L s) = true ∧ 0 ≤ a ∧ pos (L s) a.toNat < (L s).length
    · have e : bitsOneI (L s) a = (((pos (L s) a.toNat : Nat) : Int), true) := by
        unfold bitsOneI
        rw [if_pos p]
      obtain ⟨o1, o2⟩ := pos_one _ _ p.2.2
      rw [e]
      refine ev_pos rfl (ev_pos (by simp only []; omega) (ev_pos (by simp only []; omega) (ev_pos ((bt_is (n := 49) (by omega)).2 o1) (Ev.bind (impl_BitsOnes_ev s (by omega) _) (ev_some ?_)))))
      unfold bitsOnesI
      rw [if_pos ⟨p.1, by simp only []; omega, by simp only []; omega⟩, Int.toNat_natCast, o2]
      simp only [beq_iff_eq]; omega
    · have e : bitsOneI (L s) a = (0, false) := by
        unfold bitsOneI
        rw [if_neg p]
      rw [e]
      exact ev_neg (by simp) (by simpa using Ev.now true)
end Go.Proofs.Ytonagfbadoacjaa.Pure
end
