/- What the laws of the set SQ need: the kit's printed words, the printed functions with their proofs, and plain facts on them. -/
import Derived.Shelf.Slices.In.SortNone
import Derived.Sort.OwnSorted
import Derived.Test.YtifgcajpkgamgaaBSQd
section
namespace Go.Proofs.Ytifgcajpkgamgaa.Q
open Go.RowKit Go.Proofs.YtifgcajpkgamgaaW.PrintWords Go.Proofs.YtifgcajpkgamgaaW.PrintLast Go.Proofs.YtifgcajpkgamgaaW.PrintMore
attribute [local go_sem] max2_int min2_int max_two min_two max_three min_three max_four min_four   
set_option linter.unusedVariables false
set_option linter.unusedSimpArgs false
def slices_Sort_string_string.f (l0 : List ByteArray) : Option (List ByteArray) := if l0.length < 4611686018427387904 then (some (((l0.map (fun s => s.data.toList)).mergeSort fun x y => decide (x ≤ y)).map (fun l => ⟨l.toArray⟩))) else (none)
def slices_Compact_string_string.f (l0 : List ByteArray) : Option (List ByteArray) := if l0.length ≤ 9223372036854775807 then (some ((Lib.compact (l0.map (fun s => s.data.toList))).map (fun l => ⟨l.toArray⟩))) else (none)
def impl_KeysSort.l0 : Nat → List ByteArray → List ByteArray → Int → Int → Option (List ByteArray)
 | 0, _, _, _, _ => none
 | k + 1, x3, x6, x7, x8 => if x8 < x7 then (if 0 ≤ x8 then (if x8 < (x6.length : Int) then ((impl_KeyOk.f k (rdOf ByteArray.empty x6 x8)).bind fun t808 => (if t808 = true then (if x3.length < 8796093022208 then (impl_KeysSort.l0 k (x3 ++ [rdOf ByteArray.empty x6 x8]) x6 x7 (wrap64 (x8 + 1))) else (none)) else (impl_KeysSort.l0 k x3 x6 x7 (wrap64 (x8 + 1))))) else (none)) else (none)) else ((slices_Sort_string_string.f x3).bind fun t812 => ((slices_Compact_string_string.f t812).bind fun t813 => (if ([] : List ByteArray).length + t813.length < 8796093022208 then (some (([] : List ByteArray) ++ t813)) else (none))))
def impl_KeysSort.f (k : Nat) (l0 : List ByteArray) : Option (List ByteArray) := impl_KeysSort.l0 k ([] : List ByteArray) l0 (l0.length : Int) 0
mutual
def laws_FnSieveMore.j0 : Nat → List Int → List Int → Bool → Option (Bool)
 | 0, _, _, _ => none
 | k + 1, x0, x1, x22 => if x22 = true then (some true) else ((spec_DrawSieveOf.f k x0).bind fun bt819 => ((spec_DrawKeyBegins.f k x1).bind fun bt823 => ((spec_SieveOf.f k bt819.1 bt819.2).bind fun bt825 => ((impl_SieveOf.f k bt819.1 bt819.2).bind fun bt834 => (if (bt834.2.2.2.2.2 != bt825.2.2.2.2.2) = true then (laws_FnSieveMore.j1 k bt819.1 bt819.2 bt823.1 bt825.2.2.2.2.2 bt834.2.2.2.2.2 true bt825.1 bt825.2.1 bt825.2.2.1 bt825.2.2.2.1 bt825.2.2.2.2.1 bt834.1 bt834.2.1 bt834.2.2.1 bt834.2.2.2.1 bt834.2.2.2.2.1) else ((laws_ltSieve.f k bt834.1 bt834.2.1 bt834.2.2.1 bt834.2.2.2.1 bt834.2.2.2.2.1 bt825.1 bt825.2.1 bt825.2.2.1 bt825.2.2.2.1 bt825.2.2.2.2.1).bind fun t843 => (if t843 = true then (laws_FnSieveMore.j1 k bt819.1 bt819.2 bt823.1 bt825.2.2.2.2.2 bt834.2.2.2.2.2 (!bt834.2.2.2.2.2) bt825.1 bt825.2.1 bt825.2.2.1 bt825.2.2.2.1 bt825.2.2.2.2.1 bt834.1 bt834.2.1 bt834.2.2.1 bt834.2.2.2.1 bt834.2.2.2.2.1) else (laws_FnSieveMore.j1 k bt819.1 bt819.2 bt823.1 bt825.2.2.2.2.2 bt834.2.2.2.2.2 true bt825.1 bt825.2.1 bt825.2.2.1 bt825.2.2.2.1 bt825.2.2.2.2.1 bt834.1 bt834.2.1 bt834.2.2.1 bt834.2.2.2.1 bt834.2.2.2.2.1))))))))
def laws_FnSieveMore.j1 : Nat → List ByteArray → Int → ByteArray → Bool → Bool → Bool → ByteArray → ByteArray → ByteArray → List ByteArray → Int → ByteArray → ByteArray → ByteArray → List ByteArray → Int → Option (Bool)
 | 0, _, _, _, _, _, _, _, _, _, _, _, _, _, _, _, _ => none
 | k + 1, x5, x6, x7, x10, x12, x57, x834000, x834001, x834002, x834003, x834004, x843000, x843001, x843002, x843003, x843004 => if x57 = true then (if (x12 == x10) = true then ((laws_ltSieve.f k x843000 x843001 x843002 x843003 x843004 x834000 x834001 x834002 x834003 x834004).bind fun t844 => (some t844)) else (some false)) else ((some (([] : List ByteArray) : List ByteArray)).bind fun y845 => (if y845.length + x5.length < 8796093022208 then ((some (y845 ++ x5 : List ByteArray)).bind fun y848 => (if y848.length < 8796093022208 then ((impl_KeysSort.f k (y848 ++ [x7])).bind fun t854 => ((impl_SieveOf.f k t854 x6).bind fun bt857 => (if bt857.2.2.2.2.2 = true then ((impl_SieveHas.f k bt857.1 bt857.2.1 bt857.2.2.1 bt857.2.2.2.1 bt857.2.2.2.2.1 x7).bind fun t866 => (if t866 = true then ((impl_SieveSize.f k bt857.1 bt857.2.1 bt857.2.2.1 bt857.2.2.2.1 bt857.2.2.2.2.1).bind fun t867 => ((impl_SieveSize.f k x843000 x843001 x843002 x843003 x843004).bind fun t868 => (some (decide (t867 ≥ t868))))) else (some false))) else (some true)))) else (none))) else (none)))
end
def laws_FnSieveMore.f (k : Nat) (l0 : List Int) (l1 : List Int) : Option (Bool) := if (l0.length : Int) > 1048576 then (laws_FnSieveMore.j0 k l0 l1 true) else (laws_FnSieveMore.j0 k l0 l1 (decide ((l1.length : Int) > 1048576)))
def laws_FnSieveMore.Pure : Prop := ∀ (l0 : List Int) (l1 : List Int), l0.length ≤ maxLen → l0.length * 1 ≤ 140737488351232 → (∀ x ∈ l0, (Lit.int .u8 x).wf = true) → l1.length ≤ maxLen → l1.length * 1 ≤ 140737488351232 → (∀ x ∈ l1, (Lit.int .u8 x).wf = true) → ∃ k, laws_FnSieveMore.f k l0 l1 = some true
end Go.Proofs.Ytifgcajpkgamgaa.Q
end
section
set_option linter.unusedVariables false
set_option linter.unusedSimpArgs false
namespace Go.Proofs.Ytifgcajpkgamgaa.Pb
open Go Go.RowKit Go.Proofs.YtifgcajpkgamgaaW.PrintWords Go.Proofs.YtifgcajpkgamgaaW.PrintLast Go.Proofs.YtifgcajpkgamgaaW.PrintMore Go.Proofs.Ytifgcajpkgamgaa.Trie Go.Proofs.Ytifgcajpkgamgaa.Q
theorem compact_spec (zs : List Key) (hs : ∀ i j, i ≤ j → j < zs.length → ¬ zs.toArray[j]! < zs.toArray[i]!) : ∀ m, m ≤ zs.length →
  (Lib.compactUpTo zs.toArray m).Pairwise (· < ·) ∧ ∀ x, x ∈ Lib.compactUpTo zs.toArray m ↔ ∃ j, j < m ∧ x = zs.toArray[j]! := by
 intro m
 induction m with
 | zero => intro _; simp [Lib.compactUpTo]
 | succ m ih =>
  intro h
  obtain ⟨h1, h2⟩ := ih (by omega)
  rw [Lib.compactUpTo_succ]
  by_cases k : m = 0 ∨ zs.toArray[m]! ≠ zs.toArray[m - 1]!
  ·have hk : Lib.keeps zs.toArray m = true := by
    rcases k with k | k
    ·exact Lib.keeps_lt_one _ _ (by omega)
    ·exact Lib.keeps_pos k
   rw [hk, if_pos rfl]
   refine ⟨List.pairwise_append.2 ⟨h1, by simp, fun x hx y hy => ?_⟩, fun x => ?_⟩
   ·obtain ⟨j, hj, rfl⟩ := (h2 x).1 hx
    rw [List.mem_singleton.1 hy]
    have a1 := hs j (m - 1) (by omega) (by omega)
    have a2 := hs (m - 1) m (by omega) (by omega)
    rcases k with k | k
    ·omega
    ·rcases key_le_total zs.toArray[m - 1]! zs.toArray[m]! with c | c | c
     ·rcases key_le_total zs.toArray[j]! zs.toArray[m - 1]! with e | e | e
      ·exact key_trans e c
      ·rw [e]; exact c
      ·exact absurd e a1
     ·exact absurd c.symm k
     ·exact absurd c a2
   ·rw [List.mem_append, h2, List.mem_singleton]
    constructor
    ·rintro (⟨j, hj, e⟩ | e)
     ·exact ⟨j, by omega, e⟩
     ·exact ⟨m, by omega, e⟩
    ·rintro ⟨j, hj, e⟩
     by_cases q : j = m
     ·subst q; exact .inr e
     ·exact .inl ⟨j, by omega, e⟩
  ·have hm : 0 < m := by omega
   have he : zs.toArray[m]! = zs.toArray[m - 1]! := Classical.byContradiction (fun q => k (.inr q))
   rw [Lib.keeps_neg hm he, if_neg (by simp), List.append_nil]
   refine ⟨h1, fun x => ?_⟩
   rw [h2]
   constructor
   ·rintro ⟨j, hj, e⟩
    exact ⟨j, by omega, e⟩
   ·rintro ⟨j, hj, e⟩
    by_cases q : j = m
    ·subst q; exact ⟨j - 1, by omega, by rw [e, he]⟩
    ·exact ⟨j, by omega, e⟩
theorem le_not {a b : Key} : decide (a ≤ b) = true ↔ ¬ b < a := by
 rw [decide_eq_true_eq]
 exact Iff.rfl
theorem sort_compact (K : List Key) : (Lib.compact (K.mergeSort fun x y => decide (x ≤ y))).Pairwise (· < ·) ∧ ∀ x, x ∈ Lib.compact (K.mergeSort fun x y => decide (x ≤ y)) ↔ x ∈ K := by
 have hp : (K.mergeSort fun x y => decide (x ≤ y)).Pairwise (fun a b => decide (a ≤ b) = true) := by
  apply List.pairwise_mergeSort
  ·intro a b c h1 h2
   rw [le_not] at h1 h2 ⊢
   intro q
   rcases key_le_total a b with e | e | e
   ·exact h2 (key_trans q e)
   ·subst e; exact h2 q
   ·exact h1 e
  ·intro a b
   rw [Bool.or_eq_true, le_not, le_not]
   rcases key_le_total a b with e | e | e
   ·exact .inl (key_asymm e)
   ·subst e; exact .inl (key_irrefl _)
   ·exact .inr (key_asymm e)
 have hm : ∀ x, x ∈ (K.mergeSort fun x y => decide (x ≤ y)) ↔ x ∈ K := fun x => List.mem_mergeSort
 generalize (K.mergeSort fun x y => decide (x ≤ y)) = zs at hp hm ⊢
 have hs : ∀ i j, i ≤ j → j < zs.length → ¬ zs.toArray[j]! < zs.toArray[i]! := by
  intro i j hij hj
  have e1 : zs.toArray[j]! = zs[j] := by simp [hj]
  have e2 : zs.toArray[i]! = zs[i]'(by omega) := by simp [show i < zs.length by omega]
  rw [e1, e2]
  by_cases q : i = j
  ·subst q; exact key_irrefl _
  ·exact le_not.1 (List.pairwise_iff_getElem.1 hp i j (by omega) hj (by omega))
 obtain ⟨h1, h2⟩ := compact_spec zs hs zs.length (Nat.le_refl _)
 refine ⟨h1, fun x => ?_⟩
 rw [← hm]
 have := h2 x
 unfold Lib.compact
 rw [this]
 constructor
 ·rintro ⟨j, hj, e⟩
  rw [e, show zs.toArray[j]! = zs[j] by simp [hj]]
  exact List.getElem_mem _
 ·intro h
  obtain ⟨j, hj, e⟩ := List.getElem_of_mem h
  exact ⟨j, hj, by rw [← e]; simp [hj]⟩
def keyS (s : ByteArray) : Bool := kokB (L s)
def mkS (l : List UInt8) : ByteArray := ⟨l.toArray⟩
theorem LL_mkS (zs : List Key) : LL (zs.map mkS) = zs := by
 simp only [LL, List.map_map]
 have : (L ∘ mkS) = id := by funext l; exact L_mk l
 rw [this, List.map_id]
def finS (m : List ByteArray) : List ByteArray := (Lib.compact ((LL m).mergeSort fun x y => decide (x ≤ y))).map mkS
theorem compact_few (zs : List Key) : (Lib.compact zs).length ≤ zs.length := by
 unfold Lib.compact Lib.compactUpTo
 rw [List.length_map]
 exact Nat.le_trans (List.length_filter_le _ _) (by simp)
theorem impl_KeysSort_l0 (l : List ByteArray) (hl : SzL l) (hn : l.length ≤ 2000000) (d : Nat) : ∀ (i : Nat) (x3 : List ByteArray), i ≤ l.length → l.length - i = d → x3.length ≤ i →
  Ev (fun k => impl_KeysSort.l0 k x3 l (l.length : Int) (i : Int)) (finS (x3 ++ (l.drop i).filter keyS)) := by
 induction d with
 | zero =>
  intro i x3 h1 h2 h3
  refine ev_succ ?_
  simp only [impl_KeysSort.l0]
  rw [List.drop_eq_nil_of_le (by omega), List.filter_nil, List.append_nil]
  have hz := LL_length x3
  have ms : ((LL x3).mergeSort fun x y => decide (x ≤ y)).length = x3.length := by rw [List.length_mergeSort, hz]
  have e1 : slices_Sort_string_string.f x3 = some (((LL x3).mergeSort fun x y => decide (x ≤ y)).map mkS) := by
   unfold slices_Sort_string_string.f
   rw [if_pos (by omega)]
   rfl
  have e2 : slices_Compact_string_string.f (((LL x3).mergeSort fun x y => decide (x ≤ y)).map mkS) = some (finS x3) := by
   unfold slices_Compact_string_string.f
   rw [if_pos (by rw [List.length_map]; omega)]
   have := LL_mkS ((LL x3).mergeSort fun x y => decide (x ≤ y))
   unfold LL at this
   have e3 : (((List.map L x3).mergeSort fun x y => decide (x ≤ y)).map mkS).map (fun s => s.data.toList) = ((List.map L x3).mergeSort fun x y => decide (x ≤ y)) := this
   unfold finS LL
   rw [e3]
   rfl
  have hf : (finS x3).length ≤ x3.length := by
   unfold finS
   rw [List.length_map]
   have := compact_few ((LL x3).mergeSort fun x y => decide (x ≤ y))
   omega
  refine ev_neg (by omega) (ev_bindc e1 (ev_bindc e2 (ev_pos (by simp only [List.length_nil]; omega) (ev_some (List.nil_append _)))))
 | succ d ih =>
  intro i x3 h1 h2 h3
  refine ev_succ ?_
  simp only [impl_KeysSort.l0]
  have hg : rdOf ByteArray.empty l (i : Int) = l.getD i ByteArray.empty := rfl
  refine ev_pos (by omega) (ev_pos (by omega) (ev_pos (by omega) (Ev.bind (impl_KeyOk_ev _ (rd_size hl i)) ?_)))
  rw [drop_cons ByteArray.empty (by omega), List.filter_cons, w64 (by omega) (by omega), hg]
  cases hk : kokB (L (l.getD i ByteArray.empty)) with
  | true =>
   refine ev_pos rfl (ev_pos (by omega) ?_)
   rw [if_pos (show keyS _ = true from hk)]
   have := ih (i + 1) (x3 ++ [l.getD i ByteArray.empty]) (by omega) (by omega) (by simp; omega)
   rwa [List.append_assoc] at this
  | false =>
   refine ev_neg (by simp) ?_
   rw [if_neg (by rw [show keyS _ = false from hk]; simp)]
   exact ih (i + 1) x3 (by omega) (by omega) (by omega)
theorem same_l0 (l : List ByteArray) (hn : l.length ≤ 2000000) (d : Nat) : ∀ i : Nat, i ≤ l.length → l.length - i = d → Ev (fun k => laws_ltSames.l0 k l l (i : Int)) true := by
 induction d with
 | zero =>
  intro i h1 h2
  refine ev_succ ?_
  simp only [laws_ltSames.l0]
  exact ev_neg (by omega) (ev_some rfl)
 | succ d ih =>
  intro i h1 h2
  refine ev_succ ?_
  simp only [laws_ltSames.l0]
  refine ev_pos (by omega) (ev_pos (by omega) (ev_pos (by omega) (ev_pos trivial ?_)))
  rw [w64 (by omega) (by omega)]
  exact ih (i + 1) (by omega) (by omega)
theorem same_ev (l : List ByteArray) (hn : l.length ≤ 2000000) : Ev (fun k => laws_ltSames.f k l l) true := by
 unfold laws_ltSames.f
 exact ev_pos rfl (same_l0 l hn l.length 0 (by omega) (by omega))
theorem L_mkS (l : List UInt8) : L (mkS l) = l := by simp [L, mkS]
theorem mkS_L (a : ByteArray) : mkS (L a) = a := L_inj (L_mkS _)
theorem letter_eq (a : ByteArray) (ha : a.size ≤ 1000000) (d : Nat) (hd : d ≤ 1000) : spec_l3Letter.f a (d : Int) = some (mkS [lab (L a) d]) := by
 unfold spec_l3Letter.f
 have hs := size_L a
 by_cases c : a.size ≤ d
 ·rw [if_pos (by omega), lab_ge (by omega)]; rfl
 ·rw [if_neg (by omega), if_pos (by omega), w64 (by omega) (by omega), if_pos (by omega), if_pos (by omega)]
  congr 1
  apply L_inj
  rw [L_extract, L_mkS]
  have h : d < (L a).length := by omega
  rw [lab_lt h]
  have e1 : ((d : Int)).toNat = d := by omega
  have e2 : ((d : Int) + 1).toNat = d + 1 := by omega
  rw [e1, e2, List.drop_take, List.drop_eq_getElem_cons h]
  have : d + 1 - d = 1 := by omega
  rw [this]; rfl
theorem mkS_one {c c' : UInt8} : (mkS [c]).toList = (mkS [c']).toList ↔ c = c' := by
 rw [toList_L, toList_L, L_mkS, L_mkS]; simp
theorem restS_eq (a : ByteArray) (d keep : Nat) : ∃ r, spec_l3Rest.f a (d : Int) (keep : Int) = some r ∧ L r = ((L a).drop d).take keep := by
 unfold spec_l3Rest.f
 have hs := size_L a
 rw [if_pos ⟨by omega, by omega⟩]
 by_cases c : (a.size : Int) ≤ (d : Int)
 ·rw [if_pos c]
  refine ⟨_, rfl, ?_⟩
  rw [List.drop_eq_nil_of_le (by omega), List.take_nil]; rfl
 ·rw [if_neg c]
  refine ⟨_, rfl, ?_⟩
  rw [L_extract, L_extract]
  have e1 : ((d : Int)).toNat = d := by omega
  rw [e1, List.drop_zero, List.take_of_length_le (i := a.size) (by omega)]
  split
  ·rename_i h
   have e2 : ((keep : Int)).toNat = keep := by omega
   rw [e2]
  ·rename_i h
   rw [List.take_of_length_le (i := keep) (by rw [List.length_drop]; omega), List.take_of_length_le (by rw [List.length_drop]; omega)]
structure Sm (l : List ByteArray) : Prop where
 len : l.length ≤ 100
 sz : ∀ s ∈ l, s.size ≤ 1000
theorem Sm.getD {l : List ByteArray} (h : Sm l) (i : Nat) : (l.getD i ByteArray.empty).size ≤ 1000 := by
 by_cases q : i < l.length
 ·rw [getD_lt _ q]; exact h.sz _ (List.getElem_mem q)
 ·rw [List.getD_eq_getElem?_getD, List.getElem?_eq_none (by omega)]; exact Nat.zero_le _
theorem Sm.sub {l l' : List ByteArray} (h : Sm l) (hs : l'.Sublist l) : Sm l' := ⟨by have := hs.length_le; have := h.len; omega, fun s hm => h.sz s (hs.subset hm)⟩
def labS (d : Nat) (s : ByteArray) : UInt8 := lab (L s) d
theorem group_l0 (ks : List ByteArray) (h : Sm ks) (d : Nat) (hd : d ≤ 1000) (m : Nat) : ∀ (i : Nat) (x3 : List ByteArray), i ≤ ks.length → ks.length - i = m → x3.length ≤ i →
  Ev (fun k => spec_l3Group.l0 k x3 (i : Int) ks (d : Int)) (x3 ++ (ks.drop i).filter (fun s => labS d s == labS d (ks.getD 0 ByteArray.empty))) := by
 have hn := h.len
 induction m with
 | zero =>
  intro i x3 h1 h2 h3
  refine ev_succ ?_
  simp only [spec_l3Group.l0]
  refine ev_neg (by omega) (ev_some ?_)
  rw [List.drop_eq_nil_of_le (by omega)]; simp
 | succ m ih =>
  intro i x3 h1 h2 h3
  refine ev_succ ?_
  simp only [spec_l3Group.l0]
  have hlt : i < ks.length := by omega
  have hg : rdOf ByteArray.empty ks (i : Int) = ks.getD i ByteArray.empty := rfl
  have hg0 : rdOf ByteArray.empty ks 0 = ks.getD 0 ByteArray.empty := rfl
  rw [hg, hg0]
  refine ev_pos (by omega) (ev_pos (by omega) (ev_bindc (letter_eq _ (by have := h.getD i; omega) d hd) (ev_pos (by omega) (ev_bindc (letter_eq _ (by have := h.getD 0; omega) d hd) ?_))))
  rw [w64 (by omega) (by omega)]
  have e : ks.drop i = ks.getD i ByteArray.empty :: ks.drop (i + 1) := drop_cons _ hlt
  rw [e, List.filter_cons]
  by_cases c : labS d (ks.getD i ByteArray.empty) = labS d (ks.getD 0 ByteArray.empty)
  ·refine ev_pos (mkS_one.2 c) (ev_pos (by omega) ?_)
   rw [if_pos (beq_iff_eq.2 c)]
   refine ev_eq (ih (i + 1) (x3 ++ [ks.getD i ByteArray.empty]) (by omega) (by omega) (by simp; omega)) ?_
   simp
  ·refine ev_neg (fun q => c (mkS_one.1 q)) ?_
   rw [if_neg (fun q => c (beq_iff_eq.1 q))]
   exact ih (i + 1) x3 (by omega) (by omega) (by omega)
theorem group_ev (ks : List ByteArray) (h : Sm ks) (d : Nat) (hd : d ≤ 1000) : Ev (fun k => spec_l3Group.f k ks (d : Int)) (ks.filter (fun s => labS d s == labS d (ks.getD 0 ByteArray.empty))) := by
 unfold spec_l3Group.f
 exact ev_eq (group_l0 ks h d hd ks.length 0 [] (by omega) (by omega) (by simp)) (by simp)
theorem front {d : Nat} {s : ByteArray} {ks : List ByteArray} (hU : Up d (LL (s :: ks))) :
  LL ((s :: ks).filter (fun x => labS d x == labS d s)) = L s :: (LL ks).takeWhile (fun x => lab x d == lab (L s) d) ∧
  LL ((s :: ks).drop ((s :: ks).filter (fun x => labS d x == labS d s)).length) = (LL ks).dropWhile (fun x => lab x d == lab (L s) d) := by
 have h1 : LL ((s :: ks).filter (fun x => labS d x == labS d s)) = (LL (s :: ks)).filter (fun x => lab x d == lab (L s) d) := by
  unfold LL
  rw [List.filter_map]
  rfl
 have h2 := run_filter (d := d) (k := L s) (ks := LL ks) hU
 have h3 : LL (s :: ks) = L s :: LL ks := rfl
 rw [h3, h2] at h1
 refine ⟨h1, ?_⟩
 have hl : ((s :: ks).filter (fun x => labS d x == labS d s)).length = ((LL ks).takeWhile (fun x => lab x d == lab (L s) d)).length + 1 := by
  rw [← LL_length, h1, List.length_cons]
 rw [hl, List.drop_succ_cons]
 unfold LL
 rw [List.map_drop]
 have hd : ∀ (p : Key → Bool) (l : List Key), l.drop (l.takeWhile p).length = l.dropWhile p := by
  intro p l
  induction l with
  | nil => rfl
  | cons a l ih =>
   rw [List.takeWhile_cons, List.dropWhile_cons]
   by_cases c : p a = true
   ·rw [if_pos c, if_pos c, List.length_cons, List.drop_succ_cons, ih]
   ·rw [if_neg c, if_neg c]; rfl
 exact hd _ _
def nd (s : S79) : Nd := (LL s.f0, s.f1.toNat)
structure Np (s : S79) : Prop where
 sm : Sm s.f0
 low : 0 ≤ s.f1
 high : s.f1 ≤ 900
def marks (c : UInt8) : Nat → List UInt8
 | 0 => []
 | n + 1 => c :: List.replicate n 48
theorem marks_49 (n : Nat) : marks 49 n = fst1 n := by cases n <;> rfl
theorem marks_48 (n : Nat) : marks 48 n = List.replicate n 48 := by cases n <;> rfl
theorem put_l0 (keep : Nat) (d : Nat) (hd : d ≤ 800) (m : Nat) : ∀ (ks : List ByteArray) (x6 : List S79) (c : UInt8) (Lt Mo Fi : ByteArray) (Rs : List ByteArray), ks.length ≤ m → Sm ks → Up d (LL ks) → (∀ s ∈ x6, Np s) →
  Lt.size + ks.length ≤ 1000000 → Mo.size + ks.length ≤ 1000000 → Fi.size + ks.length ≤ 1000000 → Rs.length + ks.length ≤ 1000000 → x6.length + ks.length ≤ 1000000 →
  ∃ Lt' Mo' Fi' Rs' x6', Ev (fun k => spec_l3Put.l0 k x6 (mkS [c]) Lt Mo Fi Rs (keep : Int) ks (d : Int)) (Lt', Mo', Fi', Rs', (keep : Int), x6') ∧
   L Lt' = L Lt ++ (bra (LL ks, d)).map letter ∧ L Mo' = L Mo ++ (bra (LL ks, d)).map bit ∧ L Fi' = L Fi ++ marks c (runs d (LL ks)).length ∧
   LL Rs' = LL Rs ++ ((bra (LL ks, d)).filter leaf).map (rest keep) ∧ x6'.map nd = x6.map nd ++ conts (LL ks, d) ∧ (∀ s ∈ x6', Np s) := by
 induction m with
 | zero =>
  intro ks x6 c Lt Mo Fi Rs h0 hS hU hN _ _ _ _ _
  have : ks = [] := List.eq_nil_of_length_eq_zero (by omega)
  subst this
  have hr : runs d (LL ([] : List ByteArray)) = [] := runs_nil d
  refine ⟨Lt, Mo, Fi, Rs, x6, ev_succ ?_, ?_, ?_, ?_, ?_, ?_, hN⟩
  ·simp only [spec_l3Put.l0]
   exact ev_neg (by simp) (ev_some rfl)
  all_goals simp [bra, hr, marks, Trie.conts]
 | succ m ih =>
  intro ks x6 c Lt Mo Fi Rs h0 hS hU hN z1 z2 z3 z4 z5
  cases ks with
  | nil =>
   have hr : runs d (LL ([] : List ByteArray)) = [] := runs_nil d
   refine ⟨Lt, Mo, Fi, Rs, x6, ev_succ ?_, ?_, ?_, ?_, ?_, ?_, hN⟩
   ·simp only [spec_l3Put.l0]
    exact ev_neg (by simp) (ev_some rfl)
   all_goals simp [bra, hr, marks, Trie.conts]
  | cons s ks =>
   obtain ⟨f1, f2⟩ := front hU
   have hgs : ((s :: ks).getD 0 ByteArray.empty) = s := rfl
   have hgr := group_ev (s :: ks) hS d (by omega)
   rw [hgs] at hgr
   have hsub : ((s :: ks).filter (fun x => labS d x == labS d s)).Sublist (s :: ks) := List.filter_sublist
   generalize hG : (s :: ks).filter (fun x => labS d x == labS d s) = G at f1 f2 hgr hsub
   have hGl : G.length = ((LL ks).takeWhile (fun x => lab x d == lab (L s) d)).length + 1 := by rw [← LL_length, f1, List.length_cons]
   have hGle := hsub.length_le
   have hk := hS.len
   simp only [List.length_cons] at hGle z1 z2 z3 z4 z5 h0 hk
   have hG0 : rdOf ByteArray.empty G 0 = G.getD 0 ByteArray.empty := rfl
   have hLG : L (G.getD 0 ByteArray.empty) = L s := by
    rw [LL_getD, f1]; rfl
   have hrun : runs d (LL (s :: ks)) = LL G :: runs d (LL ((s :: ks).drop G.length)) := by
    have : LL (s :: ks) = L s :: LL ks := rfl
    rw [this, runs_cons, f1, f2]
   have hSd : Sm ((s :: ks).drop G.length) := hS.sub (List.drop_sublist _ _)
   have hUd : Up d (LL ((s :: ks).drop G.length)) := by
    rw [f2]; exact up_tail hU
   have hld : ((s :: ks).drop G.length).length + G.length = ks.length + 1 := by rw [List.length_drop, List.length_cons]; omega
   have hG1 : 1 ≤ G.length := by omega
   have hsz1 : (mkS [lab (L s) d]).size = 1 := rfl
   have hsz2 : (mkS [c]).size = 1 := rfl
   have hLs : ∀ a b : ByteArray, (a ++ b).size = a.size + b.size := fun a b => ByteArray.size_append
   have hgsm : Sm G := hS.sub hsub
   have hcat : ∀ {α : Type} (a : List α) (b : α) (e : List α), (a ++ [b]) ++ e = a ++ (b :: e) := fun a b e => by simp
   by_cases q : 1 < G.length
   ·have hc : cont (LL G) = true := by simp [cont, LL_length]; omega
    have hNp : Np ⟨G, wrap64 ((d : Int) + 1)⟩ := by
     rw [w64 (by omega) (by omega)]
     exact ⟨hgsm, by show (0 : Int) ≤ (d : Int) + 1; omega, by show (d : Int) + 1 ≤ 900; omega⟩
    obtain ⟨Lt', Mo', Fi', Rs', x6', e, a1, a2, a3, a4, a5, a6⟩ := ih ((s :: ks).drop G.length) (x6 ++ [⟨G, wrap64 ((d : Int) + 1)⟩]) 48 (Lt ++ mkS [lab (L s) d]) (Mo ++ mkS [49]) (Fi ++ mkS [c]) Rs (by omega) hSd hUd
     (fun y hy => by
      rcases List.mem_append.1 hy with hy | hy
      ·exact hN y hy
      ·rw [List.mem_singleton.1 hy]; exact hNp)
     (by rw [hLs, hsz1]; omega) (by rw [hLs]; show Mo.size + 1 + _ ≤ _; omega) (by rw [hLs, hsz2]; omega) (by omega) (by simp only [List.length_append, List.length_cons, List.length_nil]; omega)
    refine ⟨Lt', Mo', Fi', Rs', x6', ev_succ ?_, ?_, ?_, ?_, ?_, ?_, a6⟩
    ·simp only [spec_l3Put.l0]
     refine ev_pos (by simp only [List.length_cons]; omega) (Ev.bind hgr (ev_pos (by omega) ?_))
     rw [hG0]
     refine ev_bindc (letter_eq _ (by have := hgsm.getD 0; omega) d (by omega)) ?_
     rw [hLG]
     refine ev_pos (by rw [hsz1]; omega) (ev_pos (by rw [hsz2]; omega) (ev_pos (by omega) (ev_pos (by omega) (ev_pos (by omega) (ev_pos (by omega) (ev_pos (by simp only [List.length_cons]; omega) ?_))))))
     have : ((G.length : Int)).toNat = G.length := by omega
     rw [this]
     exact e
    ·rw [a1, L_append, L_mkS]
     unfold bra
     rw [hrun, List.map_cons, List.map_cons, hcat]
     congr 2
     show _ = lab ((LL G).headD []) d
     rw [f1]; rfl
    ·rw [a2, L_append, L_mkS]
     unfold bra
     rw [hrun, List.map_cons, List.map_cons, hcat]
     congr 2
     show _ = bit (LL G, d)
     unfold bit
     rw [if_pos hc]
    ·rw [a3, L_append, L_mkS, hrun, List.length_cons, marks_48]
     simp [marks]
    ·rw [a4]
     unfold bra
     rw [hrun, List.map_cons, List.filter_cons, if_neg (by simp [leaf, hc])]
    ·rw [a5, List.map_append]
     unfold Trie.conts
     simp only []
     rw [hrun, List.filter_cons, if_pos hc, List.map_cons, List.map_cons, List.map_nil, hcat]
     congr 2
     show (LL G, (wrap64 ((d : Int) + 1)).toNat) = _
     rw [w64 (by omega) (by omega)]
     congr 1
   ·have hc : cont (LL G) = false := by simp [cont, LL_length]; omega
    obtain ⟨r, hr1, hr2⟩ := restS_eq (G.getD 0 ByteArray.empty) (d + 1) keep
    rw [hLG] at hr2
    obtain ⟨Lt', Mo', Fi', Rs', x6', e, a1, a2, a3, a4, a5, a6⟩ := ih ((s :: ks).drop G.length) x6 48 (Lt ++ mkS [lab (L s) d]) (Mo ++ mkS [48]) (Fi ++ mkS [c]) (Rs ++ [r]) (by omega) hSd hUd hN
     (by rw [hLs, hsz1]; omega) (by rw [hLs]; show Mo.size + 1 + _ ≤ _; omega) (by rw [hLs, hsz2]; omega) (by simp only [List.length_append, List.length_cons, List.length_nil]; omega) (by omega)
    refine ⟨Lt', Mo', Fi', Rs', x6', ev_succ ?_, ?_, ?_, ?_, ?_, ?_, a6⟩
    ·simp only [spec_l3Put.l0]
     refine ev_pos (by simp only [List.length_cons]; omega) (Ev.bind hgr (ev_pos (by omega) ?_))
     rw [hG0]
     refine ev_bindc (letter_eq _ (by have := hgsm.getD 0; omega) d (by omega)) ?_
     rw [hLG, w64 (by omega) (by omega)]
     refine ev_pos (by rw [hsz1]; omega) (ev_pos (by rw [hsz2]; omega) (ev_neg (by omega) (ev_pos (by omega) (ev_bindc (by rw [← hr1]; rfl) (ev_pos (by omega) (ev_pos (by omega) (ev_pos (by simp only [List.length_cons]; omega) ?_)))))))
     have : ((G.length : Int)).toNat = G.length := by omega
     rw [this]
     exact e
    ·rw [a1, L_append, L_mkS]
     unfold bra
     rw [hrun, List.map_cons, List.map_cons, hcat]
     congr 2
     show _ = lab ((LL G).headD []) d
     rw [f1]; rfl
    ·rw [a2, L_append, L_mkS]
     unfold bra
     rw [hrun, List.map_cons, List.map_cons, hcat]
     congr 2
     show _ = bit (LL G, d)
     unfold bit
     rw [if_neg (by rw [hc]; simp)]
    ·rw [a3, L_append, L_mkS, hrun, List.length_cons, marks_48]
     simp [marks]
    ·rw [a4, LL_append]
     unfold bra
     rw [hrun, List.map_cons, List.filter_cons, if_pos (by simp [leaf, hc]), List.map_cons]
     show LL Rs ++ LL [r] ++ _ = _
     have : LL [r] = [L r] := rfl
     rw [this, hcat, hr2]
     congr 2
     show _ = (((LL G).headD []).drop (d + 1)).take keep
     rw [f1]; rfl
    ·rw [a5]
     unfold Trie.conts
     simp only []
     rw [hrun, List.filter_cons, if_neg (by rw [hc]; simp)]
theorem bfs_len {q X : List Nd} (h : Bfs q X) : q.length ≤ X.length := by
 rw [h.eq, List.length_append]; omega
theorem brs_cons (x : Nd) (X : List Nd) : brs (x :: X) = bra x ++ brs X := rfl
def Deep (x : Nd) : Prop := ∀ k ∈ x.1, x.2 ≤ k.length
theorem of_l0 (keep : Nat) {q X : List Nd} (hB : Bfs q X) : ∀ (x7 : List S79) (Lt Mo Fi : ByteArray) (Rs : List ByteArray), x7.map nd = q → (∀ s ∈ x7, Np s) → (∀ x ∈ X, NOk x) →
  Lt.size + (brs X).length ≤ 900000 → Mo.size + (brs X).length ≤ 900000 → Fi.size + (brs X).length ≤ 900000 → Rs.length + (brs X).length ≤ 900000 → X.length ≤ 900000 →
  ∃ Lt' Mo' Fi' Rs', Ev (fun k => spec_SieveOf.l0 k x7 Lt Mo Fi Rs (keep : Int)) (Lt', Mo', Fi', Rs', (keep : Int), true) ∧
   L Lt' = L Lt ++ encL X ∧ L Mo' = L Mo ++ encM X ∧ L Fi' = L Fi ++ encF X ∧ LL Rs' = LL Rs ++ encR keep X := by
 induction hB with
 | nil =>
  intro x7 Lt Mo Fi Rs h0 _ _ _ _ _ _ _
  have : x7 = [] := List.map_eq_nil_iff.1 h0
  subst this
  refine ⟨Lt, Mo, Fi, Rs, ev_succ ?_, ?_, ?_, ?_, ?_⟩
  ·simp only [spec_SieveOf.l0]
   exact ev_neg (by simp) (ev_some rfl)
  all_goals simp [encL, encM, encF, encR, brs]
 | cons hX ih =>
  rename_i x q X
  intro x7 Lt Mo Fi Rs h0 hN hO z1 z2 z3 z4 z5
  cases x7 with
  | nil => cases h0
  | cons s t =>
   rw [List.map_cons, List.cons.injEq] at h0
   obtain ⟨rfl, h0⟩ := h0
   have hs := hN s (by simp)
   have hx := hO (nd s) (by simp)
   have hd : s.f1 = ((nd s).2 : Int) := by show s.f1 = (s.f1.toNat : Int); have := hs.low; omega
   have hd5 := hx.deep
   have hlen := hs.sm.len
   have hbl : (bra (nd s)).length ≤ s.f0.length := by
    rw [bra_length]
    have := runs_length_le (nd s).2 (nd s).1
    have e : (nd s).1.length = s.f0.length := LL_length _
    omega
   rw [brs_cons, List.length_append] at z1 z2 z3 z4
   rw [List.length_cons] at z5
   have hql := bfs_len hX
   rw [List.length_append, ← h0, List.length_map] at hql
   obtain ⟨Lt1, Mo1, Fi1, Rs1, n1, e1, a1, a2, a3, a4, a5, a6⟩ := put_l0 keep (nd s).2 (by omega) s.f0.length s.f0 [] 49 Lt Mo Fi Rs (Nat.le_refl _) hs.sm hx.up (fun y hy => by cases hy) (by omega) (by omega) (by omega) (by omega) (by simp only [List.length_nil]; omega)
   have hbr : (LL s.f0, (nd s).2) = nd s := rfl
   rw [hbr] at a1 a2 a4 a5
   have hsz : ∀ {a b : ByteArray} {l : List UInt8}, L a = L b ++ l → a.size = b.size + l.length := fun {a b l} h => by rw [size_L, size_L, h, List.length_append]
   have b1 := hsz a1
   have b2 := hsz a2
   have b3 := hsz a3
   have b4 : Rs1.length = Rs.length + (((bra (nd s)).filter leaf).map (rest keep)).length := by rw [← LL_length, a4, List.length_append, LL_length]
   have b5 : n1.length = (Trie.conts (nd s)).length := by have := congrArg List.length a5; simpa using this
   rw [List.length_map] at b1 b2 b4
   have b6 : (marks 49 (runs (nd s).2 (LL s.f0)).length).length = (bra (nd s)).length := by rw [marks_49, fst1_length, bra_length]; rfl
   have b7 := List.length_filter_le leaf (bra (nd s))
   obtain ⟨Lt', Mo', Fi', Rs', e2, c1, c2, c3, c4⟩ := ih (([] ++ t) ++ n1) Lt1 Mo1 Fi1 Rs1 (by rw [List.nil_append, List.map_append, h0, a5]; rfl)
    (fun y hy => by
     rw [List.nil_append] at hy
     rcases List.mem_append.1 hy with hy | hy
     ·exact hN y (by simp [hy])
     ·exact a6 y hy)
    (fun y hy => hO y (by simp [hy])) (by omega) (by omega) (by omega) (by omega) (by omega)
   refine ⟨Lt', Mo', Fi', Rs', ev_succ ?_, ?_, ?_, ?_, ?_⟩
   ·simp only [spec_SieveOf.l0]
    have hr : rd_T79 (s :: t) 0 = s := rfl
    rw [hr, hd]
    refine ev_pos (by simp only [List.length_cons]; omega) (ev_pos (by simp only [List.length_cons]; omega) (Ev.bind (a := (Lt1, Mo1, Fi1, Rs1, (keep : Int), n1)) e1 (ev_bindc rfl (ev_pos (by simp only [List.length_cons]; omega) (ev_bindc rfl (ev_pos ?_ (ev_bindc rfl (ev_pos ?_ e2))))))))
    ·simp only [List.length_nil, List.drop_succ_cons, List.drop_zero]; omega
    ·simp only [List.nil_append, List.drop_succ_cons, List.drop_zero]; omega
   ·rw [c1, a1, List.append_assoc]; unfold encL; rw [brs_cons, List.map_append]
   ·rw [c2, a2, List.append_assoc]; unfold encM; rw [brs_cons, List.map_append]
   ·rw [c3, a3, List.append_assoc, marks_49]; unfold encF; rw [List.flatMap_cons]; rfl
   ·rw [c4, a4, List.append_assoc]; unfold encR; rw [brs_cons, List.filter_append, List.map_append]
open Classical in
noncomputable def lvls (K : List Key) : List Nd := if h : (∀ k ∈ K, KOk k) ∧ K.Pairwise (· < ·) then Classical.choose (Lvl.ex h.1 h.2) else []
theorem lvls_is {K : List Key} (h : KsOk K) : Lvl K (lvls K) ∧ (lvls K).length ≤ K.length * 6 + 1 := by
 have h' : (∀ k ∈ K, KOk k) ∧ K.Pairwise (· < ·) := ⟨h.ok, h.sorted⟩
 unfold lvls
 rw [dif_pos h']
 exact Classical.choose_spec (Lvl.ex h'.1 h'.2)
def keepOk (a : Int) : Prop := 0 ≤ a ∧ a ≤ 5
instance (a : Int) : Decidable (keepOk a) := inferInstanceAs (Decidable (0 ≤ a ∧ a ≤ 5))
abbrev SvT := ByteArray × ByteArray × ByteArray × List ByteArray × Int × Bool
noncomputable def encT (X : List Nd) (keep : Int) : SvT := (mkS (encL X), mkS (encM X), mkS (encF X), (encR keep.toNat X).map mkS, keep, true)
noncomputable def sieveV (K : List Key) (keep : Int) : SvT := if keysB K = true ∧ keepOk keep then encT (lvls K) keep else ((⟨#[]⟩ : ByteArray), (⟨#[]⟩ : ByteArray), (⟨#[]⟩ : ByteArray), ([] : List ByteArray), 0, false)
theorem brs_few {K : List Key} {X : List Nd} (h : Lvl K X) (hn : K.length ≤ 24) (hl : X.length ≤ K.length * 6 + 1) : (brs X).length ≤ 1000 := by
 have := size_eq h.eq
 simp only at this
 omega
theorem encT_of {X : List Nd} {keep : Nat} {a b c : ByteArray} {d : List ByteArray} (h1 : L a = encL X) (h2 : L b = encM X) (h3 : L c = encF X) (h4 : LL d = encR keep X) : (a, b, c, d, (keep : Int), true) = encT X (keep : Int) := by
 unfold encT
 rw [← h1, ← h2, ← h3, mkS_L, mkS_L, mkS_L]
 have : ((keep : Int)).toNat = keep := by omega
 rw [this, ← h4]
 congr 4
 unfold LL
 rw [List.map_map]
 conv => lhs; rw [← List.map_id d]
 apply List.map_congr_left
 intro s _
 exact (mkS_L s).symm
theorem ksok_sm {l : List ByteArray} (h : KsOk (LL l)) : Sm l := by
 refine ⟨by have := h.few; rw [LL_length] at this; omega, fun s hm => ?_⟩
 have := (h.ok (L s) (List.mem_map_of_mem hm)).len
 rw [size_L]; omega
theorem spec_SieveOf_ev (l : List ByteArray) (hl : SzL l) (a : Int) : Ev (fun k => spec_SieveOf.f k l a) (sieveV (LL l) a) := by
 unfold spec_SieveOf.f sieveV
 refine Ev.bind (spec_KeysOk_ev l hl) ?_
 by_cases c : keysB (LL l) = true
 ·refine ev_pos c (ev_bindc (spec_l6In_eq a 0 5) (ev_succ ?_))
  by_cases g : keepOk a
  ·simp only [spec_SieveOf.j0]
   rw [if_pos ⟨c, g⟩]
   refine ev_neg (by simp [decide_eq_true (show 0 ≤ a ∧ a ≤ 5 from g)]) ?_
   have hk := keysB_iff.1 c
   obtain ⟨hL, hX⟩ := lvls_is hk
   have hfew := hk.few
   have hb := brs_few hL hfew hX
   obtain ⟨keep, rfl⟩ : ∃ n : Nat, a = (n : Int) := ⟨a.toNat, by have := g.1; omega⟩
   obtain ⟨Lt, Mo, Fi, Rs, e, a1, a2, a3, a4⟩ := of_l0 keep hL.bfs [⟨l, 0⟩] (⟨#[]⟩ : ByteArray) (⟨#[]⟩ : ByteArray) (⟨#[]⟩ : ByteArray) [] rfl
    (fun s hs => by
     rw [List.mem_singleton.1 hs]
     exact ⟨ksok_sm hk, by show (0 : Int) ≤ 0; omega, by show (0 : Int) ≤ 900; omega⟩)
    (fun x hx => (hL.nodes x hx).2) (by show 0 + _ ≤ _; omega) (by show 0 + _ ≤ _; omega) (by show 0 + _ ≤ _; omega) (by show 0 + _ ≤ _; omega) (by omega)
   refine ev_eq e (encT_of ?_ ?_ ?_ ?_)
   ·rw [a1]; rfl
   ·rw [a2]; rfl
   ·rw [a3]; rfl
   ·rw [a4]; rfl
  ·simp only [spec_SieveOf.j0]
   rw [if_neg (fun h => g h.2)]
   exact ev_pos (by simp [decide_eq_false (show ¬ (0 ≤ a ∧ a ≤ 5) from g)]) (ev_some rfl)
 ·refine ev_neg c (ev_succ ?_)
  simp only [spec_SieveOf.j0]
  rw [if_neg (fun h => c h.1)]
  exact ev_pos (by simp) (ev_some rfl)
theorem label_eq (a : ByteArray) (d : Nat) (hd : d ≤ (L a).length) : impl_label.f a (d : Int) = some ((lab (L a) d).toNat : Int) := by
 unfold impl_label.f
 have hs := size_L a
 by_cases c : d = (L a).length
 ·rw [if_pos (by omega), lab_ge (by omega)]; rfl
 ·rw [if_neg (by omega), if_pos (by omega), if_pos (by omega), bt_L, lab_lt (show d < (L a).length by omega), getD_lt _ (by omega)]
def frontN (d : Nat) (r : List ByteArray) : Nat := (r.tail.takeWhile (fun x => labS d x == labS d (r.getD 0 ByteArray.empty))).length + 1
theorem frontN_le {d : Nat} {r : List ByteArray} (h : r ≠ []) : frontN d r ≤ r.length := by
 cases r with
 | nil => exact absurd rfl h
 | cons a t =>
  unfold frontN
  have := (List.takeWhile_sublist (l := t) (fun x => labS d x == labS d ((a :: t).getD 0 ByteArray.empty))).length_le
  simp only [List.tail_cons, List.length_cons]
  omega
theorem takeWhile_at {α : Type} (p : α → Bool) : ∀ (l : List α) (i : Nat) (h : i < l.length), (i < (l.takeWhile p).length → p l[i] = true) ∧ (i = (l.takeWhile p).length → p l[i] = false) := by
 intro l
 induction l with
 | nil => intro i h; simp at h
 | cons a l ih =>
  intro i h
  rw [List.takeWhile_cons]
  by_cases c : p a = true
  ·rw [if_pos c, List.length_cons]
   cases i with
   | zero => exact ⟨fun _ => c, fun q => by omega⟩
   | succ i =>
    have := ih i (by simpa using h)
    exact ⟨fun q => this.1 (by omega), fun q => this.2 (by omega)⟩
  ·rw [if_neg c]
   cases i with
   | zero => exact ⟨fun q => by simp at q, fun _ => by simpa using c⟩
   | succ i => exact ⟨fun q => by simp at q, fun q => by simp at q⟩
theorem l2_ev {Lt Mo Fi : ByteArray} {Rs : List ByteArray} {Q : List S108} {keep i mark : Int} {rest : List ByteArray} {d : Nat} {r : ByteArray × ByteArray × ByteArray × List ByteArray × Int} (hs : Sm rest) (h0 : rest ≠ []) (hd : ∀ s ∈ rest, d ≤ (L s).length)
  (h3 : Ev (fun k => impl_sieveOf.l3 k Lt Mo Fi Rs Q keep i rest (d : Int) mark (frontN d rest : Int)) r) (m : Nat) : ∀ n : Nat, 1 ≤ n → n ≤ frontN d rest → frontN d rest - n = m →
  Ev (fun k => impl_sieveOf.l2 k Lt Mo Fi Rs Q keep i rest (d : Int) mark (n : Int)) r := by
 have hlen := hs.len
 have hf := frontN_le (d := d) h0
 obtain ⟨a, t, rfl⟩ : ∃ a t, rest = a :: t := by
  cases rest with
  | nil => exact absurd rfl h0
  | cons a t => exact ⟨a, t, rfl⟩
 simp only [List.length_cons] at hlen hf
 have hg0 : rdOf ByteArray.empty (a :: t) 0 = a := rfl
 have hat : ∀ n : Nat, n < t.length + 1 → L (rdOf ByteArray.empty (a :: t) (n : Int)) = L ((a :: t).getD n ByteArray.empty) := fun _ _ => rfl
 have hmem : ∀ n : Nat, n < t.length + 1 → d ≤ (L ((a :: t).getD n ByteArray.empty)).length := fun n hn => by
  refine hd _ ?_
  rw [getD_lt _ (by simpa using hn)]
  exact List.getElem_mem _
 have hfr : frontN d (a :: t) = (t.takeWhile (fun x => labS d x == labS d a)).length + 1 := rfl
 have htw := takeWhile_at (fun x => labS d x == labS d a) t
 have hgd : ∀ n : Nat, 1 ≤ n → n < t.length + 1 → ∀ h : n - 1 < t.length, (a :: t).getD n ByteArray.empty = t[n - 1] := fun n h1 h2 h => by
  obtain ⟨j, rfl⟩ : ∃ j, n = j + 1 := ⟨n - 1, by omega⟩
  rw [getD_lt _ (by simpa using h2)]
  rfl
 induction m with
 | zero =>
  intro n h1 h2 h4
  have e : n = frontN d (a :: t) := by omega
  refine ev_succ ?_
  simp only [impl_sieveOf.l2]
  by_cases c : n < t.length + 1
  ·refine ev_pos (by simp only [List.length_cons]; omega) (ev_pos (by omega) ?_)
   have hr : rdOf ByteArray.empty (a :: t) (n : Int) = (a :: t).getD n ByteArray.empty := rfl
   rw [hr, hg0]
   refine ev_bindc (label_eq _ d (hmem n c)) (ev_bindc (label_eq a d (hd a (by simp))) (ev_neg ?_ ?_))
   ·intro q
    have q2 : lab (L ((a :: t).getD n ByteArray.empty)) d = lab (L a) d := UInt8.toNat_inj.1 (by omega)
    have h5 := (htw (n - 1) (by omega)).2 (by omega)
    rw [hgd n h1 c (by omega)] at q2
    unfold labS at h5
    rw [q2] at h5
    simp at h5
   ·rw [e]; exact h3
  ·refine ev_neg (by simp only [List.length_cons]; omega) ?_
   rw [e]; exact h3
 | succ m ih =>
  intro n h1 h2 h4
  have hlt : n < frontN d (a :: t) := by omega
  have c : n < t.length + 1 := by omega
  refine ev_succ ?_
  simp only [impl_sieveOf.l2]
  refine ev_pos (by simp only [List.length_cons]; omega) (ev_pos (by omega) ?_)
  have hr : rdOf ByteArray.empty (a :: t) (n : Int) = (a :: t).getD n ByteArray.empty := rfl
  rw [hr, hg0]
  refine ev_bindc (label_eq _ d (hmem n c)) (ev_bindc (label_eq a d (hd a (by simp))) (ev_pos ?_ ?_))
  ·have h5 := (htw (n - 1) (by omega)).1 (by omega)
   rw [hgd n h1 c (by omega)]
   unfold labS at h5
   rw [beq_iff_eq.1 h5]
  ·rw [w64 (by omega) (by omega)]
   exact ih (n + 1) (by omega) (by omega) (by omega)
theorem frontN_run {d : Nat} {a : ByteArray} {t : List ByteArray} :
  LL ((a :: t).take (frontN d (a :: t))) = L a :: (LL t).takeWhile (fun x => lab x d == lab (L a) d) ∧ LL ((a :: t).drop (frontN d (a :: t))) = (LL t).dropWhile (fun x => lab x d == lab (L a) d) := by
 have hfr : frontN d (a :: t) = (t.takeWhile (fun x => labS d x == labS d a)).length + 1 := rfl
 rw [hfr, List.take_succ_cons, List.drop_succ_cons]
 have e1 : ∀ (p : ByteArray → Bool) (l : List ByteArray), l.take (l.takeWhile p).length = l.takeWhile p ∧ l.drop (l.takeWhile p).length = l.dropWhile p := by
  intro p l
  induction l with
  | nil => exact ⟨rfl, rfl⟩
  | cons b l ih =>
   rw [List.takeWhile_cons, List.dropWhile_cons]
   by_cases c : p b = true
   ·rw [if_pos c, if_pos c, List.length_cons, List.take_succ_cons, List.drop_succ_cons, ih.1, ih.2]; exact ⟨rfl, rfl⟩
   ·rw [if_neg c, if_neg c]; exact ⟨rfl, rfl⟩
 have e2 : ∀ (l : List ByteArray), LL (l.takeWhile (fun x => labS d x == labS d a)) = (LL l).takeWhile (fun x => lab x d == lab (L a) d) ∧ LL (l.dropWhile (fun x => labS d x == labS d a)) = (LL l).dropWhile (fun x => lab x d == lab (L a) d) := by
  intro l
  induction l with
  | nil => exact ⟨rfl, rfl⟩
  | cons b l ih =>
   have hb : LL (b :: l) = L b :: LL l := rfl
   rw [hb, List.takeWhile_cons, List.dropWhile_cons, List.takeWhile_cons, List.dropWhile_cons]
   by_cases c : (labS d b == labS d a) = true
   ·have c' : (lab (L b) d == lab (L a) d) = true := c
    rw [if_pos c, if_pos c, if_pos c', if_pos c']
    refine ⟨?_, ih.2⟩
    show L b :: LL _ = _
    rw [ih.1]
   ·have c' : ¬ (lab (L b) d == lab (L a) d) = true := c
    rw [if_neg c, if_neg c, if_neg c', if_neg c']
    exact ⟨rfl, hb⟩
 refine ⟨?_, ?_⟩
 ·show L a :: LL _ = _
  rw [(e1 _ t).1, (e2 t).1]
 ·rw [(e1 _ t).2, (e2 t).2]
def ndq (s : S108) : Nd := (LL s.f0, s.f1.toNat)
structure Nq (s : S108) : Prop where
 sm : Sm s.f0
 low : 0 ≤ s.f1
 high : s.f1 ≤ 900
theorem mnk (k n : Nat) : mn (k : Int) (n : Int) = ((min k n : Nat) : Int) := by unfold mn; split <;> omega
theorem push_L (s : ByteArray) (c : UInt8) : L (s.push c) = L s ++ [c] := by simp [L]
theorem push_size (s : ByteArray) (c : UInt8) : (s.push c).size = s.size + 1 := by rw [size_L, size_L, push_L]; simp
theorem byte_back (c : UInt8) : ((c.toNat : Int)).toNat.toUInt8 = c := by
 have : ((c.toNat : Int)).toNat = c.toNat := by omega
 rw [this]; exact UInt8.ofNat_toNat
theorem l1_ev (keep d : Nat) (hd : d ≤ 800) (i : Int) (m : Nat) : ∀ (ks : List ByteArray) (Q : List S108) (c : UInt8) (Lt Mo Fi : ByteArray) (Rs : List ByteArray), ks.length ≤ m → Sm ks → (∀ s ∈ ks, d ≤ (L s).length) → (∀ s ∈ Q, Nq s) →
  Lt.size + ks.length ≤ 1000000 → Mo.size + ks.length ≤ 1000000 → Fi.size + ks.length ≤ 1000000 → Rs.length + ks.length ≤ 1000000 → Q.length + ks.length ≤ 1000000 →
  ∃ Lt' Mo' Fi' Rs' x6', (∀ r, Ev (fun k => impl_sieveOf.l0 k Lt' Mo' Fi' Rs' (Q ++ x6') (keep : Int) (wrap64 (i + 1))) r → Ev (fun k => impl_sieveOf.l1 k Lt Mo Fi Rs Q (keep : Int) i ks (d : Int) (c.toNat : Int)) r) ∧
   L Lt' = L Lt ++ (bra (LL ks, d)).map letter ∧ L Mo' = L Mo ++ (bra (LL ks, d)).map bit ∧ L Fi' = L Fi ++ marks c (runs d (LL ks)).length ∧
   LL Rs' = LL Rs ++ ((bra (LL ks, d)).filter leaf).map (rest keep) ∧ x6'.map ndq = conts (LL ks, d) ∧ (∀ s ∈ x6', Nq s) := by
 induction m with
 | zero =>
  intro ks Q c Lt Mo Fi Rs h0 hS hD hN _ _ _ _ _
  have : ks = [] := List.eq_nil_of_length_eq_zero (by omega)
  subst this
  have hr : runs d (LL ([] : List ByteArray)) = [] := runs_nil d
  refine ⟨Lt, Mo, Fi, Rs, [], fun r h => ev_succ ?_, ?_, ?_, ?_, ?_, ?_, fun s hs => by cases hs⟩
  ·simp only [impl_sieveOf.l1]
   rw [List.append_nil] at h
   exact ev_neg (by simp) h
  all_goals simp [bra, hr, marks, Trie.conts]
 | succ m ih =>
  intro ks Q c Lt Mo Fi Rs h0 hS hD hN z1 z2 z3 z4 z5
  cases ks with
  | nil =>
   have hr : runs d (LL ([] : List ByteArray)) = [] := runs_nil d
   refine ⟨Lt, Mo, Fi, Rs, [], fun r h => ev_succ ?_, ?_, ?_, ?_, ?_, ?_, fun s hs => by cases hs⟩
   ·simp only [impl_sieveOf.l1]
    rw [List.append_nil] at h
    exact ev_neg (by simp) h
   all_goals simp [bra, hr, marks, Trie.conts]
  | cons s ks =>
   obtain ⟨f1, f2⟩ := frontN_run (d := d) (a := s) (t := ks)
   have hne : s :: ks ≠ [] := by simp
   have hfl := frontN_le (d := d) hne
   have hf1 : 1 ≤ frontN d (s :: ks) := by unfold frontN; omega
   have hk := hS.len
   simp only [List.length_cons] at hfl z1 z2 z3 z4 z5 h0 hk
   have hGl : ((s :: ks).take (frontN d (s :: ks))).length = frontN d (s :: ks) := by rw [List.length_take, List.length_cons]; omega
   have hrun : runs d (LL (s :: ks)) = LL ((s :: ks).take (frontN d (s :: ks))) :: runs d (LL ((s :: ks).drop (frontN d (s :: ks)))) := by
    have : LL (s :: ks) = L s :: LL ks := rfl
    rw [this, runs_cons, f1, f2]
   have hSd : Sm ((s :: ks).drop (frontN d (s :: ks))) := hS.sub (List.drop_sublist _ _)
   have hgsm : Sm ((s :: ks).take (frontN d (s :: ks))) := hS.sub (List.take_sublist _ _)
   have hDd : ∀ x ∈ (s :: ks).drop (frontN d (s :: ks)), d ≤ (L x).length := fun x hx => hD x (List.mem_of_mem_drop hx)
   have hld : ((s :: ks).drop (frontN d (s :: ks))).length + frontN d (s :: ks) = ks.length + 1 := by rw [List.length_drop, List.length_cons]; omega
   have hcat : ∀ {α : Type} (a : List α) (b : α) (e : List α), (a ++ [b]) ++ e = a ++ (b :: e) := fun a b e => by simp
   have hl2 := fun (r : ByteArray × ByteArray × ByteArray × List ByteArray × Int) (h3 : Ev (fun k => impl_sieveOf.l3 k Lt Mo Fi Rs Q (keep : Int) i (s :: ks) (d : Int) (c.toNat : Int) (frontN d (s :: ks) : Int)) r) => l2_ev (r := r) hS hne hD h3 (frontN d (s :: ks) - 1) 1 (Nat.le_refl _) hf1 rfl
   have hlabel := label_eq s d (hD s (by simp))
   have hg0 : rdOf ByteArray.empty (s :: ks) 0 = s := rfl
   generalize hn : frontN d (s :: ks) = n at *
   have hnt : ((n : Int)).toNat = n := by omega
   have hsz := size_L s
   have hss : s.size ≤ 1000 := hS.sz s (by simp)
   have hcond : Lt.size + 1 ≤ 140737488355328 ∧ Mo.size + 1 ≤ 140737488355328 ∧ Fi.size + 1 ≤ 140737488355328 ∧ 0 ≤ (n : Int) ∧ (n : Int) ≤ ((s :: ks).length : Int) ∧ 0 ≤ (d : Int) ∧ (d : Int) ≤ 1000000000 ∧ 0 ≤ (keep : Int) ∧ Q.length < 4398046511104 ∧ Rs.length < 8796093022208 := by
    refine ⟨by omega, by omega, by omega, by omega, by simp only [List.length_cons]; omega, by omega, by omega, by omega, by omega, by omega⟩
   by_cases q : 1 < n
   ·have hc : cont (LL ((s :: ks).take n)) = true := by simp only [cont, LL_length, hGl, decide_eq_true_eq]; omega
    have hNq : Nq ⟨(s :: ks).take n, wrap64 ((d : Int) + 1)⟩ := by
     rw [w64 (by omega) (by omega)]
     exact ⟨hgsm, by show (0 : Int) ≤ (d : Int) + 1; omega, by show (d : Int) + 1 ≤ 900; omega⟩
    obtain ⟨Lt', Mo', Fi', Rs', x6', e, a1, a2, a3, a4, a5, a6⟩ := ih ((s :: ks).drop n) (Q ++ [⟨(s :: ks).take n, wrap64 ((d : Int) + 1)⟩]) 48 (Lt.push (lab (L s) d)) (Mo.push 49) (Fi.push c) Rs (by omega) hSd hDd
     (fun y hy => by
      rcases List.mem_append.1 hy with hy | hy
      ·exact hN y hy
      ·rw [List.mem_singleton.1 hy]; exact hNq)
     (by rw [push_size]; omega) (by rw [push_size]; omega) (by rw [push_size]; omega) (by omega) (by simp only [List.length_append, List.length_cons, List.length_nil]; omega)
    refine ⟨Lt', Mo', Fi', Rs', ⟨(s :: ks).take n, wrap64 ((d : Int) + 1)⟩ :: x6', fun r h => ev_succ ?_, ?_, ?_, ?_, ?_, ?_, ?_⟩
    ·simp only [impl_sieveOf.l1]
     refine ev_pos (by simp only [List.length_cons]; omega) (hl2 r (ev_succ ?_))
     simp only [impl_sieveOf.l3]
     rw [hg0]
     refine ev_pos hcond (ev_bindc hlabel (ev_pos (by omega) ?_))
     rw [hnt, byte_back, byte_back]
     refine e r ?_
     rw [hcat]; exact h
    ·rw [a1, push_L]
     unfold bra
     rw [hrun, List.map_cons, List.map_cons, hcat]
     congr 2
     show _ = lab ((LL ((s :: ks).take n)).headD []) d
     rw [f1]; rfl
    ·rw [a2, push_L]
     unfold bra
     rw [hrun, List.map_cons, List.map_cons, hcat]
     congr 2
     show _ = bit (LL ((s :: ks).take n), d)
     unfold bit
     rw [if_pos hc]
    ·rw [a3, push_L, hrun, List.length_cons, marks_48]
     simp [marks]
    ·rw [a4]
     unfold bra
     rw [hrun, List.map_cons, List.filter_cons, if_neg (by simp [leaf, hc])]
    ·rw [List.map_cons, a5]
     unfold Trie.conts
     simp only []
     rw [hrun, List.filter_cons, if_pos hc, List.map_cons]
     congr 1
     show (LL ((s :: ks).take n), (wrap64 ((d : Int) + 1)).toNat) = _
     rw [w64 (by omega) (by omega)]
     congr 1
    ·intro y hy
     rcases List.mem_cons.1 hy with rfl | hy
     ·exact hNq
     ·exact a6 y hy
   ·have hc : cont (LL ((s :: ks).take n)) = false := by simp only [cont, LL_length, hGl, decide_eq_false_iff_not]; omega
    obtain ⟨Lt', Mo', Fi', Rs', x6', e, a1, a2, a3, a4, a5, a6⟩ := ih ((s :: ks).drop n) Q 48 (Lt.push (lab (L s) d)) (Mo.push 48) (Fi.push c) (Rs ++ [(s.extract (mn (wrap64 ((d : Int) + 1)) (s.size : Int)).toNat s.size).extract 0 (mn (keep : Int) ((s.extract (mn (wrap64 ((d : Int) + 1)) (s.size : Int)).toNat s.size).size : Int)).toNat]) (by omega) hSd hDd hN
     (by rw [push_size]; omega) (by rw [push_size]; omega) (by rw [push_size]; omega) (by simp only [List.length_append, List.length_cons, List.length_nil]; omega) (by omega)
    refine ⟨Lt', Mo', Fi', Rs', x6', fun r h => ev_succ ?_, ?_, ?_, ?_, ?_, ?_, a6⟩
    ·simp only [impl_sieveOf.l1]
     refine ev_pos (by simp only [List.length_cons]; omega) (hl2 r (ev_succ ?_))
     simp only [impl_sieveOf.l3]
     rw [hg0]
     refine ev_pos hcond (ev_bindc hlabel (ev_neg (by omega) ?_))
     rw [hnt, byte_back, byte_back]
     exact e r h
    ·rw [a1, push_L]
     unfold bra
     rw [hrun, List.map_cons, List.map_cons, hcat]
     congr 2
     show _ = lab ((LL ((s :: ks).take n)).headD []) d
     rw [f1]; rfl
    ·rw [a2, push_L]
     unfold bra
     rw [hrun, List.map_cons, List.map_cons, hcat]
     congr 2
     show _ = bit (LL ((s :: ks).take n), d)
     unfold bit
     rw [if_neg (by rw [hc]; simp)]
    ·rw [a3, push_L, hrun, List.length_cons, marks_48]
     simp [marks]
    ·rw [a4, LL_append]
     unfold bra
     rw [hrun, List.map_cons, List.filter_cons, if_pos (by simp [leaf, hc]), List.map_cons]
     have : ∀ x : ByteArray, LL [x] = [L x] := fun _ => rfl
     rw [this, hcat]
     congr 2
     show _ = (((LL ((s :: ks).take n)).headD []).drop (d + 1)).take keep
     rw [f1]
     show _ = ((L s).drop (d + 1)).take keep
     have e1 : mn (wrap64 ((d : Int) + 1)) (s.size : Int) = ((min (d + 1) s.size : Nat) : Int) := by
      rw [w64 (by omega) (by omega)]; exact mnk (d + 1) s.size
     rw [e1]
     have e2 : (((min (d + 1) s.size : Nat) : Int)).toNat = min (d + 1) s.size := by omega
     rw [e2, mnk]
     have e3 : ∀ z : Nat, ((z : Nat) : Int).toNat = z := fun z => by omega
     rw [e3, L_extract, L_extract, List.drop_zero, List.take_of_length_le (i := s.size) (by omega)]
     have e4 : (s.extract (min (d + 1) s.size) s.size).size = s.size - min (d + 1) s.size := by
      rw [size_L, L_extract, List.length_drop, List.length_take]; omega
     rw [e4]
     by_cases g : d + 1 ≤ s.size
     ·rw [Nat.min_eq_left g]
      by_cases g2 : keep ≤ s.size - (d + 1)
      ·rw [Nat.min_eq_left g2]
      ·rw [Nat.min_eq_right (by omega), List.take_of_length_le (by rw [List.length_drop]; omega), List.take_of_length_le (by rw [List.length_drop]; omega)]
     ·rw [Nat.min_eq_right (by omega), List.drop_eq_nil_of_le (by omega), List.drop_eq_nil_of_le (by omega)]
      simp
    ·rw [a5]
     unfold Trie.conts
     simp only []
     rw [hrun, List.filter_cons, if_neg (by rw [hc]; simp)]
theorem deep_of {x : Nd} {K : List Key} (hK : ∀ k ∈ K, KOk k) (hI : In K x) (hN : NOk x) : Deep x := fun k hk => Nat.le_trans (hI.dep_ge hK hN hk) (dep_le hK (hN.ok k hk))
theorem l0_ev (keep : Nat) {q X : List Nd} (hB : Bfs q X) : ∀ (Q : List S108) (i : Nat) (Lt Mo Fi : ByteArray) (Rs : List ByteArray), (Q.drop i).map ndq = q → i ≤ Q.length → (∀ s ∈ Q, Nq s) → (∀ x ∈ X, NOk x ∧ Deep x) →
  Lt.size + (brs X).length ≤ 900000 → Mo.size + (brs X).length ≤ 900000 → Fi.size + (brs X).length ≤ 900000 → Rs.length + (brs X).length ≤ 900000 → i + X.length ≤ 900000 →
  ∃ Lt' Mo' Fi' Rs', Ev (fun k => impl_sieveOf.l0 k Lt Mo Fi Rs Q (keep : Int) (i : Int)) (Lt', Mo', Fi', Rs', (keep : Int)) ∧
   L Lt' = L Lt ++ encL X ∧ L Mo' = L Mo ++ encM X ∧ L Fi' = L Fi ++ encF X ∧ LL Rs' = LL Rs ++ encR keep X := by
 induction hB with
 | nil =>
  intro Q i Lt Mo Fi Rs h0 hi _ _ _ _ _ _ _
  have : Q.drop i = [] := List.map_eq_nil_iff.1 h0
  have hl := congrArg List.length this
  rw [List.length_drop] at hl
  simp only [List.length_nil] at hl
  refine ⟨Lt, Mo, Fi, Rs, ev_succ ?_, ?_, ?_, ?_, ?_⟩
  ·simp only [impl_sieveOf.l0]
   exact ev_neg (by omega) (ev_some rfl)
  all_goals simp [encL, encM, encF, encR, brs]
 | cons hX ih =>
  rename_i x q X
  intro Q i Lt Mo Fi Rs h0 hi hN hO z1 z2 z3 z4 z5
  cases hQ : Q.drop i with
  | nil => rw [hQ] at h0; cases h0
  | cons s t =>
   rw [hQ, List.map_cons, List.cons.injEq] at h0
   obtain ⟨rfl, h0⟩ := h0
   have hlt : i < Q.length := by
    have := congrArg List.length hQ
    rw [List.length_drop] at this
    simp only [List.length_cons] at this
    omega
   have hsi : Q[i] = s ∧ Q.drop (i + 1) = t := by
    rw [List.drop_eq_getElem_cons hlt, List.cons.injEq] at hQ; exact hQ
   have hs := hN s (by rw [← hsi.1]; exact List.getElem_mem hlt)
   have hx := hO (ndq s) (by simp)
   have hd : s.f1 = ((ndq s).2 : Int) := by show s.f1 = (s.f1.toNat : Int); have := hs.low; omega
   have hd5 := hx.1.deep
   have hlen := hs.sm.len
   have hbl : (bra (ndq s)).length ≤ s.f0.length := by
    rw [bra_length]
    have := runs_length_le (ndq s).2 (ndq s).1
    have e : (ndq s).1.length = s.f0.length := LL_length _
    omega
   rw [brs_cons, List.length_append] at z1 z2 z3 z4
   rw [List.length_cons] at z5
   have hql := bfs_len hX
   rw [List.length_append, ← h0, List.length_map] at hql
   have htl : t.length + (i + 1) = Q.length := by
    have := congrArg List.length hsi.2
    rw [List.length_drop] at this; omega
   obtain ⟨Lt1, Mo1, Fi1, Rs1, n1, e1, a1, a2, a3, a4, a5, a6⟩ := l1_ev keep (ndq s).2 (by omega) (i : Int) s.f0.length s.f0 Q 49 Lt Mo Fi Rs (Nat.le_refl _) hs.sm (fun y hy => hx.2 (L y) (List.mem_map_of_mem hy)) hN (by omega) (by omega) (by omega) (by omega) (by omega)
   have hbr : (LL s.f0, (ndq s).2) = ndq s := rfl
   rw [hbr] at a1 a2 a4 a5
   have hsz : ∀ {a b : ByteArray} {l : List UInt8}, L a = L b ++ l → a.size = b.size + l.length := fun {a b l} h => by rw [size_L, size_L, h, List.length_append]
   have b1 := hsz a1
   have b2 := hsz a2
   have b3 := hsz a3
   have b4 : Rs1.length = Rs.length + (((bra (ndq s)).filter leaf).map (rest keep)).length := by rw [← LL_length, a4, List.length_append, LL_length]
   rw [List.length_map] at b1 b2 b4
   have b6 : (marks 49 (runs (ndq s).2 (LL s.f0)).length).length = (bra (ndq s)).length := by rw [marks_49, fst1_length, bra_length]; rfl
   have b7 := List.length_filter_le leaf (bra (ndq s))
   obtain ⟨Lt', Mo', Fi', Rs', e2, c1, c2, c3, c4⟩ := ih (Q ++ n1) (i + 1) Lt1 Mo1 Fi1 Rs1 (by rw [List.drop_append_of_le_length (by omega), hsi.2, List.map_append, h0, a5]) (by rw [List.length_append]; omega)
    (fun y hy => by
     rcases List.mem_append.1 hy with hy | hy
     ·exact hN y hy
     ·exact a6 y hy)
    (fun y hy => hO y (by simp [hy])) (by omega) (by omega) (by omega) (by omega) (by omega)
   refine ⟨Lt', Mo', Fi', Rs', ev_succ ?_, ?_, ?_, ?_, ?_⟩
   ·simp only [impl_sieveOf.l0]
    have hr : rd_T108 Q (i : Int) = s := by
     show Q.getD i z108 = s
     rw [getD_lt _ hlt]; exact hsi.1
    rw [hr, hd]
    refine ev_pos (by omega) (ev_pos (by omega) (e1 _ ?_))
    rw [w64 (by omega) (by omega)]
    exact e2
   ·rw [c1, a1, List.append_assoc]; unfold encL; rw [brs_cons, List.map_append]
   ·rw [c2, a2, List.append_assoc]; unfold encM; rw [brs_cons, List.map_append]
   ·rw [c3, a3, List.append_assoc, marks_49]; unfold encF; rw [List.flatMap_cons]; rfl
   ·rw [c4, a4, List.append_assoc]; unfold encR; rw [brs_cons, List.filter_append, List.map_append]
theorem isKeep_eq (a : Int) : impl_isKeep.f a = some (decide (keepOk a)) := by
 unfold impl_isKeep.f
 rw [impl_in_eq]; rfl
theorem impl_SieveOf_ev (l : List ByteArray) (hl : SzL l) (a : Int) : Ev (fun k => impl_SieveOf.f k l a) (sieveV (LL l) a) := by
 unfold impl_SieveOf.f sieveV
 refine Ev.bind (impl_KeysOk_ev l hl) ?_
 by_cases c : keysB (LL l) = true
 ·refine ev_pos c (ev_bindc (isKeep_eq a) ?_)
  by_cases g : keepOk a
  ·rw [if_pos ⟨c, g⟩]
   refine ev_pos (decide_eq_true g) ?_
   have hk := keysB_iff.1 c
   obtain ⟨hL, hX⟩ := lvls_is hk
   have hfew := hk.few
   have hb := brs_few hL hfew hX
   obtain ⟨keep, rfl⟩ : ∃ n : Nat, a = (n : Int) := ⟨a.toNat, by have := g.1; omega⟩
   obtain ⟨Lt, Mo, Fi, Rs, e, a1, a2, a3, a4⟩ := l0_ev keep hL.bfs [⟨l, 0⟩] 0 (⟨#[]⟩ : ByteArray) (⟨#[]⟩ : ByteArray) (⟨#[]⟩ : ByteArray) [] rfl (by simp)
    (fun s hs => by
     rw [List.mem_singleton.1 hs]
     exact ⟨ksok_sm hk, by show (0 : Int) ≤ 0; omega, by show (0 : Int) ≤ 900; omega⟩)
    (fun x hx => ⟨(hL.nodes x hx).2, deep_of hk.ok (hL.nodes x hx).1 (hL.nodes x hx).2⟩) (by show 0 + _ ≤ _; omega) (by show 0 + _ ≤ _; omega) (by show 0 + _ ≤ _; omega) (by show 0 + _ ≤ _; omega) (by omega)
   refine Ev.bind (a := (Lt, Mo, Fi, Rs, (keep : Int))) (by unfold impl_sieveOf.f; exact e) (ev_some (encT_of ?_ ?_ ?_ ?_))
   ·rw [a1]; rfl
   ·rw [a2]; rfl
   ·rw [a3]; rfl
   ·rw [a4]; rfl
  ·rw [if_neg (fun h => g h.2)]
   exact ev_neg (by simp [g]) (ev_some rfl)
 ·refine ev_neg c ?_
  rw [if_neg (fun h => c h.1)]
  exact ev_some rfl
structure Fm (Lt Mo Fi : ByteArray) (Rs : List ByteArray) (n : Nat) : Prop where
 ln : (L Lt).length = n
 mn : (L Mo).length = n
 fn : (L Fi).length = n
 few : n ≤ 400
 mb : (L Mo).all bitc = true
 fb : (L Fi).all bitc = true
 rs : Rs.length = n - onesB (L Mo) n
 sz : ∀ s ∈ Rs, s.size ≤ 1048576
theorem bit_or {l : List UInt8} (h : l.all bitc = true) {i : Nat} (hi : i < l.length) : l.getD i 0 = 48 ∨ l.getD i 0 = 49 := by
 rw [getD_lt _ hi]
 have := List.all_eq_true.1 h _ (List.getElem_mem hi)
 simpa [bitc] using this
theorem pos_succ_ge : ∀ (l : List UInt8) (m : Nat), pos l m < l.length → pos l m + 1 ≤ pos l (m + 1) := by
 intro l
 induction l with
 | nil => intro m h; simp [pos] at h
 | cons c l ih =>
  intro m h
  unfold pos at h ⊢
  simp only [List.length_cons] at h
  by_cases q : c = 49
  ·rw [if_pos q] at h ⊢
   rw [if_pos q, if_neg (show ¬ m + 1 = 0 by omega)]
   by_cases z : m = 0
   ·rw [if_pos z]; omega
   ·rw [if_neg z] at h ⊢
    have e : m + 1 - 1 = (m - 1) + 1 := by omega
    have := ih (m - 1) (by omega)
    rw [e]; omega
  ·rw [if_neg q] at h ⊢
   rw [if_neg q]
   have := ih m (by omega)
   omega
theorem between : ∀ (l : List UInt8) (m i : Nat), pos l m < i → i < pos l (m + 1) → l.getD i 0 ≠ 49 := by
 intro l
 induction l with
 | nil => intro m i h1 h2; simp [pos] at h2
 | cons c l ih =>
  intro m i h1 h2
  unfold pos at h1 h2
  cases i with
  | zero => omega
  | succ i =>
   rw [List.getD_cons_succ]
   by_cases q : c = 49
   ·rw [if_pos q] at h1 h2
    rw [if_neg (show ¬ m + 1 = 0 by omega)] at h2
    by_cases z : m = 0
    ·subst z
     have h3 : i < pos l 0 := by
      simp at h2
      omega
     clear h1 h2 ih
     intro hq
     have : ∀ (l : List UInt8) (i : Nat), i < pos l 0 → l.getD i 0 ≠ 49 := by
      intro l
      induction l with
      | nil => intro i h; simp [pos] at h
      | cons c l ih =>
       intro i h
       unfold pos at h
       by_cases q : c = 49
       ·rw [if_pos q, if_pos rfl] at h; omega
       ·rw [if_neg q] at h
        cases i with
        | zero => simpa using q
        | succ i => rw [List.getD_cons_succ]; exact ih i (by omega)
     exact this l i h3 hq
    ·rw [if_neg z] at h1
     have e : m + 1 - 1 = (m - 1) + 1 := by omega
     rw [e] at h2
     exact ih (m - 1) i (by omega) (by omega)
   ·rw [if_neg q] at h1 h2
    exact ih m i (by omega) (by omega)
section
variable {Lt Mo Fi : ByteArray} {Rs : List ByteArray} {keep : Int} {n : Nat}
theorem branches_l0 (h : Fm Lt Mo Fi Rs n) (m : Nat) (hm : pos (L Fi) m < n) (d : Nat) : ∀ i : Nat, pos (L Fi) m < i → i ≤ pos (L Fi) (m + 1) → pos (L Fi) (m + 1) - i = d →
  Ev (fun k => impl_Sieve_branches.l0 k ((pos (L Fi) m : Nat) : Int) (i : Int) Lt Mo Fi Rs keep) (((pos (L Fi) m : Nat) : Int), ((pos (L Fi) (m + 1) : Nat) : Int)) := by
 have hf := h.fn
 have hs := size_L Fi
 have hle := pos_le (L Fi) (m + 1)
 have hfew := h.few
 induction d with
 | zero =>
  intro i h1 h2 h3
  have e : i = pos (L Fi) (m + 1) := by omega
  refine ev_succ ?_
  simp only [impl_Sieve_branches.l0]
  by_cases c : i < n
  ·have h1' := (pos_one (L Fi) (m + 1) (by omega)).1
   refine ev_pos (by omega) (ev_pos (by omega) (ev_neg ?_ (ev_some (by rw [e]))))
   rw [bt_L, e, h1']
   decide
  ·exact ev_neg (by omega) (ev_some (by rw [e]))
 | succ d ih =>
  intro i h1 h2 h3
  have hlt : i < n := by omega
  refine ev_succ ?_
  simp only [impl_Sieve_branches.l0]
  have hz : (L Fi).getD i 0 = 48 := by
   rcases bit_or h.fb (show i < (L Fi).length by omega) with q | q
   ·exact q
   ·exact absurd q (between _ _ _ h1 (by omega))
  refine ev_pos (by omega) (ev_pos (by omega) (ev_pos ?_ ?_))
  ·rw [bt_L, hz]; rfl
  ·rw [w64 (by omega) (by omega)]
   exact ih (i + 1) (by omega) (by omega) (by omega)
def brI (F : List UInt8) (m : Nat) : Int × Int := if pos F m < F.length then (((pos F m : Nat) : Int), ((pos F (m + 1) : Nat) : Int)) else (0, 0)
theorem branches_ev (h : Fm Lt Mo Fi Rs n) (m : Nat) (hm : m ≤ 1000000) : Ev (fun k => impl_Sieve_branches.f k Lt Mo Fi Rs keep (m : Int)) (brI (L Fi) m) := by
 unfold impl_Sieve_branches.f brI
 have hf := h.fn
 have hs := size_L Fi
 have hfew := h.few
 refine Ev.bind (impl_one_ev Fi (by omega) m (by omega)) ?_
 unfold oneI
 by_cases c : pos (L Fi) m < (L Fi).length
 ·rw [if_pos c, if_pos c]
  refine ev_neg (by omega) ?_
  rw [w64 (by omega) (by omega)]
  exact branches_l0 h m (by omega) _ (pos (L Fi) m + 1) (by omega) (pos_succ_ge _ _ c) rfl
 ·rw [if_neg c, if_neg c]
  exact ev_pos (by omega) (ev_some rfl)
theorem one_L : L (⟨#[49]⟩ : ByteArray) = [49] := rfl
theorem nought_L : L (⟨#[48]⟩ : ByteArray) = [48] := rfl
theorem node_eq (h : Fm Lt Mo Fi Rs n) (i : Nat) (hi : i < n) : impl_Sieve_node.f Lt Mo Fi Rs keep (i : Int) = some ((onesB (L Mo) (i + 1) : Nat) : Int) := by
 unfold impl_Sieve_node.f
 have hf := h.mn
 have hs := size_L Mo
 have hfew := h.few
 rw [w64 (by omega) (by omega), if_pos (by omega), if_pos (by omega), count_L one_L]
 simp only [Option.bind_some]
 rw [L_extract]
 have : ((i : Int) + 1).toNat = i + 1 := by omega
 rw [this, List.drop_zero, onesB_count]
theorem noughts : ∀ (l : List UInt8), l.all bitc = true → ∀ i, i ≤ l.length → (l.take i).count 48 = i - onesB l i := by
 intro l hl i hi
 have h1 : ∀ (l : List UInt8), l.all bitc = true → l.count 48 + l.countP (· == 49) = l.length := by
  intro l
  induction l with
  | nil => intro _; rfl
  | cons c l ih =>
   intro h
   rw [List.all_cons, Bool.and_eq_true] at h
   have := ih h.2
   have hc : c = 48 ∨ c = 49 := by simpa [bitc] using h.1
   rcases hc with rfl | rfl <;> simp <;> omega
 have h2 := h1 (l.take i) (by
  rw [List.all_eq_true] at hl ⊢
  exact fun x hx => hl x (List.mem_of_mem_take hx))
 rw [List.length_take, Nat.min_eq_left hi] at h2
 unfold onesB
 omega
theorem rest_eq (h : Fm Lt Mo Fi Rs n) (i : Nat) (hi : i < n) (h48 : (L Mo).getD i 0 = 48) : impl_Sieve_rest.f Lt Mo Fi Rs keep (i : Int) = some (Rs.getD (i - onesB (L Mo) i) ByteArray.empty) ∧ i - onesB (L Mo) i < Rs.length := by
 have hf := h.mn
 have hs := size_L Mo
 have hfew := h.few
 have hlt : i - onesB (L Mo) i < Rs.length := by
  rw [h.rs]
  have h1 := noughts (L Mo) h.mb i (by omega)
  have h2 := noughts (L Mo) h.mb n (by omega)
  have h3 := noughts (L Mo) h.mb (i + 1) (by omega)
  rw [← h1, ← h2]
  have e : (L Mo).take (i + 1) = (L Mo).take i ++ [48] := by
   rw [List.take_succ_eq_append_getElem (by omega)]
   congr 1
   rw [getD_lt _ (by omega)] at h48
   rw [h48]
  have h4 : ((L Mo).take (i + 1)).count 48 = ((L Mo).take i).count 48 + 1 := by rw [e, List.count_append]; rfl
  have h5 : ((L Mo).take (i + 1)).count 48 ≤ ((L Mo).take n).count 48 := (List.IsPrefix.sublist (List.take_prefix_take_left (by omega))).count_le 48
  omega
 refine ⟨?_, hlt⟩
 unfold impl_Sieve_rest.f
 rw [if_pos (by omega), if_pos (by omega), count_L nought_L]
 simp only [Option.bind_some]
 rw [L_extract]
 have : ((i : Int)).toNat = i := by omega
 rw [this, List.drop_zero, noughts (L Mo) h.mb i (by omega), if_pos (by omega), if_pos (by omega)]
 rfl
theorem complete_eq (h : Fm Lt Mo Fi Rs n) (i : Nat) (hi : i < n) (h48 : (L Mo).getD i 0 = 48) : impl_Sieve_complete.f Lt Mo Fi Rs keep (i : Int) = some (decide ((L Lt).getD i 0 = 45 ∨ ((L (Rs.getD (i - onesB (L Mo) i) ByteArray.empty)).length : Int) < keep)) := by
 unfold impl_Sieve_complete.f
 have hf := h.ln
 have hs := size_L Lt
 rw [if_pos (by omega), if_pos (by omega)]
 have hb : bt Lt (i : Int) = 45 ↔ (L Lt).getD i 0 = 45 := bt_is (n := 45) (by omega)
 by_cases c : (L Lt).getD i 0 = 45
 ·rw [if_pos (hb.2 c), decide_eq_true (.inl c)]
 ·rw [if_neg (fun q => c (hb.1 q)), (rest_eq h i hi h48).1]
  simp only [Option.bind_some]
  rw [size_L]
  congr 1
  rw [Bool.eq_iff_iff, decide_eq_true_eq, decide_eq_true_eq]
  exact ⟨.inr, fun q => q.elim (fun q => absurd q c) id⟩
end
theorem cut_one (a : ByteArray) {i : Nat} (hi : i < (L a).length) : L (a.extract ((i : Int)).toNat ((i : Int) + 1).toNat) = [(L a).getD i 0] := by
 rw [L_extract, getD_lt _ hi]
 have e1 : ((i : Int)).toNat = i := by omega
 have e2 : ((i : Int) + 1).toNat = i + 1 := by omega
 rw [e1, e2, List.drop_take, List.drop_eq_getElem_cons hi]
 have : i + 1 - i = 1 := by omega
 rw [this]; rfl
theorem cut_one_size (a : ByteArray) {i : Nat} (hi : i < (L a).length) : (a.extract ((i : Int)).toNat ((i : Int) + 1).toNat).size = 1 := by rw [size_L, cut_one a hi]; rfl
section
variable {Lt Mo Fi : ByteArray} {Rs : List ByteArray} {keep : Int} {n : Nat}
def cost (Mo Fi : ByteArray) (t a b : Nat) : Nat := rsum (wgt (L Mo) (L Fi) t) a b
theorem cost_leaf {t a b : Nat} (h : a < b) (h48 : (L Mo).getD a 0 = 48) : cost Mo Fi (t + 1) a b = 1 + cost Mo Fi (t + 1) (a + 1) b := by
 unfold cost
 rw [rsum_step _ h]
 congr 1
 show (if (L Mo).getD a 0 = 49 then _ else 1) = 1
 rw [if_neg (by rw [h48]; decide)]
theorem cost_node {t a b : Nat} (h : a < b) (h49 : (L Mo).getD a 0 = 49) : cost Mo Fi (t + 1) a b = cost Mo Fi t (pos (L Fi) (onesB (L Mo) (a + 1))) (pos (L Fi) (onesB (L Mo) (a + 1) + 1)) + cost Mo Fi (t + 1) (a + 1) b := by
 unfold cost
 rw [rsum_step _ h]
 congr 1
 show (if (L Mo).getD a 0 = 49 then _ else 1) = _
 rw [if_pos h49]
def Ts (l : List S93) : Prop := ∀ s ∈ l, s.f0.size ≤ 2000000
theorem Ts.snoc {l : List S93} (h : Ts l) {s : S93} (hs : s.f0.size ≤ 2000000) : Ts (l ++ [s]) := fun x hx => by
 rcases List.mem_append.1 hx with hx | hx
 ·exact h x hx
 ·rw [List.mem_singleton.1 hx]; exact hs
def PartsP (Lt Mo Fi : ByteArray) (Rs : List ByteArray) (keep : Int) (n t : Nat) : Prop :=
 ∀ (m : Nat) (way : ByteArray) (out : List S93), m ≤ 1000000 → pos (L Fi) m < n → n - pos (L Fi) m < t → way.size ≤ 1000 → out.length + cost Mo Fi t (pos (L Fi) m) (pos (L Fi) (m + 1)) ≤ 1000000 → Ts out →
  ∃ r, Ev (fun k => impl_Sieve_parts.f k Lt Mo Fi Rs keep (m : Int) way out) r ∧ (r.2 = true → r.1.length ≤ out.length + cost Mo Fi t (pos (L Fi) m) (pos (L Fi) (m + 1)) ∧ Ts r.1)
theorem parts_l0 (h : Fm Lt Mo Fi Rs n) (t tq : Nat) (hto : tq ≤ n) (hP : PartsP Lt Mo Fi Rs keep n t) (way : ByteArray) (hw : way.size ≤ 5) (d : Nat) : ∀ (i : Nat) (out : List S93), i ≤ tq → tq - i = d → n - i ≤ t → out.length + cost Mo Fi (t + 1) i tq ≤ 1000000 → Ts out →
  ∃ r, Ev (fun k => impl_Sieve_parts.l0 k way out (tq : Int) (i : Int) Lt Mo Fi Rs keep) r ∧ (r.2 = true → r.1.length ≤ out.length + cost Mo Fi (t + 1) i tq ∧ Ts r.1) := by
 have hfew := h.few
 have s1 := size_L Lt
 have s2 := size_L Mo
 have h1l := h.ln
 have h2l := h.mn
 induction d with
 | zero =>
  intro i out g1 g2 g3 g4 g5
  refine ⟨(out, true), ev_succ ?_, fun _ => ⟨by show out.length ≤ _; omega, g5⟩⟩
  simp only [impl_Sieve_parts.l0]
  exact ev_neg (by omega) (ev_some rfl)
 | succ d ih =>
  intro i out g1 g2 g3 g4 g5
  have hlt : i < tq := by omega
  have hin : i < n := by omega
  have hw64 : ∀ _ : Unit, wrap64 ((i : Int) + 1) = ((i + 1 : Nat) : Int) := fun _ => by rw [w64 (by omega) (by omega)]; omega
  have key : ∀ way' : ByteArray, way'.size ≤ 6 → ∃ r, Ev (fun k => impl_Sieve_parts.j1 k way out (tq : Int) (i : Int) way' Lt Mo Fi Rs keep) r ∧ (r.2 = true → r.1.length ≤ out.length + cost Mo Fi (t + 1) i tq ∧ Ts r.1) := by
   intro way' hw'
   rcases bit_or h.mb (show i < (L Mo).length by omega) with h48 | h49
   ·have hc := cost_leaf (Mo := Mo) (Fi := Fi) (t := t) hlt h48
    have hb : bt Mo (i : Int) = 48 := (bt_is (n := 48) (by omega)).2 h48
    obtain ⟨hr1, hr2⟩ := rest_eq (keep := keep) h i hin h48
    have hrs := h.sz _ (show Rs.getD (i - onesB (L Mo) i) ByteArray.empty ∈ Rs by rw [getD_lt _ hr2]; exact List.getElem_mem _)
    have hcm := complete_eq (keep := keep) h i hin h48
    generalize Rs.getD (i - onesB (L Mo) i) ByteArray.empty = rv at hr1 hrs hcm
    generalize decide ((L Lt).getD i 0 = 45 ∨ ((L rv).length : Int) < keep) = cv at hcm
    obtain ⟨r, hr, hb2⟩ := ih (i + 1) (out ++ [⟨way' ++ rv, cv⟩]) (by omega) (by omega) (by omega) (by rw [List.length_append]; simp only [List.length_cons, List.length_nil]; omega) (g5.snoc (by show (way' ++ rv).size ≤ _; rw [ByteArray.size_append]; omega))
    refine ⟨r, ev_succ ?_, fun q => ⟨by have := (hb2 q).1; rw [List.length_append] at this; simp only [List.length_cons, List.length_nil] at this; omega, (hb2 q).2⟩⟩
    simp only [impl_Sieve_parts.j1]
    refine ev_pos (by omega) (ev_pos (by omega) (ev_pos hb ?_))
    simp only [hr1, Option.bind_some]
    refine ev_pos (by omega) ?_
    simp only [hcm, Option.bind_some]
    refine ev_pos (by omega) ?_
    rw [hw64 ()]; exact hr
   ·have hc := cost_node (Mo := Mo) (Fi := Fi) (t := t) hlt h49
    have hb : ¬ bt Mo (i : Int) = 48 := fun q => by
     have := (bt_is (n := 48) (by omega)).1 q
     rw [h49] at this; exact absurd this (by decide)
    have hno : ∀ b : Bool, b = true → Ev (fun k => impl_Sieve_parts.j2 k way out (tq : Int) (i : Int) way' b Lt Mo Fi Rs keep) ([], false) := by
     intro b hb
     refine ev_succ ?_
     simp only [impl_Sieve_parts.j2]
     exact ev_pos hb (ev_some rfl)
    have hone := onesB_le (L Mo) (i + 1)
    have hbr := branches_ev (keep := keep) h (onesB (L Mo) (i + 1)) (by omega)
    have hno' : ∀ b : Bool, b = true → ∃ r, Ev (fun k => impl_Sieve_parts.j2 k way out (tq : Int) (i : Int) way' b Lt Mo Fi Rs keep) r ∧ (r.2 = true → r.1.length ≤ out.length + cost Mo Fi (t + 1) i tq ∧ Ts r.1) := fun b hb => ⟨_, hno b hb, fun q => by cases q⟩
    have hj : ∃ r, Ev (fun k => (if (brI (L Fi) (onesB (L Mo) (i + 1))).1 ≤ (i : Int) then (impl_Sieve_parts.j2 k way out (tq : Int) (i : Int) way' true Lt Mo Fi Rs keep) else (if (i : Int) < (Lt.size : Int) then (impl_Sieve_parts.j2 k way out (tq : Int) (i : Int) way' ((bt Lt (i : Int)) == 45) Lt Mo Fi Rs keep) else none))) r ∧ (r.2 = true → r.1.length ≤ out.length + cost Mo Fi (t + 1) i tq ∧ Ts r.1) := by
     by_cases c : (brI (L Fi) (onesB (L Mo) (i + 1))).1 ≤ (i : Int)
     ·obtain ⟨r, h1, h2⟩ := hno' true rfl
      exact ⟨r, ev_pos c h1, h2⟩
     ·by_cases c2 : ((bt Lt (i : Int)) == 45) = true
      ·obtain ⟨r, h1, h2⟩ := hno' _ c2
       exact ⟨r, ev_neg c (ev_pos (by omega) h1), h2⟩
      ·have hpos : pos (L Fi) (onesB (L Mo) (i + 1)) < n := by
        by_cases z : pos (L Fi) (onesB (L Mo) (i + 1)) < (L Fi).length
        ·have := h.fn; omega
        ·unfold brI at c
         rw [if_neg z] at c
         exact absurd (show (0 : Int) ≤ (i : Int) by omega) c
       have hgt : i < pos (L Fi) (onesB (L Mo) (i + 1)) := by
        unfold brI at c
        rw [if_pos (by have := h.fn; omega)] at c
        simp only at c; omega
       obtain ⟨r1, e1, b1⟩ := hP (onesB (L Mo) (i + 1)) way' out (by omega) hpos (by omega) (by omega) (by omega) g5
       have hfin : ∃ r, Ev (fun k => impl_Sieve_parts.j2 k way out (tq : Int) (i : Int) way' ((bt Lt (i : Int)) == 45) Lt Mo Fi Rs keep) r ∧ (r.2 = true → r.1.length ≤ out.length + cost Mo Fi (t + 1) i tq ∧ Ts r.1) := by
        by_cases q : r1.2 = true
        ·obtain ⟨b1', b1''⟩ := b1 q
         obtain ⟨r, hr, hb2⟩ := ih (i + 1) r1.1 (by omega) (by omega) (by omega) (by omega) b1''
         refine ⟨r, ev_succ ?_, fun q2 => ⟨by have := (hb2 q2).1; omega, (hb2 q2).2⟩⟩
         simp only [impl_Sieve_parts.j2]
         refine ev_neg c2 (ev_bindc (node_eq h i hin) (Ev.bind e1 (ev_pos q ?_)))
         rw [hw64 ()]; exact hr
        ·refine ⟨([], false), ev_succ ?_, fun q2 => by cases q2⟩
         simp only [impl_Sieve_parts.j2]
         exact ev_neg c2 (ev_bindc (node_eq h i hin) (Ev.bind e1 (ev_neg q (ev_some rfl))))
       obtain ⟨r, h1, h2⟩ := hfin
       exact ⟨r, ev_neg c (ev_pos (by omega) h1), h2⟩
    obtain ⟨r, h1, h2⟩ := hj
    refine ⟨r, ev_succ ?_, h2⟩
    simp only [impl_Sieve_parts.j1]
    exact ev_pos (by omega) (ev_pos (by omega) (ev_neg hb (ev_bindc (node_eq h i hin) (Ev.bind hbr h1))))
  by_cases c : bt Lt (i : Int) = 45
  ·obtain ⟨r, h1, h2⟩ := key way (by omega)
   refine ⟨r, ev_succ ?_, h2⟩
   simp only [impl_Sieve_parts.l0]
   exact ev_pos (by omega) (ev_pos (by omega) (ev_pos (by omega) (ev_pos c h1)))
  ·have hz := cut_one_size Lt (show i < (L Lt).length by omega)
   have hw64' : ∀ _ : Unit, wrap64 ((i : Int) + 1) = (i : Int) + 1 := fun _ => w64 (by omega) (by omega)
   obtain ⟨r, h1, h2⟩ := key (way ++ Lt.extract ((i : Int)).toNat ((i : Int) + 1).toNat) (by rw [ByteArray.size_append]; omega)
   refine ⟨r, ev_succ ?_, h2⟩
   simp only [impl_Sieve_parts.l0]
   rw [hw64' ()]
   exact ev_pos (by omega) (ev_pos (by omega) (ev_pos (by omega) (ev_neg c (ev_pos (by omega) (ev_pos (by omega) (ev_pos (by omega) h1))))))
theorem parts_P (h : Fm Lt Mo Fi Rs n) : ∀ t, PartsP Lt Mo Fi Rs keep n t := by
 have hfew := h.few
 intro t
 induction t with
 | zero => intro m way out _ g1 g2; omega
 | succ t ih =>
  intro m way out hm g1 g2 g3 g4 g5
  have hbr := branches_ev (keep := keep) h m hm
  unfold brI at hbr
  rw [if_pos (by have := h.fn; omega)] at hbr
  by_cases c : (way.size : Int) > 5
  ·refine ⟨([], false), ev_succ ?_, fun q => by cases q⟩
   simp only [impl_Sieve_parts.f]
   exact ev_pos c (ev_some rfl)
  ·have hto : pos (L Fi) (m + 1) ≤ n := by have := pos_le (L Fi) (m + 1); have := h.fn; omega
   have hle := pos_mono (L Fi) (show m ≤ m + 1 by omega)
   obtain ⟨r, e1, b1⟩ := parts_l0 h t (pos (L Fi) (m + 1)) hto ih way (by omega) _ (pos (L Fi) m) out hle rfl (by omega) g4 g5
   refine ⟨r, ev_succ ?_, b1⟩
   simp only [impl_Sieve_parts.f]
   exact ev_neg c (Ev.bind hbr e1)
theorem parts_any (h : Fm Lt Mo Fi Rs n) : ∃ r, Ev (fun k => impl_Sieve_parts.f k Lt Mo Fi Rs keep 0 (⟨#[]⟩ : ByteArray) []) r ∧ (r.2 = true → r.1.length ≤ 1000000 ∧ Ts r.1) := by
 have hfew := h.few
 by_cases c : pos (L Fi) 0 < n
 ·have hcost : cost Mo Fi (n + 1) (pos (L Fi) 0) (pos (L Fi) (0 + 1)) ≤ (n + 1) * n := wgt_all _ _ h.mn h.fn _ _ _ (by have := pos_le (L Fi) (0 + 1); have := h.fn; omega)
  have h400 : (n + 1) * n ≤ 401 * 400 := Nat.mul_le_mul (by omega) (by omega)
  obtain ⟨r, e, b⟩ := parts_P (keep := keep) h (n + 1) 0 (⟨#[]⟩ : ByteArray) [] (by omega) c (by omega) (by show 0 ≤ 1000; omega) (by simp only [List.length_nil]; omega) (fun s hs => by cases hs)
  exact ⟨r, e, fun q => ⟨by have := (b q).1; simp only [List.length_nil] at this; omega, (b q).2⟩⟩
 ·refine ⟨([], true), ev_succ ?_, fun _ => ⟨by simp, fun s hs => by cases hs⟩⟩
  have hbr := branches_ev (keep := keep) h 0 (by omega)
  unfold brI at hbr
  rw [if_neg (by have := h.fn; omega)] at hbr
  simp only [impl_Sieve_parts.f]
  refine ev_neg (by show ¬ ((0 : Nat) : Int) > 5; omega) (Ev.bind hbr (ev_succ ?_))
  simp only [impl_Sieve_parts.l0]
  exact ev_neg (by omega) (ev_some rfl)
end
structure Enc (K : List Key) (X : List Nd) (keep : Nat) (Lt Mo Fi : ByteArray) (Rs : List ByteArray) : Prop where
 lv : Lvl K X
 few : K.length ≤ 24
 fewb : (brs X).length ≤ 400
 kp : keep ≤ 5
 l : L Lt = encL X
 m : L Mo = encM X
 f : L Fi = encF X
 r : LL Rs = encR keep X
theorem fst1_bits (n : Nat) : (fst1 n).all bitc = true := by
 cases n with
 | zero => rfl
 | succ n =>
  show (49 :: List.replicate n 48).all bitc = true
  rw [List.all_cons, List.all_replicate]
  simp [bitc]
section
variable {K : List Key} {X : List Nd} {keep : Nat} {Lt Mo Fi : ByteArray} {Rs : List ByteArray}
theorem encR_short (keep : Nat) (X : List Nd) (hX : ∀ x ∈ X, NOk x) : ∀ s ∈ encR keep X, s.length ≤ 5 := by
 intro s hs
 unfold encR at hs
 obtain ⟨b, hb, rfl⟩ := List.mem_map.1 hs
 obtain ⟨x, hx, h1, h2⟩ := mem_brs.1 (List.mem_filter.1 hb).1
 have hk := (hX x hx).ok _ ((runs_sub h1).subset (headD_mem (runs_ne_nil _ _ h1)))
 unfold rest
 rw [List.length_take, List.length_drop]
 have := hk.len
 omega
theorem Enc.fm (h : Enc K X keep Lt Mo Fi Rs) : Fm Lt Mo Fi Rs (brs X).length where
 ln := by rw [h.l, encL_length]
 mn := by rw [h.m, encM_length]
 fn := by rw [h.f, encF_length]
 few := h.fewb
 mb := by
  rw [h.m]; unfold encM
  rw [List.all_map, List.all_eq_true]
  intro b _
  simp only [Function.comp]
  unfold bit
  split <;> rfl
 fb := by
  rw [h.f]; unfold encF
  rw [List.all_flatMap, List.all_eq_true]
  intro x _
  exact fst1_bits _
 rs := by
  rw [← LL_length, h.r, h.m]
  rw [zeros_enc X (Nat.le_refl _), List.take_length]
  unfold encR
  rw [List.length_map, List.countP_eq_length_filter]
 sz := by
  intro s hs
  have h1 : L s ∈ LL Rs := List.mem_map_of_mem hs
  rw [h.r] at h1
  have := encR_short keep X (fun x hx => (h.lv.nodes x hx).2) _ h1
  rw [size_L]; omega
theorem Enc.pos (h : Enc K X keep Lt Mo Fi Rs) (h0 : K ≠ []) {m : Nat} (hm : m ≤ X.length) : Trie.pos (L Fi) m = off X m := by
 rw [h.f]; exact pos_encF X (h.lv.full h0) m hm
theorem off_le (X : List Nd) (m : Nat) : off X m ≤ (brs X).length := by
 have h1 : off X m ≤ off X (max m X.length) := off_mono X (Nat.le_max_left _ _)
 have h2 : off X (max m X.length) = (brs X).length := by
  unfold off
  rw [List.take_of_length_le (Nat.le_max_right _ _)]
 omega
theorem Enc.br (h : Enc K X keep Lt Mo Fi Rs) (h0 : K ≠ []) {m : Nat} (hm : m < X.length) : brI (L Fi) m = (((off X m : Nat) : Int), ((off X (m + 1) : Nat) : Int)) ∧ off X m < (brs X).length := by
 have h1 := off_succ hm
 have h2 := h.lv.full h0 X[m] (List.getElem_mem hm)
 have h3 := off_le X (m + 1)
 refine ⟨?_, by omega⟩
 unfold brI
 rw [h.pos h0 (by omega), h.pos h0 (by omega), if_pos (by have := h.fm.fn; omega)]
noncomputable def pt (K : List Key) (keep : Nat) (k : Key) : S93 := ⟨mkS (Trie.hd K keep k), cpl K keep k⟩
theorem LL_at {l : List ByteArray} {i : Nat} {s : Key} (h : (LL l)[i]? = some s) : L (l.getD i ByteArray.empty) = s := by
 rw [LL_getD, List.getD_eq_getElem?_getD, h]; rfl
def EncP (K : List Key) (X : List Nd) (keep : Nat) (Lt Mo Fi : ByteArray) (Rs : List ByteArray) (t : Nat) : Prop :=
 ∀ (m : Nat) (hm : m < X.length) (way : ByteArray) (out : List S93), X.length - m ≤ t → (∀ k ∈ X[m].1, L way = k.take X[m].2) → out.length + X[m].1.length ≤ 1000000 →
  Ev (fun k => impl_Sieve_parts.f k Lt Mo Fi Rs (keep : Int) (m : Int) way out) (out ++ X[m].1.map (pt K keep), true)
theorem enc_l0 (h : Enc K X keep Lt Mo Fi Rs) (h0 : K ≠ []) (t : Nat) (hP : EncP K X keep Lt Mo Fi Rs t) {m : Nat} (hm : m < X.length) (ht : X.length - m ≤ t + 1) (way : ByteArray) (hway : ∀ k ∈ X[m].1, L way = k.take X[m].2) (d : Nat) :
  ∀ (j : Nat) (out : List S93), j ≤ (runs X[m].2 X[m].1).length → (runs X[m].2 X[m].1).length - j = d → out.length + (((runs X[m].2 X[m].1).drop j).flatten).length ≤ 1000000 →
   Ev (fun k => impl_Sieve_parts.l0 k way out ((off X (m + 1) : Nat) : Int) ((off X m + j : Nat) : Int) Lt Mo Fi Rs (keep : Int)) (out ++ (((runs X[m].2 X[m].1).drop j).flatten).map (pt K keep), true) := by
 have F := h.fm
 have hfew := F.few
 have hoff := off_succ hm
 have hle := off_le X (m + 1)
 have s1 := size_L Lt
 have s2 := size_L Mo
 have l1 := F.ln
 have l2 := F.mn
 have hd5 := (h.lv.nodes X[m] (List.getElem_mem hm)).2.deep
 induction d with
 | zero =>
  intro j out g1 g2 g3
  refine ev_succ ?_
  simp only [impl_Sieve_parts.l0]
  refine ev_neg (by omega) (ev_some ?_)
  rw [List.drop_eq_nil_of_le (by omega)]; simp
 | succ d ih =>
  intro j out g1 g2 g3
  have hj : j < (runs X[m].2 X[m].1).length := by omega
  have hi : off X m + j < (brs X).length := by omega
  have hdrop : (runs X[m].2 X[m].1).drop j = (runs X[m].2 X[m].1)[j] :: (runs X[m].2 X[m].1).drop (j + 1) := List.drop_eq_getElem_cons hj
  rw [hdrop, List.flatten_cons, List.length_append] at g3
  rw [hdrop, List.flatten_cons, List.map_append]
  have hw64 : ∀ _ : Unit, wrap64 (((off X m + j : Nat) : Int) + 1) = ((off X m + (j + 1) : Nat) : Int) := fun _ => by rw [w64 (by omega) (by omega)]; omega
  have hw64' : ∀ _ : Unit, wrap64 (((off X m + j : Nat) : Int) + 1) = ((off X m + j : Nat) : Int) + 1 := fun _ => w64 (by omega) (by omega)
  have hbL : bt Lt ((off X m + j : Nat) : Int) = 45 ↔ (L Lt).getD (off X m + j) 0 = 45 := bt_is (n := 45) (by omega)
  have hbM : bt Mo ((off X m + j : Nat) : Int) = 48 ↔ (L Mo).getD (off X m + j) 0 = 48 := bt_is (n := 48) (by omega)
  have lets : ∀ r, (∀ way' : ByteArray, (L way' = L way ++ (if (L Lt).getD (off X m + j) 0 = 45 then [] else [(L Lt).getD (off X m + j) 0])) → way'.size ≤ 1000 → Ev (fun k => impl_Sieve_parts.j1 k way out ((off X (m + 1) : Nat) : Int) ((off X m + j : Nat) : Int) way' Lt Mo Fi Rs (keep : Int)) r) → way.size ≤ 100 →
    Ev (fun k => impl_Sieve_parts.l0 k way out ((off X (m + 1) : Nat) : Int) ((off X m + j : Nat) : Int) Lt Mo Fi Rs (keep : Int)) r := by
   intro r hr hws
   refine ev_succ ?_
   simp only [impl_Sieve_parts.l0]
   refine ev_pos (by omega) (ev_pos (by omega) (ev_pos (by omega) ?_))
   by_cases c : (L Lt).getD (off X m + j) 0 = 45
   ·refine ev_pos (hbL.2 c) (hr way ?_ (by omega))
    rw [if_pos c, List.append_nil]
   ·have hz := cut_one_size Lt (show off X m + j < (L Lt).length by omega)
    have hcut := cut_one Lt (show off X m + j < (L Lt).length by omega)
    rw [hw64' ()]
    refine ev_neg (fun q => c (hbL.1 q)) (ev_pos (by omega) (ev_pos (by omega) (ev_pos (by omega) (hr _ ?_ (by rw [ByteArray.size_append]; omega)))))
    rw [if_neg c, L_append, hcut]
  by_cases hc : cont (runs X[m].2 X[m].1)[j] = true
  ·obtain ⟨hlt, hX, hmc, hgt, hM, hk⟩ := branch_node h.lv hm hj hc
   have hne := runs_ne_nil _ _ (List.getElem_mem hj)
   obtain ⟨k0, hk0⟩ : ∃ k0, k0 ∈ (runs X[m].2 X[m].1)[j] := ⟨_, headD_mem hne⟩
   have hk0x := (runs_sub (List.getElem_mem hj)).subset hk0
   have hwl : way.size ≤ 5 := by
    rw [size_L, hway k0 hk0x, List.length_take]; omega
   have hbr := branches_ev (keep := (keep : Int)) F (onesB (L Mo) (off X m + j + 1)) (by have := onesB_le (L Mo) (off X m + j + 1); omega)
   have hno := node_eq (keep := (keep : Int)) F (off X m + j) hi
   have hbx := (h.br h0 hlt).1
   rw [← h.m] at hM
   rw [h.m] at hno hbr
   rw [hbx] at hbr
   refine lets _ (fun way' e hz => ev_succ ?_) (by omega)
   simp only [impl_Sieve_parts.j1]
   refine ev_pos (by omega) (ev_pos (by omega) (ev_neg (fun q => ?_) (ev_bindc hno (Ev.bind hbr (ev_neg (by simp only; omega) (ev_pos (by omega) (ev_succ ?_)))))))
   ·rw [hbM.1 q] at hM; exact absurd hM (by decide)
   ·simp only [impl_Sieve_parts.j2]
    refine ev_neg (fun q => ?_) (ev_bindc hno ?_)
    ·have q2 := hbL.1 (by simpa using q)
     rw [h.l] at q2
     rw [(hk k0 hk0).1] at q2
     exact (hk k0 hk0).2.1 q2
    ·have hch : ∀ k ∈ (X[onesB (encM X) (off X m + j + 1)]).1, L way' = k.take (X[onesB (encM X) (off X m + j + 1)]).2 := by
      intro k hkk
      rw [hX] at hkk ⊢
      simp only at hkk ⊢
      have hkx := (runs_sub (List.getElem_mem hj)).subset hkk
      obtain ⟨q1, q2, q3⟩ := hk k hkk
      rw [e, h.l, q1, if_neg q2, hway k hkx, lab_lt q3, ← List.take_succ_eq_append_getElem q3]
     have hrec := hP (onesB (encM X) (off X m + j + 1)) hlt way' out (by omega) hch (by rw [hX]; simp only; omega)
     rw [hX] at hrec
     simp only at hrec
     refine Ev.bind hrec (ev_pos rfl ?_)
     rw [hw64 ()]
     refine ev_eq (ih (j + 1) (out ++ (runs X[m].2 X[m].1)[j].map (pt K keep)) (by omega) (by omega) (by rw [List.length_append, List.length_map]; omega)) ?_
     rw [List.append_assoc]
  ·have hc' : cont (runs X[m].2 X[m].1)[j] = false := by simpa using hc
   obtain ⟨k, hg, hkx, hdep, hL, hM, hR⟩ := branch_leaf h.lv hm hj hc'
   obtain ⟨hkK, hko, _, hkl⟩ := h.lv.key hm hkx
   have hwl : way.size ≤ 5 := by
    rw [size_L, hway k hkx, List.length_take]; omega
   have hR := LL_at (l := Rs) (by rw [h.r]; exact hR keep)
   rw [← h.m] at hR hM
   rw [← h.l] at hL
   have hr := (rest_eq (keep := (keep : Int)) F (off X m + j) hi hM).1
   have hcm := complete_eq (keep := (keep : Int)) F (off X m + j) hi hM
   generalize Rs.getD (off X m + j - onesB (L Mo) (off X m + j)) ByteArray.empty = rv at hR hr hcm
   have hcv : decide ((L Lt).getD (off X m + j) 0 = 45 ∨ ((L rv).length : Int) < (keep : Int)) = cpl K keep k := by
    have h1 := leaf_all hko hdep hkl keep
    rw [hL, hR]
    rw [Bool.eq_iff_iff, decide_eq_true_eq, ← h1]
    constructor
    ·rintro (q | q)
     ·exact .inl q
     ·exact .inr (by omega)
    ·rintro (q | q)
     ·exact .inl q
     ·exact .inr (by omega)
   rw [hcv] at hcm
   have hrvs : rv.size ≤ 5 := by
    rw [size_L, hR, List.length_take, List.length_drop]; have := hko.len; omega
   refine lets _ (fun way' e hz => ev_succ ?_) (by omega)
   simp only [impl_Sieve_parts.j1]
   refine ev_pos (by omega) (ev_pos (by omega) (ev_pos (hbM.2 hM) ?_))
   simp only [hr, Option.bind_some]
   refine ev_pos (by omega) ?_
   simp only [hcm, Option.bind_some]
   rw [hg] at g3 ⊢
   refine ev_pos (by simp only [List.length_cons, List.length_nil] at g3; omega) ?_
   rw [hw64 ()]
   have hpt : (⟨way' ++ rv, cpl K keep k⟩ : S93) = pt K keep k := by
    unfold pt
    congr 1
    apply L_inj
    rw [L_mkS, L_append, e, hL, hR, hway k hkx]
    exact leaf_text hko hdep hkl keep
   rw [hpt]
   refine ev_eq (ih (j + 1) (out ++ [pt K keep k]) (by omega) (by omega) (by rw [List.length_append]; simp only [List.length_cons, List.length_nil] at g3 ⊢; omega)) ?_
   rw [List.append_assoc]; rfl
theorem enc_P (h : Enc K X keep Lt Mo Fi Rs) (h0 : K ≠ []) : ∀ t, EncP K X keep Lt Mo Fi Rs t := by
 intro t
 induction t with
 | zero => intro m hm way out g; omega
 | succ t ih =>
  intro m hm way out g1 g2 g3
  have hfl := runs_flatten X[m].2 X[m].1
  have hd5 := (h.lv.nodes X[m] (List.getElem_mem hm)).2.deep
  have hne : X[m].1 ≠ [] := by
   have := h.lv.full h0 X[m] (List.getElem_mem hm)
   intro q
   rw [q, runs_nil] at this
   simp at this
  obtain ⟨k0, hk0⟩ := List.exists_mem_of_ne_nil _ hne
  have hwl : way.size ≤ 5 := by
   rw [size_L, g2 k0 hk0, List.length_take]; omega
  have hmX : X.length ≤ 1000 := by
   have := size_eq h.lv.eq
   have := h.fewb
   simp only at *
   omega
  have hbr := branches_ev (keep := (keep : Int)) h.fm m (by omega)
  rw [(h.br h0 hm).1] at hbr
  have := enc_l0 h h0 t ih hm g1 way g2 _ 0 out (Nat.zero_le _) rfl (by rw [List.drop_zero, hfl]; exact g3)
  rw [List.drop_zero, hfl] at this
  refine ev_succ ?_
  simp only [impl_Sieve_parts.f]
  exact ev_neg (by omega) (Ev.bind hbr this)
theorem parts_enc (h : Enc K X keep Lt Mo Fi Rs) : Ev (fun k => impl_Sieve_parts.f k Lt Mo Fi Rs (keep : Int) 0 (⟨#[]⟩ : ByteArray) []) (K.map (pt K keep), true) := by
 by_cases h0 : K = []
 ·subst h0
  have hX := lvl_nil h.lv
  subst hX
  have hz : (brs [(([] : List Key), 0)]).length = 0 := by rw [brs_nil]; rfl
  have F := h.fm
  have hbr := branches_ev (keep := (keep : Int)) F 0 (by omega)
  unfold brI at hbr
  rw [if_neg (by have := F.fn; omega)] at hbr
  refine ev_succ ?_
  simp only [impl_Sieve_parts.f]
  refine ev_neg (by show ¬ ((0 : Nat) : Int) > 5; omega) (Ev.bind hbr (ev_succ ?_))
  simp only [impl_Sieve_parts.l0]
  exact ev_neg (by omega) (ev_some rfl)
 ·have hX0 := h.lv.pos_root
  obtain ⟨hlt, hX⟩ := List.getElem?_eq_some_iff.1 hX0
  have := enc_P h h0 X.length 0 hlt (⟨#[]⟩ : ByteArray) [] (by omega) (fun k _ => by rw [hX]; rfl) (by rw [hX]; have := h.few; simp only [List.length_nil]; omega)
  rw [hX] at this
  simpa using this
end
theorem sieveV_few (K : List Key) (a : Int) : (sieveV K a).2.2.2.1.length ≤ 2000000 := by
 unfold sieveV
 split
 ·rename_i h
  have hk := keysB_iff.1 h.1
  obtain ⟨h1, h2⟩ := lvls_is hk
  have hb := brs_few h1 hk.few h2
  unfold encT
  simp only [List.length_map]
  unfold encR
  rw [List.length_map]
  have := List.length_filter_le leaf (brs (lvls K))
  omega
 ·simp
theorem eq_ev2 (l : List ByteArray) (hn : l.length ≤ 2000000) : Ev (fun k => laws_eqStringS.f k l l) true := by
 unfold laws_eqStringS.f
 have h0 : ∀ d i : Nat, i ≤ l.length → l.length - i = d → Ev (fun k => laws_eqStringS.l0 k l l (i : Int)) true := by
  intro d
  induction d with
  | zero =>
   intro i h1 h2
   refine ev_succ ?_
   simp only [laws_eqStringS.l0]
   exact ev_neg (by omega) (ev_some rfl)
  | succ d ih =>
   intro i h1 h2
   refine ev_succ ?_
   simp only [laws_eqStringS.l0]
   refine ev_pos (by omega) (ev_pos (by omega) (ev_pos (by omega) (ev_pos (by simp) ?_)))
   rw [w64 (by omega) (by omega)]
   exact ih (i + 1) (by omega) (by omega)
 exact ev_pos rfl (h0 _ 0 (by omega) rfl)
theorem eqSieve_ev (t : SvT) (hf : t.2.2.2.1.length ≤ 2000000) : Ev (fun k => laws_eqSieve.f k t.1 t.2.1 t.2.2.1 t.2.2.2.1 t.2.2.2.2.1 t.1 t.2.1 t.2.2.1 t.2.2.2.1 t.2.2.2.2.1) true := by
 unfold laws_eqSieve.f
 exact ev_pos rfl (ev_pos rfl (ev_pos rfl (Ev.bind (eq_ev2 _ hf) (ev_pos rfl (ev_pos rfl (ev_some rfl))))))
theorem ltSieve_ev (t : SvT) (hf : t.2.2.2.1.length ≤ 2000000) : Ev (fun k => laws_ltSieve.f k t.1 t.2.1 t.2.2.1 t.2.2.2.1 t.2.2.2.2.1 t.1 t.2.1 t.2.2.1 t.2.2.2.1 t.2.2.2.2.1) true := by
 unfold laws_ltSieve.f
 exact ev_pos rfl (ev_pos rfl (ev_pos rfl (ev_pos rfl (Ev.bind (same_ev _ hf) (ev_some rfl)))))
theorem ev_unique {α : Type} {g : Nat → Option α} {a b : α} (ha : Ev g a) (hb : Ev g b) : a = b := by
 obtain ⟨K, h1⟩ := ha
 obtain ⟨K', h2⟩ := hb
 have e1 := h1 (K + K') (by omega)
 have e2 := h2 (K + K') (by omega)
 rw [e1] at e2
 injection e2
theorem bfs_unique {q X Y : List Nd} (h : Bfs q X) (g : Bfs q Y) : X = Y := by
 induction h generalizing Y with
 | nil => cases g; rfl
 | cons _ ih =>
  cases g with
  | cons g => rw [ih g]
theorem heads_ok {K : List Key} (h : KsOk K) (keep : Nat) : KsOk (K.map (Trie.hd K keep)) := by
 refine ⟨fun k hk => ?_, heads_sorted h.ok h.sorted keep, by rw [List.length_map]; exact h.few⟩
 obtain ⟨k', hk', rfl⟩ := List.mem_map.1 hk
 exact (h.ok k' hk').take _
theorem heads_enc {K : List Key} (h : KsOk K) (keep : Nat) : encT (lvls (K.map (Trie.hd K keep))) (keep : Int) = encT (lvls K) (keep : Int) := by
 obtain ⟨h1, _⟩ := lvls_is h
 obtain ⟨h2, _⟩ := lvls_is (heads_ok h keep)
 have hl : ∀ x, In K x ∧ NOk x → ∀ k ∈ x.1, lab (Trie.hd K keep k) x.2 = lab k x.2 := fun x hx => mem_lab h.ok keep hx.1 hx.2
 have hb := bfs_map (f := Trie.hd K keep) (P := fun x => In K x ∧ NOk x) (fun x hx y hy => ⟨hx.1.conts hx.2 hy, (hx.2.conts hy).1⟩) hl h1.bfs (fun x hx => by
  rw [List.mem_singleton] at hx
  subst hx
  exact ⟨h1.rootIn, h1.root⟩)
 have e : lvls (K.map (Trie.hd K keep)) = (lvls K).map (mapN (Trie.hd K keep)) := bfs_unique h2.bfs hb
 rw [e]
 obtain ⟨e1, e2, e3, e4⟩ := enc_heads h.ok keep h1.nodes
 unfold encT
 have : ((keep : Int)).toNat = keep := by omega
 rw [this, e1, e2, e3, e4]
structure Is (K : List Key) (keep : Nat) (Lt Mo Fi : ByteArray) (Rs : List ByteArray) : Prop where
 ok : KsOk K
 kp : keep ≤ 5
 eq : encT (lvls K) (keep : Int) = (Lt, Mo, Fi, Rs, (keep : Int), true)
section
variable {K : List Key} {keep : Nat} {Lt Mo Fi : ByteArray} {Rs : List ByteArray}
theorem Is.enc (h : Is K keep Lt Mo Fi Rs) : Enc K (lvls K) keep Lt Mo Fi Rs := by
 obtain ⟨h1, h2⟩ := lvls_is h.ok
 have e := h.eq
 unfold encT at e
 have e0 : ((keep : Int)).toNat = keep := by omega
 rw [e0] at e
 simp only [Prod.mk.injEq] at e
 obtain ⟨e1, e2, e3, e4, _⟩ := e
 have hb := brs_few h1 h.ok.few h2
 have hs := size_eq h1.eq
 simp only at hs
 have hf := h.ok.few
 refine ⟨h1, h.ok.few, by omega, h.kp, by rw [← e1, L_mkS], by rw [← e2, L_mkS], by rw [← e3, L_mkS], ?_⟩
 rw [← e4]
 exact LL_mkS _
theorem Is.heads (h : Is K keep Lt Mo Fi Rs) : sieveV (K.map (Trie.hd K keep)) (keep : Int) = (Lt, Mo, Fi, Rs, (keep : Int), true) := by
 unfold sieveV
 rw [if_pos ⟨keysB_iff.2 (heads_ok h.ok keep), by constructor <;> have := h.kp <;> omega⟩, heads_enc h.ok keep]
 exact h.eq
theorem is_of {l : List Key} {a : Int} {Lt Mo Fi : ByteArray} {Rs : List ByteArray} {a' : Int} (h : sieveV l a = (Lt, Mo, Fi, Rs, a', true)) : Is l a.toNat Lt Mo Fi Rs ∧ a = (a.toNat : Int) ∧ a' = a := by
 unfold sieveV at h
 by_cases c : keysB l = true ∧ keepOk a
 ·rw [if_pos c] at h
  have e : a = (a.toNat : Int) := by have := c.2.1; omega
  have e2 : a' = a := by
   have h2 := h
   unfold encT at h2
   simp only [Prod.mk.injEq] at h2
   exact h2.2.2.2.2.1.symm
  rw [e2, e] at h
  exact ⟨⟨keysB_iff.1 c.1, by have := c.2.2; omega, h⟩, e, e2⟩
 ·rw [if_neg c] at h
  simp at h
end
theorem bytes_eq {a b : ByteArray} : a.toList = b.toList ↔ a = b := ⟨fun h => L_inj (L_eq_iff.1 h), fun h => by rw [h]⟩
theorem equal_l0 (a b : List ByteArray) (hn : a.length ≤ 2000000) (hl : a.length = b.length) (d : Nat) : ∀ i : Nat, i ≤ a.length → a.length - i = d →
  Ev (fun k => slices_Equal_string_string.l0 k a b (a.length : Int) (i : Int)) (decide (a.drop i = b.drop i)) := by
 induction d with
 | zero =>
  intro i h1 h2
  refine ev_succ ?_
  simp only [slices_Equal_string_string.l0]
  refine ev_neg (by omega) (ev_some ?_)
  rw [List.drop_eq_nil_of_le (by omega), List.drop_eq_nil_of_le (by omega)]; simp
 | succ d ih =>
  intro i h1 h2
  have hlt : i < a.length := by omega
  refine ev_succ ?_
  simp only [slices_Equal_string_string.l0]
  refine ev_pos (by omega) (ev_pos (by omega) (ev_pos (by omega) (ev_pos (by omega) ?_)))
  have e1 : rdOf ByteArray.empty a (i : Int) = a.getD i ByteArray.empty := rfl
  have e2 : rdOf ByteArray.empty b (i : Int) = b.getD i ByteArray.empty := rfl
  rw [e1, e2, drop_cons ByteArray.empty hlt, drop_cons ByteArray.empty (show i < b.length by omega)]
  by_cases c : a.getD i ByteArray.empty = b.getD i ByteArray.empty
  ·refine ev_pos (bytes_eq.2 c) ?_
   rw [w64 (by omega) (by omega)]
   refine ev_eq (ih (i + 1) (by omega) (by omega)) ?_
   rw [Bool.eq_iff_iff, decide_eq_true_eq, decide_eq_true_eq, List.cons.injEq]
   exact ⟨fun h => ⟨c, h⟩, fun h => h.2⟩
  ·refine ev_neg (fun q => c (bytes_eq.1 q)) (ev_some ?_)
   rw [eq_comm, decide_eq_false_iff_not, List.cons.injEq]
   exact fun h => c h.1
theorem equal_ev (a b : List ByteArray) (hn : a.length ≤ 2000000) : Ev (fun k => slices_Equal_string_string.f k a b) (decide (a = b)) := by
 unfold slices_Equal_string_string.f
 by_cases c : a.length = b.length
 ·refine ev_pos (by omega) (ev_eq (equal_l0 a b hn c a.length 0 (by omega) (by omega)) ?_)
  rw [List.drop_zero, List.drop_zero]
 ·refine ev_neg (by omega) (ev_some ?_)
  rw [eq_comm, decide_eq_false_iff_not]
  exact fun h => c (by rw [h])
theorem same_sv_ev (t s : SvT) (hn : t.2.2.2.1.length ≤ 2000000) (ht : t.2.2.2.2.2 = s.2.2.2.2.2) : Ev (fun k => impl_Sieve_same.f k t.1 t.2.1 t.2.2.1 t.2.2.2.1 t.2.2.2.2.1 s.1 s.2.1 s.2.2.1 s.2.2.2.1 s.2.2.2.2.1) (decide (t = s)) := by
 obtain ⟨t1, t2, t3, t4, t5, t6⟩ := t
 obtain ⟨s1, s2, s3, s4, s5, s6⟩ := s
 simp only at ht hn ⊢
 subst ht
 unfold impl_Sieve_same.f
 have no : ∀ {b : Bool}, ¬ ((t1, t2, t3, t4, t5, t6) : SvT) = (s1, s2, s3, s4, s5, t6) → false = decide (((t1, t2, t3, t4, t5, t6) : SvT) = (s1, s2, s3, s4, s5, t6)) := fun h => by
  rw [eq_comm, decide_eq_false_iff_not]; exact h
 by_cases c1 : t1 = s1
 ·refine ev_pos (bytes_eq.2 c1) ?_
  by_cases c2 : t2 = s2
  ·refine ev_pos (bytes_eq.2 c2) ?_
   by_cases c3 : t3 = s3
   ·refine ev_pos (bytes_eq.2 c3) ?_
    by_cases c5 : t5 = s5
    ·refine ev_pos c5 (Ev.bind (equal_ev t4 s4 hn) (ev_some ?_))
     rw [Bool.eq_iff_iff, decide_eq_true_eq, decide_eq_true_eq, c1, c2, c3, c5]
     simp
    ·exact ev_neg c5 (ev_some (no (b := true) (fun h => c5 (by simp only [Prod.mk.injEq] at h; exact h.2.2.2.2.1))))
   ·exact ev_neg (fun q => c3 (bytes_eq.1 q)) (ev_some (no (b := true) (fun h => c3 (by simp only [Prod.mk.injEq] at h; exact h.2.2.1))))
  ·exact ev_neg (fun q => c2 (bytes_eq.1 q)) (ev_some (no (b := true) (fun h => c2 (by simp only [Prod.mk.injEq] at h; exact h.2.1))))
 ·exact ev_neg (fun q => c1 (bytes_eq.1 q)) (ev_some (no (b := true) (fun h => c1 (by simp only [Prod.mk.injEq] at h; exact h.1))))
theorem texts_l0 (l : List S93) (hn : l.length ≤ 2000000) (d : Nat) : ∀ (i : Nat) (x : List ByteArray), i ≤ l.length → l.length - i = d → x.length ≤ i →
  Ev (fun k => impl_texts.l0 k x l (l.length : Int) (i : Int)) (x ++ (l.drop i).map S93.f0) := by
 induction d with
 | zero =>
  intro i x h1 h2 h3
  refine ev_succ ?_
  simp only [impl_texts.l0]
  refine ev_neg (by omega) (ev_some ?_)
  rw [List.drop_eq_nil_of_le (by omega)]; simp
 | succ d ih =>
  intro i x h1 h2 h3
  have hlt : i < l.length := by omega
  refine ev_succ ?_
  simp only [impl_texts.l0]
  refine ev_pos (by omega) (ev_pos (by omega) (ev_pos (by omega) (ev_pos (by omega) ?_)))
  have e1 : rd_T93 l (i : Int) = l.getD i z93 := rfl
  rw [w64 (by omega) (by omega), e1]
  refine ev_eq (ih (i + 1) (x ++ [(l.getD i z93).f0]) (by omega) (by omega) (by rw [List.length_append]; simp only [List.length_cons, List.length_nil]; omega)) ?_
  rw [drop_cons z93 hlt, List.map_cons, List.append_assoc]; rfl
theorem texts_ev (l : List S93) (hn : l.length ≤ 2000000) : Ev (fun k => impl_texts.f k l) (l.map S93.f0) := by
 unfold impl_texts.f
 exact ev_eq (texts_l0 l hn l.length 0 [] (by omega) (by omega) (by simp)) (by simp)
structure SvSz (Lt Mo Fi : ByteArray) (Rs : List ByteArray) : Prop where
 a : Lt.size ≤ 1048576
 b : Mo.size ≤ 1048576
 c : Fi.size ≤ 1048576
 d : Rs.length ≤ 1048576
 e : ∀ s ∈ Rs, s.size ≤ 1048576
theorem heads_ev {Lt Mo Fi : ByteArray} {Rs : List ByteArray} (hz : SvSz Lt Mo Fi Rs) (a : Int) :
  (∃ K keep, a = ((keep : Nat) : Int) ∧ Is K keep Lt Mo Fi Rs ∧ Ev (fun k => impl_Sieve_heads.f k Lt Mo Fi Rs a) (K.map (pt K keep), true)) ∨
  ((∀ K keep, a = ((keep : Nat) : Int) → ¬ Is K keep Lt Mo Fi Rs) ∧ Ev (fun k => impl_Sieve_heads.f k Lt Mo Fi Rs a) ([], false)) := by
 have s1 := size_L Lt
 have s2 := size_L Mo
 have s3 := size_L Fi
 have z1 := hz.a
 have z2 := hz.b
 have z3 := hz.c
 have z4 := hz.d
 have hM := impl_BitsOk_ev Mo (by omega)
 have hF := impl_BitsOk_ev Fi (by omega)
 have hno : Ev (fun k => impl_Sieve_heads.j0 k true Lt Mo Fi Rs a) ([], false) := by
  refine ev_succ ?_
  simp only [impl_Sieve_heads.j0]
  exact ev_pos (by simp) (ev_some rfl)
 have isfm : ∀ K keep, a = ((keep : Nat) : Int) → Is K keep Lt Mo Fi Rs → Fm Lt Mo Fi Rs (L Lt).length ∧ keepOk a := by
  intro K keep ha h
  have h1 := h.enc.fm
  have h2 := h1.ln
  rw [h2]
  refine ⟨h1, ?_, ?_⟩ <;> have := h.kp <;> omega
 have bits : ∀ {s : ByteArray}, bitsB (L s) = true ↔ (L s).all bitc = true ∧ (L s).length ≤ 400 := fun {s} => by
  unfold bitsB; rw [Bool.and_eq_true, decide_eq_true_eq]
 by_cases c1 : bitsB (L Mo) = true
 ·by_cases c2 : bitsB (L Fi) = true
  ·by_cases c3 : (Mo.size : Int) = (Lt.size : Int)
   ·by_cases c4 : (Fi.size : Int) = (Lt.size : Int)
    ·by_cases c5 : keepOk a
     ·have hcnt := count_L (x := Mo) nought_L
      have hnt := noughts (L Mo) (bits.1 c1).1 (L Mo).length (Nat.le_refl _)
      rw [List.take_length] at hnt
      rw [hnt] at hcnt
      have hgo : ∀ r, Ev (fun k => impl_Sieve_heads.j0 k ((Rs.length : Int) != (((L Mo).length - onesB (L Mo) (L Mo).length : Nat) : Int)) Lt Mo Fi Rs a) r → Ev (fun k => impl_Sieve_heads.f k Lt Mo Fi Rs a) r := by
       intro r hr
       unfold impl_Sieve_heads.f
       exact Ev.bind hM (ev_pos c1 (Ev.bind hF (ev_pos c2 (ev_pos c3 (ev_pos c4 (ev_bindc (isKeep_eq a) (ev_pos (decide_eq_true c5) (ev_bindc hcnt hr))))))))
      by_cases c6 : (Rs.length : Int) = (((L Mo).length - onesB (L Mo) (L Mo).length : Nat) : Int)
      ·have hfm : Fm Lt Mo Fi Rs (L Lt).length := by
        have e1 : (L Mo).length = (L Lt).length := by omega
        refine ⟨rfl, e1, by omega, by have := (bits.1 c1).2; omega, (bits.1 c1).1, (bits.1 c2).1, ?_, hz.e⟩
        rw [e1] at c6; omega
       obtain ⟨keep, ha⟩ : ∃ n : Nat, a = (n : Int) := ⟨a.toNat, by have := c5.1; omega⟩
       have hb6 : ((Rs.length : Int) != (((L Mo).length - onesB (L Mo) (L Mo).length : Nat) : Int)) = false := bne_eq_false_iff_eq.2 c6
       rw [hb6] at hgo
       obtain ⟨r, hr, hrb⟩ := parts_any (keep := a) hfm
       obtain ⟨rl, rb⟩ := r
       cases rb with
       | false =>
        right
        refine ⟨fun K kp hk h => ?_, hgo _ (ev_succ ?_)⟩
        ·have h1 := parts_enc h.enc
         rw [← hk] at h1
         have := ev_unique hr h1
         simp at this
        ·simp only [impl_Sieve_heads.j0]
         exact ev_neg (by simp) (Ev.bind hr (ev_neg (by simp) (ev_some rfl)))
       | true =>
        obtain ⟨b1, b2⟩ := hrb rfl
        simp only at b1 b2
        have htx := texts_ev rl (by omega)
        have hsz : SzL (rl.map S93.f0) := by
         refine ⟨by rw [List.length_map]; omega, fun x hx => ?_⟩
         obtain ⟨s, hs, rfl⟩ := List.mem_map.1 hx
         have := b2 s hs
         omega
        have hof := impl_SieveOf_ev (rl.map S93.f0) hsz a
        have hfew := sieveV_few (LL (rl.map S93.f0)) a
        by_cases c7 : (sieveV (LL (rl.map S93.f0)) a).2.2.2.2.2 = true
        ·have hsm := same_sv_ev (sieveV (LL (rl.map S93.f0)) a) (Lt, Mo, Fi, Rs, a, true) hfew c7
         by_cases c8 : sieveV (LL (rl.map S93.f0)) a = (Lt, Mo, Fi, Rs, a, true)
         ·left
          obtain ⟨hI, e1, _⟩ := is_of c8
          have h1 := parts_enc hI.enc
          rw [← e1] at h1
          have e2 := ev_unique hr h1
          simp only [Prod.mk.injEq, and_true] at e2
          refine ⟨_, a.toNat, e1, hI, ?_⟩
          rw [← e2]
          refine hgo _ (ev_succ ?_)
          simp only [impl_Sieve_heads.j0]
          exact ev_neg (by simp) (Ev.bind hr (ev_pos rfl (Ev.bind htx (Ev.bind hof (ev_pos c7 (Ev.bind hsm (ev_pos (by rw [decide_eq_true_eq]; exact c8) (ev_some rfl))))))))
         ·right
          refine ⟨fun K kp hk h => ?_, hgo _ (ev_succ ?_)⟩
          ·have h1 := parts_enc h.enc
           rw [← hk] at h1
           have e2 := ev_unique hr h1
           simp only [Prod.mk.injEq, and_true] at e2
           refine c8 ?_
           have h3 := h.heads
           rw [← hk] at h3
           rw [← h3, e2]
           congr 1
           unfold LL pt
           rw [List.map_map, List.map_map]
           apply List.map_congr_left
           intro x _
           exact L_mkS _
          ·simp only [impl_Sieve_heads.j0]
           exact ev_neg (by simp) (Ev.bind hr (ev_pos rfl (Ev.bind htx (Ev.bind hof (ev_pos c7 (Ev.bind hsm (ev_neg (by rw [decide_eq_true_eq]; exact c8) (ev_some rfl))))))))
        ·right
         refine ⟨fun K kp hk h => ?_, hgo _ (ev_succ ?_)⟩
         ·have h1 := parts_enc h.enc
          rw [← hk] at h1
          have e2 := ev_unique hr h1
          simp only [Prod.mk.injEq, and_true] at e2
          refine c7 ?_
          have h3 := h.heads
          rw [← hk] at h3
          have h4 : LL (rl.map S93.f0) = K.map (Trie.hd K kp) := by
           rw [e2]
           unfold LL pt
           rw [List.map_map, List.map_map]
           apply List.map_congr_left
           intro x _
           exact L_mkS _
          rw [h4, h3]
         ·simp only [impl_Sieve_heads.j0]
          exact ev_neg (by simp) (Ev.bind hr (ev_pos rfl (Ev.bind htx (Ev.bind hof (ev_neg c7 (ev_some rfl))))))
      ·right
       have hb6 : ((Rs.length : Int) != (((L Mo).length - onesB (L Mo) (L Mo).length : Nat) : Int)) = true := bne_iff_ne.2 c6
       rw [hb6] at hgo
       refine ⟨fun K kp hk h => c6 ?_, hgo _ hno⟩
       have h1 := (isfm K kp hk h).1
       have e1 := h1.mn
       have := h1.rs
       rw [← e1] at this
       omega
     ·right
      refine ⟨fun K kp hk h => c5 (isfm K kp hk h).2, ?_⟩
      unfold impl_Sieve_heads.f
      exact Ev.bind hM (ev_pos c1 (Ev.bind hF (ev_pos c2 (ev_pos c3 (ev_pos c4 (ev_bindc (isKeep_eq a) (ev_neg (by rw [decide_eq_true_eq]; exact c5) hno)))))))
    ·right
     refine ⟨fun K kp hk h => c4 ?_, ?_⟩
     ·have := (isfm K kp hk h).1.fn; omega
     ·unfold impl_Sieve_heads.f
      exact Ev.bind hM (ev_pos c1 (Ev.bind hF (ev_pos c2 (ev_pos c3 (ev_neg c4 hno)))))
   ·right
    refine ⟨fun K kp hk h => c3 ?_, ?_⟩
    ·have := (isfm K kp hk h).1.mn; omega
    ·unfold impl_Sieve_heads.f
     exact Ev.bind hM (ev_pos c1 (Ev.bind hF (ev_pos c2 (ev_neg c3 hno))))
  ·right
   refine ⟨fun K kp hk h => c2 (bits.2 ?_), ?_⟩
   ·have h1 := (isfm K kp hk h).1
    exact ⟨h1.fb, by have := h1.fn; have := h1.few; omega⟩
   ·unfold impl_Sieve_heads.f
    exact Ev.bind hM (ev_pos c1 (Ev.bind hF (ev_neg c2 hno)))
 ·right
  refine ⟨fun K kp hk h => c1 (bits.2 ?_), ?_⟩
  ·have h1 := (isfm K kp hk h).1
   exact ⟨h1.mb, by have := h1.mn; have := h1.few; omega⟩
  ·unfold impl_Sieve_heads.f
   exact Ev.bind hM (ev_neg c1 hno)
section
variable {Lt Mo Fi : ByteArray} {Rs : List ByteArray} {keep : Int} {n : Nat}
theorem kids_ev (h : Fm Lt Mo Fi Rs n) (i : Nat) (hi : i < n) : Ev (fun k => spec_l3Kids.f k Lt Mo Fi Rs keep (i : Int)) (((pos (L Fi) (onesB (L Mo) (i + 1)) : Nat) : Int), ((pos (L Fi) (onesB (L Mo) (i + 1) + 1) : Nat) : Int)) := by
 unfold spec_l3Kids.f
 have hf := h.fn
 have hm := h.mn
 have s1 := size_L Mo
 have s2 := size_L Fi
 have hfew := h.few
 have hone := onesB_le (L Mo) (i + 1)
 rw [w64 (by omega) (by omega)]
 have e1 : ((i : Int) + 1).toNat = i + 1 := by omega
 have h1 := spec_l1Ones_ev Mo (by omega) ((i : Int) + 1) (by omega)
 rw [e1] at h1
 refine Ev.bind h1 (Ev.bind (spec_l1One_ev Fi (by omega) _ (by omega)) ?_)
 rw [w64 (by omega) (by omega)]
 have e2 : ((onesB (L Mo) (i + 1) : Nat) : Int) + 1 = ((onesB (L Mo) (i + 1) + 1 : Nat) : Int) := by omega
 rw [e2]
 exact Ev.bind (spec_l1One_ev Fi (by omega) _ (by omega)) (ev_some rfl)
def Bs (l : List ByteArray) : Prop := ∀ s ∈ l, s.size ≤ 2000000
theorem Bs.snoc {l : List ByteArray} (h : Bs l) {s : ByteArray} (hs : s.size ≤ 2000000) : Bs (l ++ [s]) := fun x hx => by
 rcases List.mem_append.1 hx with hx | hx
 ·exact h x hx
 ·rw [List.mem_singleton.1 hx]; exact hs
def AddP (Lt Mo Fi : ByteArray) (Rs : List ByteArray) (keep : Int) (n t : Nat) : Prop :=
 ∀ (a b : Nat) (head : ByteArray) (out : List ByteArray), a ≤ b → b ≤ n → n - a < t → head.size ≤ 1000 → out.length + cost Mo Fi t a b ≤ 1000000 → Bs out →
  ∃ r, Ev (fun k => spec_l3Add.f k Lt Mo Fi Rs keep (a : Int) (b : Int) head out) r ∧ r.length ≤ out.length + cost Mo Fi t a b ∧ Bs r
theorem add_l0 (h : Fm Lt Mo Fi Rs n) (t b : Nat) (hb : b ≤ n) (hP : AddP Lt Mo Fi Rs keep n t) (head : ByteArray) (hw : head.size ≤ 1000) (d : Nat) : ∀ (i : Nat) (out : List ByteArray), i ≤ b → b - i = d → n - i ≤ t → out.length + cost Mo Fi (t + 1) i b ≤ 1000000 → Bs out →
  ∃ r, Ev (fun k => spec_l3Add.l0 k (b : Int) head out (i : Int) Lt Mo Fi Rs keep) r ∧ r.length ≤ out.length + cost Mo Fi (t + 1) i b ∧ Bs r := by
 have hfew := h.few
 have s1 := size_L Lt
 have s2 := size_L Mo
 have h1l := h.ln
 have h2l := h.mn
 have stop : ∀ (i : Nat) (out : List ByteArray), Ev (fun k => spec_l3Add.j1 k (b : Int) head out (i : Int) false Lt Mo Fi Rs keep) out := by
  intro i out
  refine ev_succ ?_
  simp only [spec_l3Add.j1]
  exact ev_neg (by simp) (ev_some rfl)
 induction d with
 | zero =>
  intro i out g1 g2 g3 g4 g5
  refine ⟨out, ev_succ ?_, by omega, g5⟩
  simp only [spec_l3Add.l0]
  exact ev_neg (by omega) (stop i out)
 | succ d ih =>
  intro i out g1 g2 g3 g4 g5
  have hlt : i < b := by omega
  have hin : i < n := by omega
  have hw64 : ∀ _ : Unit, wrap64 ((i : Int) + 1) = ((i + 1 : Nat) : Int) := fun _ => by rw [w64 (by omega) (by omega)]; omega
  have hw64' : ∀ _ : Unit, wrap64 ((i : Int) + 1) = (i : Int) + 1 := fun _ => w64 (by omega) (by omega)
  by_cases hh : (head.size : Int) ≤ 5
  ·have key : ∀ now : ByteArray, now.size ≤ 6 → ∃ r, Ev (fun k => spec_l3Add.j2 k (b : Int) head out (i : Int) now Lt Mo Fi Rs keep) r ∧ r.length ≤ out.length + cost Mo Fi (t + 1) i b ∧ Bs r := by
    intro now hnow
    have hbM : bt Mo (i : Int) = 49 ↔ (L Mo).getD i 0 = 49 := bt_is (n := 49) (by omega)
    rcases bit_or h.mb (show i < (L Mo).length by omega) with h48 | h49
    ·have hc := cost_leaf (Mo := Mo) (Fi := Fi) (t := t) hlt h48
     obtain ⟨_, hr2⟩ := rest_eq (keep := keep) h i hin h48
     have hrs := h.sz _ (show Rs.getD (i - onesB (L Mo) i) ByteArray.empty ∈ Rs by rw [getD_lt _ hr2]; exact List.getElem_mem _)
     have hone := onesB_self (L Mo) i
     have ho := spec_l1Ones_ev Mo (by omega) (i : Int) (by omega)
     have e0 : ((i : Int)).toNat = i := by omega
     rw [e0] at ho
     have hsub : ∀ _ : Unit, wrap64 ((i : Int) - ((onesB (L Mo) i : Nat) : Int)) = ((i - onesB (L Mo) i : Nat) : Int) := fun _ => by rw [w64 (by omega) (by omega)]; omega
     obtain ⟨r, hr, hb2, hb3⟩ := ih (i + 1) (out ++ [now ++ Rs.getD (i - onesB (L Mo) i) ByteArray.empty]) (by omega) (by omega) (by omega) (by rw [List.length_append]; simp only [List.length_cons, List.length_nil]; omega) (g5.snoc (by rw [ByteArray.size_append]; omega))
     refine ⟨r, ev_succ ?_, by rw [List.length_append] at hb2; simp only [List.length_cons, List.length_nil] at hb2; omega, hb3⟩
     simp only [spec_l3Add.j2]
     have hg : rdOf ByteArray.empty Rs ((i - onesB (L Mo) i : Nat) : Int) = Rs.getD (i - onesB (L Mo) i) ByteArray.empty := rfl
     refine ev_pos (by omega) (ev_pos (by omega) (ev_neg (fun q => ?_) (Ev.bind ho ?_)))
     ·rw [hbM.1 q] at h48; exact absurd h48 (by decide)
     ·rw [hsub (), hg]
      refine ev_pos (by omega) (ev_pos (by omega) (ev_pos (by omega) (ev_pos (by omega) ?_)))
      rw [hw64 ()]; exact hr
    ·have hc := cost_node (Mo := Mo) (Fi := Fi) (t := t) hlt h49
     have hk := kids_ev (keep := keep) h i hin
     have hpl := pos_le (L Fi) (onesB (L Mo) (i + 1) + 1)
     have hpm := pos_mono (L Fi) (show onesB (L Mo) (i + 1) ≤ onesB (L Mo) (i + 1) + 1 by omega)
     have hfl := h.fn
     by_cases c : pos (L Fi) (onesB (L Mo) (i + 1)) ≤ i
     ·refine ⟨out, ev_succ ?_, by omega, g5⟩
      simp only [spec_l3Add.j2]
      exact ev_pos (by omega) (ev_pos (by omega) (ev_pos (hbM.2 h49) (Ev.bind hk (ev_pos (by simp only; omega) (ev_some rfl)))))
     ·obtain ⟨r1, e1, b1, b1'⟩ := hP (pos (L Fi) (onesB (L Mo) (i + 1))) (pos (L Fi) (onesB (L Mo) (i + 1) + 1)) now out hpm (by omega) (by omega) (by omega) (by omega) g5
      obtain ⟨r, hr, hb2, hb3⟩ := ih (i + 1) r1 (by omega) (by omega) (by omega) (by omega) b1'
      refine ⟨r, ev_succ ?_, by omega, hb3⟩
      simp only [spec_l3Add.j2]
      refine ev_pos (by omega) (ev_pos (by omega) (ev_pos (hbM.2 h49) (Ev.bind hk (ev_neg (by simp only; omega) (Ev.bind e1 ?_)))))
      rw [hw64 ()]; exact hr
   by_cases c : bt Lt (i : Int) = 45
   ·obtain ⟨r, h1, h2⟩ := key head (by omega)
    refine ⟨r, ev_succ ?_, h2⟩
    simp only [spec_l3Add.l0]
    refine ev_pos (by omega) (ev_pos (by omega) (ev_succ ?_))
    simp only [spec_l3Add.j1]
    exact ev_pos (by simp [hh]) (ev_pos (by omega) (ev_pos (by omega) (ev_pos c h1)))
   ·have hz := cut_one_size Lt (show i < (L Lt).length by omega)
    obtain ⟨r, h1, h2⟩ := key (head ++ Lt.extract ((i : Int)).toNat ((i : Int) + 1).toNat) (by rw [ByteArray.size_append]; omega)
    refine ⟨r, ev_succ ?_, h2⟩
    simp only [spec_l3Add.l0]
    refine ev_pos (by omega) (ev_pos (by omega) (ev_succ ?_))
    simp only [spec_l3Add.j1]
    rw [hw64' ()]
    exact ev_pos (by simp [hh]) (ev_pos (by omega) (ev_pos (by omega) (ev_neg c (ev_pos (by omega) (ev_pos (by omega) (ev_pos (by omega) h1))))))
  ·refine ⟨out, ev_succ ?_, by omega, g5⟩
   simp only [spec_l3Add.l0]
   refine ev_pos (by omega) (ev_pos (by omega) ?_)
   rw [decide_eq_false hh]
   exact stop i out
theorem add_P (h : Fm Lt Mo Fi Rs n) : ∀ t, AddP Lt Mo Fi Rs keep n t := by
 intro t
 induction t with
 | zero => intro a b head out _ _ g; omega
 | succ t ih =>
  intro a b head out g1 g2 g3 g4 g5 g6
  obtain ⟨r, e, b1, b2⟩ := add_l0 h t b g2 ih head g4 _ a out g1 rfl (by omega) g5 g6
  refine ⟨r, ev_succ ?_, b1, b2⟩
  simp only [spec_l3Add.f]
  exact e
theorem heads3_any (h : Fm Lt Mo Fi Rs n) : ∃ r, Ev (fun k => spec_l3Heads.f k Lt Mo Fi Rs keep) r ∧ r.length ≤ 1000000 ∧ Bs r := by
 have hfew := h.few
 have s2 := size_L Fi
 have hf := h.fn
 have hpl := pos_le (L Fi) 1
 have hcost : cost Mo Fi (n + 1) 0 (pos (L Fi) 1) ≤ (n + 1) * n := wgt_all _ _ h.mn h.fn _ _ _ (by omega)
 have h400 : (n + 1) * n ≤ 401 * 400 := Nat.mul_le_mul (by omega) (by omega)
 obtain ⟨r, e, b, b'⟩ := add_P (keep := keep) h (n + 1) 0 (pos (L Fi) 1) (⟨#[]⟩ : ByteArray) [] (by omega) (by omega) (by omega) (by show 0 ≤ 1000; omega) (by simp only [List.length_nil]; omega) (fun s hs => by cases hs)
 refine ⟨r, ?_, by simp only [List.length_nil] at b; omega, b'⟩
 unfold spec_l3Heads.f
 exact Ev.bind (spec_l1One_ev Fi (by omega) 1 (by omega)) (Ev.bind e (ev_some rfl))
end
section
variable {K : List Key} {X : List Nd} {keep : Nat} {Lt Mo Fi : ByteArray} {Rs : List ByteArray}
noncomputable def ht (K : List Key) (keep : Nat) (k : Key) : ByteArray := mkS (Trie.hd K keep k)
def EncA (K : List Key) (X : List Nd) (keep : Nat) (Lt Mo Fi : ByteArray) (Rs : List ByteArray) (t : Nat) : Prop :=
 ∀ (m : Nat) (hm : m < X.length) (way : ByteArray) (out : List ByteArray), X.length - m ≤ t → (∀ k ∈ X[m].1, L way = k.take X[m].2) → out.length + X[m].1.length ≤ 1000000 →
  Ev (fun k => spec_l3Add.f k Lt Mo Fi Rs (keep : Int) ((off X m : Nat) : Int) ((off X (m + 1) : Nat) : Int) way out) (out ++ X[m].1.map (ht K keep))
theorem enca_l0 (h : Enc K X keep Lt Mo Fi Rs) (h0 : K ≠ []) (t : Nat) (hP : EncA K X keep Lt Mo Fi Rs t) {m : Nat} (hm : m < X.length) (ht' : X.length - m ≤ t + 1) (way : ByteArray) (hway : ∀ k ∈ X[m].1, L way = k.take X[m].2) (d : Nat) :
  ∀ (j : Nat) (out : List ByteArray), j ≤ (runs X[m].2 X[m].1).length → (runs X[m].2 X[m].1).length - j = d → out.length + (((runs X[m].2 X[m].1).drop j).flatten).length ≤ 1000000 →
   Ev (fun k => spec_l3Add.l0 k ((off X (m + 1) : Nat) : Int) way out ((off X m + j : Nat) : Int) Lt Mo Fi Rs (keep : Int)) (out ++ (((runs X[m].2 X[m].1).drop j).flatten).map (ht K keep)) := by
 have F := h.fm
 have hfew := F.few
 have hoff := off_succ hm
 have hle := off_le X (m + 1)
 have s1 := size_L Lt
 have s2 := size_L Mo
 have l1 := F.ln
 have l2 := F.mn
 have hd5 := (h.lv.nodes X[m] (List.getElem_mem hm)).2.deep
 induction d with
 | zero =>
  intro j out g1 g2 g3
  refine ev_succ ?_
  simp only [spec_l3Add.l0]
  refine ev_neg (by omega) (ev_succ ?_)
  simp only [spec_l3Add.j1]
  refine ev_neg (by simp) (ev_some ?_)
  rw [List.drop_eq_nil_of_le (by omega)]; simp
 | succ d ih =>
  intro j out g1 g2 g3
  have hj : j < (runs X[m].2 X[m].1).length := by omega
  have hi : off X m + j < (brs X).length := by omega
  have hdrop : (runs X[m].2 X[m].1).drop j = (runs X[m].2 X[m].1)[j] :: (runs X[m].2 X[m].1).drop (j + 1) := List.drop_eq_getElem_cons hj
  rw [hdrop, List.flatten_cons, List.length_append] at g3
  rw [hdrop, List.flatten_cons, List.map_append]
  have hw64 : ∀ _ : Unit, wrap64 (((off X m + j : Nat) : Int) + 1) = ((off X m + (j + 1) : Nat) : Int) := fun _ => by rw [w64 (by omega) (by omega)]; omega
  have hw64' : ∀ _ : Unit, wrap64 (((off X m + j : Nat) : Int) + 1) = ((off X m + j : Nat) : Int) + 1 := fun _ => w64 (by omega) (by omega)
  have hbL : bt Lt ((off X m + j : Nat) : Int) = 45 ↔ (L Lt).getD (off X m + j) 0 = 45 := bt_is (n := 45) (by omega)
  have hbM : bt Mo ((off X m + j : Nat) : Int) = 49 ↔ (L Mo).getD (off X m + j) 0 = 49 := bt_is (n := 49) (by omega)
  have hne := runs_ne_nil _ _ (List.getElem_mem hj)
  obtain ⟨k0, hk0⟩ : ∃ k0, k0 ∈ (runs X[m].2 X[m].1)[j] := ⟨_, headD_mem hne⟩
  have hk0x := (runs_sub (List.getElem_mem hj)).subset hk0
  have hwl : way.size ≤ 5 := by
   rw [size_L, hway k0 hk0x, List.length_take]; omega
  have lets : ∀ r, (∀ way' : ByteArray, (L way' = L way ++ (if (L Lt).getD (off X m + j) 0 = 45 then [] else [(L Lt).getD (off X m + j) 0])) → way'.size ≤ 1000 → Ev (fun k => spec_l3Add.j2 k ((off X (m + 1) : Nat) : Int) way out ((off X m + j : Nat) : Int) way' Lt Mo Fi Rs (keep : Int)) r) →
    Ev (fun k => spec_l3Add.l0 k ((off X (m + 1) : Nat) : Int) way out ((off X m + j : Nat) : Int) Lt Mo Fi Rs (keep : Int)) r := by
   intro r hr
   refine ev_succ ?_
   simp only [spec_l3Add.l0]
   refine ev_pos (by omega) (ev_pos (by omega) (ev_succ ?_))
   simp only [spec_l3Add.j1]
   refine ev_pos (by rw [decide_eq_true_eq]; omega) (ev_pos (by omega) (ev_pos (by omega) ?_))
   by_cases c : (L Lt).getD (off X m + j) 0 = 45
   ·refine ev_pos (hbL.2 c) (hr way ?_ (by omega))
    rw [if_pos c, List.append_nil]
   ·have hz := cut_one_size Lt (show off X m + j < (L Lt).length by omega)
    have hcut := cut_one Lt (show off X m + j < (L Lt).length by omega)
    rw [hw64' ()]
    refine ev_neg (fun q => c (hbL.1 q)) (ev_pos (by omega) (ev_pos (by omega) (ev_pos (by omega) (hr _ ?_ (by rw [ByteArray.size_append]; omega)))))
    rw [if_neg c, L_append, hcut]
  by_cases hc : cont (runs X[m].2 X[m].1)[j] = true
  ·obtain ⟨hlt, hX, hmc, hgt, hM, hk⟩ := branch_node h.lv hm hj hc
   have hkd := kids_ev (keep := (keep : Int)) F (off X m + j) hi
   rw [h.m, h.pos h0 (by omega), h.pos h0 (by omega)] at hkd
   rw [← h.m] at hM
   refine lets _ (fun way' e hz => ev_succ ?_)
   simp only [spec_l3Add.j2]
   refine ev_pos (by omega) (ev_pos (by omega) (ev_pos (hbM.2 hM) (Ev.bind hkd (ev_neg (by simp only; omega) ?_))))
   have hch : ∀ k ∈ (X[onesB (encM X) (off X m + j + 1)]).1, L way' = k.take (X[onesB (encM X) (off X m + j + 1)]).2 := by
    intro k hkk
    rw [hX] at hkk ⊢
    simp only at hkk ⊢
    have hkx := (runs_sub (List.getElem_mem hj)).subset hkk
    obtain ⟨q1, q2, q3⟩ := hk k hkk
    rw [e, h.l, q1, if_neg q2, hway k hkx, lab_lt q3, ← List.take_succ_eq_append_getElem q3]
   have hrec := hP (onesB (encM X) (off X m + j + 1)) hlt way' out (by omega) hch (by rw [hX]; simp only; omega)
   rw [hX] at hrec
   simp only at hrec
   refine Ev.bind hrec ?_
   rw [hw64 ()]
   refine ev_eq (ih (j + 1) (out ++ (runs X[m].2 X[m].1)[j].map (ht K keep)) (by omega) (by omega) (by rw [List.length_append, List.length_map]; omega)) ?_
   rw [List.append_assoc]
  ·have hc' : cont (runs X[m].2 X[m].1)[j] = false := by simpa using hc
   obtain ⟨k, hg, hkx, hdep, hL, hM, hR⟩ := branch_leaf h.lv hm hj hc'
   obtain ⟨hkK, hko, _, hkl⟩ := h.lv.key hm hkx
   have hR := LL_at (l := Rs) (by rw [h.r]; exact hR keep)
   rw [← h.m] at hR hM
   rw [← h.l] at hL
   obtain ⟨_, hr2⟩ := rest_eq (keep := (keep : Int)) F (off X m + j) hi hM
   have hone := onesB_self (L Mo) (off X m + j)
   have ho := spec_l1Ones_ev Mo (by omega) ((off X m + j : Nat) : Int) (by omega)
   have e0 : (((off X m + j : Nat) : Int)).toNat = off X m + j := by omega
   rw [e0] at ho
   have hsub : ∀ _ : Unit, wrap64 (((off X m + j : Nat) : Int) - ((onesB (L Mo) (off X m + j) : Nat) : Int)) = ((off X m + j - onesB (L Mo) (off X m + j) : Nat) : Int) := fun _ => by rw [w64 (by omega) (by omega)]; omega
   have hgr : rdOf ByteArray.empty Rs ((off X m + j - onesB (L Mo) (off X m + j) : Nat) : Int) = Rs.getD (off X m + j - onesB (L Mo) (off X m + j)) ByteArray.empty := rfl
   generalize hq : off X m + j - onesB (L Mo) (off X m + j) = qi at hR hr2 hsub hgr
   have hrvs : (Rs.getD qi ByteArray.empty).size ≤ 5 := by
    rw [size_L, hR, List.length_take, List.length_drop]; have := hko.len; omega
   refine lets _ (fun way' e hz => ev_succ ?_)
   simp only [spec_l3Add.j2]
   refine ev_pos (by omega) (ev_pos (by omega) (ev_neg (fun q => ?_) (Ev.bind ho ?_)))
   ·rw [hbM.1 q] at hM; exact absurd hM (by decide)
   ·rw [hsub (), hgr]
    rw [hg] at g3 ⊢
    refine ev_pos (by omega) (ev_pos (by omega) (ev_pos (by omega) (ev_pos (by simp only [List.length_cons, List.length_nil] at g3; omega) ?_)))
    rw [hw64 ()]
    have hpt : way' ++ Rs.getD qi ByteArray.empty = ht K keep k := by
     unfold ht
     apply L_inj
     rw [L_mkS, L_append, e, hL, hR, hway k hkx]
     exact leaf_text hko hdep hkl keep
    rw [hpt]
    refine ev_eq (ih (j + 1) (out ++ [ht K keep k]) (by omega) (by omega) (by rw [List.length_append]; simp only [List.length_cons, List.length_nil] at g3 ⊢; omega)) ?_
    rw [List.append_assoc]; rfl
theorem enca_P (h : Enc K X keep Lt Mo Fi Rs) (h0 : K ≠ []) : ∀ t, EncA K X keep Lt Mo Fi Rs t := by
 intro t
 induction t with
 | zero => intro m hm way out g; omega
 | succ t ih =>
  intro m hm way out g1 g2 g3
  have hfl := runs_flatten X[m].2 X[m].1
  have := enca_l0 h h0 t ih hm g1 way g2 _ 0 out (Nat.zero_le _) rfl (by rw [List.drop_zero, hfl]; exact g3)
  rw [List.drop_zero, hfl] at this
  refine ev_succ ?_
  simp only [spec_l3Add.f]
  exact this
theorem heads3_enc (h : Enc K X keep Lt Mo Fi Rs) : Ev (fun k => spec_l3Heads.f k Lt Mo Fi Rs (keep : Int)) (K.map (ht K keep)) := by
 unfold spec_l3Heads.f
 have F := h.fm
 have s2 := size_L Fi
 have hf := F.fn
 have hfew := F.few
 have h1 := spec_l1One_ev Fi (by omega) 1 (by omega)
 by_cases h0 : K = []
 ·subst h0
  have hX := lvl_nil h.lv
  subst hX
  have hz : (brs [(([] : List Key), 0)]).length = 0 := by rw [brs_nil]; rfl
  have hp := pos_le (L Fi) 1
  have e1 : ((pos (L Fi) 1 : Nat) : Int) = 0 := by omega
  rw [e1] at h1
  refine Ev.bind h1 (Ev.bind (a := []) (ev_succ ?_) (ev_some rfl))
  simp only [spec_l3Add.f]
  refine ev_succ ?_
  simp only [spec_l3Add.l0]
  refine ev_neg (by omega) (ev_succ ?_)
  simp only [spec_l3Add.j1]
  exact ev_neg (by simp) (ev_some rfl)
 ·have hX0 := h.lv.pos_root
  obtain ⟨hlt, hX⟩ := List.getElem?_eq_some_iff.1 hX0
  have := enca_P h h0 X.length 0 hlt (⟨#[]⟩ : ByteArray) [] (by omega) (fun k _ => by rw [hX]; rfl) (by rw [hX]; have := h.few; simp only [List.length_nil]; omega)
  rw [hX, off_zero] at this
  have e1 : pos (L Fi) 1 = off X (0 + 1) := h.pos h0 (by omega)
  rw [e1] at h1
  refine Ev.bind h1 (Ev.bind (by simpa using this) (ev_some rfl))
end
theorem sames_l0 (a b : List ByteArray) (hn : a.length ≤ 2000000) (hl : a.length = b.length) (d : Nat) : ∀ i : Nat, i ≤ a.length → a.length - i = d →
  Ev (fun k => spec_l3Sames.l0 k a b (i : Int)) (decide (a.drop i = b.drop i)) := by
 induction d with
 | zero =>
  intro i h1 h2
  refine ev_succ ?_
  simp only [spec_l3Sames.l0]
  refine ev_neg (by omega) (ev_some ?_)
  rw [List.drop_eq_nil_of_le (by omega), List.drop_eq_nil_of_le (by omega)]; simp
 | succ d ih =>
  intro i h1 h2
  have hlt : i < a.length := by omega
  refine ev_succ ?_
  simp only [spec_l3Sames.l0]
  refine ev_pos (by omega) (ev_pos (by omega) (ev_pos (by omega) ?_))
  have e1 : rdOf ByteArray.empty a (i : Int) = a.getD i ByteArray.empty := rfl
  have e2 : rdOf ByteArray.empty b (i : Int) = b.getD i ByteArray.empty := rfl
  rw [e1, e2, drop_cons ByteArray.empty hlt, drop_cons ByteArray.empty (show i < b.length by omega)]
  by_cases c : a.getD i ByteArray.empty = b.getD i ByteArray.empty
  ·refine ev_pos (bytes_eq.2 c) ?_
   rw [w64 (by omega) (by omega)]
   refine ev_eq (ih (i + 1) (by omega) (by omega)) ?_
   rw [Bool.eq_iff_iff, decide_eq_true_eq, decide_eq_true_eq, List.cons.injEq]
   exact ⟨fun h => ⟨c, h⟩, fun h => h.2⟩
  ·refine ev_neg (fun q => c (bytes_eq.1 q)) (ev_some ?_)
   rw [eq_comm, decide_eq_false_iff_not, List.cons.injEq]
   exact fun h => c h.1
theorem sames_ev (a b : List ByteArray) (hn : a.length ≤ 2000000) : Ev (fun k => spec_l3Sames.f k a b) (decide (a = b)) := by
 unfold spec_l3Sames.f
 by_cases c : a.length = b.length
 ·refine ev_pos (by omega) (ev_eq (sames_l0 a b hn c a.length 0 (by omega) (by omega)) ?_)
  rw [List.drop_zero, List.drop_zero]
 ·refine ev_neg (by omega) (ev_some ?_)
  rw [eq_comm, decide_eq_false_iff_not]
  exact fun h => c (by rw [h])
theorem form_ev {Lt Mo Fi : ByteArray} {Rs : List ByteArray} (hz : SvSz Lt Mo Fi Rs) (a : Int) :
  (Fm Lt Mo Fi Rs (L Lt).length ∧ keepOk a ∧ Ev (fun k => spec_l3Form.f k Lt Mo Fi Rs a) true) ∨ (¬ (Fm Lt Mo Fi Rs (L Lt).length ∧ keepOk a) ∧ Ev (fun k => spec_l3Form.f k Lt Mo Fi Rs a) false) := by
 have s1 := size_L Lt
 have s2 := size_L Mo
 have s3 := size_L Fi
 have z1 := hz.a
 have z2 := hz.b
 have z3 := hz.c
 have z4 := hz.d
 have hM := spec_BitsOk_ev Mo (by omega)
 have hF := spec_BitsOk_ev Fi (by omega)
 have bits : ∀ {s : ByteArray}, bitsB (L s) = true ↔ (L s).all bitc = true ∧ (L s).length ≤ 400 := fun {s} => by
  unfold bitsB; rw [Bool.and_eq_true, decide_eq_true_eq]
 unfold spec_l3Form.f
 by_cases c1 : bitsB (L Mo) = true
 ·by_cases c2 : bitsB (L Fi) = true
  ·by_cases c3 : (Mo.size : Int) = (Lt.size : Int)
   ·by_cases c4 : (Fi.size : Int) = (Lt.size : Int)
    ·have ho := spec_l1Ones_ev Mo (by omega) (Lt.size : Int) (by omega)
     have e0 : ((Lt.size : Int)).toNat = (L Lt).length := by omega
     rw [e0] at ho
     have hone := onesB_le (L Mo) (L Lt).length
     have e1 : (L Mo).length = (L Lt).length := by omega
     have hw : ∀ _ : Unit, wrap64 ((Lt.size : Int) - ((onesB (L Mo) (L Lt).length : Nat) : Int)) = (((L Lt).length - onesB (L Mo) (L Lt).length : Nat) : Int) := fun _ => by rw [w64 (by omega) (by omega)]; omega
     by_cases c5 : Rs.length = (L Lt).length - onesB (L Mo) (L Lt).length
     ·have hfm : Fm Lt Mo Fi Rs (L Lt).length := ⟨rfl, e1, by omega, by have := (bits.1 c1).2; omega, (bits.1 c1).1, (bits.1 c2).1, c5, hz.e⟩
      have go : ∀ b, Ev (fun _ => some (decide (0 ≤ a ∧ a ≤ 5))) b → Ev (fun k => spec_l3Form.f k Lt Mo Fi Rs a) b := by
       intro b hb
       unfold spec_l3Form.f
       refine Ev.bind hM (ev_pos c1 (Ev.bind hF (ev_pos c2 (ev_pos c3 (ev_pos c4 (Ev.bind ho (ev_pos ?_ (ev_bindc (spec_l6In_eq a 0 5) hb))))))))
       rw [hw ()]; omega
      by_cases c6 : keepOk a
      ·exact .inl ⟨hfm, c6, go true (ev_some (decide_eq_true c6))⟩
      ·exact .inr ⟨fun h => c6 h.2, go false (ev_some (decide_eq_false c6))⟩
     ·refine .inr ⟨fun h => c5 h.1.rs, Ev.bind hM (ev_pos c1 (Ev.bind hF (ev_pos c2 (ev_pos c3 (ev_pos c4 (Ev.bind ho (ev_neg ?_ (ev_some rfl))))))))⟩
      rw [hw ()]; omega
    ·exact .inr ⟨fun h => c4 (by have := h.1.fn; omega), Ev.bind hM (ev_pos c1 (Ev.bind hF (ev_pos c2 (ev_pos c3 (ev_neg c4 (ev_some rfl))))))⟩
   ·exact .inr ⟨fun h => c3 (by have := h.1.mn; omega), Ev.bind hM (ev_pos c1 (Ev.bind hF (ev_pos c2 (ev_neg c3 (ev_some rfl)))))⟩
  ·exact .inr ⟨fun h => c2 (bits.2 ⟨h.1.fb, by have := h.1.fn; have := h.1.few; omega⟩), Ev.bind hM (ev_pos c1 (Ev.bind hF (ev_neg c2 (ev_some rfl))))⟩
 ·exact .inr ⟨fun h => c1 (bits.2 ⟨h.1.mb, by have := h.1.mn; have := h.1.few; omega⟩), Ev.bind hM (ev_neg c1 (ev_some rfl))⟩
def Val (Lt Mo Fi : ByteArray) (Rs : List ByteArray) (a : Int) : Prop := ∃ K keep, a = ((keep : Nat) : Int) ∧ Is K keep Lt Mo Fi Rs
theorem is_fm {Lt Mo Fi : ByteArray} {Rs : List ByteArray} {K : List Key} {keep : Nat} (h : Is K keep Lt Mo Fi Rs) : Fm Lt Mo Fi Rs (L Lt).length := by
 have h1 := h.enc.fm
 have h2 := h1.ln
 rw [h2]; exact h1
theorem LL_ht (K : List Key) (keep : Nat) : LL (K.map (ht K keep)) = K.map (Trie.hd K keep) := by
 unfold LL ht
 rw [List.map_map]
 apply List.map_congr_left
 intro x _
 exact L_mkS _
theorem spec_ok_yes {Lt Mo Fi : ByteArray} {Rs : List ByteArray} (hz : SvSz Lt Mo Fi Rs) {K : List Key} {keep : Nat} (h : Is K keep Lt Mo Fi Rs) : Ev (fun k => spec_SieveOk.f k Lt Mo Fi Rs (keep : Int)) true := by
 have hko : keepOk (keep : Int) := by constructor <;> have := h.kp <;> omega
 rcases form_ev hz (keep : Int) with ⟨_, _, hf⟩ | ⟨hn, _⟩
 ·have hh := heads3_enc h.enc
  have hsz : SzL (K.map (ht K keep)) := by
   refine ⟨by rw [List.length_map]; have := h.ok.few; omega, fun x hx => ?_⟩
   obtain ⟨k, hk, rfl⟩ := List.mem_map.1 hx
   have : (ht K keep k).size ≤ 5 := by
    rw [size_L]
    unfold ht
    rw [L_mkS]
    exact ((h.ok.ok k hk).take _).len
   omega
  have hof := spec_SieveOf_ev (K.map (ht K keep)) hsz (keep : Int)
  rw [LL_ht, h.heads] at hof
  unfold spec_SieveOk.f
  refine Ev.bind hf (ev_pos rfl (Ev.bind hh (Ev.bind hof (ev_pos rfl (ev_pos rfl (ev_pos rfl (ev_pos rfl (Ev.bind (sames_ev Rs Rs (by have := hz.d; omega)) (ev_some ?_)))))))))
  simp
 ·exact absurd ⟨is_fm h, hko⟩ hn
theorem spec_ok_no {Lt Mo Fi : ByteArray} {Rs : List ByteArray} (hz : SvSz Lt Mo Fi Rs) {a : Int} (h : ¬ Val Lt Mo Fi Rs a) : Ev (fun k => spec_SieveOk.f k Lt Mo Fi Rs a) false := by
 rcases form_ev hz a with ⟨hfm, hko, hf⟩ | ⟨_, hf⟩
 ·obtain ⟨r, hr, b1, b2⟩ := heads3_any (keep := a) hfm
  have hsz : SzL r := ⟨by omega, fun x hx => by have := b2 x hx; omega⟩
  have hof := spec_SieveOf_ev r hsz a
  have hfew := sieveV_few (LL r) a
  have h5 : (sieveV (LL r) a).2.2.2.2.2 = true → (sieveV (LL r) a).2.2.2.2.1 = a := by
   unfold sieveV
   split
   ·intro _; rfl
   ·intro q; cases q
  generalize hT : sieveV (LL r) a = T at hof hfew h5
  obtain ⟨t1, t2, t3, t4, t5, t6⟩ := T
  simp only at hfew h5
  unfold spec_SieveOk.f
  refine Ev.bind hf (ev_pos rfl (Ev.bind hr (Ev.bind hof ?_)))
  by_cases c6 : t6 = true
  ·have h55 := h5 c6
   clear h5
   refine ev_pos c6 ?_
   by_cases c1 : t1 = Lt
   ·refine ev_pos (bytes_eq.2 c1) ?_
    by_cases c2 : t2 = Mo
    ·refine ev_pos (bytes_eq.2 c2) ?_
     by_cases c3 : t3 = Fi
     ·refine ev_pos (bytes_eq.2 c3) (Ev.bind (sames_ev t4 Rs hfew) (ev_some ?_))
      rw [decide_eq_false_iff_not]
      intro c4
      subst c1 c2 c3 c4 c6 h55
      obtain ⟨hI, e1, _⟩ := is_of hT
      exact h ⟨LL r, _, e1, hI⟩
     ·exact ev_neg (fun q => c3 (bytes_eq.1 q)) (ev_some rfl)
    ·exact ev_neg (fun q => c2 (bytes_eq.1 q)) (ev_some rfl)
   ·exact ev_neg (fun q => c1 (bytes_eq.1 q)) (ev_some rfl)
  ·exact ev_neg c6 (ev_some rfl)
 ·unfold spec_SieveOk.f
  exact Ev.bind hf (ev_neg (by simp) (ev_some rfl))
theorem both {Lt Mo Fi : ByteArray} {Rs : List ByteArray} (hz : SvSz Lt Mo Fi Rs) (a : Int) :
  (∃ K keep, a = ((keep : Nat) : Int) ∧ Is K keep Lt Mo Fi Rs ∧ Ev (fun k => impl_Sieve_heads.f k Lt Mo Fi Rs a) (K.map (pt K keep), true) ∧ Ev (fun k => spec_SieveOk.f k Lt Mo Fi Rs a) true ∧ Ev (fun k => spec_l3Heads.f k Lt Mo Fi Rs a) (K.map (ht K keep))) ∨
  (¬ Val Lt Mo Fi Rs a ∧ Ev (fun k => impl_Sieve_heads.f k Lt Mo Fi Rs a) ([], false) ∧ Ev (fun k => spec_SieveOk.f k Lt Mo Fi Rs a) false) := by
 rcases heads_ev hz a with ⟨K, keep, e, hI, hh⟩ | ⟨hn, hh⟩
 ·left
  subst e
  exact ⟨K, keep, rfl, hI, hh, spec_ok_yes hz hI, heads3_enc hI.enc⟩
 ·right
  have hv : ¬ Val Lt Mo Fi Rs a := fun ⟨K, keep, e, h⟩ => hn K keep e h
  exact ⟨hv, hh, spec_ok_no hz hv⟩
theorem pt_text (K : List Key) (keep : Nat) : (K.map (pt K keep)).map S93.f0 = K.map (ht K keep) := by
 rw [List.map_map]; rfl
theorem impl_SieveOk_of {Lt Mo Fi : ByteArray} {Rs : List ByteArray} {a : Int} {l : List S93} {b : Bool} (h : Ev (fun k => impl_Sieve_heads.f k Lt Mo Fi Rs a) (l, b)) : Ev (fun k => impl_SieveOk.f k Lt Mo Fi Rs a) b := by
 unfold impl_SieveOk.f
 exact Ev.bind h (ev_some rfl)
theorem impl_SieveHeads_of {Lt Mo Fi : ByteArray} {Rs : List ByteArray} {a : Int} {l : List S93} {b : Bool} (hl : l.length ≤ 2000000) (h : Ev (fun k => impl_Sieve_heads.f k Lt Mo Fi Rs a) (l, b)) : Ev (fun k => impl_SieveHeads.f k Lt Mo Fi Rs a) (l.map S93.f0) := by
 unfold impl_SieveHeads.f
 exact Ev.bind h (Ev.bind (texts_ev l hl) (ev_some rfl))
theorem spec_SieveHeads_yes {Lt Mo Fi : ByteArray} {Rs : List ByteArray} {a : Int} {l : List ByteArray} (h : Ev (fun k => spec_SieveOk.f k Lt Mo Fi Rs a) true) (g : Ev (fun k => spec_l3Heads.f k Lt Mo Fi Rs a) l) : Ev (fun k => spec_SieveHeads.f k Lt Mo Fi Rs a) l := by
 unfold spec_SieveHeads.f
 exact Ev.bind h (ev_pos rfl (Ev.bind g (ev_some rfl)))
theorem spec_SieveHeads_no {Lt Mo Fi : ByteArray} {Rs : List ByteArray} {a : Int} (h : Ev (fun k => spec_SieveOk.f k Lt Mo Fi Rs a) false) : Ev (fun k => spec_SieveHeads.f k Lt Mo Fi Rs a) [] := by
 unfold spec_SieveHeads.f
 exact Ev.bind h (ev_neg (by simp) (ev_some rfl))
section
variable {K : List Key} {X : List Nd} {keep : Nat} {Lt Mo Fi : ByteArray} {Rs : List ByteArray}
noncomputable def mayL (K : List Key) (keep : Nat) (l : List Key) (q : Key) : Bool := l.any (fun k => may (Trie.part K keep k) q)
theorem mayL_other (h : Lvl K X) {m : Nat} (hm : m < X.length) {l : List Key} (hl : ∀ k ∈ l, k ∈ X[m].1) {q : Key} (hq : ∀ k ∈ l, lab k X[m].2 ≠ lab q X[m].2) : mayL K keep l q = false := by
 unfold mayL
 rw [List.any_eq_false]
 intro k hk hc
 obtain ⟨_, _, h3, _⟩ := h.key hm (hl k hk)
 exact hq k hk (may_lab hc _ h3).symm
theorem mayL_append (a b : List Key) (q : Key) : mayL K keep (a ++ b) q = (mayL K keep a q || mayL K keep b q) := by unfold mayL; rw [List.any_append]
theorem mayL_run (h : Lvl K X) {m : Nat} (hm : m < X.length) {j : Nat} (hj : j < (runs X[m].2 X[m].1).length) {q : Key} (hq : ∀ k ∈ (runs X[m].2 X[m].1)[j], lab k X[m].2 = lab q X[m].2) : mayL K keep X[m].1 q = mayL K keep (runs X[m].2 X[m].1)[j] q := by
 have hN := (h.nodes X[m] (List.getElem_mem hm)).2
 have hr := runs_rise _ hN.up
 have e : X[m].1 = ((runs X[m].2 X[m].1).take j).flatten ++ ((runs X[m].2 X[m].1)[j] ++ ((runs X[m].2 X[m].1).drop (j + 1)).flatten) := by
  have h1 := runs_flatten X[m].2 X[m].1
  conv => lhs; rw [← h1, ← List.take_append_drop j (runs X[m].2 X[m].1), List.drop_eq_getElem_cons hj]
  rw [List.flatten_append, List.flatten_cons]
 obtain ⟨k0, hk0⟩ : ∃ k0, k0 ∈ (runs X[m].2 X[m].1)[j] := ⟨_, headD_mem (runs_ne_nil _ _ (List.getElem_mem hj))⟩
 have h1 : mayL K keep ((runs X[m].2 X[m].1).take j).flatten q = false := by
  refine mayL_other h hm (fun k hk => ?_) (fun k hk => ?_)
  ·obtain ⟨g, hg, hkg⟩ := List.mem_flatten.1 hk
   exact (runs_sub (List.mem_of_mem_take hg)).subset hkg
  ·obtain ⟨g, hg, hkg⟩ := List.mem_flatten.1 hk
   obtain ⟨i, hi, rfl⟩ := List.mem_take_iff_getElem.1 hg
   have := List.pairwise_iff_getElem.1 hr i j (by omega) hj (by omega) k hkg k0 hk0
   rw [← hq k0 hk0]
   intro c
   rw [c] at this
   omega
 have h2 : mayL K keep ((runs X[m].2 X[m].1).drop (j + 1)).flatten q = false := by
  refine mayL_other h hm (fun k hk => ?_) (fun k hk => ?_)
  ·obtain ⟨g, hg, hkg⟩ := List.mem_flatten.1 hk
   exact (runs_sub (List.mem_of_mem_drop hg)).subset hkg
  ·obtain ⟨g, hg, hkg⟩ := List.mem_flatten.1 hk
   obtain ⟨i, hi, rfl⟩ := List.mem_drop_iff_getElem.1 hg
   have := List.pairwise_iff_getElem.1 hr j (j + 1 + i) hj (by omega) (by omega) k0 hk0 k hkg
   rw [← hq k0 hk0]
   intro c
   rw [c] at this
   omega
 conv => lhs; rw [e]
 rw [mayL_append, mayL_append, h1, h2]
 simp
theorem branch_lab (h : Lvl K X) {m : Nat} (hm : m < X.length) {j : Nat} (hj : j < (runs X[m].2 X[m].1).length) : ∀ k ∈ (runs X[m].2 X[m].1)[j], (encL X).getD (off X m + j) 0 = lab k X[m].2 := by
 intro k hk
 rw [encL_at X (brs_at hm hj)]
 exact runs_lab _ _ (List.getElem_mem hj) _ (headD_mem (runs_ne_nil _ _ (List.getElem_mem hj))) k hk
theorem mayL_none (h : Lvl K X) {m : Nat} (hm : m < X.length) {q : Key} (hq : ∀ j, j < (runs X[m].2 X[m].1).length → (encL X).getD (off X m + j) 0 ≠ lab q X[m].2) : mayL K keep X[m].1 q = false := by
 refine mayL_other h hm (fun k hk => hk) (fun k hk => ?_)
 obtain ⟨g, hg, hkg⟩ := mem_run (d := X[m].2) hk
 obtain ⟨j, hj, rfl⟩ := List.getElem_of_mem hg
 rw [← branch_lab h hm hj k hkg]
 exact hq j hj
theorem same_of (h : Lvl K X) {m : Nat} (hm : m < X.length) {q : Key} (hq : KOk q) (hs : ∀ k ∈ X[m].1, same X[m].2 q k) (hne : X[m].1 ≠ []) : X[m].2 ≤ q.length := by
 obtain ⟨k, hk⟩ := List.exists_mem_of_ne_nil _ hne
 obtain ⟨_, h2, _, h4⟩ := h.key hm hk
 exact same_len h2 hq (hs k hk).symm h4
theorem end_may (h : Lvl K X) {m : Nat} (hm : m < X.length) {k q : Key} (hk : k ∈ X[m].1) (hq : KOk q) (hd : dep K k = X[m].2) (hs : same X[m].2 q k) (hl : lab q X[m].2 = lab k X[m].2) :
  mayL K keep [k] q = (if cpl K keep k then q.drop (X[m].2 + 1) == (k.drop (X[m].2 + 1)).take keep else ((k.drop (X[m].2 + 1)).take keep).isPrefixOf (q.drop (X[m].2 + 1))) := by
 unfold mayL
 rw [List.any_cons, List.any_nil, Bool.or_false]
 have := leaf_may h.keys keep (h.key hm hk).2.1 hq (hd ▸ hs) (hd ▸ hl)
 rw [hd] at this
 exact this
def HasP (K : List Key) (X : List Nd) (keep : Nat) (Lt Mo Fi : ByteArray) (Rs : List ByteArray) (q : ByteArray) (t : Nat) : Prop :=
 ∀ (m : Nat) (hm : m < X.length), X.length - m ≤ t → (∀ k ∈ X[m].1, same X[m].2 (L q) k) →
  Ev (fun k => impl_Sieve_has.l0 k q (m : Int) (X[m].2 : Int) Lt Mo Fi Rs (keep : Int)) (mayL K keep X[m].1 (L q))
theorem tail_L (q : ByteArray) (d : Nat) (hd : d ≤ 100) (hq : q.size ≤ 5) : L (q.extract (mn (wrap64 ((d : Int) + 1)) (q.size : Int)).toNat q.size) = (L q).drop (d + 1) := by
 have s := size_L q
 have e1 : mn (wrap64 ((d : Int) + 1)) (q.size : Int) = ((min (d + 1) q.size : Nat) : Int) := by
  rw [w64 (by omega) (by omega)]; exact mnk (d + 1) q.size
 rw [e1]
 have e2 : (((min (d + 1) q.size : Nat) : Int)).toNat = min (d + 1) q.size := by omega
 rw [e2, L_extract, List.take_of_length_le (by omega)]
 by_cases g : d + 1 ≤ q.size
 ·rw [Nat.min_eq_left g]
 ·rw [Nat.min_eq_right (by omega), List.drop_eq_nil_of_le (by omega), List.drop_eq_nil_of_le (by omega)]
theorem ends_same {m d : Nat} {k q : Key} (hs : same d q k) (hl : lab k d = lab q d) : same (d + 1) q k := same_succ.2 ⟨hs, hl.symm⟩
theorem has_step (h : Enc K X keep Lt Mo Fi Rs) (h0 : K ≠ []) (q : ByteArray) (hq : KOk (L q)) (t : Nat) (hP : HasP K X keep Lt Mo Fi Rs q t) {m : Nat} (hm : m < X.length) (ht : X.length - m ≤ t + 1) (hs : ∀ k ∈ X[m].1, same X[m].2 (L q) k)
  (d : Nat) : ∀ j : Nat, j ≤ (runs X[m].2 X[m].1).length → (runs X[m].2 X[m].1).length - j = d → (∀ i, i < j → (encL X).getD (off X m + i) 0 ≠ lab (L q) X[m].2) →
   Ev (fun k => impl_Sieve_has.l1 k q (X[m].2 : Int) ((off X (m + 1) : Nat) : Int) ((off X m + j : Nat) : Int) Lt Mo Fi Rs (keep : Int)) (mayL K keep X[m].1 (L q)) := by
 have F := h.fm
 have hfew := F.few
 have hoff := off_succ hm
 have hle := off_le X (m + 1)
 have s1 := size_L Lt
 have s2 := size_L Mo
 have s3 := size_L q
 have l1 := F.ln
 have l2 := F.mn
 have hq5 := hq.len
 have hN := (h.lv.nodes X[m] (List.getElem_mem hm)).2
 have hd5 := hN.deep
 have hfull := h.lv.full h0 X[m] (List.getElem_mem hm)
 have hne : X[m].1 ≠ [] := fun e => by rw [e, runs_nil] at hfull; simp at hfull
 have hdq := same_of h.lv hm hq hs hne
 induction d with
 | zero =>
  intro j g1 g2 g3
  have e : j = (runs X[m].2 X[m].1).length := by omega
  rw [mayL_none h.lv hm (fun i hi => g3 i (by omega))]
  refine ev_succ ?_
  simp only [impl_Sieve_has.l1]
  refine ev_neg (by omega) (ev_succ ?_)
  simp only [impl_Sieve_has.j2]
  exact ev_pos (by omega) (ev_some rfl)
 | succ d ih =>
  intro j g1 g2 g3
  have hj : j < (runs X[m].2 X[m].1).length := by omega
  have hi : off X m + j < (brs X).length := by omega
  have hbl : bt Lt ((off X m + j : Nat) : Int) = (((encL X).getD (off X m + j) 0).toNat : Int) := by rw [bt_L, h.l]
  refine ev_succ ?_
  simp only [impl_Sieve_has.l1]
  refine ev_pos (by omega) (ev_pos (by omega) (ev_pos (by omega) (ev_bindc (label_eq q X[m].2 hdq) ?_)))
  by_cases c : (encL X).getD (off X m + j) 0 = lab (L q) X[m].2
  ·refine ev_pos (by rw [hbl, c]) ?_
   have hlab : ∀ k ∈ (runs X[m].2 X[m].1)[j], lab k X[m].2 = lab (L q) X[m].2 := fun k hk => by rw [← branch_lab h.lv hm hj k hk, c]
   rw [mayL_run h.lv hm hj hlab]
   refine ev_succ ?_
   simp only [impl_Sieve_has.j2]
   refine ev_neg (by omega) (ev_pos (by omega) (ev_pos (by omega) ?_))
   have hbM : bt Mo ((off X m + j : Nat) : Int) = 49 ↔ (L Mo).getD (off X m + j) 0 = 49 := bt_is (n := 49) (by omega)
   by_cases hc : cont (runs X[m].2 X[m].1)[j] = true
   ·obtain ⟨hlt, hX, hmc, hgt, hM, hk⟩ := branch_node h.lv hm hj hc
    have hno := node_eq (keep := (keep : Int)) F (off X m + j) hi
    rw [h.m] at hno
    rw [← h.m] at hM
    have hrec := hP (onesB (encM X) (off X m + j + 1)) hlt (by omega) (fun k hk2 => by
     rw [hX] at hk2 ⊢
     simp only at hk2 ⊢
     exact ends_same (m := m) (hs k ((runs_sub (List.getElem_mem hj)).subset hk2)) (hlab k hk2))
    rw [hX] at hrec
    simp only at hrec
    refine ev_pos (hbM.2 hM) (ev_bindc hno ?_)
    have e1 : wrap64 ((X[m].2 : Int) + 1) = ((X[m].2 + 1 : Nat) : Int) := by rw [w64 (by omega) (by omega)]; omega
    rw [e1]
    exact hrec
   ·have hc' : cont (runs X[m].2 X[m].1)[j] = false := by simpa using hc
    obtain ⟨k, hg, hkx, hdep, hL, hM, hR⟩ := branch_leaf h.lv hm hj hc'
    obtain ⟨hkK, hko, _, hkl⟩ := h.lv.key hm hkx
    have hR := LL_at (l := Rs) (by rw [h.r]; exact hR keep)
    rw [← h.m] at hR hM
    rw [← h.l] at hL
    have hr := (rest_eq (keep := (keep : Int)) F (off X m + j) hi hM).1
    have hcm := complete_eq (keep := (keep : Int)) F (off X m + j) hi hM
    generalize Rs.getD (off X m + j - onesB (L Mo) (off X m + j)) ByteArray.empty = rv at hR hr hcm
    have hcv : decide ((L Lt).getD (off X m + j) 0 = 45 ∨ ((L rv).length : Int) < (keep : Int)) = cpl K keep k := by
     have h1 := leaf_all hko hdep hkl keep
     rw [hL, hR]
     rw [Bool.eq_iff_iff, decide_eq_true_eq, ← h1]
     constructor
     ·rintro (q | q)
      ·exact .inl q
      ·exact .inr (by omega)
     ·rintro (q | q)
      ·exact .inl q
      ·exact .inr (by omega)
    rw [hcv] at hcm
    have hend := end_may (keep := keep) h.lv hm hkx hq hdep (hs k hkx) (hlab k (by rw [hg]; simp)).symm
    rw [hg, hend]
    have hmn : mn (wrap64 ((X[m].2 : Int) + 1)) (q.size : Int) = ((min (X[m].2 + 1) q.size : Nat) : Int) := by
     rw [w64 (by omega) (by omega)]; exact mnk (X[m].2 + 1) q.size
    have htl := tail_L q X[m].2 (by omega) (by omega)
    have p1 : 0 ≤ mn (wrap64 ((X[m].2 : Int) + 1)) (q.size : Int) := by rw [hmn]; omega
    have p2 : mn (wrap64 ((X[m].2 : Int) + 1)) (q.size : Int) ≤ (q.size : Int) := by rw [hmn]; omega
    refine ev_neg (fun z => ?_) (ev_pos p1 (ev_pos p2 (ev_bindc hcm ?_)))
    ·rw [hbM.1 z] at hM; exact absurd hM (by decide)
    ·by_cases hcp : cpl K keep k = true
     ·refine ev_eq (ev_pos hcp (ev_bindc hr (ev_some rfl))) ?_
      rw [if_pos hcp, toList_L, toList_L, htl, hR]
     ·refine ev_eq (ev_neg hcp (ev_bindc hr (ev_bindc (impl_KeyBegins_eq _ _) (ev_some rfl)))) ?_
      rw [if_neg hcp, htl, hR]
  ·refine ev_neg (fun z => c ?_) ?_
   ·rw [hbl] at z
    exact UInt8.toNat_inj.1 (by omega)
   ·have hw64 : wrap64 (((off X m + j : Nat) : Int) + 1) = ((off X m + (j + 1) : Nat) : Int) := by rw [w64 (by omega) (by omega)]; omega
    rw [hw64]
    refine ih (j + 1) (by omega) (by omega) (fun i hi2 => ?_)
    by_cases e : i = j
    ·subst e; exact c
    ·exact g3 i (by omega)
theorem has_P (h : Enc K X keep Lt Mo Fi Rs) (h0 : K ≠ []) (q : ByteArray) (hq : KOk (L q)) : ∀ t, HasP K X keep Lt Mo Fi Rs q t := by
 intro t
 induction t with
 | zero => intro m hm g; omega
 | succ t ih =>
  intro m hm g1 g2
  have hmX : X.length ≤ 1000 := by
   have := size_eq h.lv.eq
   have := h.fewb
   simp only at *
   omega
  have hbr := branches_ev (keep := (keep : Int)) h.fm m (by omega)
  rw [(h.br h0 hm).1] at hbr
  have := has_step h h0 q hq t ih hm g1 g2 _ 0 (Nat.zero_le _) rfl (fun i hi => absurd hi (by omega))
  refine ev_succ ?_
  simp only [impl_Sieve_has.l0]
  exact Ev.bind hbr this
theorem has_ev (h : Enc K X keep Lt Mo Fi Rs) (q : ByteArray) (hq : KOk (L q)) : Ev (fun k => impl_Sieve_has.f k Lt Mo Fi Rs (keep : Int) q) (mayL K keep K (L q)) := by
 unfold impl_Sieve_has.f
 by_cases h0 : K = []
 ·subst h0
  have hX := lvl_nil h.lv
  subst hX
  have hz : (brs [(([] : List Key), 0)]).length = 0 := by rw [brs_nil]; rfl
  have F := h.fm
  have hbr := branches_ev (keep := (keep : Int)) F 0 (by omega)
  unfold brI at hbr
  rw [if_neg (by have := F.fn; omega)] at hbr
  refine ev_succ ?_
  simp only [impl_Sieve_has.l0]
  refine Ev.bind hbr (ev_succ ?_)
  simp only [impl_Sieve_has.l1]
  refine ev_neg (by simp) (ev_succ ?_)
  simp only [impl_Sieve_has.j2]
  exact ev_pos (by simp) (ev_some rfl)
 ·have hX0 := h.lv.pos_root
  obtain ⟨hlt, hX⟩ := List.getElem?_eq_some_iff.1 hX0
  have := has_P h h0 q hq X.length 0 hlt (by omega) (fun k _ => by rw [hX]; exact same_zero _ _)
  rw [hX] at this
  simpa using this
end
section
variable {K : List Key} {X : List Nd} {keep : Nat} {Lt Mo Fi : ByteArray} {Rs : List ByteArray}
end
theorem mess_l0_ev (b : List Int) (p : Int) (d : Nat) : ∀ (x3 : List ByteArray) (i : Nat), 30 - i = d → i ≤ 30 → SOk (LL x3) → x3.length ≤ 10 + i →
  ∃ s, Ev (fun k => spec_l71Mess.l0 k x3 (i : Int) b p) (s, p) ∧ SOk (LL s) ∧ s.length ≤ 40 := by
 induction d with
 | zero =>
  intro x3 i h1 h2 h3 h4
  refine ⟨x3, ev_succ ?_, h3, by omega⟩
  simp only [spec_l71Mess.l0]
  exact ev_neg (by omega) (ev_some rfl)
 | succ d ih =>
  intro x3 i h1 h2 h3 h4
  have e1 : Int.tmod (i : Int) 5 = ((i % 5 : Nat) : Int) := by rw [Int.tmod_eq_emod_of_nonneg (by omega)]; omega
  have e2 : wrap64 (Int.tdiv (i : Int) 5) = ((i / 5 : Nat) : Int) := by rw [Int.tdiv_eq_ediv_of_nonneg (by omega), w64 (by omega) (by omega)]; omega
  have sm : ∀ j : Nat, j < 5 → ∃ u : ByteArray, rdOf ByteArray.empty ([(⟨#[]⟩ : ByteArray), (⟨#[97]⟩ : ByteArray), (⟨#[98]⟩ : ByteArray), (⟨#[99]⟩ : ByteArray), (⟨#[100]⟩ : ByteArray)] : List ByteArray) (j : Int) = u ∧ (L u).length ≤ 1 ∧ ∀ c ∈ L u, 97 ≤ c.toNat ∧ c.toNat ≤ 100 := by
   intro j hj
   have : j = 0 ∨ j = 1 ∨ j = 2 ∨ j = 3 ∨ j = 4 := by omega
   rcases this with rfl | rfl | rfl | rfl | rfl <;> refine ⟨_, rfl, by decide, by decide⟩
  have sm2 : ∀ j : Nat, j < 6 → ∃ u : ByteArray, rdOf ByteArray.empty ([(⟨#[]⟩ : ByteArray), (⟨#[97]⟩ : ByteArray), (⟨#[98]⟩ : ByteArray), (⟨#[99]⟩ : ByteArray), (⟨#[100]⟩ : ByteArray), (⟨#[100, 97]⟩ : ByteArray)] : List ByteArray) (j : Int) = u ∧ (L u).length ≤ 2 ∧ ∀ c ∈ L u, 97 ≤ c.toNat ∧ c.toNat ≤ 100 := by
   intro j hj
   have : j = 0 ∨ j = 1 ∨ j = 2 ∨ j = 3 ∨ j = 4 ∨ j = 5 := by omega
   rcases this with rfl | rfl | rfl | rfl | rfl | rfl <;> refine ⟨_, rfl, by decide, by decide⟩
  obtain ⟨u, hu, lu, au⟩ := sm (i % 5) (by omega)
  obtain ⟨v, hv, lv, av⟩ := sm2 (i / 5) (by omega)
  have su := size_L u
  have sv := size_L v
  have hd : (L (⟨#[100]⟩ : ByteArray)) = [100] := rfl
  have hL : L (((⟨#[100]⟩ : ByteArray) ++ u) ++ v) = [100] ++ L u ++ L v := by rw [L_append, L_append, hd]
  have hk : KOk (L (((⟨#[100]⟩ : ByteArray) ++ u) ++ v)) := by
   rw [hL]
   refine ⟨by simp; omega, fun c hc => ?_⟩
   simp only [List.mem_append, List.mem_singleton] at hc
   rcases hc with (rfl | hc) | hc
   ·decide
   ·exact au c hc
   ·exact av c hc
  obtain ⟨r, hr, he⟩ := l2Put_ev x3 (((⟨#[100]⟩ : ByteArray) ++ u) ++ v) (by omega)
  have hl : r.length ≤ x3.length + 1 := by
   have := putB_length (k := L (((⟨#[100]⟩ : ByteArray) ++ u) ++ v)) (K := LL x3)
   rw [← he, LL_length, LL_length] at this; exact this
  obtain ⟨s, hs, ks, ls⟩ := ih r (i + 1) (by omega) (by omega) (by rw [he]; exact sok_put h3 hk) (by omega)
  refine ⟨s, ev_succ ?_, ks, ls⟩
  have hsz : ((⟨#[100]⟩ : ByteArray) ++ u).size = 1 + u.size := ByteArray.size_append
  simp only [spec_l71Mess.l0]
  rw [e1, e2]
  refine ev_pos (by omega) (ev_bindc rfl (ev_pos (by omega) (ev_pos (by simp only [List.length_cons, List.length_nil]; omega) ?_)))
  rw [hu]
  refine ev_pos (by omega) (ev_bindc rfl (ev_pos (by omega) (ev_pos (by simp only [List.length_cons, List.length_nil]; omega) ?_)))
  rw [hv]
  refine ev_pos (by rw [hsz]; omega) (Ev.bind hr ?_)
  rw [w64 (by omega) (by omega)]
  exact hs
theorem sok_short {l : List ByteArray} (h : SOk (LL l)) : ∀ x ∈ l, (L x).length ≤ 10 := fun x hx => by
 have := (h.ok _ (LL_mem hx)).len; omega
theorem mess_ev {b : List Int} (hb : By b) (p : Int) (h0 : 0 ≤ p) (h1 : p ≤ 50000) :
  ∃ s q, Ev (fun k => spec_l71Mess.f k b p) (s, q) ∧ (∀ x ∈ s, (L x).length ≤ 10) ∧ s.length ≤ 40 ∧ p ≤ q ∧ q ≤ p + 2000 := by
 obtain ⟨l, q, hl, kl, nl, q0, q1⟩ := keys_ev hb p h0 (by omega) 8 (by omega)
 obtain ⟨m, hm, m0, m1, _⟩ := pick_ev hb q (by omega) (by omega) 5 (by omega)
 have sh := sok_short kl
 have start : ∀ r, Ev (fun k => (if m = 0 then (if l.length < 8796093022208 then (some ((l ++ [(⟨#[97]⟩ : ByteArray)]), q + 1)) else (none)) else (if m = 1 then ((some (([(⟨#[120]⟩ : ByteArray), (⟨#[101]⟩ : ByteArray)] : List ByteArray) : List ByteArray)).bind fun y585 => (if l.length + y585.length < 8796093022208 then (some ((l ++ y585), q + 1)) else (none))) else (if m = 2 then ((spec_l6Rd_pick.f k b (q + 1) 2).bind fun bt591 => ((spec_l6Many.f k (⟨#[100]⟩ : ByteArray) (wrap64 (5 + bt591.1))).bind fun t593 => (if l.length < 8796093022208 then (some ((l ++ [t593]), bt591.2)) else (none)))) else (if m = 3 then (spec_l71Mess.l0 k l 0 b (q + 1)) else (some (l, q + 1))))))) r → Ev (fun k => spec_l71Mess.f k b p) r := by
  intro r h
  unfold spec_l71Mess.f
  exact Ev.bind hl (Ev.bind hm h)
 by_cases c0 : m = 0
 ·refine ⟨l ++ [(⟨#[97]⟩ : ByteArray)], q + 1, start _ (ev_pos c0 (ev_pos (by omega) (ev_some rfl))), fun x hx => ?_, by simp; omega, by omega, by omega⟩
  rcases List.mem_append.1 hx with h | h
  ·exact sh x h
  ·simp at h; subst h; decide
 ·by_cases c1 : m = 1
  ·refine ⟨l ++ [(⟨#[120]⟩ : ByteArray), (⟨#[101]⟩ : ByteArray)], q + 1, start _ (ev_neg c0 (ev_pos c1 (ev_bindc rfl (ev_pos (by simp; omega) (ev_some rfl))))), fun x hx => ?_, by simp; omega, by omega, by omega⟩
   rcases List.mem_append.1 hx with h | h
   ·exact sh x h
   ·simp at h; rcases h with rfl | rfl <;> decide
  ·by_cases c2 : m = 2
   ·obtain ⟨z, hz, z0, z1, _⟩ := pick_ev hb (q + 1) (by omega) (by omega) 2 (by omega)
    have z1 := z1 (by omega)
    obtain ⟨n, hn⟩ : ∃ n : Nat, 5 + z = (n : Int) := ⟨(5 + z).toNat, by omega⟩
    have h21 : (⟨#[100]⟩ : ByteArray).size = 1 := rfl
    have h20 : (⟨#[]⟩ : ByteArray).size = 0 := rfl
    obtain ⟨s, hs, hsz⟩ := many_ev 10 (by omega) n (⟨#[100]⟩ : ByteArray) (⟨#[]⟩ : ByteArray) (by omega) (by rw [h21]; omega) (by rw [h21, h20]; omega)
    refine ⟨l ++ [s], q + 1 + 1, start _ (ev_neg c0 (ev_neg c1 (ev_pos c2 (Ev.bind hz ?_)))), fun x hx => ?_, by simp; omega, by omega, by omega⟩
    ·simp only []
     rw [w64 (i := 5 + z) (by omega) (by omega), hn]
     exact Ev.bind hs (ev_pos (by omega) (ev_some rfl))
    ·rcases List.mem_append.1 hx with h | h
     ·exact sh x h
     ·simp at h; subst h; rw [← size_L]; exact hsz
   ·by_cases c3 : m = 3
    ·obtain ⟨s, hs, ks, ls⟩ := mess_l0_ev b (q + 1) 30 l 0 (by omega) (by omega) kl (by omega)
     exact ⟨s, q + 1, start _ (ev_neg c0 (ev_neg c1 (ev_neg c2 (ev_pos c3 hs)))), sok_short ks, ls, by omega, by omega⟩
    ·exact ⟨l, q + 1, start _ (ev_neg c0 (ev_neg c1 (ev_neg c2 (ev_neg c3 (ev_some rfl))))), sh, by omega, by omega, by omega⟩
theorem szl_of {s : List ByteArray} (h : ∀ x ∈ s, (L x).length ≤ 10) (hl : s.length ≤ 1000) : SzL s := ⟨by omega, fun x hx => by have := h x hx; rw [size_L]; omega⟩
section
variable {K : List Key} {X : List Nd} {keep : Nat} {Lt Mo Fi : ByteArray} {Rs : List ByteArray}
end
section
variable {Lt Mo Fi : ByteArray} {Rs : List ByteArray} {a : Int}
noncomputable def hasV (K : List Key) (keep : Nat) (q : Key) : Bool := kokB q && mayL K keep K q
theorem impl_has_yes {K : List Key} {keep : Nat} (h : Is K keep Lt Mo Fi Rs) (hh : Ev (fun k => impl_Sieve_heads.f k Lt Mo Fi Rs (keep : Int)) (K.map (pt K keep), true)) (q : ByteArray) (hq : q.size ≤ 140737488355328) : Ev (fun k => impl_SieveHas.f k Lt Mo Fi Rs (keep : Int) q) (hasV K keep (L q)) := by
 unfold impl_SieveHas.f hasV
 refine Ev.bind (impl_SieveOk_of hh) (ev_pos rfl (Ev.bind (impl_KeyOk_ev q hq) ?_))
 by_cases c : kokB (L q) = true
 ·rw [c]
  exact ev_pos rfl (Ev.bind (has_ev h.enc q (kokB_iff.1 c)) (ev_some (by simp)))
 ·have c' : kokB (L q) = false := by simpa using c
  rw [c']
  exact ev_neg (by simp) (ev_some rfl)
end
theorem is_sz {K : List Key} {keep : Nat} {Lt Mo Fi : ByteArray} {Rs : List ByteArray} (h : Is K keep Lt Mo Fi Rs) : SvSz Lt Mo Fi Rs := by
 have F := h.enc.fm
 have hf := F.few
 have s1 := size_L Lt
 have s2 := size_L Mo
 have s3 := size_L Fi
 have h1 := F.ln
 have h2 := F.mn
 have h3 := F.fn
 exact ⟨by omega, by omega, by omega, by have := F.rs; omega, F.sz⟩
theorem heads_of {K : List Key} {keep : Nat} {Lt Mo Fi : ByteArray} {Rs : List ByteArray} (h : Is K keep Lt Mo Fi Rs) : Ev (fun k => impl_Sieve_heads.f k Lt Mo Fi Rs (keep : Int)) (K.map (pt K keep), true) := by
 rcases heads_ev (is_sz h) (keep : Int) with ⟨K', keep', e, hI, hh⟩ | ⟨hn, _⟩
 ·have e2 : keep' = keep := by omega
  subst e2
  have h1 := parts_enc h.enc
  have h2 := parts_enc hI.enc
  have := ev_unique h1 h2
  rw [this]; exact hh
 ·exact absurd h (hn K keep rfl)
theorem sieveV_cases (K : List Key) (a : Int) : ((sieveV K a).2.2.2.2.2 = false ∧ ¬ (KsOk K ∧ keepOk a)) ∨ ∃ (keep : Nat) (Lt Mo Fi : ByteArray) (Rs : List ByteArray), a = (keep : Int) ∧ sieveV K a = (Lt, Mo, Fi, Rs, (keep : Int), true) ∧ Is K keep Lt Mo Fi Rs := by
 by_cases c : keysB K = true ∧ keepOk a
 ·right
  have h1 : sieveV K a = encT (lvls K) a := by unfold sieveV; rw [if_pos c]
  have e : a = (a.toNat : Int) := by have := c.2.1; omega
  have hI : sieveV K a = ((sieveV K a).1, (sieveV K a).2.1, (sieveV K a).2.2.1, (sieveV K a).2.2.2.1, (a.toNat : Int), true) := by
   rw [h1]
   unfold encT
   rw [← e]
  obtain ⟨h2, _, _⟩ := is_of hI
  exact ⟨a.toNat, _, _, _, _, e, hI, h2⟩
 ·left
  unfold sieveV
  rw [if_neg c]
  exact ⟨rfl, fun h => c ⟨keysB_iff.2 h.1, h.2⟩⟩
theorem DrawSieveOf_ev (l0 : List Int) (hl : l0.length ≤ maxLen) (hw : ∀ x ∈ l0, (Lit.int .u8 x).wf = true) :
  ∃ s a, Ev (fun k => spec_DrawSieveOf.f k l0) (s, a) ∧ SzL s ∧ s.length ≤ 1000 := by
 obtain ⟨b, ho, hb⟩ := open_ev l0 hl hw
 obtain ⟨s, q, hs, ks, ns, q0, q1⟩ := keys_ev hb 0 (by omega) (by omega) 12 (by omega)
 obtain ⟨m, hm, m0, m1, _⟩ := pick_ev hb q (by omega) (by omega) 12 (by omega)
 by_cases c : m = 0
 ·obtain ⟨s', q', hs', ks', ns', a0, a1⟩ := mess_ev hb (q + 1) (by omega) (by omega)
  obtain ⟨i, hi, i0, i1, _⟩ := pick_ev hb q' (by omega) (by omega) 8 (by omega)
  refine ⟨s', rd [0, 0, 1, 1, 2, 5, 6, (-1)] i, ?_, szl_of ks' (by omega), by omega⟩
  unfold spec_DrawSieveOf.f
  exact ev_bindc ho (Ev.bind hs (Ev.bind hm (ev_pos c (Ev.bind hs' (ev_bindc rfl (Ev.bind hi (ev_pos i0 (ev_pos (by have := i1 (by omega); simpa using this) (ev_some rfl)))))))))
 ·obtain ⟨i, hi, i0, i1, _⟩ := pick_ev hb (q + 1) (by omega) (by omega) 8 (by omega)
  refine ⟨s, rd [0, 0, 1, 1, 2, 5, 6, (-1)] i, ?_, szl_of (sok_short ks) (by omega), by omega⟩
  unfold spec_DrawSieveOf.f
  exact ev_bindc ho (Ev.bind hs (Ev.bind hm (ev_neg c (ev_bindc rfl (Ev.bind hi (ev_pos i0 (ev_pos (by have := i1 (by omega); simpa using this) (ev_some rfl))))))))
theorem DrawKeyBegins_ev (l0 : List Int) (h0 : l0.length ≤ maxLen) (h2 : ∀ x ∈ l0, (Lit.int .u8 x).wf = true) : ∃ x y, Ev (fun k => spec_DrawKeyBegins.f k l0) (x, y) ∧ KOk (L x) ∧ KOk (L y) := by
 obtain ⟨b, ho, hb⟩ := open_ev l0 h0 h2
 obtain ⟨x, q, hx, kx, q0, q1⟩ := key_ev hb 0 (by omega) (by omega)
 obtain ⟨y, q', hy, ky, _, _⟩ := near_ev hb q (by omega) (by omega) [x] (by simp) (by simpa using kx)
 refine ⟨x, y, ?_, kx, ky⟩
 unfold spec_DrawKeyBegins.f
 exact ev_bindc ho (Ev.bind hx (Ev.bind hy (ev_some rfl)))
theorem kok_size {x : ByteArray} (h : KOk (L x)) : x.size ≤ 140737488355328 := by
 have := h.len
 rw [size_L]; omega
theorem hasV_iff {K : List Key} {keep : Nat} {q : Key} : hasV K keep q = true ↔ KOk q ∧ ∃ k ∈ K, may (Trie.part K keep k) q = true := by
 unfold hasV mayL
 rw [Bool.and_eq_true, kokB_iff, List.any_eq_true]
theorem has_self {K : List Key} {keep : Nat} {q : Key} (hK : ∀ k ∈ K, KOk k) (hq : q ∈ K) : hasV K keep q = true :=
 hasV_iff.2 ⟨hK q hq, q, hq, part_may K keep q⟩
theorem size_yes {Lt Mo Fi : ByteArray} {Rs : List ByteArray} {a : Int} {l : List S93} (h : Ev (fun k => impl_Sieve_heads.f k Lt Mo Fi Rs a) (l, true)) : Ev (fun k => impl_SieveSize.f k Lt Mo Fi Rs a) (Lt.size : Int) := by
 unfold impl_SieveSize.f
 exact Ev.bind (impl_SieveOk_of h) (ev_pos rfl (ev_some rfl))
theorem Is.one {K : List Key} {keep keep' : Nat} {Lt Mo Fi Lt' Mo' Fi' : ByteArray} {Rs Rs' : List ByteArray} (h : Is K keep Lt Mo Fi Rs) (h' : Is K keep' Lt' Mo' Fi' Rs') : Lt = Lt' := by
 apply L_inj
 rw [h.enc.l, h'.enc.l]
end Go.Proofs.Ytifgcajpkgamgaa.Pb
end
