/- What the laws of the set SA need: the kit's printed words, the printed functions with their proofs, and plain facts on them. -/
import Derived.Test.YtifgcajpkgamgaaBSAe
section
set_option linter.unusedVariables false
set_option linter.unusedSimpArgs false
namespace Go.Proofs.Ytifgcajpkgamgaa.Pb
open Go Go.RowKit Go.Proofs.YtifgcajpkgamgaaW.PrintWords Go.Proofs.YtifgcajpkgamgaaW.PrintLast Go.Proofs.YtifgcajpkgamgaaW.PrintMore Go.Proofs.Ytifgcajpkgamgaa.Trie Go.Proofs.Ytifgcajpkgamgaa.Q
section
variable {K : List Key} {X : List Nd} {keep : Nat} {Lt Mo Fi : ByteArray} {Rs : List ByteArray}
noncomputable def mayL (K : List Key) (keep : Nat) (l : List Key) (q : Key) : Bool := l.any (fun k => may (Trie.part K keep k) q)
theorem mayL_other (h : Lvl K X) {m : Nat} (hm : m < X.length) {l : List Key} (hl : ∀ k ∈ l, k ∈ X[m].1) {q : Key} (hq : ∀ k ∈ l, lab k X[m].2 ≠ lab q X[m].2) : mayL K keep l q = false := by
 unfold mayL
 rw [List.any_eq_false]
 intro k hk hc
 obtain ⟨_, _, h3, _⟩ := h.key hm (hl k hk)
 exact hq k hk (may_lab hc _ h3).symm
theorem mayL_append (a b : List Key) (q : Key) : mayL K keep (a ++ b) q = (mayL K keep a q || mayL K keep b q) := by unfold mayL; rw [List.any_append]
theorem mayL_run (h : Lvl K X) {m : Nat} (hm : m < X.length) {j : Nat} (hj : j < (runs X[m].2 X[m].1).length) {q : Key} (hq : ∀ k ∈ (runs X[m].2 X[m].1)[j], lab k X[m].2 = lab q X[m].2) : mayL K keep X[m].1 q = mayL K keep (runs X[m].2 X[m].1)[j] q := by
 have hN := (h.nodes X[m] (List.getElem_mem hm)).2
 have hr := runs_rise _ hN.up
 have e : X[m].1 = ((runs X[m].2 X[m].1).take j).flatten ++ ((runs X[m].2 X[m].1)[j] ++ ((runs X[m].2 X[m].1).drop (j + 1)).flatten) := by
  have h1 := runs_flatten X[m].2 X[m].1
  conv => lhs; rw [← h1, ← List.take_append_drop j (runs X[m].2 X[m].1), List.drop_eq_getElem_cons hj]
  rw [List.flatten_append, List.flatten_cons]
 obtain ⟨k0, hk0⟩ : ∃ k0, k0 ∈ (runs X[m].2 X[m].1)[j] := ⟨_, headD_mem (runs_ne_nil _ _ (List.getElem_mem hj))⟩
 have h1 : mayL K keep ((runs X[m].2 X[m].1).take j).flatten q = false := by
  refine mayL_other h hm (fun k hk => ?_) (fun k hk => ?_)
  ·obtain ⟨g, hg, hkg⟩ := List.mem_flatten.1 hk
   exact (runs_sub (List.mem_of_mem_take hg)).subset hkg
  ·obtain ⟨g, hg, hkg⟩ := List.mem_flatten.1 hk
   obtain ⟨i, hi, rfl⟩ := List.mem_take_iff_getElem.1 hg
   have := List.pairwise_iff_getElem.1 hr i j (by omega) hj (by omega) k hkg k0 hk0
   rw [← hq k0 hk0]
   intro c
   rw [c] at this
   omega
 have h2 : mayL K keep ((runs X[m].2 X[m].1).drop (j + 1)).flatten q = false := by
  refine mayL_other h hm (fun k hk => ?_) (fun k hk => ?_)
  ·obtain ⟨g, hg, hkg⟩ := List.mem_flatten.1 hk
   exact (runs_sub (List.mem_of_mem_drop hg)).subset hkg
  ·obtain ⟨g, hg, hkg⟩ := List.mem_flatten.1 hk
   obtain ⟨i, hi, rfl⟩ := List.mem_drop_iff_getElem.1 hg
   have := List.pairwise_iff_getElem.1 hr j (j + 1 + i) hj (by omega) (by omega) k0 hk0 k hkg
   rw [← hq k0 hk0]
   intro c
   rw [c] at this
   omega
 conv => lhs; rw [e]
 rw [mayL_append, mayL_append, h1, h2]
 simp
theorem branch_lab (h : Lvl K X) {m : Nat} (hm : m < X.length) {j : Nat} (hj : j < (runs X[m].2 X[m].1).length) : ∀ k ∈ (runs X[m].2 X[m].1)[j], (encL X).getD (off X m + j) 0 = lab k X[m].2 := by
 intro k hk
 rw [encL_at X (brs_at hm hj)]
 exact runs_lab _ _ (List.getElem_mem hj) _ (headD_mem (runs_ne_nil _ _ (List.getElem_mem hj))) k hk
theorem mayL_none (h : Lvl K X) {m : Nat} (hm : m < X.length) {q : Key} (hq : ∀ j, j < (runs X[m].2 X[m].1).length → (encL X).getD (off X m + j) 0 ≠ lab q X[m].2) : mayL K keep X[m].1 q = false := by
 refine mayL_other h hm (fun k hk => hk) (fun k hk => ?_)
 obtain ⟨g, hg, hkg⟩ := mem_run (d := X[m].2) hk
 obtain ⟨j, hj, rfl⟩ := List.getElem_of_mem hg
 rw [← branch_lab h hm hj k hkg]
 exact hq j hj
theorem same_of (h : Lvl K X) {m : Nat} (hm : m < X.length) {q : Key} (hq : KOk q) (hs : ∀ k ∈ X[m].1, same X[m].2 q k) (hne : X[m].1 ≠ []) : X[m].2 ≤ q.length := by
 obtain ⟨k, hk⟩ := List.exists_mem_of_ne_nil _ hne
 obtain ⟨_, h2, _, h4⟩ := h.key hm hk
 exact same_len h2 hq (hs k hk).symm h4
theorem end_may (h : Lvl K X) {m : Nat} (hm : m < X.length) {k q : Key} (hk : k ∈ X[m].1) (hq : KOk q) (hd : dep K k = X[m].2) (hs : same X[m].2 q k) (hl : lab q X[m].2 = lab k X[m].2) :
  mayL K keep [k] q = (if cpl K keep k then q.drop (X[m].2 + 1) == (k.drop (X[m].2 + 1)).take keep else ((k.drop (X[m].2 + 1)).take keep).isPrefixOf (q.drop (X[m].2 + 1))) := by
 unfold mayL
 rw [List.any_cons, List.any_nil, Bool.or_false]
 have := leaf_may h.keys keep (h.key hm hk).2.1 hq (hd ▸ hs) (hd ▸ hl)
 rw [hd] at this
 exact this
def HasP (K : List Key) (X : List Nd) (keep : Nat) (Lt Mo Fi : ByteArray) (Rs : List ByteArray) (q : ByteArray) (t : Nat) : Prop :=
 ∀ (m : Nat) (hm : m < X.length), X.length - m ≤ t → (∀ k ∈ X[m].1, same X[m].2 (L q) k) →
  Ev (fun k => impl_Sieve_has.l0 k q (m : Int) (X[m].2 : Int) Lt Mo Fi Rs (keep : Int)) (mayL K keep X[m].1 (L q))
theorem tail_L (q : ByteArray) (d : Nat) (hd : d ≤ 100) (hq : q.size ≤ 5) : L (q.extract (mn (wrap64 ((d : Int) + 1)) (q.size : Int)).toNat q.size) = (L q).drop (d + 1) := by
 have s := size_L q
 have e1 : mn (wrap64 ((d : Int) + 1)) (q.size : Int) = ((min (d + 1) q.size : Nat) : Int) := by
  rw [w64 (by omega) (by omega)]; exact mnk (d + 1) q.size
 rw [e1]
 have e2 : (((min (d + 1) q.size : Nat) : Int)).toNat = min (d + 1) q.size := by omega
 rw [e2, L_extract, List.take_of_length_le (by omega)]
 by_cases g : d + 1 ≤ q.size
 ·rw [Nat.min_eq_left g]
 ·rw [Nat.min_eq_right (by omega), List.drop_eq_nil_of_le (by omega), List.drop_eq_nil_of_le (by omega)]
theorem ends_same {m d : Nat} {k q : Key} (hs : same d q k) (hl : lab k d = lab q d) : same (d + 1) q k := same_succ.2 ⟨hs, hl.symm⟩
theorem has_step (h : Enc K X keep Lt Mo Fi Rs) (h0 : K ≠ []) (q : ByteArray) (hq : KOk (L q)) (t : Nat) (hP : HasP K X keep Lt Mo Fi Rs q t) {m : Nat} (hm : m < X.length) (ht : X.length - m ≤ t + 1) (hs : ∀ k ∈ X[m].1, same X[m].2 (L q) k)
  (d : Nat) : ∀ j : Nat, j ≤ (runs X[m].2 X[m].1).length → (runs X[m].2 X[m].1).length - j = d → (∀ i, i < j → (encL X).getD (off X m + i) 0 ≠ lab (L q) X[m].2) →
   Ev (fun k => impl_Sieve_has.l1 k q (X[m].2 : Int) ((off X (m + 1) : Nat) : Int) ((off X m + j : Nat) : Int) Lt Mo Fi Rs (keep : Int)) (mayL K keep X[m].1 (L q)) := by
 have F := h.fm
 have hfew := F.few
 have hoff := off_succ hm
 have hle := off_le X (m + 1)
 have s1 := size_L Lt
 have s2 := size_L Mo
 have s3 := size_L q
 have l1 := F.ln
 have l2 := F.mn
 have hq5 := hq.len
 have hN := (h.lv.nodes X[m] (List.getElem_mem hm)).2
 have hd5 := hN.deep
 have hfull := h.lv.full h0 X[m] (List.getElem_mem hm)
 have hne : X[m].1 ≠ [] := fun e => by rw [e, runs_nil] at hfull; simp at hfull
 have hdq := same_of h.lv hm hq hs hne
 induction d with
 | zero =>
  intro j g1 g2 g3
  have e : j = (runs X[m].2 X[m].1).length := by omega
  rw [mayL_none h.lv hm (fun i hi => g3 i (by omega))]
  refine ev_succ ?_
  simp only [impl_Sieve_has.l1]
  refine ev_neg (by omega) (ev_succ ?_)
  simp only [impl_Sieve_has.j2]
  exact ev_pos (by omega) (ev_some rfl)
 | succ d ih =>
  intro j g1 g2 g3
  have hj : j < (runs X[m].2 X[m].1).length := by omega
  have hi : off X m + j < (brs X).length := by omega
  have hbl : bt Lt ((off X m + j : Nat) : Int) = (((encL X).getD (off X m + j) 0).toNat : Int) := by rw [bt_L, h.l]
  refine ev_succ ?_
  simp only [impl_Sieve_has.l1]
  refine ev_pos (by omega) (ev_pos (by omega) (ev_pos (by omega) (ev_bindc (label_eq q X[m].2 hdq) ?_)))
  by_cases c : (encL X).getD (off X m + j) 0 = lab (L q) X[m].2
  ·refine ev_pos (by rw [hbl, c]) ?_
   have hlab : ∀ k ∈ (runs X[m].2 X[m].1)[j], lab k X[m].2 = lab (L q) X[m].2 := fun k hk => by rw [← branch_lab h.lv hm hj k hk, c]
   rw [mayL_run h.lv hm hj hlab]
   refine ev_succ ?_
   simp only [impl_Sieve_has.j2]
   refine ev_neg (by omega) (ev_pos (by omega) (ev_pos (by omega) ?_))
   have hbM : bt Mo ((off X m + j : Nat) : Int) = 49 ↔ (L Mo).getD (off X m + j) 0 = 49 := bt_is (n := 49) (by omega)
   by_cases hc : cont (runs X[m].2 X[m].1)[j] = true
   ·obtain ⟨hlt, hX, hmc, hgt, hM, hk⟩ := branch_node h.lv hm hj hc
    have hno := node_eq (keep := (keep : Int)) F (off X m + j) hi
    rw [h.m] at hno
    rw [← h.m] at hM
    have hrec := hP (onesB (encM X) (off X m + j + 1)) hlt (by omega) (fun k hk2 => by
     rw [hX] at hk2 ⊢
     simp only at hk2 ⊢
     exact ends_same (m := m) (hs k ((runs_sub (List.getElem_mem hj)).subset hk2)) (hlab k hk2))
    rw [hX] at hrec
    simp only at hrec
    refine ev_pos (hbM.2 hM) (ev_bindc hno ?_)
    have e1 : wrap64 ((X[m].2 : Int) + 1) = ((X[m].2 + 1 : Nat) : Int) := by rw [w64 (by omega) (by omega)]; omega
    rw [e1]
    exact hrec
   ·have hc' : cont (runs X[m].2 X[m].1)[j] = false := by simpa using hc
    obtain ⟨k, hg, hkx, hdep, hL, hM, hR⟩ := branch_leaf h.lv hm hj hc'
    obtain ⟨hkK, hko, _, hkl⟩ := h.lv.key hm hkx
    have hR := LL_at (l := Rs) (by rw [h.r]; exact hR keep)
    rw [← h.m] at hR hM
    rw [← h.l] at hL
    have hr := (rest_eq (keep := (keep : Int)) F (off X m + j) hi hM).1
    have hcm := complete_eq (keep := (keep : Int)) F (off X m + j) hi hM
    generalize Rs.getD (off X m + j - onesB (L Mo) (off X m + j)) ByteArray.empty = rv at hR hr hcm
    have hcv : decide ((L Lt).getD (off X m + j) 0 = 45 ∨ ((L rv).length : Int) < (keep : Int)) = cpl K keep k := by
     have h1 := leaf_all hko hdep hkl keep
     rw [hL, hR]
     rw [Bool.eq_iff_iff, decide_eq_true_eq, ← h1]
     constructor
     ·rintro (q | q)
      ·exact .inl q
      ·exact .inr (by omega)
     ·rintro (q | q)
      ·exact .inl q
      ·exact .inr (by omega)
    rw [hcv] at hcm
    have hend := end_may (keep := keep) h.lv hm hkx hq hdep (hs k hkx) (hlab k (by rw [hg]; simp)).symm
    rw [hg, hend]
    have hmn : mn (wrap64 ((X[m].2 : Int) + 1)) (q.size : Int) = ((min (X[m].2 + 1) q.size : Nat) : Int) := by
     rw [w64 (by omega) (by omega)]; exact mnk (X[m].2 + 1) q.size
    have htl := tail_L q X[m].2 (by omega) (by omega)
    have p1 : 0 ≤ mn (wrap64 ((X[m].2 : Int) + 1)) (q.size : Int) := by rw [hmn]; omega
    have p2 : mn (wrap64 ((X[m].2 : Int) + 1)) (q.size : Int) ≤ (q.size : Int) := by rw [hmn]; omega
    refine ev_neg (fun z => ?_) (ev_pos p1 (ev_pos p2 (ev_bindc hcm ?_)))
    ·rw [hbM.1 z] at hM; exact absurd hM (by decide)
    ·by_cases hcp : cpl K keep k = true
     ·refine ev_eq (ev_pos hcp (ev_bindc hr (ev_some rfl))) ?_
      rw [if_pos hcp, toList_L, toList_L, htl, hR]
     ·refine ev_eq (ev_neg hcp (ev_bindc hr (ev_bindc (impl_KeyBegins_eq _ _) (ev_some rfl)))) ?_
      rw [if_neg hcp, htl, hR]
  ·refine ev_neg (fun z => c ?_) ?_
   ·rw [hbl] at z
    exact UInt8.toNat_inj.1 (by omega)
   ·have hw64 : wrap64 (((off X m + j : Nat) : Int) + 1) = ((off X m + (j + 1) : Nat) : Int) := by rw [w64 (by omega) (by omega)]; omega
    rw [hw64]
    refine ih (j + 1) (by omega) (by omega) (fun i hi2 => ?_)
    by_cases e : i = j
    ·subst e; exact c
    ·exact g3 i (by omega)
theorem has_P (h : Enc K X keep Lt Mo Fi Rs) (h0 : K ≠ []) (q : ByteArray) (hq : KOk (L q)) : ∀ t, HasP K X keep Lt Mo Fi Rs q t := by
 intro t
 induction t with
 | zero => intro m hm g; omega
 | succ t ih =>
  intro m hm g1 g2
  have hmX : X.length ≤ 1000 := by
   have := size_eq h.lv.eq
   have := h.fewb
   simp only at *
   omega
  have hbr := branches_ev (keep := (keep : Int)) h.fm m (by omega)
  rw [(h.br h0 hm).1] at hbr
  have := has_step h h0 q hq t ih hm g1 g2 _ 0 (Nat.zero_le _) rfl (fun i hi => absurd hi (by omega))
  refine ev_succ ?_
  simp only [impl_Sieve_has.l0]
  exact Ev.bind hbr this
theorem has_ev (h : Enc K X keep Lt Mo Fi Rs) (q : ByteArray) (hq : KOk (L q)) : Ev (fun k => impl_Sieve_has.f k Lt Mo Fi Rs (keep : Int) q) (mayL K keep K (L q)) := by
 unfold impl_Sieve_has.f
 by_cases h0 : K = []
 ·subst h0
  have hX := lvl_nil h.lv
  subst hX
  have hz : (brs [(([] : List Key), 0)]).length = 0 := by rw [brs_nil]; rfl
  have F := h.fm
  have hbr := branches_ev (keep := (keep : Int)) F 0 (by omega)
  unfold brI at hbr
  rw [if_neg (by have := F.fn; omega)] at hbr
  refine ev_succ ?_
  simp only [impl_Sieve_has.l0]
  refine Ev.bind hbr (ev_succ ?_)
  simp only [impl_Sieve_has.l1]
  refine ev_neg (by simp) (ev_succ ?_)
  simp only [impl_Sieve_has.j2]
  exact ev_pos (by simp) (ev_some rfl)
 ·have hX0 := h.lv.pos_root
  obtain ⟨hlt, hX⟩ := List.getElem?_eq_some_iff.1 hX0
  have := has_P h h0 q hq X.length 0 hlt (by omega) (fun k _ => by rw [hX]; exact same_zero _ _)
  rw [hX] at this
  simpa using this
end
section
variable {K : List Key} {X : List Nd} {keep : Nat} {Lt Mo Fi : ByteArray} {Rs : List ByteArray}
end
def notLess (x : ByteArray) (y : ByteArray) : Bool := !decide (L y < L x)
def firstOf (o : Option ByteArray) : ByteArray × Bool := match o with | some y => (y, true) | none => ((⟨#[]⟩ : ByteArray), false)
def firstB (l : List ByteArray) (x : ByteArray) : ByteArray × Bool := if keysB (LL l) then firstOf (l.find? (notLess x)) else ((⟨#[]⟩ : ByteArray), false)
theorem less_iff (y x : ByteArray) : (Op.bytesLess y.toList x.toList = true) ↔ L y < L x := by
 rw [less_L, decide_eq_true_eq, toList_L, toList_L]
theorem impl_KeyFirst_l0 (l : List ByteArray) (hl : SzL l) (x : ByteArray) (d : Nat) : ∀ i : Nat, i ≤ l.length → l.length - i = d →
  Ev (fun k => impl_KeyFirst.l0 k x l (l.length : Int) (i : Int)) (firstOf ((l.drop i).find? (notLess x))) := by
 have hn := hl.len
 induction d with
 | zero =>
  intro i h1 h2
  refine ev_succ ?_
  simp only [impl_KeyFirst.l0]
  refine ev_neg (by omega) (ev_some ?_)
  rw [List.drop_eq_nil_of_le (by omega)]
  rfl
 | succ d ih =>
  intro i h1 h2
  refine ev_succ ?_
  simp only [impl_KeyFirst.l0]
  have ih := ih (i + 1) (by omega) (by omega)
  refine ev_pos (by omega) (ev_pos (by omega) (ev_pos (by omega) ?_))
  have hg : rdOf ByteArray.empty l (i : Int) = l.getD i ByteArray.empty := rfl
  rw [drop_cons ByteArray.empty (by omega), List.find?_cons]
  rw [w64 (by omega) (by omega)]
  by_cases c : L (l.getD i ByteArray.empty) < L x
  ·have hb : notLess x (l.getD i ByteArray.empty) = false := by unfold notLess; rw [decide_eq_true c]; rfl
   refine ev_pos ((less_iff _ _).2 c) ?_
   rw [hb]; exact ih
  ·have hb : notLess x (l.getD i ByteArray.empty) = true := by unfold notLess; rw [decide_eq_false c]; rfl
   refine ev_neg (fun q => c ((less_iff _ _).1 q)) (ev_some ?_)
   rw [hb]; rfl
theorem impl_KeyFirst_ev (l : List ByteArray) (hl : SzL l) (x : ByteArray) : Ev (fun k => impl_KeyFirst.f k l x) (firstB l x) := by
 unfold impl_KeyFirst.f
 refine Ev.bind (impl_KeysOk_ev l hl) ?_
 unfold firstB
 cases hk : keysB (LL l) with
 | false => exact ev_neg (by simp) (ev_some (by simp))
 | true => exact ev_pos rfl (impl_KeyFirst_l0 l hl x l.length 0 (by omega) (by omega))
theorem ltIn_l0 (l : List ByteArray) (hl : SzL l) (x : ByteArray) (d : Nat) : ∀ i : Nat, i ≤ l.length → l.length - i = d →
  Ev (fun k => laws_ltIn.l0 k l x (i : Int)) (decide (L x ∈ (LL l).drop i)) := by
 have hn := hl.len
 have hz := LL_length l
 induction d with
 | zero =>
  intro i h1 h2
  refine ev_succ ?_
  simp only [laws_ltIn.l0]
  refine ev_neg (by omega) (ev_some ?_)
  rw [List.drop_eq_nil_of_le (by omega)]
  simp
 | succ d ih =>
  intro i h1 h2
  refine ev_succ ?_
  simp only [laws_ltIn.l0]
  have hr := L_rd l i
  have hdrop : (LL l).drop i = L (rdOf ByteArray.empty l (i : Int)) :: (LL l).drop (i + 1) := by rw [drop_cons [] (by omega), ← hr]
  refine ev_pos (by omega) (ev_pos (by omega) ?_)
  rw [w64 (by omega) (by omega), hdrop]
  by_cases e : L (rdOf ByteArray.empty l (i : Int)) = L x
  ·exact ev_pos (L_eq_iff.2 e) (ev_some (by rw [eq_comm, decide_eq_true_eq]; simp [e]))
  ·refine ev_neg (fun q => e (L_eq_iff.1 q)) (ev_eq (ih (i + 1) (by omega) (by omega)) ?_)
   rw [decide_eq_decide, List.mem_cons]
   exact ⟨.inr, fun h => h.resolve_left (fun q => e q.symm)⟩
theorem ltIn_ev (l : List ByteArray) (hl : SzL l) (x : ByteArray) : Ev (fun k => laws_ltIn.f k l x) (decide (L x ∈ LL l)) := by
 have := ltIn_l0 l hl x l.length 0 (by omega) (by omega)
 simpa [laws_ltIn.f] using this
theorem mess_l0_ev (b : List Int) (p : Int) (d : Nat) : ∀ (x3 : List ByteArray) (i : Nat), 30 - i = d → i ≤ 30 → SOk (LL x3) → x3.length ≤ 10 + i →
  ∃ s, Ev (fun k => spec_l71Mess.l0 k x3 (i : Int) b p) (s, p) ∧ SOk (LL s) ∧ s.length ≤ 40 := by
 induction d with
 | zero =>
  intro x3 i h1 h2 h3 h4
  refine ⟨x3, ev_succ ?_, h3, by omega⟩
  simp only [spec_l71Mess.l0]
  exact ev_neg (by omega) (ev_some rfl)
 | succ d ih =>
  intro x3 i h1 h2 h3 h4
  have e1 : Int.tmod (i : Int) 5 = ((i % 5 : Nat) : Int) := by rw [Int.tmod_eq_emod_of_nonneg (by omega)]; omega
  have e2 : wrap64 (Int.tdiv (i : Int) 5) = ((i / 5 : Nat) : Int) := by rw [Int.tdiv_eq_ediv_of_nonneg (by omega), w64 (by omega) (by omega)]; omega
  have sm : ∀ j : Nat, j < 5 → ∃ u : ByteArray, rdOf ByteArray.empty ([(⟨#[]⟩ : ByteArray), (⟨#[97]⟩ : ByteArray), (⟨#[98]⟩ : ByteArray), (⟨#[99]⟩ : ByteArray), (⟨#[100]⟩ : ByteArray)] : List ByteArray) (j : Int) = u ∧ (L u).length ≤ 1 ∧ ∀ c ∈ L u, 97 ≤ c.toNat ∧ c.toNat ≤ 100 := by
   intro j hj
   have : j = 0 ∨ j = 1 ∨ j = 2 ∨ j = 3 ∨ j = 4 := by omega
   rcases this with rfl | rfl | rfl | rfl | rfl <;> refine ⟨_, rfl, by decide, by decide⟩
  have sm2 : ∀ j : Nat, j < 6 → ∃ u : ByteArray, rdOf ByteArray.empty ([(⟨#[]⟩ : ByteArray), (⟨#[97]⟩ : ByteArray), (⟨#[98]⟩ : ByteArray), (⟨#[99]⟩ : ByteArray), (⟨#[100]⟩ : ByteArray), (⟨#[100, 97]⟩ : ByteArray)] : List ByteArray) (j : Int) = u ∧ (L u).length ≤ 2 ∧ ∀ c ∈ L u, 97 ≤ c.toNat ∧ c.toNat ≤ 100 := by
   intro j hj
   have : j = 0 ∨ j = 1 ∨ j = 2 ∨ j = 3 ∨ j = 4 ∨ j = 5 := by omega
   rcases this with rfl | rfl | rfl | rfl | rfl | rfl <;> refine ⟨_, rfl, by decide, by decide⟩
  obtain ⟨u, hu, lu, au⟩ := sm (i % 5) (by omega)
  obtain ⟨v, hv, lv, av⟩ := sm2 (i / 5) (by omega)
  have su := size_L u
  have sv := size_L v
  have hd : (L (⟨#[100]⟩ : ByteArray)) = [100] := rfl
  have hL : L (((⟨#[100]⟩ : ByteArray) ++ u) ++ v) = [100] ++ L u ++ L v := by rw [L_append, L_append, hd]
  have hk : KOk (L (((⟨#[100]⟩ : ByteArray) ++ u) ++ v)) := by
   rw [hL]
   refine ⟨by simp; omega, fun c hc => ?_⟩
   simp only [List.mem_append, List.mem_singleton] at hc
   rcases hc with (rfl | hc) | hc
   ·decide
   ·exact au c hc
   ·exact av c hc
  obtain ⟨r, hr, he⟩ := l2Put_ev x3 (((⟨#[100]⟩ : ByteArray) ++ u) ++ v) (by omega)
  have hl : r.length ≤ x3.length + 1 := by
   have := putB_length (k := L (((⟨#[100]⟩ : ByteArray) ++ u) ++ v)) (K := LL x3)
   rw [← he, LL_length, LL_length] at this; exact this
  obtain ⟨s, hs, ks, ls⟩ := ih r (i + 1) (by omega) (by omega) (by rw [he]; exact sok_put h3 hk) (by omega)
  refine ⟨s, ev_succ ?_, ks, ls⟩
  have hsz : ((⟨#[100]⟩ : ByteArray) ++ u).size = 1 + u.size := ByteArray.size_append
  simp only [spec_l71Mess.l0]
  rw [e1, e2]
  refine ev_pos (by omega) (ev_bindc rfl (ev_pos (by omega) (ev_pos (by simp only [List.length_cons, List.length_nil]; omega) ?_)))
  rw [hu]
  refine ev_pos (by omega) (ev_bindc rfl (ev_pos (by omega) (ev_pos (by simp only [List.length_cons, List.length_nil]; omega) ?_)))
  rw [hv]
  refine ev_pos (by rw [hsz]; omega) (Ev.bind hr ?_)
  rw [w64 (by omega) (by omega)]
  exact hs
theorem sok_short {l : List ByteArray} (h : SOk (LL l)) : ∀ x ∈ l, (L x).length ≤ 10 := fun x hx => by
 have := (h.ok _ (LL_mem hx)).len; omega
theorem mess_ev {b : List Int} (hb : By b) (p : Int) (h0 : 0 ≤ p) (h1 : p ≤ 50000) :
  ∃ s q, Ev (fun k => spec_l71Mess.f k b p) (s, q) ∧ (∀ x ∈ s, (L x).length ≤ 10) ∧ s.length ≤ 40 ∧ p ≤ q ∧ q ≤ p + 2000 := by
 obtain ⟨l, q, hl, kl, nl, q0, q1⟩ := keys_ev hb p h0 (by omega) 8 (by omega)
 obtain ⟨m, hm, m0, m1, _⟩ := pick_ev hb q (by omega) (by omega) 5 (by omega)
 have sh := sok_short kl
 have start : ∀ r, Ev (fun k => (if m = 0 then (if l.length < 8796093022208 then (some ((l ++ [(⟨#[97]⟩ : ByteArray)]), q + 1)) else (none)) else (if m = 1 then ((some (([(⟨#[120]⟩ : ByteArray), (⟨#[101]⟩ : ByteArray)] : List ByteArray) : List ByteArray)).bind fun y585 => (if l.length + y585.length < 8796093022208 then (some ((l ++ y585), q + 1)) else (none))) else (if m = 2 then ((spec_l6Rd_pick.f k b (q + 1) 2).bind fun bt591 => ((spec_l6Many.f k (⟨#[100]⟩ : ByteArray) (wrap64 (5 + bt591.1))).bind fun t593 => (if l.length < 8796093022208 then (some ((l ++ [t593]), bt591.2)) else (none)))) else (if m = 3 then (spec_l71Mess.l0 k l 0 b (q + 1)) else (some (l, q + 1))))))) r → Ev (fun k => spec_l71Mess.f k b p) r := by
  intro r h
  unfold spec_l71Mess.f
  exact Ev.bind hl (Ev.bind hm h)
 by_cases c0 : m = 0
 ·refine ⟨l ++ [(⟨#[97]⟩ : ByteArray)], q + 1, start _ (ev_pos c0 (ev_pos (by omega) (ev_some rfl))), fun x hx => ?_, by simp; omega, by omega, by omega⟩
  rcases List.mem_append.1 hx with h | h
  ·exact sh x h
  ·simp at h; subst h; decide
 ·by_cases c1 : m = 1
  ·refine ⟨l ++ [(⟨#[120]⟩ : ByteArray), (⟨#[101]⟩ : ByteArray)], q + 1, start _ (ev_neg c0 (ev_pos c1 (ev_bindc rfl (ev_pos (by simp; omega) (ev_some rfl))))), fun x hx => ?_, by simp; omega, by omega, by omega⟩
   rcases List.mem_append.1 hx with h | h
   ·exact sh x h
   ·simp at h; rcases h with rfl | rfl <;> decide
  ·by_cases c2 : m = 2
   ·obtain ⟨z, hz, z0, z1, _⟩ := pick_ev hb (q + 1) (by omega) (by omega) 2 (by omega)
    have z1 := z1 (by omega)
    obtain ⟨n, hn⟩ : ∃ n : Nat, 5 + z = (n : Int) := ⟨(5 + z).toNat, by omega⟩
    have h21 : (⟨#[100]⟩ : ByteArray).size = 1 := rfl
    have h20 : (⟨#[]⟩ : ByteArray).size = 0 := rfl
    obtain ⟨s, hs, hsz⟩ := many_ev 10 (by omega) n (⟨#[100]⟩ : ByteArray) (⟨#[]⟩ : ByteArray) (by omega) (by rw [h21]; omega) (by rw [h21, h20]; omega)
    refine ⟨l ++ [s], q + 1 + 1, start _ (ev_neg c0 (ev_neg c1 (ev_pos c2 (Ev.bind hz ?_)))), fun x hx => ?_, by simp; omega, by omega, by omega⟩
    ·simp only []
     rw [w64 (i := 5 + z) (by omega) (by omega), hn]
     exact Ev.bind hs (ev_pos (by omega) (ev_some rfl))
    ·rcases List.mem_append.1 hx with h | h
     ·exact sh x h
     ·simp at h; subst h; rw [← size_L]; exact hsz
   ·by_cases c3 : m = 3
    ·obtain ⟨s, hs, ks, ls⟩ := mess_l0_ev b (q + 1) 30 l 0 (by omega) (by omega) kl (by omega)
     exact ⟨s, q + 1, start _ (ev_neg c0 (ev_neg c1 (ev_neg c2 (ev_pos c3 hs)))), sok_short ks, ls, by omega, by omega⟩
    ·exact ⟨l, q + 1, start _ (ev_neg c0 (ev_neg c1 (ev_neg c2 (ev_neg c3 (ev_some rfl))))), sh, by omega, by omega, by omega⟩
theorem szl_of {s : List ByteArray} (h : ∀ x ∈ s, (L x).length ≤ 10) (hl : s.length ≤ 1000) : SzL s := ⟨by omega, fun x hx => by have := h x hx; rw [size_L]; omega⟩
section
variable {K : List Key} {X : List Nd} {keep : Nat} {Lt Mo Fi : ByteArray} {Rs : List ByteArray}
noncomputable def atK (K : List Key) (keep : Nat) (q : Key) (k : Key) : Bool := atb (Trie.part K keep k) q
theorem atK_eq (q : Key) (k : Key) : atK K keep q k = (!decide (Trie.hd K keep k < q) || (!cpl K keep k && (Trie.hd K keep k).isPrefixOf q)) := rfl
theorem L_ht (k : Key) : L (ht K keep k) = Trie.hd K keep k := L_mkS _
noncomputable def seekV (K : List Key) (keep : Nat) (q : Key) : ByteArray × Bool := match K.find? (atK K keep q) with | some k => (ht K keep k, true) | none => ((⟨#[]⟩ : ByteArray), false)
theorem seek_l0 (l : List Key) (hn : l.length ≤ 1000) (q : ByteArray) (d : Nat) : ∀ i : Nat, i ≤ l.length → l.length - i = d →
  Ev (fun k => impl_SieveSeek.l0 k q (l.map (pt K keep)) (l.length : Int) (i : Int)) (match (l.drop i).find? (atK K keep (L q)) with | some k => (ht K keep k, true) | none => ((⟨#[]⟩ : ByteArray), false)) := by
 have hl1 : (l.map (pt K keep)).length = l.length := List.length_map _
 induction d with
 | zero =>
  intro i h1 h2
  refine ev_succ ?_
  simp only [impl_SieveSeek.l0]
  refine ev_neg (by omega) (ev_some ?_)
  rw [List.drop_eq_nil_of_le (by omega)]; rfl
 | succ d ih =>
  intro i h1 h2
  have hlt : i < l.length := by omega
  refine ev_succ ?_
  simp only [impl_SieveSeek.l0]
  have e1 : rd_T93 (l.map (pt K keep)) (i : Int) = pt K keep (l.getD i []) := by
   show (l.map (pt K keep)).getD i z93 = _
   rw [getD_lt _ (by rw [hl1]; exact hlt), getD_lt _ hlt, List.getElem_map]
  have e2 : (pt K keep (l.getD i [])).f0 = ht K keep (l.getD i []) := rfl
  have e3 : (pt K keep (l.getD i [])).f1 = cpl K keep (l.getD i []) := rfl
  rw [e1, e2, e3, drop_cons [] hlt, List.find?_cons, atK_eq]
  have ih := ih (i + 1) (by omega) (by omega)
  have hw : ∀ _ : Unit, wrap64 ((i : Int) + 1) = ((i + 1 : Nat) : Int) := fun _ => by rw [w64 (by omega) (by omega)]; omega
  have hless := less_iff (ht K keep (l.getD i [])) q
  rw [L_ht] at hless
  refine ev_pos (by omega) (ev_pos (by omega) (ev_pos (by rw [hl1]; omega) ?_))
  by_cases c : Trie.hd K keep (l.getD i []) < L q
  ·rw [decide_eq_true c]
   refine ev_pos (hless.2 c) ?_
   by_cases c2 : cpl K keep (l.getD i []) = true
   ·refine ev_pos c2 ?_
    rw [hw (), c2]
    exact ev_eq ih (by simp)
   ·have c2' : cpl K keep (l.getD i []) = false := by simpa using c2
    refine ev_neg c2 (ev_bindc (impl_KeyBegins_eq _ _) ?_)
    rw [L_ht, c2']
    by_cases c3 : (Trie.hd K keep (l.getD i [])).isPrefixOf (L q) = true
    ·refine ev_pos c3 (ev_some ?_)
     rw [c3]
     simp
    ·refine ev_neg c3 ?_
     have c3' : (Trie.hd K keep (l.getD i [])).isPrefixOf (L q) = false := Bool.eq_false_iff.2 c3
     rw [hw (), c3']
     exact ev_eq ih (by simp)
  ·rw [decide_eq_false c]
   refine ev_neg (fun z => c (hless.1 z)) (ev_some ?_)
   simp
end
section
variable {Lt Mo Fi : ByteArray} {Rs : List ByteArray} {a : Int}
noncomputable def hasV (K : List Key) (keep : Nat) (q : Key) : Bool := kokB q && mayL K keep K q
noncomputable def seekW (K : List Key) (keep : Nat) (q : Key) : ByteArray × Bool := if kokB q = true then seekV K keep q else ((⟨#[]⟩ : ByteArray), false)
noncomputable def meetsW (K : List Key) (keep : Nat) (x y : Key) : Bool := kokB x && kokB y && !decide (y < x) && (match K.find? (atK K keep x) with | some k => !decide (y < Trie.hd K keep k) | none => false)
theorem impl_has_yes {K : List Key} {keep : Nat} (h : Is K keep Lt Mo Fi Rs) (hh : Ev (fun k => impl_Sieve_heads.f k Lt Mo Fi Rs (keep : Int)) (K.map (pt K keep), true)) (q : ByteArray) (hq : q.size ≤ 140737488355328) : Ev (fun k => impl_SieveHas.f k Lt Mo Fi Rs (keep : Int) q) (hasV K keep (L q)) := by
 unfold impl_SieveHas.f hasV
 refine Ev.bind (impl_SieveOk_of hh) (ev_pos rfl (Ev.bind (impl_KeyOk_ev q hq) ?_))
 by_cases c : kokB (L q) = true
 ·rw [c]
  exact ev_pos rfl (Ev.bind (has_ev h.enc q (kokB_iff.1 c)) (ev_some (by simp)))
 ·have c' : kokB (L q) = false := by simpa using c
  rw [c']
  exact ev_neg (by simp) (ev_some rfl)
theorem impl_seek_yes {K : List Key} {keep : Nat} (h : Is K keep Lt Mo Fi Rs) (hh : Ev (fun k => impl_Sieve_heads.f k Lt Mo Fi Rs (keep : Int)) (K.map (pt K keep), true)) (q : ByteArray) (hq : q.size ≤ 140737488355328) : Ev (fun k => impl_SieveSeek.f k Lt Mo Fi Rs (keep : Int) q) (seekW K keep (L q)) := by
 unfold impl_SieveSeek.f seekW
 refine Ev.bind hh (ev_pos rfl (Ev.bind (impl_KeyOk_ev q hq) (ev_succ ?_)))
 simp only [impl_SieveSeek.j0]
 have hl : (K.map (pt K keep)).length = K.length := List.length_map _
 by_cases c : kokB (L q) = true
 ·rw [if_pos c, c]
  refine ev_neg (by simp) ?_
  rw [hl]
  have := seek_l0 (K := K) (keep := keep) K (by have := h.ok.few; omega) q K.length 0 (Nat.zero_le _) rfl
  rw [List.drop_zero] at this
  exact this
 ·have c' : kokB (L q) = false := by simpa using c
  rw [if_neg c, c']
  exact ev_pos (by simp) (ev_some rfl)
theorem impl_meets_yes {K : List Key} {keep : Nat} (h : Is K keep Lt Mo Fi Rs) (hh : Ev (fun k => impl_Sieve_heads.f k Lt Mo Fi Rs (keep : Int)) (K.map (pt K keep), true)) (x y : ByteArray) (hx : x.size ≤ 140737488355328) (hy : y.size ≤ 140737488355328) : Ev (fun k => impl_SieveMeets.f k Lt Mo Fi Rs (keep : Int) x y) (meetsW K keep (L x) (L y)) := by
 unfold impl_SieveMeets.f meetsW
 refine Ev.bind (impl_KeyOk_ev x hx) ?_
 by_cases c1 : kokB (L x) = true
 ·rw [c1]
  refine ev_pos rfl (Ev.bind (impl_KeyOk_ev y hy) ?_)
  by_cases c2 : kokB (L y) = true
  ·rw [c2]
   refine ev_pos rfl ?_
   have hless := less_iff y x
   by_cases c3 : L y < L x
   ·exact ev_eq (ev_pos (hless.2 c3) (ev_some rfl)) (by simp [c3])
   ·refine ev_neg (fun z => c3 (hless.1 z)) (Ev.bind (impl_seek_yes h hh x hx) ?_)
    unfold seekW
    rw [if_pos c1, decide_eq_false c3]
    unfold seekV
    cases hf : K.find? (atK K keep (L x)) with
    | none => exact ev_neg (by simp) (ev_some (by simp))
    | some k =>
     refine ev_pos rfl (ev_some ?_)
     simp only [Bool.not_false, Bool.and_true, Bool.true_and]
     have h2 := less_iff y (ht K keep k)
     rw [L_ht] at h2
     congr 1
     rw [Bool.eq_iff_iff, decide_eq_true_eq]
     exact h2
  ·have c2' : kokB (L y) = false := by simpa using c2
   rw [c2']
   exact ev_neg (by simp) (ev_some (by simp))
 ·have c1' : kokB (L x) = false := by simpa using c1
  rw [c1']
  exact ev_neg (by simp) (ev_some (by simp))
end
theorem is_sz {K : List Key} {keep : Nat} {Lt Mo Fi : ByteArray} {Rs : List ByteArray} (h : Is K keep Lt Mo Fi Rs) : SvSz Lt Mo Fi Rs := by
 have F := h.enc.fm
 have hf := F.few
 have s1 := size_L Lt
 have s2 := size_L Mo
 have s3 := size_L Fi
 have h1 := F.ln
 have h2 := F.mn
 have h3 := F.fn
 exact ⟨by omega, by omega, by omega, by have := F.rs; omega, F.sz⟩
theorem heads_of {K : List Key} {keep : Nat} {Lt Mo Fi : ByteArray} {Rs : List ByteArray} (h : Is K keep Lt Mo Fi Rs) : Ev (fun k => impl_Sieve_heads.f k Lt Mo Fi Rs (keep : Int)) (K.map (pt K keep), true) := by
 rcases heads_ev (is_sz h) (keep : Int) with ⟨K', keep', e, hI, hh⟩ | ⟨hn, _⟩
 ·have e2 : keep' = keep := by omega
  subst e2
  have h1 := parts_enc h.enc
  have h2 := parts_enc hI.enc
  have := ev_unique h1 h2
  rw [this]; exact hh
 ·exact absurd h (hn K keep rfl)
theorem sieveV_cases (K : List Key) (a : Int) : ((sieveV K a).2.2.2.2.2 = false ∧ ¬ (KsOk K ∧ keepOk a)) ∨ ∃ (keep : Nat) (Lt Mo Fi : ByteArray) (Rs : List ByteArray), a = (keep : Int) ∧ sieveV K a = (Lt, Mo, Fi, Rs, (keep : Int), true) ∧ Is K keep Lt Mo Fi Rs := by
 by_cases c : keysB K = true ∧ keepOk a
 ·right
  have h1 : sieveV K a = encT (lvls K) a := by unfold sieveV; rw [if_pos c]
  have e : a = (a.toNat : Int) := by have := c.2.1; omega
  have hI : sieveV K a = ((sieveV K a).1, (sieveV K a).2.1, (sieveV K a).2.2.1, (sieveV K a).2.2.2.1, (a.toNat : Int), true) := by
   rw [h1]
   unfold encT
   rw [← e]
  obtain ⟨h2, _, _⟩ := is_of hI
  exact ⟨a.toNat, _, _, _, _, e, hI, h2⟩
 ·left
  unfold sieveV
  rw [if_neg c]
  exact ⟨rfl, fun h => c ⟨keysB_iff.2 h.1, h.2⟩⟩
theorem DrawSieveOf_ev (l0 : List Int) (hl : l0.length ≤ maxLen) (hw : ∀ x ∈ l0, (Lit.int .u8 x).wf = true) :
  ∃ s a, Ev (fun k => spec_DrawSieveOf.f k l0) (s, a) ∧ SzL s ∧ s.length ≤ 1000 := by
 obtain ⟨b, ho, hb⟩ := open_ev l0 hl hw
 obtain ⟨s, q, hs, ks, ns, q0, q1⟩ := keys_ev hb 0 (by omega) (by omega) 12 (by omega)
 obtain ⟨m, hm, m0, m1, _⟩ := pick_ev hb q (by omega) (by omega) 12 (by omega)
 by_cases c : m = 0
 ·obtain ⟨s', q', hs', ks', ns', a0, a1⟩ := mess_ev hb (q + 1) (by omega) (by omega)
  obtain ⟨i, hi, i0, i1, _⟩ := pick_ev hb q' (by omega) (by omega) 8 (by omega)
  refine ⟨s', rd [0, 0, 1, 1, 2, 5, 6, (-1)] i, ?_, szl_of ks' (by omega), by omega⟩
  unfold spec_DrawSieveOf.f
  exact ev_bindc ho (Ev.bind hs (Ev.bind hm (ev_pos c (Ev.bind hs' (ev_bindc rfl (Ev.bind hi (ev_pos i0 (ev_pos (by have := i1 (by omega); simpa using this) (ev_some rfl)))))))))
 ·obtain ⟨i, hi, i0, i1, _⟩ := pick_ev hb (q + 1) (by omega) (by omega) 8 (by omega)
  refine ⟨s, rd [0, 0, 1, 1, 2, 5, 6, (-1)] i, ?_, szl_of (sok_short ks) (by omega), by omega⟩
  unfold spec_DrawSieveOf.f
  exact ev_bindc ho (Ev.bind hs (Ev.bind hm (ev_neg c (ev_bindc rfl (Ev.bind hi (ev_pos i0 (ev_pos (by have := i1 (by omega); simpa using this) (ev_some rfl))))))))
theorem DrawKeyBegins_ev (l0 : List Int) (h0 : l0.length ≤ maxLen) (h2 : ∀ x ∈ l0, (Lit.int .u8 x).wf = true) : ∃ x y, Ev (fun k => spec_DrawKeyBegins.f k l0) (x, y) ∧ KOk (L x) ∧ KOk (L y) := by
 obtain ⟨b, ho, hb⟩ := open_ev l0 h0 h2
 obtain ⟨x, q, hx, kx, q0, q1⟩ := key_ev hb 0 (by omega) (by omega)
 obtain ⟨y, q', hy, ky, _, _⟩ := near_ev hb q (by omega) (by omega) [x] (by simp) (by simpa using kx)
 refine ⟨x, y, ?_, kx, ky⟩
 unfold spec_DrawKeyBegins.f
 exact ev_bindc ho (Ev.bind hx (Ev.bind hy (ev_some rfl)))
theorem kok_size {x : ByteArray} (h : KOk (L x)) : x.size ≤ 140737488355328 := by
 have := h.len
 rw [size_L]; omega
theorem hasV_iff {K : List Key} {keep : Nat} {q : Key} : hasV K keep q = true ↔ KOk q ∧ ∃ k ∈ K, may (Trie.part K keep k) q = true := by
 unfold hasV mayL
 rw [Bool.and_eq_true, kokB_iff, List.any_eq_true]
theorem has_self {K : List Key} {keep : Nat} {q : Key} (hK : ∀ k ∈ K, KOk k) (hq : q ∈ K) : hasV K keep q = true :=
 hasV_iff.2 ⟨hK q hq, q, hq, part_may K keep q⟩
theorem find_parts (K : List Key) (keep : Nat) (q : Key) (l : List Key) : (l.map (Trie.part K keep)).find? (fun p => atb p q) = (l.find? (atK K keep q)).map (Trie.part K keep) := by
 rw [List.find?_map]; rfl
theorem meetsW_iff {K : List Key} (h : KsOk K) {keep : Nat} {x y : Key} : meetsW K keep x y = true ↔ KOk x ∧ KOk y ∧ ¬ y < x ∧ meetsB (K.map (Trie.part K keep)) x y := by
 have hm := meets_find (parts_sorted h.ok h.sorted keep) x y
 rw [find_parts] at hm
 unfold meetsW
 rw [Bool.and_eq_true, Bool.and_eq_true, Bool.and_eq_true, kokB_iff, kokB_iff, ← hm]
 simp only [Bool.not_eq_true', decide_eq_false_iff_not, Option.map_eq_some_iff]
 constructor
 ·rintro ⟨⟨⟨a, b⟩, c⟩, d⟩
  refine ⟨a, b, c, ?_⟩
  cases hf : K.find? (atK K keep x) with
  | none => rw [hf] at d; cases d
  | some k =>
   rw [hf] at d
   simp only [Bool.not_eq_true', decide_eq_false_iff_not] at d
   exact ⟨_, ⟨k, rfl, rfl⟩, d⟩
 ·rintro ⟨a, b, c, z, ⟨k, hk, rfl⟩, d⟩
  refine ⟨⟨⟨a, b⟩, c⟩, ?_⟩
  rw [hk]
  simp only [Bool.not_eq_true', decide_eq_false_iff_not]
  exact d
theorem meets_of_has {K : List Key} (h : KsOk K) {keep : Nat} {x y q : Key} (hq : hasV K keep q = true) (hx : KOk x) (hy : KOk y) (h1 : ¬ q < x) (h2 : ¬ y < q) : meetsW K keep x y = true := by
 obtain ⟨_, k, hk, hm⟩ := hasV_iff.1 hq
 exact (meetsW_iff h).2 ⟨hx, hy, le_trans' h1 h2, meets_of_may ⟨_, List.mem_map.2 ⟨k, hk, rfl⟩, hm⟩ h1 h2⟩
theorem hd_whole {K : List Key} (hK : ∀ k ∈ K, KOk k) {k : Key} (hk : k ∈ K) : Trie.hd K 5 k = k := congrArg Prod.fst (part_whole (K := K) (hK k hk))
theorem whole_heads {s : List ByteArray} (hK : ∀ k ∈ LL s, KOk k) : (LL s).map (ht (LL s) 5) = s := by
 apply LL_inj
 rw [LL_ht]
 conv => rhs; rw [← List.map_id (LL s)]
 exact List.map_congr_left fun k hk => hd_whole hK hk
theorem whole_has {K : List Key} (hK : ∀ k ∈ K, KOk k) {q : Key} (hq : KOk q) : hasV K 5 q = decide (q ∈ K) := by
 rw [Bool.eq_iff_iff, hasV_iff, decide_eq_true_eq]
 constructor
 ·rintro ⟨_, k, hk, hm⟩
  rw [part_whole (hK k hk), may_iff] at hm
  rcases hm with ⟨_, e⟩ | ⟨e, _⟩
  ·rw [e]; exact hk
  ·cases e
 ·intro h
  exact ⟨hq, q, h, part_may K 5 q⟩
theorem size_yes {Lt Mo Fi : ByteArray} {Rs : List ByteArray} {a : Int} {l : List S93} (h : Ev (fun k => impl_Sieve_heads.f k Lt Mo Fi Rs a) (l, true)) : Ev (fun k => impl_SieveSize.f k Lt Mo Fi Rs a) (Lt.size : Int) := by
 unfold impl_SieveSize.f
 exact Ev.bind (impl_SieveOk_of h) (ev_pos rfl (ev_some rfl))
theorem sieveV_yes {K : List Key} (h : KsOk K) (keep : Nat) (hk : keep ≤ 5) : ∃ (Lt Mo Fi : ByteArray) (Rs : List ByteArray), sieveV K (keep : Int) = (Lt, Mo, Fi, Rs, (keep : Int), true) ∧ Is K keep Lt Mo Fi Rs := by
 rcases sieveV_cases K (keep : Int) with ⟨_, hn⟩ | ⟨keep', Lt, Mo, Fi, Rs, e, h1, hI⟩
 ·exact absurd ⟨h, by unfold keepOk; omega⟩ hn
 ·have : keep' = keep := by omega
  subst this
  exact ⟨Lt, Mo, Fi, Rs, h1, hI⟩
theorem Is.one {K : List Key} {keep keep' : Nat} {Lt Mo Fi Lt' Mo' Fi' : ByteArray} {Rs Rs' : List ByteArray} (h : Is K keep Lt Mo Fi Rs) (h' : Is K keep' Lt' Mo' Fi' Rs') : Lt = Lt' := by
 apply L_inj
 rw [h.enc.l, h'.enc.l]
end Go.Proofs.Ytifgcajpkgamgaa.Pb
end
