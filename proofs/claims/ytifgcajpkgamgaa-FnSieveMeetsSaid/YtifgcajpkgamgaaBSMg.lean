/- What the laws of the set SM need: the kit's printed words, the printed functions with their proofs, and plain facts on them. -/
import Derived.Test.YtifgcajpkgamgaaBSMf
section
set_option linter.unusedVariables false
set_option linter.unusedSimpArgs false
namespace Go.Proofs.Ytifgcajpkgamgaa.Pb
open Go Go.RowKit Go.Proofs.YtifgcajpkgamgaaW.PrintWords Go.Proofs.YtifgcajpkgamgaaW.PrintLast Go.Proofs.YtifgcajpkgamgaaW.PrintMore Go.Proofs.Ytifgcajpkgamgaa.Trie Go.Proofs.Ytifgcajpkgamgaa.Q
structure Enc (K : List Key) (X : List Nd) (keep : Nat) (Lt Mo Fi : ByteArray) (Rs : List ByteArray) : Prop where
 lv : Lvl K X
 few : K.length ≤ 24
 fewb : (brs X).length ≤ 400
 kp : keep ≤ 5
 l : L Lt = encL X
 m : L Mo = encM X
 f : L Fi = encF X
 r : LL Rs = encR keep X
theorem fst1_bits (n : Nat) : (fst1 n).all bitc = true := by
 cases n with
 | zero => rfl
 | succ n =>
  show (49 :: List.replicate n 48).all bitc = true
  rw [List.all_cons, List.all_replicate]
  simp [bitc]
section
variable {K : List Key} {X : List Nd} {keep : Nat} {Lt Mo Fi : ByteArray} {Rs : List ByteArray}
theorem encR_short (keep : Nat) (X : List Nd) (hX : ∀ x ∈ X, NOk x) : ∀ s ∈ encR keep X, s.length ≤ 5 := by
 intro s hs
 unfold encR at hs
 obtain ⟨b, hb, rfl⟩ := List.mem_map.1 hs
 obtain ⟨x, hx, h1, h2⟩ := mem_brs.1 (List.mem_filter.1 hb).1
 have hk := (hX x hx).ok _ ((runs_sub h1).subset (headD_mem (runs_ne_nil _ _ h1)))
 unfold rest
 rw [List.length_take, List.length_drop]
 have := hk.len
 omega
theorem Enc.fm (h : Enc K X keep Lt Mo Fi Rs) : Fm Lt Mo Fi Rs (brs X).length where
 ln := by rw [h.l, encL_length]
 mn := by rw [h.m, encM_length]
 fn := by rw [h.f, encF_length]
 few := h.fewb
 mb := by
  rw [h.m]; unfold encM
  rw [List.all_map, List.all_eq_true]
  intro b _
  simp only [Function.comp]
  unfold bit
  split <;> rfl
 fb := by
  rw [h.f]; unfold encF
  rw [List.all_flatMap, List.all_eq_true]
  intro x _
  exact fst1_bits _
 rs := by
  rw [← LL_length, h.r, h.m]
  rw [zeros_enc X (Nat.le_refl _), List.take_length]
  unfold encR
  rw [List.length_map, List.countP_eq_length_filter]
 sz := by
  intro s hs
  have h1 : L s ∈ LL Rs := List.mem_map_of_mem hs
  rw [h.r] at h1
  have := encR_short keep X (fun x hx => (h.lv.nodes x hx).2) _ h1
  rw [size_L]; omega
theorem Enc.pos (h : Enc K X keep Lt Mo Fi Rs) (h0 : K ≠ []) {m : Nat} (hm : m ≤ X.length) : Trie.pos (L Fi) m = off X m := by
 rw [h.f]; exact pos_encF X (h.lv.full h0) m hm
theorem off_le (X : List Nd) (m : Nat) : off X m ≤ (brs X).length := by
 have h1 : off X m ≤ off X (max m X.length) := off_mono X (Nat.le_max_left _ _)
 have h2 : off X (max m X.length) = (brs X).length := by
  unfold off
  rw [List.take_of_length_le (Nat.le_max_right _ _)]
 omega
theorem Enc.br (h : Enc K X keep Lt Mo Fi Rs) (h0 : K ≠ []) {m : Nat} (hm : m < X.length) : brI (L Fi) m = (((off X m : Nat) : Int), ((off X (m + 1) : Nat) : Int)) ∧ off X m < (brs X).length := by
 have h1 := off_succ hm
 have h2 := h.lv.full h0 X[m] (List.getElem_mem hm)
 have h3 := off_le X (m + 1)
 refine ⟨?_, by omega⟩
 unfold brI
 rw [h.pos h0 (by omega), h.pos h0 (by omega), if_pos (by have := h.fm.fn; omega)]
noncomputable def pt (K : List Key) (keep : Nat) (k : Key) : S93 := ⟨mkS (Trie.hd K keep k), cpl K keep k⟩
theorem LL_at {l : List ByteArray} {i : Nat} {s : Key} (h : (LL l)[i]? = some s) : L (l.getD i ByteArray.empty) = s := by
 rw [LL_getD, List.getD_eq_getElem?_getD, h]; rfl
def EncP (K : List Key) (X : List Nd) (keep : Nat) (Lt Mo Fi : ByteArray) (Rs : List ByteArray) (t : Nat) : Prop :=
 ∀ (m : Nat) (hm : m < X.length) (way : ByteArray) (out : List S93), X.length - m ≤ t → (∀ k ∈ X[m].1, L way = k.take X[m].2) → out.length + X[m].1.length ≤ 1000000 →
  Ev (fun k => impl_Sieve_parts.f k Lt Mo Fi Rs (keep : Int) (m : Int) way out) (out ++ X[m].1.map (pt K keep), true)
theorem enc_l0 (h : Enc K X keep Lt Mo Fi Rs) (h0 : K ≠ []) (t : Nat) (hP : EncP K X keep Lt Mo Fi Rs t) {m : Nat} (hm : m < X.length) (ht : X.length - m ≤ t + 1) (way : ByteArray) (hway : ∀ k ∈ X[m].1, L way = k.take X[m].2) (d : Nat) :
  ∀ (j : Nat) (out : List S93), j ≤ (runs X[m].2 X[m].1).length → (runs X[m].2 X[m].1).length - j = d → out.length + (((runs X[m].2 X[m].1).drop j).flatten).length ≤ 1000000 →
   Ev (fun k => impl_Sieve_parts.l0 k way out ((off X (m + 1) : Nat) : Int) ((off X m + j : Nat) : Int) Lt Mo Fi Rs (keep : Int)) (out ++ (((runs X[m].2 X[m].1).drop j).flatten).map (pt K keep), true) := by
 have F := h.fm
 have hfew := F.few
 have hoff := off_succ hm
 have hle := off_le X (m + 1)
 have s1 := size_L Lt
 have s2 := size_L Mo
 have l1 := F.ln
 have l2 := F.mn
 have hd5 := (h.lv.nodes X[m] (List.getElem_mem hm)).2.deep
 induction d with
 | zero =>
  intro j out g1 g2 g3
  refine ev_succ ?_
  simp only [impl_Sieve_parts.l0]
  refine ev_neg (by omega) (ev_some ?_)
  rw [List.drop_eq_nil_of_le (by omega)]; simp
 | succ d ih =>
  intro j out g1 g2 g3
  have hj : j < (runs X[m].2 X[m].1).length := by omega
  have hi : off X m + j < (brs X).length := by omega
  have hdrop : (runs X[m].2 X[m].1).drop j = (runs X[m].2 X[m].1)[j] :: (runs X[m].2 X[m].1).drop (j + 1) := List.drop_eq_getElem_cons hj
  rw [hdrop, List.flatten_cons, List.length_append] at g3
  rw [hdrop, List.flatten_cons, List.map_append]
  have hw64 : ∀ _ : Unit, wrap64 (((off X m + j : Nat) : Int) + 1) = ((off X m + (j + 1) : Nat) : Int) := fun _ => by rw [w64 (by omega) (by omega)]; omega
  have hw64' : ∀ _ : Unit, wrap64 (((off X m + j : Nat) : Int) + 1) = ((off X m + j : Nat) : Int) + 1 := fun _ => w64 (by omega) (by omega)
  have hbL : bt Lt ((off X m + j : Nat) : Int) = 45 ↔ (L Lt).getD (off X m + j) 0 = 45 := bt_is (n := 45) (by omega)
  have hbM : bt Mo ((off X m + j : Nat) : Int) = 48 ↔ (L Mo).getD (off X m + j) 0 = 48 := bt_is (n := 48) (by omega)
  have lets : ∀ r, (∀ way' : ByteArray, (L way' = L way ++ (if (L Lt).getD (off X m + j) 0 = 45 then [] else [(L Lt).getD (off X m + j) 0])) → way'.size ≤ 1000 → Ev (fun k => impl_Sieve_parts.j1 k way out ((off X (m + 1) : Nat) : Int) ((off X m + j : Nat) : Int) way' Lt Mo Fi Rs (keep : Int)) r) → way.size ≤ 100 →
    Ev (fun k => impl_Sieve_parts.l0 k way out ((off X (m + 1) : Nat) : Int) ((off X m + j : Nat) : Int) Lt Mo Fi Rs (keep : Int)) r := by
   intro r hr hws
   refine ev_succ ?_
   simp only [impl_Sieve_parts.l0]
   refine ev_pos (by omega) (ev_pos (by omega) (ev_pos (by omega) ?_))
   by_cases c : (L Lt).getD (off X m + j) 0 = 45
   ·refine ev_pos (hbL.2 c) (hr way ?_ (by omega))
    rw [if_pos c, List.append_nil]
   ·have hz := cut_one_size Lt (show off X m + j < (L Lt).length by omega)
    have hcut := cut_one Lt (show off X m + j < (L Lt).length by omega)
    rw [hw64' ()]
    refine ev_neg (fun q => c (hbL.1 q)) (ev_pos (by omega) (ev_pos (by omega) (ev_pos (by omega) (hr _ ?_ (by rw [ByteArray.size_append]; omega)))))
    rw [if_neg c, L_append, hcut]
  by_cases hc : cont (runs X[m].2 X[m].1)[j] = true
  ·obtain ⟨hlt, hX, hmc, hgt, hM, hk⟩ := branch_node h.lv hm hj hc
   have hne := runs_ne_nil _ _ (List.getElem_mem hj)
   obtain ⟨k0, hk0⟩ : ∃ k0, k0 ∈ (runs X[m].2 X[m].1)[j] := ⟨_, headD_mem hne⟩
   have hk0x := (runs_sub (List.getElem_mem hj)).subset hk0
   have hwl : way.size ≤ 5 := by
    rw [size_L, hway k0 hk0x, List.length_take]; omega
   have hbr := branches_ev (keep := (keep : Int)) F (onesB (L Mo) (off X m + j + 1)) (by have := onesB_le (L Mo) (off X m + j + 1); omega)
   have hno := node_eq (keep := (keep : Int)) F (off X m + j) hi
   have hbx := (h.br h0 hlt).1
   rw [← h.m] at hM
   rw [h.m] at hno hbr
   rw [hbx] at hbr
   refine lets _ (fun way' e hz => ev_succ ?_) (by omega)
   simp only [impl_Sieve_parts.j1]
   refine ev_pos (by omega) (ev_pos (by omega) (ev_neg (fun q => ?_) (ev_bindc hno (Ev.bind hbr (ev_neg (by simp only; omega) (ev_pos (by omega) (ev_succ ?_)))))))
   ·rw [hbM.1 q] at hM; exact absurd hM (by decide)
   ·simp only [impl_Sieve_parts.j2]
    refine ev_neg (fun q => ?_) (ev_bindc hno ?_)
    ·have q2 := hbL.1 (by simpa using q)
     rw [h.l] at q2
     rw [(hk k0 hk0).1] at q2
     exact (hk k0 hk0).2.1 q2
    ·have hch : ∀ k ∈ (X[onesB (encM X) (off X m + j + 1)]).1, L way' = k.take (X[onesB (encM X) (off X m + j + 1)]).2 := by
      intro k hkk
      rw [hX] at hkk ⊢
      simp only at hkk ⊢
      have hkx := (runs_sub (List.getElem_mem hj)).subset hkk
      obtain ⟨q1, q2, q3⟩ := hk k hkk
      rw [e, h.l, q1, if_neg q2, hway k hkx, lab_lt q3, ← List.take_succ_eq_append_getElem q3]
     have hrec := hP (onesB (encM X) (off X m + j + 1)) hlt way' out (by omega) hch (by rw [hX]; simp only; omega)
     rw [hX] at hrec
     simp only at hrec
     refine Ev.bind hrec (ev_pos rfl ?_)
     rw [hw64 ()]
     refine ev_eq (ih (j + 1) (out ++ (runs X[m].2 X[m].1)[j].map (pt K keep)) (by omega) (by omega) (by rw [List.length_append, List.length_map]; omega)) ?_
     rw [List.append_assoc]
  ·have hc' : cont (runs X[m].2 X[m].1)[j] = false := by simpa using hc
   obtain ⟨k, hg, hkx, hdep, hL, hM, hR⟩ := branch_leaf h.lv hm hj hc'
   obtain ⟨hkK, hko, _, hkl⟩ := h.lv.key hm hkx
   have hwl : way.size ≤ 5 := by
    rw [size_L, hway k hkx, List.length_take]; omega
   have hR := LL_at (l := Rs) (by rw [h.r]; exact hR keep)
   rw [← h.m] at hR hM
   rw [← h.l] at hL
   have hr := (rest_eq (keep := (keep : Int)) F (off X m + j) hi hM).1
   have hcm := complete_eq (keep := (keep : Int)) F (off X m + j) hi hM
   generalize Rs.getD (off X m + j - onesB (L Mo) (off X m + j)) ByteArray.empty = rv at hR hr hcm
   have hcv : decide ((L Lt).getD (off X m + j) 0 = 45 ∨ ((L rv).length : Int) < (keep : Int)) = cpl K keep k := by
    have h1 := leaf_all hko hdep hkl keep
    rw [hL, hR]
    rw [Bool.eq_iff_iff, decide_eq_true_eq, ← h1]
    constructor
    ·rintro (q | q)
     ·exact .inl q
     ·exact .inr (by omega)
    ·rintro (q | q)
     ·exact .inl q
     ·exact .inr (by omega)
   rw [hcv] at hcm
   have hrvs : rv.size ≤ 5 := by
    rw [size_L, hR, List.length_take, List.length_drop]; have := hko.len; omega
   refine lets _ (fun way' e hz => ev_succ ?_) (by omega)
   simp only [impl_Sieve_parts.j1]
   refine ev_pos (by omega) (ev_pos (by omega) (ev_pos (hbM.2 hM) ?_))
   simp only [hr, Option.bind_some]
   refine ev_pos (by omega) ?_
   simp only [hcm, Option.bind_some]
   rw [hg] at g3 ⊢
   refine ev_pos (by simp only [List.length_cons, List.length_nil] at g3; omega) ?_
   rw [hw64 ()]
   have hpt : (⟨way' ++ rv, cpl K keep k⟩ : S93) = pt K keep k := by
    unfold pt
    congr 1
    apply L_inj
    rw [L_mkS, L_append, e, hL, hR, hway k hkx]
    exact leaf_text hko hdep hkl keep
   rw [hpt]
   refine ev_eq (ih (j + 1) (out ++ [pt K keep k]) (by omega) (by omega) (by rw [List.length_append]; simp only [List.length_cons, List.length_nil] at g3 ⊢; omega)) ?_
   rw [List.append_assoc]; rfl
theorem enc_P (h : Enc K X keep Lt Mo Fi Rs) (h0 : K ≠ []) : ∀ t, EncP K X keep Lt Mo Fi Rs t := by
 intro t
 induction t with
 | zero => intro m hm way out g; omega
 | succ t ih =>
  intro m hm way out g1 g2 g3
  have hfl := runs_flatten X[m].2 X[m].1
  have hd5 := (h.lv.nodes X[m] (List.getElem_mem hm)).2.deep
  have hne : X[m].1 ≠ [] := by
   have := h.lv.full h0 X[m] (List.getElem_mem hm)
   intro q
   rw [q, runs_nil] at this
   simp at this
  obtain ⟨k0, hk0⟩ := List.exists_mem_of_ne_nil _ hne
  have hwl : way.size ≤ 5 := by
   rw [size_L, g2 k0 hk0, List.length_take]; omega
  have hmX : X.length ≤ 1000 := by
   have := size_eq h.lv.eq
   have := h.fewb
   simp only at *
   omega
  have hbr := branches_ev (keep := (keep : Int)) h.fm m (by omega)
  rw [(h.br h0 hm).1] at hbr
  have := enc_l0 h h0 t ih hm g1 way g2 _ 0 out (Nat.zero_le _) rfl (by rw [List.drop_zero, hfl]; exact g3)
  rw [List.drop_zero, hfl] at this
  refine ev_succ ?_
  simp only [impl_Sieve_parts.f]
  exact ev_neg (by omega) (Ev.bind hbr this)
theorem parts_enc (h : Enc K X keep Lt Mo Fi Rs) : Ev (fun k => impl_Sieve_parts.f k Lt Mo Fi Rs (keep : Int) 0 (⟨#[]⟩ : ByteArray) []) (K.map (pt K keep), true) := by
 by_cases h0 : K = []
 ·subst h0
  have hX := lvl_nil h.lv
  subst hX
  have hz : (brs [(([] : List Key), 0)]).length = 0 := by rw [brs_nil]; rfl
  have F := h.fm
  have hbr := branches_ev (keep := (keep : Int)) F 0 (by omega)
  unfold brI at hbr
  rw [if_neg (by have := F.fn; omega)] at hbr
  refine ev_succ ?_
  simp only [impl_Sieve_parts.f]
  refine ev_neg (by show ¬ ((0 : Nat) : Int) > 5; omega) (Ev.bind hbr (ev_succ ?_))
  simp only [impl_Sieve_parts.l0]
  exact ev_neg (by omega) (ev_some rfl)
 ·have hX0 := h.lv.pos_root
  obtain ⟨hlt, hX⟩ := List.getElem?_eq_some_iff.1 hX0
  have := enc_P h h0 X.length 0 hlt (⟨#[]⟩ : ByteArray) [] (by omega) (fun k _ => by rw [hX]; rfl) (by rw [hX]; have := h.few; simp only [List.length_nil]; omega)
  rw [hX] at this
  simpa using this
end
theorem sieveV_few (K : List Key) (a : Int) : (sieveV K a).2.2.2.1.length ≤ 2000000 := by
 unfold sieveV
 split
 ·rename_i h
  have hk := keysB_iff.1 h.1
  obtain ⟨h1, h2⟩ := lvls_is hk
  have hb := brs_few h1 hk.few h2
  unfold encT
  simp only [List.length_map]
  unfold encR
  rw [List.length_map]
  have := List.length_filter_le leaf (brs (lvls K))
  omega
 ·simp
theorem ltSieve_ev (t : SvT) (hf : t.2.2.2.1.length ≤ 2000000) : Ev (fun k => laws_ltSieve.f k t.1 t.2.1 t.2.2.1 t.2.2.2.1 t.2.2.2.2.1 t.1 t.2.1 t.2.2.1 t.2.2.2.1 t.2.2.2.2.1) true := by
 unfold laws_ltSieve.f
 exact ev_pos rfl (ev_pos rfl (ev_pos rfl (ev_pos rfl (Ev.bind (same_ev _ hf) (ev_some rfl)))))
theorem ev_unique {α : Type} {g : Nat → Option α} {a b : α} (ha : Ev g a) (hb : Ev g b) : a = b := by
 obtain ⟨K, h1⟩ := ha
 obtain ⟨K', h2⟩ := hb
 have e1 := h1 (K + K') (by omega)
 have e2 := h2 (K + K') (by omega)
 rw [e1] at e2
 injection e2
theorem bfs_unique {q X Y : List Nd} (h : Bfs q X) (g : Bfs q Y) : X = Y := by
 induction h generalizing Y with
 | nil => cases g; rfl
 | cons _ ih =>
  cases g with
  | cons g => rw [ih g]
theorem heads_ok {K : List Key} (h : KsOk K) (keep : Nat) : KsOk (K.map (Trie.hd K keep)) := by
 refine ⟨fun k hk => ?_, heads_sorted h.ok h.sorted keep, by rw [List.length_map]; exact h.few⟩
 obtain ⟨k', hk', rfl⟩ := List.mem_map.1 hk
 exact (h.ok k' hk').take _
theorem heads_enc {K : List Key} (h : KsOk K) (keep : Nat) : encT (lvls (K.map (Trie.hd K keep))) (keep : Int) = encT (lvls K) (keep : Int) := by
 obtain ⟨h1, _⟩ := lvls_is h
 obtain ⟨h2, _⟩ := lvls_is (heads_ok h keep)
 have hl : ∀ x, In K x ∧ NOk x → ∀ k ∈ x.1, lab (Trie.hd K keep k) x.2 = lab k x.2 := fun x hx => mem_lab h.ok keep hx.1 hx.2
 have hb := bfs_map (f := Trie.hd K keep) (P := fun x => In K x ∧ NOk x) (fun x hx y hy => ⟨hx.1.conts hx.2 hy, (hx.2.conts hy).1⟩) hl h1.bfs (fun x hx => by
  rw [List.mem_singleton] at hx
  subst hx
  exact ⟨h1.rootIn, h1.root⟩)
 have e : lvls (K.map (Trie.hd K keep)) = (lvls K).map (mapN (Trie.hd K keep)) := bfs_unique h2.bfs hb
 rw [e]
 obtain ⟨e1, e2, e3, e4⟩ := enc_heads h.ok keep h1.nodes
 unfold encT
 have : ((keep : Int)).toNat = keep := by omega
 rw [this, e1, e2, e3, e4]
structure Is (K : List Key) (keep : Nat) (Lt Mo Fi : ByteArray) (Rs : List ByteArray) : Prop where
 ok : KsOk K
 kp : keep ≤ 5
 eq : encT (lvls K) (keep : Int) = (Lt, Mo, Fi, Rs, (keep : Int), true)
section
variable {K : List Key} {keep : Nat} {Lt Mo Fi : ByteArray} {Rs : List ByteArray}
theorem Is.enc (h : Is K keep Lt Mo Fi Rs) : Enc K (lvls K) keep Lt Mo Fi Rs := by
 obtain ⟨h1, h2⟩ := lvls_is h.ok
 have e := h.eq
 unfold encT at e
 have e0 : ((keep : Int)).toNat = keep := by omega
 rw [e0] at e
 simp only [Prod.mk.injEq] at e
 obtain ⟨e1, e2, e3, e4, _⟩ := e
 have hb := brs_few h1 h.ok.few h2
 have hs := size_eq h1.eq
 simp only at hs
 have hf := h.ok.few
 refine ⟨h1, h.ok.few, by omega, h.kp, by rw [← e1, L_mkS], by rw [← e2, L_mkS], by rw [← e3, L_mkS], ?_⟩
 rw [← e4]
 exact LL_mkS _
theorem Is.heads (h : Is K keep Lt Mo Fi Rs) : sieveV (K.map (Trie.hd K keep)) (keep : Int) = (Lt, Mo, Fi, Rs, (keep : Int), true) := by
 unfold sieveV
 rw [if_pos ⟨keysB_iff.2 (heads_ok h.ok keep), by constructor <;> have := h.kp <;> omega⟩, heads_enc h.ok keep]
 exact h.eq
theorem is_of {l : List Key} {a : Int} {Lt Mo Fi : ByteArray} {Rs : List ByteArray} {a' : Int} (h : sieveV l a = (Lt, Mo, Fi, Rs, a', true)) : Is l a.toNat Lt Mo Fi Rs ∧ a = (a.toNat : Int) ∧ a' = a := by
 unfold sieveV at h
 by_cases c : keysB l = true ∧ keepOk a
 ·rw [if_pos c] at h
  have e : a = (a.toNat : Int) := by have := c.2.1; omega
  have e2 : a' = a := by
   have h2 := h
   unfold encT at h2
   simp only [Prod.mk.injEq] at h2
   exact h2.2.2.2.2.1.symm
  rw [e2, e] at h
  exact ⟨⟨keysB_iff.1 c.1, by have := c.2.2; omega, h⟩, e, e2⟩
 ·rw [if_neg c] at h
  simp at h
end
theorem bytes_eq {a b : ByteArray} : a.toList = b.toList ↔ a = b := ⟨fun h => L_inj (L_eq_iff.1 h), fun h => by rw [h]⟩
theorem equal_l0 (a b : List ByteArray) (hn : a.length ≤ 2000000) (hl : a.length = b.length) (d : Nat) : ∀ i : Nat, i ≤ a.length → a.length - i = d →
  Ev (fun k => slices_Equal_string_string.l0 k a b (a.length : Int) (i : Int)) (decide (a.drop i = b.drop i)) := by
 induction d with
 | zero =>
  intro i h1 h2
  refine ev_succ ?_
  simp only [slices_Equal_string_string.l0]
  refine ev_neg (by omega) (ev_some ?_)
  rw [List.drop_eq_nil_of_le (by omega), List.drop_eq_nil_of_le (by omega)]; simp
 | succ d ih =>
  intro i h1 h2
  have hlt : i < a.length := by omega
  refine ev_succ ?_
  simp only [slices_Equal_string_string.l0]
  refine ev_pos (by omega) (ev_pos (by omega) (ev_pos (by omega) (ev_pos (by omega) ?_)))
  have e1 : rdOf ByteArray.empty a (i : Int) = a.getD i ByteArray.empty := rfl
  have e2 : rdOf ByteArray.empty b (i : Int) = b.getD i ByteArray.empty := rfl
  rw [e1, e2, drop_cons ByteArray.empty hlt, drop_cons ByteArray.empty (show i < b.length by omega)]
  by_cases c : a.getD i ByteArray.empty = b.getD i ByteArray.empty
  ·refine ev_pos (bytes_eq.2 c) ?_
   rw [w64 (by omega) (by omega)]
   refine ev_eq (ih (i + 1) (by omega) (by omega)) ?_
   rw [Bool.eq_iff_iff, decide_eq_true_eq, decide_eq_true_eq, List.cons.injEq]
   exact ⟨fun h => ⟨c, h⟩, fun h => h.2⟩
  ·refine ev_neg (fun q => c (bytes_eq.1 q)) (ev_some ?_)
   rw [eq_comm, decide_eq_false_iff_not, List.cons.injEq]
   exact fun h => c h.1
theorem equal_ev (a b : List ByteArray) (hn : a.length ≤ 2000000) : Ev (fun k => slices_Equal_string_string.f k a b) (decide (a = b)) := by
 unfold slices_Equal_string_string.f
 by_cases c : a.length = b.length
 ·refine ev_pos (by omega) (ev_eq (equal_l0 a b hn c a.length 0 (by omega) (by omega)) ?_)
  rw [List.drop_zero, List.drop_zero]
 ·refine ev_neg (by omega) (ev_some ?_)
  rw [eq_comm, decide_eq_false_iff_not]
  exact fun h => c (by rw [h])
theorem same_sv_ev (t s : SvT) (hn : t.2.2.2.1.length ≤ 2000000) (ht : t.2.2.2.2.2 = s.2.2.2.2.2) : Ev (fun k => impl_Sieve_same.f k t.1 t.2.1 t.2.2.1 t.2.2.2.1 t.2.2.2.2.1 s.1 s.2.1 s.2.2.1 s.2.2.2.1 s.2.2.2.2.1) (decide (t = s)) := by
 obtain ⟨t1, t2, t3, t4, t5, t6⟩ := t
 obtain ⟨s1, s2, s3, s4, s5, s6⟩ := s
 simp only at ht hn ⊢
 subst ht
 unfold impl_Sieve_same.f
 have no : ∀ {b : Bool}, ¬ ((t1, t2, t3, t4, t5, t6) : SvT) = (s1, s2, s3, s4, s5, t6) → false = decide (((t1, t2, t3, t4, t5, t6) : SvT) = (s1, s2, s3, s4, s5, t6)) := fun h => by
  rw [eq_comm, decide_eq_false_iff_not]; exact h
 by_cases c1 : t1 = s1
 ·refine ev_pos (bytes_eq.2 c1) ?_
  by_cases c2 : t2 = s2
  ·refine ev_pos (bytes_eq.2 c2) ?_
   by_cases c3 : t3 = s3
   ·refine ev_pos (bytes_eq.2 c3) ?_
    by_cases c5 : t5 = s5
    ·refine ev_pos c5 (Ev.bind (equal_ev t4 s4 hn) (ev_some ?_))
     rw [Bool.eq_iff_iff, decide_eq_true_eq, decide_eq_true_eq, c1, c2, c3, c5]
     simp
    ·exact ev_neg c5 (ev_some (no (b := true) (fun h => c5 (by simp only [Prod.mk.injEq] at h; exact h.2.2.2.2.1))))
   ·exact ev_neg (fun q => c3 (bytes_eq.1 q)) (ev_some (no (b := true) (fun h => c3 (by simp only [Prod.mk.injEq] at h; exact h.2.2.1))))
  ·exact ev_neg (fun q => c2 (bytes_eq.1 q)) (ev_some (no (b := true) (fun h => c2 (by simp only [Prod.mk.injEq] at h; exact h.2.1))))
 ·exact ev_neg (fun q => c1 (bytes_eq.1 q)) (ev_some (no (b := true) (fun h => c1 (by simp only [Prod.mk.injEq] at h; exact h.1))))
theorem texts_l0 (l : List S93) (hn : l.length ≤ 2000000) (d : Nat) : ∀ (i : Nat) (x : List ByteArray), i ≤ l.length → l.length - i = d → x.length ≤ i →
  Ev (fun k => impl_texts.l0 k x l (l.length : Int) (i : Int)) (x ++ (l.drop i).map S93.f0) := by
 induction d with
 | zero =>
  intro i x h1 h2 h3
  refine ev_succ ?_
  simp only [impl_texts.l0]
  refine ev_neg (by omega) (ev_some ?_)
  rw [List.drop_eq_nil_of_le (by omega)]; simp
 | succ d ih =>
  intro i x h1 h2 h3
  have hlt : i < l.length := by omega
  refine ev_succ ?_
  simp only [impl_texts.l0]
  refine ev_pos (by omega) (ev_pos (by omega) (ev_pos (by omega) (ev_pos (by omega) ?_)))
  have e1 : rd_T93 l (i : Int) = l.getD i z93 := rfl
  rw [w64 (by omega) (by omega), e1]
  refine ev_eq (ih (i + 1) (x ++ [(l.getD i z93).f0]) (by omega) (by omega) (by rw [List.length_append]; simp only [List.length_cons, List.length_nil]; omega)) ?_
  rw [drop_cons z93 hlt, List.map_cons, List.append_assoc]; rfl
theorem texts_ev (l : List S93) (hn : l.length ≤ 2000000) : Ev (fun k => impl_texts.f k l) (l.map S93.f0) := by
 unfold impl_texts.f
 exact ev_eq (texts_l0 l hn l.length 0 [] (by omega) (by omega) (by simp)) (by simp)
structure SvSz (Lt Mo Fi : ByteArray) (Rs : List ByteArray) : Prop where
 a : Lt.size ≤ 1048576
 b : Mo.size ≤ 1048576
 c : Fi.size ≤ 1048576
 d : Rs.length ≤ 1048576
 e : ∀ s ∈ Rs, s.size ≤ 1048576
theorem heads_ev {Lt Mo Fi : ByteArray} {Rs : List ByteArray} (hz : SvSz Lt Mo Fi Rs) (a : Int) :
  (∃ K keep, a = ((keep : Nat) : Int) ∧ Is K keep Lt Mo Fi Rs ∧ Ev (fun k => impl_Sieve_heads.f k Lt Mo Fi Rs a) (K.map (pt K keep), true)) ∨
  ((∀ K keep, a = ((keep : Nat) : Int) → ¬ Is K keep Lt Mo Fi Rs) ∧ Ev (fun k => impl_Sieve_heads.f k Lt Mo Fi Rs a) ([], false)) := by
 have s1 := size_L Lt
 have s2 := size_L Mo
 have s3 := size_L Fi
 have z1 := hz.a
 have z2 := hz.b
 have z3 := hz.c
 have z4 := hz.d
 have hM := impl_BitsOk_ev Mo (by omega)
 have hF := impl_BitsOk_ev Fi (by omega)
 have hno : Ev (fun k => impl_Sieve_heads.j0 k true Lt Mo Fi Rs a) ([], false) := by
  refine ev_succ ?_
  simp only [impl_Sieve_heads.j0]
  exact ev_pos (by simp) (ev_some rfl)
 have isfm : ∀ K keep, a = ((keep : Nat) : Int) → Is K keep Lt Mo Fi Rs → Fm Lt Mo Fi Rs (L Lt).length ∧ keepOk a := by
  intro K keep ha h
  have h1 := h.enc.fm
  have h2 := h1.ln
  rw [h2]
  refine ⟨h1, ?_, ?_⟩ <;> have := h.kp <;> omega
 have bits : ∀ {s : ByteArray}, bitsB (L s) = true ↔ (L s).all bitc = true ∧ (L s).length ≤ 400 := fun {s} => by
  unfold bitsB; rw [Bool.and_eq_true, decide_eq_true_eq]
 by_cases c1 : bitsB (L Mo) = true
 ·by_cases c2 : bitsB (L Fi) = true
  ·by_cases c3 : (Mo.size : Int) = (Lt.size : Int)
   ·by_cases c4 : (Fi.size : Int) = (Lt.size : Int)
    ·by_cases c5 : keepOk a
     ·have hcnt := count_L (x := Mo) nought_L
      have hnt := noughts (L Mo) (bits.1 c1).1 (L Mo).length (Nat.le_refl _)
      rw [List.take_length] at hnt
      rw [hnt] at hcnt
      have hgo : ∀ r, Ev (fun k => impl_Sieve_heads.j0 k ((Rs.length : Int) != (((L Mo).length - onesB (L Mo) (L Mo).length : Nat) : Int)) Lt Mo Fi Rs a) r → Ev (fun k => impl_Sieve_heads.f k Lt Mo Fi Rs a) r := by
       intro r hr
       unfold impl_Sieve_heads.f
       exact Ev.bind hM (ev_pos c1 (Ev.bind hF (ev_pos c2 (ev_pos c3 (ev_pos c4 (ev_bindc (isKeep_eq a) (ev_pos (decide_eq_true c5) (ev_bindc hcnt hr))))))))
      by_cases c6 : (Rs.length : Int) = (((L Mo).length - onesB (L Mo) (L Mo).length : Nat) : Int)
      ·have hfm : Fm Lt Mo Fi Rs (L Lt).length := by
        have e1 : (L Mo).length = (L Lt).length := by omega
        refine ⟨rfl, e1, by omega, by have := (bits.1 c1).2; omega, (bits.1 c1).1, (bits.1 c2).1, ?_, hz.e⟩
        rw [e1] at c6; omega
       obtain ⟨keep, ha⟩ : ∃ n : Nat, a = (n : Int) := ⟨a.toNat, by have := c5.1; omega⟩
       have hb6 : ((Rs.length : Int) != (((L Mo).length - onesB (L Mo) (L Mo).length : Nat) : Int)) = false := bne_eq_false_iff_eq.2 c6
       rw [hb6] at hgo
       obtain ⟨r, hr, hrb⟩ := parts_any (keep := a) hfm
       obtain ⟨rl, rb⟩ := r
       cases rb with
       | false =>
        right
        refine ⟨fun K kp hk h => ?_, hgo _ (ev_succ ?_)⟩
        ·have h1 := parts_enc h.enc
         rw [← hk] at h1
         have := ev_unique hr h1
         simp at this
        ·simp only [impl_Sieve_heads.j0]
         exact ev_neg (by simp) (Ev.bind hr (ev_neg (by simp) (ev_some rfl)))
       | true =>
        obtain ⟨b1, b2⟩ := hrb rfl
        simp only at b1 b2
        have htx := texts_ev rl (by omega)
        have hsz : SzL (rl.map S93.f0) := by
         refine ⟨by rw [List.length_map]; omega, fun x hx => ?_⟩
         obtain ⟨s, hs, rfl⟩ := List.mem_map.1 hx
         have := b2 s hs
         omega
        have hof := impl_SieveOf_ev (rl.map S93.f0) hsz a
        have hfew := sieveV_few (LL (rl.map S93.f0)) a
        by_cases c7 : (sieveV (LL (rl.map S93.f0)) a).2.2.2.2.2 = true
        ·have hsm := same_sv_ev (sieveV (LL (rl.map S93.f0)) a) (Lt, Mo, Fi, Rs, a, true) hfew c7
         by_cases c8 : sieveV (LL (rl.map S93.f0)) a = (Lt, Mo, Fi, Rs, a, true)
         ·left
          obtain ⟨hI, e1, _⟩ := is_of c8
          have h1 := parts_enc hI.enc
          rw [← e1] at h1
          have e2 := ev_unique hr h1
          simp only [Prod.mk.injEq, and_true] at e2
          refine ⟨_, a.toNat, e1, hI, ?_⟩
          rw [← e2]
          refine hgo _ (ev_succ ?_)
          simp only [impl_Sieve_heads.j0]
          exact ev_neg (by simp) (Ev.bind hr (ev_pos rfl (Ev.bind htx (Ev.bind hof (ev_pos c7 (Ev.bind hsm (ev_pos (by rw [decide_eq_true_eq]; exact c8) (ev_some rfl))))))))
         ·right
          refine ⟨fun K kp hk h => ?_, hgo _ (ev_succ ?_)⟩
          ·have h1 := parts_enc h.enc
           rw [← hk] at h1
           have e2 := ev_unique hr h1
           simp only [Prod.mk.injEq, and_true] at e2
           refine c8 ?_
           have h3 := h.heads
           rw [← hk] at h3
           rw [← h3, e2]
           congr 1
           unfold LL pt
           rw [List.map_map, List.map_map]
           apply List.map_congr_left
           intro x _
           exact L_mkS _
          ·simp only [impl_Sieve_heads.j0]
           exact ev_neg (by simp) (Ev.bind hr (ev_pos rfl (Ev.bind htx (Ev.bind hof (ev_pos c7 (Ev.bind hsm (ev_neg (by rw [decide_eq_true_eq]; exact c8) (ev_some rfl))))))))
        ·right
         refine ⟨fun K kp hk h => ?_, hgo _ (ev_succ ?_)⟩
         ·have h1 := parts_enc h.enc
          rw [← hk] at h1
          have e2 := ev_unique hr h1
          simp only [Prod.mk.injEq, and_true] at e2
          refine c7 ?_
          have h3 := h.heads
          rw [← hk] at h3
          have h4 : LL (rl.map S93.f0) = K.map (Trie.hd K kp) := by
           rw [e2]
           unfold LL pt
           rw [List.map_map, List.map_map]
           apply List.map_congr_left
           intro x _
           exact L_mkS _
          rw [h4, h3]
         ·simp only [impl_Sieve_heads.j0]
          exact ev_neg (by simp) (Ev.bind hr (ev_pos rfl (Ev.bind htx (Ev.bind hof (ev_neg c7 (ev_some rfl))))))
      ·right
       have hb6 : ((Rs.length : Int) != (((L Mo).length - onesB (L Mo) (L Mo).length : Nat) : Int)) = true := bne_iff_ne.2 c6
       rw [hb6] at hgo
       refine ⟨fun K kp hk h => c6 ?_, hgo _ hno⟩
       have h1 := (isfm K kp hk h).1
       have e1 := h1.mn
       have := h1.rs
       rw [← e1] at this
       omega
     ·right
      refine ⟨fun K kp hk h => c5 (isfm K kp hk h).2, ?_⟩
      unfold impl_Sieve_heads.f
      exact Ev.bind hM (ev_pos c1 (Ev.bind hF (ev_pos c2 (ev_pos c3 (ev_pos c4 (ev_bindc (isKeep_eq a) (ev_neg (by rw [decide_eq_true_eq]; exact c5) hno)))))))
    ·right
     refine ⟨fun K kp hk h => c4 ?_, ?_⟩
     ·have := (isfm K kp hk h).1.fn; omega
     ·unfold impl_Sieve_heads.f
      exact Ev.bind hM (ev_pos c1 (Ev.bind hF (ev_pos c2 (ev_pos c3 (ev_neg c4 hno)))))
   ·right
    refine ⟨fun K kp hk h => c3 ?_, ?_⟩
    ·have := (isfm K kp hk h).1.mn; omega
    ·unfold impl_Sieve_heads.f
     exact Ev.bind hM (ev_pos c1 (Ev.bind hF (ev_pos c2 (ev_neg c3 hno))))
  ·right
   refine ⟨fun K kp hk h => c2 (bits.2 ?_), ?_⟩
   ·have h1 := (isfm K kp hk h).1
    exact ⟨h1.fb, by have := h1.fn; have := h1.few; omega⟩
   ·unfold impl_Sieve_heads.f
    exact Ev.bind hM (ev_pos c1 (Ev.bind hF (ev_neg c2 hno)))
 ·right
  refine ⟨fun K kp hk h => c1 (bits.2 ?_), ?_⟩
  ·have h1 := (isfm K kp hk h).1
   exact ⟨h1.mb, by have := h1.mn; have := h1.few; omega⟩
  ·unfold impl_Sieve_heads.f
   exact Ev.bind hM (ev_neg c1 hno)
section
variable {Lt Mo Fi : ByteArray} {Rs : List ByteArray} {keep : Int} {n : Nat}
theorem kids_ev (h : Fm Lt Mo Fi Rs n) (i : Nat) (hi : i < n) : Ev (fun k => spec_l3Kids.f k Lt Mo Fi Rs keep (i : Int)) (((pos (L Fi) (onesB (L Mo) (i + 1)) : Nat) : Int), ((pos (L Fi) (onesB (L Mo) (i + 1) + 1) : Nat) : Int)) := by
 unfold spec_l3Kids.f
 have hf := h.fn
 have hm := h.mn
 have s1 := size_L Mo
 have s2 := size_L Fi
 have hfew := h.few
 have hone := onesB_le (L Mo) (i + 1)
 rw [w64 (by omega) (by omega)]
 have e1 : ((i : Int) + 1).toNat = i + 1 := by omega
 have h1 := spec_l1Ones_ev Mo (by omega) ((i : Int) + 1) (by omega)
 rw [e1] at h1
 refine Ev.bind h1 (Ev.bind (spec_l1One_ev Fi (by omega) _ (by omega)) ?_)
 rw [w64 (by omega) (by omega)]
 have e2 : ((onesB (L Mo) (i + 1) : Nat) : Int) + 1 = ((onesB (L Mo) (i + 1) + 1 : Nat) : Int) := by omega
 rw [e2]
 exact Ev.bind (spec_l1One_ev Fi (by omega) _ (by omega)) (ev_some rfl)
end
section
variable {K : List Key} {X : List Nd} {keep : Nat} {Lt Mo Fi : ByteArray} {Rs : List ByteArray}
noncomputable def ht (K : List Key) (keep : Nat) (k : Key) : ByteArray := mkS (Trie.hd K keep k)
def EncA (K : List Key) (X : List Nd) (keep : Nat) (Lt Mo Fi : ByteArray) (Rs : List ByteArray) (t : Nat) : Prop :=
 ∀ (m : Nat) (hm : m < X.length) (way : ByteArray) (out : List ByteArray), X.length - m ≤ t → (∀ k ∈ X[m].1, L way = k.take X[m].2) → out.length + X[m].1.length ≤ 1000000 →
  Ev (fun k => spec_l3Add.f k Lt Mo Fi Rs (keep : Int) ((off X m : Nat) : Int) ((off X (m + 1) : Nat) : Int) way out) (out ++ X[m].1.map (ht K keep))
theorem enca_l0 (h : Enc K X keep Lt Mo Fi Rs) (h0 : K ≠ []) (t : Nat) (hP : EncA K X keep Lt Mo Fi Rs t) {m : Nat} (hm : m < X.length) (ht' : X.length - m ≤ t + 1) (way : ByteArray) (hway : ∀ k ∈ X[m].1, L way = k.take X[m].2) (d : Nat) :
  ∀ (j : Nat) (out : List ByteArray), j ≤ (runs X[m].2 X[m].1).length → (runs X[m].2 X[m].1).length - j = d → out.length + (((runs X[m].2 X[m].1).drop j).flatten).length ≤ 1000000 →
   Ev (fun k => spec_l3Add.l0 k ((off X (m + 1) : Nat) : Int) way out ((off X m + j : Nat) : Int) Lt Mo Fi Rs (keep : Int)) (out ++ (((runs X[m].2 X[m].1).drop j).flatten).map (ht K keep)) := by
 have F := h.fm
 have hfew := F.few
 have hoff := off_succ hm
 have hle := off_le X (m + 1)
 have s1 := size_L Lt
 have s2 := size_L Mo
 have l1 := F.ln
 have l2 := F.mn
 have hd5 := (h.lv.nodes X[m] (List.getElem_mem hm)).2.deep
 induction d with
 | zero =>
  intro j out g1 g2 g3
  refine ev_succ ?_
  simp only [spec_l3Add.l0]
  refine ev_neg (by omega) (ev_succ ?_)
  simp only [spec_l3Add.j1]
  refine ev_neg (by simp) (ev_some ?_)
  rw [List.drop_eq_nil_of_le (by omega)]; simp
 | succ d ih =>
  intro j out g1 g2 g3
  have hj : j < (runs X[m].2 X[m].1).length := by omega
  have hi : off X m + j < (brs X).length := by omega
  have hdrop : (runs X[m].2 X[m].1).drop j = (runs X[m].2 X[m].1)[j] :: (runs X[m].2 X[m].1).drop (j + 1) := List.drop_eq_getElem_cons hj
  rw [hdrop, List.flatten_cons, List.length_append] at g3
  rw [hdrop, List.flatten_cons, List.map_append]
  have hw64 : ∀ _ : Unit, wrap64 (((off X m + j : Nat) : Int) + 1) = ((off X m + (j + 1) : Nat) : Int) := fun _ => by rw [w64 (by omega) (by omega)]; omega
  have hw64' : ∀ _ : Unit, wrap64 (((off X m + j : Nat) : Int) + 1) = ((off X m + j : Nat) : Int) + 1 := fun _ => w64 (by omega) (by omega)
  have hbL : bt Lt ((off X m + j : Nat) : Int) = 45 ↔ (L Lt).getD (off X m + j) 0 = 45 := bt_is (n := 45) (by omega)
  have hbM : bt Mo ((off X m + j : Nat) : Int) = 49 ↔ (L Mo).getD (off X m + j) 0 = 49 := bt_is (n := 49) (by omega)
  have hne := runs_ne_nil _ _ (List.getElem_mem hj)
  obtain ⟨k0, hk0⟩ : ∃ k0, k0 ∈ (runs X[m].2 X[m].1)[j] := ⟨_, headD_mem hne⟩
  have hk0x := (runs_sub (List.getElem_mem hj)).subset hk0
  have hwl : way.size ≤ 5 := by
   rw [size_L, hway k0 hk0x, List.length_take]; omega
  have lets : ∀ r, (∀ way' : ByteArray, (L way' = L way ++ (if (L Lt).getD (off X m + j) 0 = 45 then [] else [(L Lt).getD (off X m + j) 0])) → way'.size ≤ 1000 → Ev (fun k => spec_l3Add.j2 k ((off X (m + 1) : Nat) : Int) way out ((off X m + j : Nat) : Int) way' Lt Mo Fi Rs (keep : Int)) r) →
    Ev (fun k => spec_l3Add.l0 k ((off X (m + 1) : Nat) : Int) way out ((off X m + j : Nat) : Int) Lt Mo Fi Rs (keep : Int)) r := by
   intro r hr
   refine ev_succ ?_
   simp only [spec_l3Add.l0]
   refine ev_pos (by omega) (ev_pos (by omega) (ev_succ ?_))
   simp only [spec_l3Add.j1]
   refine ev_pos (by rw [decide_eq_true_eq]; omega) (ev_pos (by omega) (ev_pos (by omega) ?_))
   by_cases c : (L Lt).getD (off X m + j) 0 = 45
   ·refine ev_pos (hbL.2 c) (hr way ?_ (by omega))
    rw [if_pos c, List.append_nil]
   ·have hz := cut_one_size Lt (show off X m + j < (L Lt).length by omega)
    have hcut := cut_one Lt (show off X m + j < (L Lt).length by omega)
    rw [hw64' ()]
    refine ev_neg (fun q => c (hbL.1 q)) (ev_pos (by omega) (ev_pos (by omega) (ev_pos (by omega) (hr _ ?_ (by rw [ByteArray.size_append]; omega)))))
    rw [if_neg c, L_append, hcut]
  by_cases hc : cont (runs X[m].2 X[m].1)[j] = true
  ·obtain ⟨hlt, hX, hmc, hgt, hM, hk⟩ := branch_node h.lv hm hj hc
   have hkd := kids_ev (keep := (keep : Int)) F (off X m + j) hi
   rw [h.m, h.pos h0 (by omega), h.pos h0 (by omega)] at hkd
   rw [← h.m] at hM
   refine lets _ (fun way' e hz => ev_succ ?_)
   simp only [spec_l3Add.j2]
   refine ev_pos (by omega) (ev_pos (by omega) (ev_pos (hbM.2 hM) (Ev.bind hkd (ev_neg (by simp only; omega) ?_))))
   have hch : ∀ k ∈ (X[onesB (encM X) (off X m + j + 1)]).1, L way' = k.take (X[onesB (encM X) (off X m + j + 1)]).2 := by
    intro k hkk
    rw [hX] at hkk ⊢
    simp only at hkk ⊢
    have hkx := (runs_sub (List.getElem_mem hj)).subset hkk
    obtain ⟨q1, q2, q3⟩ := hk k hkk
    rw [e, h.l, q1, if_neg q2, hway k hkx, lab_lt q3, ← List.take_succ_eq_append_getElem q3]
   have hrec := hP (onesB (encM X) (off X m + j + 1)) hlt way' out (by omega) hch (by rw [hX]; simp only; omega)
   rw [hX] at hrec
   simp only at hrec
   refine Ev.bind hrec ?_
   rw [hw64 ()]
   refine ev_eq (ih (j + 1) (out ++ (runs X[m].2 X[m].1)[j].map (ht K keep)) (by omega) (by omega) (by rw [List.length_append, List.length_map]; omega)) ?_
   rw [List.append_assoc]
  ·have hc' : cont (runs X[m].2 X[m].1)[j] = false := by simpa using hc
   obtain ⟨k, hg, hkx, hdep, hL, hM, hR⟩ := branch_leaf h.lv hm hj hc'
   obtain ⟨hkK, hko, _, hkl⟩ := h.lv.key hm hkx
   have hR := LL_at (l := Rs) (by rw [h.r]; exact hR keep)
   rw [← h.m] at hR hM
   rw [← h.l] at hL
   obtain ⟨_, hr2⟩ := rest_eq (keep := (keep : Int)) F (off X m + j) hi hM
   have hone := onesB_self (L Mo) (off X m + j)
   have ho := spec_l1Ones_ev Mo (by omega) ((off X m + j : Nat) : Int) (by omega)
   have e0 : (((off X m + j : Nat) : Int)).toNat = off X m + j := by omega
   rw [e0] at ho
   have hsub : ∀ _ : Unit, wrap64 (((off X m + j : Nat) : Int) - ((onesB (L Mo) (off X m + j) : Nat) : Int)) = ((off X m + j - onesB (L Mo) (off X m + j) : Nat) : Int) := fun _ => by rw [w64 (by omega) (by omega)]; omega
   have hgr : rdOf ByteArray.empty Rs ((off X m + j - onesB (L Mo) (off X m + j) : Nat) : Int) = Rs.getD (off X m + j - onesB (L Mo) (off X m + j)) ByteArray.empty := rfl
   generalize hq : off X m + j - onesB (L Mo) (off X m + j) = qi at hR hr2 hsub hgr
   have hrvs : (Rs.getD qi ByteArray.empty).size ≤ 5 := by
    rw [size_L, hR, List.length_take, List.length_drop]; have := hko.len; omega
   refine lets _ (fun way' e hz => ev_succ ?_)
   simp only [spec_l3Add.j2]
   refine ev_pos (by omega) (ev_pos (by omega) (ev_neg (fun q => ?_) (Ev.bind ho ?_)))
   ·rw [hbM.1 q] at hM; exact absurd hM (by decide)
   ·rw [hsub (), hgr]
    rw [hg] at g3 ⊢
    refine ev_pos (by omega) (ev_pos (by omega) (ev_pos (by omega) (ev_pos (by simp only [List.length_cons, List.length_nil] at g3; omega) ?_)))
    rw [hw64 ()]
    have hpt : way' ++ Rs.getD qi ByteArray.empty = ht K keep k := by
     unfold ht
     apply L_inj
     rw [L_mkS, L_append, e, hL, hR, hway k hkx]
     exact leaf_text hko hdep hkl keep
    rw [hpt]
    refine ev_eq (ih (j + 1) (out ++ [ht K keep k]) (by omega) (by omega) (by rw [List.length_append]; simp only [List.length_cons, List.length_nil] at g3 ⊢; omega)) ?_
    rw [List.append_assoc]; rfl
theorem enca_P (h : Enc K X keep Lt Mo Fi Rs) (h0 : K ≠ []) : ∀ t, EncA K X keep Lt Mo Fi Rs t := by
 intro t
 induction t with
 | zero => intro m hm way out g; omega
 | succ t ih =>
  intro m hm way out g1 g2 g3
  have hfl := runs_flatten X[m].2 X[m].1
  have := enca_l0 h h0 t ih hm g1 way g2 _ 0 out (Nat.zero_le _) rfl (by rw [List.drop_zero, hfl]; exact g3)
  rw [List.drop_zero, hfl] at this
  refine ev_succ ?_
  simp only [spec_l3Add.f]
  exact this
theorem heads3_enc (h : Enc K X keep Lt Mo Fi Rs) : Ev (fun k => spec_l3Heads.f k Lt Mo Fi Rs (keep : Int)) (K.map (ht K keep)) := by
 unfold spec_l3Heads.f
 have F := h.fm
 have s2 := size_L Fi
 have hf := F.fn
 have hfew := F.few
 have h1 := spec_l1One_ev Fi (by omega) 1 (by omega)
 by_cases h0 : K = []
 ·subst h0
  have hX := lvl_nil h.lv
  subst hX
  have hz : (brs [(([] : List Key), 0)]).length = 0 := by rw [brs_nil]; rfl
  have hp := pos_le (L Fi) 1
  have e1 : ((pos (L Fi) 1 : Nat) : Int) = 0 := by omega
  rw [e1] at h1
  refine Ev.bind h1 (Ev.bind (a := []) (ev_succ ?_) (ev_some rfl))
  simp only [spec_l3Add.f]
  refine ev_succ ?_
  simp only [spec_l3Add.l0]
  refine ev_neg (by omega) (ev_succ ?_)
  simp only [spec_l3Add.j1]
  exact ev_neg (by simp) (ev_some rfl)
 ·have hX0 := h.lv.pos_root
  obtain ⟨hlt, hX⟩ := List.getElem?_eq_some_iff.1 hX0
  have := enca_P h h0 X.length 0 hlt (⟨#[]⟩ : ByteArray) [] (by omega) (fun k _ => by rw [hX]; rfl) (by rw [hX]; have := h.few; simp only [List.length_nil]; omega)
  rw [hX, off_zero] at this
  have e1 : pos (L Fi) 1 = off X (0 + 1) := h.pos h0 (by omega)
  rw [e1] at h1
  refine Ev.bind h1 (Ev.bind (by simpa using this) (ev_some rfl))
end
theorem sames_l0 (a b : List ByteArray) (hn : a.length ≤ 2000000) (hl : a.length = b.length) (d : Nat) : ∀ i : Nat, i ≤ a.length → a.length - i = d →
  Ev (fun k => spec_l3Sames.l0 k a b (i : Int)) (decide (a.drop i = b.drop i)) := by
 induction d with
 | zero =>
  intro i h1 h2
  refine ev_succ ?_
  simp only [spec_l3Sames.l0]
  refine ev_neg (by omega) (ev_some ?_)
  rw [List.drop_eq_nil_of_le (by omega), List.drop_eq_nil_of_le (by omega)]; simp
 | succ d ih =>
  intro i h1 h2
  have hlt : i < a.length := by omega
  refine ev_succ ?_
  simp only [spec_l3Sames.l0]
  refine ev_pos (by omega) (ev_pos (by omega) (ev_pos (by omega) ?_))
  have e1 : rdOf ByteArray.empty a (i : Int) = a.getD i ByteArray.empty := rfl
  have e2 : rdOf ByteArray.empty b (i : Int) = b.getD i ByteArray.empty := rfl
  rw [e1, e2, drop_cons ByteArray.empty hlt, drop_cons ByteArray.empty (show i < b.length by omega)]
  by_cases c : a.getD i ByteArray.empty = b.getD i ByteArray.empty
  ·refine ev_pos (bytes_eq.2 c) ?_
   rw [w64 (by omega) (by omega)]
   refine ev_eq (ih (i + 1) (by omega) (by omega)) ?_
   rw [Bool.eq_iff_iff, decide_eq_true_eq, decide_eq_true_eq, List.cons.injEq]
   exact ⟨fun h => ⟨c, h⟩, fun h => h.2⟩
  ·refine ev_neg (fun q => c (bytes_eq.1 q)) (ev_some ?_)
   rw [eq_comm, decide_eq_false_iff_not, List.cons.injEq]
   exact fun h => c h.1
theorem sames_ev (a b : List ByteArray) (hn : a.length ≤ 2000000) : Ev (fun k => spec_l3Sames.f k a b) (decide (a = b)) := by
 unfold spec_l3Sames.f
 by_cases c : a.length = b.length
 ·refine ev_pos (by omega) (ev_eq (sames_l0 a b hn c a.length 0 (by omega) (by omega)) ?_)
  rw [List.drop_zero, List.drop_zero]
 ·refine ev_neg (by omega) (ev_some ?_)
  rw [eq_comm, decide_eq_false_iff_not]
  exact fun h => c (by rw [h])
theorem form_ev {Lt Mo Fi : ByteArray} {Rs : List ByteArray} (hz : SvSz Lt Mo Fi Rs) (a : Int) :
  (Fm Lt Mo Fi Rs (L Lt).length ∧ keepOk a ∧ Ev (fun k => spec_l3Form.f k Lt Mo Fi Rs a) true) ∨ (¬ (Fm Lt Mo Fi Rs (L Lt).length ∧ keepOk a) ∧ Ev (fun k => spec_l3Form.f k Lt Mo Fi Rs a) false) := by
 have s1 := size_L Lt
 have s2 := size_L Mo
 have s3 := size_L Fi
 have z1 := hz.a
 have z2 := hz.b
 have z3 := hz.c
 have z4 := hz.d
 have hM := spec_BitsOk_ev Mo (by omega)
 have hF := spec_BitsOk_ev Fi (by omega)
 have bits : ∀ {s : ByteArray}, bitsB (L s) = true ↔ (L s).all bitc = true ∧ (L s).length ≤ 400 := fun {s} => by
  unfold bitsB; rw [Bool.and_eq_true, decide_eq_true_eq]
 unfold spec_l3Form.f
 by_cases c1 : bitsB (L Mo) = true
 ·by_cases c2 : bitsB (L Fi) = true
  ·by_cases c3 : (Mo.size : Int) = (Lt.size : Int)
   ·by_cases c4 : (Fi.size : Int) = (Lt.size : Int)
    ·have ho := spec_l1Ones_ev Mo (by omega) (Lt.size : Int) (by omega)
     have e0 : ((Lt.size : Int)).toNat = (L Lt).length := by omega
     rw [e0] at ho
     have hone := onesB_le (L Mo) (L Lt).length
     have e1 : (L Mo).length = (L Lt).length := by omega
     have hw : ∀ _ : Unit, wrap64 ((Lt.size : Int) - ((onesB (L Mo) (L Lt).length : Nat) : Int)) = (((L Lt).length - onesB (L Mo) (L Lt).length : Nat) : Int) := fun _ => by rw [w64 (by omega) (by omega)]; omega
     by_cases c5 : Rs.length = (L Lt).length - onesB (L Mo) (L Lt).length
     ·have hfm : Fm Lt Mo Fi Rs (L Lt).length := ⟨rfl, e1, by omega, by have := (bits.1 c1).2; omega, (bits.1 c1).1, (bits.1 c2).1, c5, hz.e⟩
      have go : ∀ b, Ev (fun _ => some (decide (0 ≤ a ∧ a ≤ 5))) b → Ev (fun k => spec_l3Form.f k Lt Mo Fi Rs a) b := by
       intro b hb
       unfold spec_l3Form.f
       refine Ev.bind hM (ev_pos c1 (Ev.bind hF (ev_pos c2 (ev_pos c3 (ev_pos c4 (Ev.bind ho (ev_pos ?_ (ev_bindc (spec_l6In_eq a 0 5) hb))))))))
       rw [hw ()]; omega
      by_cases c6 : keepOk a
      ·exact .inl ⟨hfm, c6, go true (ev_some (decide_eq_true c6))⟩
      ·exact .inr ⟨fun h => c6 h.2, go false (ev_some (decide_eq_false c6))⟩
     ·refine .inr ⟨fun h => c5 h.1.rs, Ev.bind hM (ev_pos c1 (Ev.bind hF (ev_pos c2 (ev_pos c3 (ev_pos c4 (Ev.bind ho (ev_neg ?_ (ev_some rfl))))))))⟩
      rw [hw ()]; omega
    ·exact .inr ⟨fun h => c4 (by have := h.1.fn; omega), Ev.bind hM (ev_pos c1 (Ev.bind hF (ev_pos c2 (ev_pos c3 (ev_neg c4 (ev_some rfl))))))⟩
   ·exact .inr ⟨fun h => c3 (by have := h.1.mn; omega), Ev.bind hM (ev_pos c1 (Ev.bind hF (ev_pos c2 (ev_neg c3 (ev_some rfl)))))⟩
  ·exact .inr ⟨fun h => c2 (bits.2 ⟨h.1.fb, by have := h.1.fn; have := h.1.few; omega⟩), Ev.bind hM (ev_pos c1 (Ev.bind hF (ev_neg c2 (ev_some rfl))))⟩
 ·exact .inr ⟨fun h => c1 (bits.2 ⟨h.1.mb, by have := h.1.mn; have := h.1.few; omega⟩), Ev.bind hM (ev_neg c1 (ev_some rfl))⟩
theorem is_fm {Lt Mo Fi : ByteArray} {Rs : List ByteArray} {K : List Key} {keep : Nat} (h : Is K keep Lt Mo Fi Rs) : Fm Lt Mo Fi Rs (L Lt).length := by
 have h1 := h.enc.fm
 have h2 := h1.ln
 rw [h2]; exact h1
theorem LL_ht (K : List Key) (keep : Nat) : LL (K.map (ht K keep)) = K.map (Trie.hd K keep) := by
 unfold LL ht
 rw [List.map_map]
 apply List.map_congr_left
 intro x _
 exact L_mkS _
theorem spec_ok_yes {Lt Mo Fi : ByteArray} {Rs : List ByteArray} (hz : SvSz Lt Mo Fi Rs) {K : List Key} {keep : Nat} (h : Is K keep Lt Mo Fi Rs) : Ev (fun k => spec_SieveOk.f k Lt Mo Fi Rs (keep : Int)) true := by
 have hko : keepOk (keep : Int) := by constructor <;> have := h.kp <;> omega
 rcases form_ev hz (keep : Int) with ⟨_, _, hf⟩ | ⟨hn, _⟩
 ·have hh := heads3_enc h.enc
  have hsz : SzL (K.map (ht K keep)) := by
   refine ⟨by rw [List.length_map]; have := h.ok.few; omega, fun x hx => ?_⟩
   obtain ⟨k, hk, rfl⟩ := List.mem_map.1 hx
   have : (ht K keep k).size ≤ 5 := by
    rw [size_L]
    unfold ht
    rw [L_mkS]
    exact ((h.ok.ok k hk).take _).len
   omega
  have hof := spec_SieveOf_ev (K.map (ht K keep)) hsz (keep : Int)
  rw [LL_ht, h.heads] at hof
  unfold spec_SieveOk.f
  refine Ev.bind hf (ev_pos rfl (Ev.bind hh (Ev.bind hof (ev_pos rfl (ev_pos rfl (ev_pos rfl (ev_pos rfl (Ev.bind (sames_ev Rs Rs (by have := hz.d; omega)) (ev_some ?_)))))))))
  simp
 ·exact absurd ⟨is_fm h, hko⟩ hn
section
variable {K : List Key} {X : List Nd} {keep : Nat} {Lt Mo Fi : ByteArray} {Rs : List ByteArray}
noncomputable def mayL (K : List Key) (keep : Nat) (l : List Key) (q : Key) : Bool := l.any (fun k => may (Trie.part K keep k) q)
end
section
variable {K : List Key} {X : List Nd} {keep : Nat} {Lt Mo Fi : ByteArray} {Rs : List ByteArray}
theorem whole3 (h : Enc K X keep Lt Mo Fi Rs) {m : Nat} (hm : m < X.length) {j : Nat} (hj : j < (runs X[m].2 X[m].1).length) (hc : cont (runs X[m].2 X[m].1)[j] = false) :
  ∃ k rv, (runs X[m].2 X[m].1)[j] = [k] ∧ k ∈ X[m].1 ∧ dep K k = X[m].2 ∧ rdOf ByteArray.empty Rs (wrap64 (((off X m + j : Nat) : Int) - ((onesB (L Mo) (off X m + j) : Nat) : Int))) = rv ∧ L rv = (k.drop (X[m].2 + 1)).take keep ∧
   0 ≤ wrap64 (((off X m + j : Nat) : Int) - ((onesB (L Mo) (off X m + j) : Nat) : Int)) ∧ wrap64 (((off X m + j : Nat) : Int) - ((onesB (L Mo) (off X m + j) : Nat) : Int)) < (Rs.length : Int) ∧
   Ev (fun k => spec_l1Ones.f k Mo ((off X m + j : Nat) : Int)) ((onesB (L Mo) (off X m + j) : Nat) : Int) ∧ Ev (fun k => spec_l3Whole.f k Lt Mo Fi Rs (keep : Int) ((off X m + j : Nat) : Int)) (cpl K keep k) := by
 have F := h.fm
 have hfew := F.few
 have hoff := off_succ hm
 have hle := off_le X (m + 1)
 have s1 := size_L Lt
 have s2 := size_L Mo
 have l1 := F.ln
 have l2 := F.mn
 have hi : off X m + j < (brs X).length := by omega
 obtain ⟨k, hg, hkx, hdep, hL, hM, hR⟩ := branch_leaf h.lv hm hj hc
 obtain ⟨hkK, hko, _, hkl⟩ := h.lv.key hm hkx
 have hR := LL_at (l := Rs) (by rw [h.r]; exact hR keep)
 rw [← h.m] at hR hM
 rw [← h.l] at hL
 obtain ⟨_, hr2⟩ := rest_eq (keep := (keep : Int)) F (off X m + j) hi hM
 have hone := onesB_self (L Mo) (off X m + j)
 have ho := spec_l1Ones_ev Mo (by omega) ((off X m + j : Nat) : Int) (by omega)
 have e0 : (((off X m + j : Nat) : Int)).toNat = off X m + j := by omega
 rw [e0] at ho
 have hsub : ∀ _ : Unit, wrap64 (((off X m + j : Nat) : Int) - ((onesB (L Mo) (off X m + j) : Nat) : Int)) = ((off X m + j - onesB (L Mo) (off X m + j) : Nat) : Int) := fun _ => by rw [w64 (by omega) (by omega)]; omega
 have hgr : rdOf ByteArray.empty Rs ((off X m + j - onesB (L Mo) (off X m + j) : Nat) : Int) = Rs.getD (off X m + j - onesB (L Mo) (off X m + j)) ByteArray.empty := rfl
 refine ⟨k, _, hg, hkx, hdep, by rw [hsub (), hgr], hR, by rw [hsub ()]; omega, by rw [hsub ()]; omega, ho, ?_⟩
 have hbL : bt Lt ((off X m + j : Nat) : Int) = 45 ↔ (L Lt).getD (off X m + j) 0 = 45 := bt_is (n := 45) (by omega)
 have h1 := leaf_all hko hdep hkl keep
 unfold spec_l3Whole.f
 refine Ev.bind ho (ev_pos (by omega) (ev_pos (by omega) ?_))
 by_cases c : lab k X[m].2 = 45
 ·refine ev_pos (hbL.2 (by rw [hL, c])) (ev_some ?_)
  exact (h1.1 (.inl c)).symm
 ·refine ev_neg (fun z => c (by rw [← hL]; exact hbL.1 z)) (ev_pos (by rw [hsub ()]; omega) (ev_pos (by rw [hsub ()]; omega) (ev_some ?_)))
  rw [hsub (), hgr, size_L, hR, Bool.eq_iff_iff, decide_eq_true_eq, ← h1]
  constructor
  ·intro z; exact .inr (by omega)
  ·rintro (z | z)
   ·exact absurd z c
   ·omega
end
theorem less_iff (y x : ByteArray) : (Op.bytesLess y.toList x.toList = true) ↔ L y < L x := by
 rw [less_L, decide_eq_true_eq, toList_L, toList_L]
theorem mess_l0_ev (b : List Int) (p : Int) (d : Nat) : ∀ (x3 : List ByteArray) (i : Nat), 30 - i = d → i ≤ 30 → SOk (LL x3) → x3.length ≤ 10 + i →
  ∃ s, Ev (fun k => spec_l71Mess.l0 k x3 (i : Int) b p) (s, p) ∧ SOk (LL s) ∧ s.length ≤ 40 := by
 induction d with
 | zero =>
  intro x3 i h1 h2 h3 h4
  refine ⟨x3, ev_succ ?_, h3, by omega⟩
  simp only [spec_l71Mess.l0]
  exact ev_neg (by omega) (ev_some rfl)
 | succ d ih =>
  intro x3 i h1 h2 h3 h4
  have e1 : Int.tmod (i : Int) 5 = ((i % 5 : Nat) : Int) := by rw [Int.tmod_eq_emod_of_nonneg (by omega)]; omega
  have e2 : wrap64 (Int.tdiv (i : Int) 5) = ((i / 5 : Nat) : Int) := by rw [Int.tdiv_eq_ediv_of_nonneg (by omega), w64 (by omega) (by omega)]; omega
  have sm : ∀ j : Nat, j < 5 → ∃ u : ByteArray, rdOf ByteArray.empty ([(⟨#[]⟩ : ByteArray), (⟨#[97]⟩ : ByteArray), (⟨#[98]⟩ : ByteArray), (⟨#[99]⟩ : ByteArray), (⟨#[100]⟩ : ByteArray)] : List ByteArray) (j : Int) = u ∧ (L u).length ≤ 1 ∧ ∀ c ∈ L u, 97 ≤ c.toNat ∧ c.toNat ≤ 100 := by
   intro j hj
   have : j = 0 ∨ j = 1 ∨ j = 2 ∨ j = 3 ∨ j = 4 := by omega
   rcases this with rfl | rfl | rfl | rfl | rfl <;> refine ⟨_, rfl, by decide, by decide⟩
  have sm2 : ∀ j : Nat, j < 6 → ∃ u : ByteArray, rdOf ByteArray.empty ([(⟨#[]⟩ : ByteArray), (⟨#[97]⟩ : ByteArray), (⟨#[98]⟩ : ByteArray), (⟨#[99]⟩ : ByteArray), (⟨#[100]⟩ : ByteArray), (⟨#[100, 97]⟩ : ByteArray)] : List ByteArray) (j : Int) = u ∧ (L u).length ≤ 2 ∧ ∀ c ∈ L u, 97 ≤ c.toNat ∧ c.toNat ≤ 100 := by
   intro j hj
   have : j = 0 ∨ j = 1 ∨ j = 2 ∨ j = 3 ∨ j = 4 ∨ j = 5 := by omega
   rcases this with rfl | rfl | rfl | rfl | rfl | rfl <;> refine ⟨_, rfl, by decide, by decide⟩
  obtain ⟨u, hu, lu, au⟩ := sm (i % 5) (by omega)
  obtain ⟨v, hv, lv, av⟩ := sm2 (i / 5) (by omega)
  have su := size_L u
  have sv := size_L v
  have hd : (L (⟨#[100]⟩ : ByteArray)) = [100] := rfl
  have hL : L (((⟨#[100]⟩ : ByteArray) ++ u) ++ v) = [100] ++ L u ++ L v := by rw [L_append, L_append, hd]
  have hk : KOk (L (((⟨#[100]⟩ : ByteArray) ++ u) ++ v)) := by
   rw [hL]
   refine ⟨by simp; omega, fun c hc => ?_⟩
   simp only [List.mem_append, List.mem_singleton] at hc
   rcases hc with (rfl | hc) | hc
   ·decide
   ·exact au c hc
   ·exact av c hc
  obtain ⟨r, hr, he⟩ := l2Put_ev x3 (((⟨#[100]⟩ : ByteArray) ++ u) ++ v) (by omega)
  have hl : r.length ≤ x3.length + 1 := by
   have := putB_length (k := L (((⟨#[100]⟩ : ByteArray) ++ u) ++ v)) (K := LL x3)
   rw [← he, LL_length, LL_length] at this; exact this
  obtain ⟨s, hs, ks, ls⟩ := ih r (i + 1) (by omega) (by omega) (by rw [he]; exact sok_put h3 hk) (by omega)
  refine ⟨s, ev_succ ?_, ks, ls⟩
  have hsz : ((⟨#[100]⟩ : ByteArray) ++ u).size = 1 + u.size := ByteArray.size_append
  simp only [spec_l71Mess.l0]
  rw [e1, e2]
  refine ev_pos (by omega) (ev_bindc rfl (ev_pos (by omega) (ev_pos (by simp only [List.length_cons, List.length_nil]; omega) ?_)))
  rw [hu]
  refine ev_pos (by omega) (ev_bindc rfl (ev_pos (by omega) (ev_pos (by simp only [List.length_cons, List.length_nil]; omega) ?_)))
  rw [hv]
  refine ev_pos (by rw [hsz]; omega) (Ev.bind hr ?_)
  rw [w64 (by omega) (by omega)]
  exact hs
theorem sok_short {l : List ByteArray} (h : SOk (LL l)) : ∀ x ∈ l, (L x).length ≤ 10 := fun x hx => by
 have := (h.ok _ (LL_mem hx)).len; omega
theorem mess_ev {b : List Int} (hb : By b) (p : Int) (h0 : 0 ≤ p) (h1 : p ≤ 50000) :
  ∃ s q, Ev (fun k => spec_l71Mess.f k b p) (s, q) ∧ (∀ x ∈ s, (L x).length ≤ 10) ∧ s.length ≤ 40 ∧ p ≤ q ∧ q ≤ p + 2000 := by
 obtain ⟨l, q, hl, kl, nl, q0, q1⟩ := keys_ev hb p h0 (by omega) 8 (by omega)
 obtain ⟨m, hm, m0, m1, _⟩ := pick_ev hb q (by omega) (by omega) 5 (by omega)
 have sh := sok_short kl
 have start : ∀ r, Ev (fun k => (if m = 0 then (if l.length < 8796093022208 then (some ((l ++ [(⟨#[97]⟩ : ByteArray)]), q + 1)) else (none)) else (if m = 1 then ((some (([(⟨#[120]⟩ : ByteArray), (⟨#[101]⟩ : ByteArray)] : List ByteArray) : List ByteArray)).bind fun y585 => (if l.length + y585.length < 8796093022208 then (some ((l ++ y585), q + 1)) else (none))) else (if m = 2 then ((spec_l6Rd_pick.f k b (q + 1) 2).bind fun bt591 => ((spec_l6Many.f k (⟨#[100]⟩ : ByteArray) (wrap64 (5 + bt591.1))).bind fun t593 => (if l.length < 8796093022208 then (some ((l ++ [t593]), bt591.2)) else (none)))) else (if m = 3 then (spec_l71Mess.l0 k l 0 b (q + 1)) else (some (l, q + 1))))))) r → Ev (fun k => spec_l71Mess.f k b p) r := by
  intro r h
  unfold spec_l71Mess.f
  exact Ev.bind hl (Ev.bind hm h)
 by_cases c0 : m = 0
 ·refine ⟨l ++ [(⟨#[97]⟩ : ByteArray)], q + 1, start _ (ev_pos c0 (ev_pos (by omega) (ev_some rfl))), fun x hx => ?_, by simp; omega, by omega, by omega⟩
  rcases List.mem_append.1 hx with h | h
  ·exact sh x h
  ·simp at h; subst h; decide
 ·by_cases c1 : m = 1
  ·refine ⟨l ++ [(⟨#[120]⟩ : ByteArray), (⟨#[101]⟩ : ByteArray)], q + 1, start _ (ev_neg c0 (ev_pos c1 (ev_bindc rfl (ev_pos (by simp; omega) (ev_some rfl))))), fun x hx => ?_, by simp; omega, by omega, by omega⟩
   rcases List.mem_append.1 hx with h | h
   ·exact sh x h
   ·simp at h; rcases h with rfl | rfl <;> decide
  ·by_cases c2 : m = 2
   ·obtain ⟨z, hz, z0, z1, _⟩ := pick_ev hb (q + 1) (by omega) (by omega) 2 (by omega)
    have z1 := z1 (by omega)
    obtain ⟨n, hn⟩ : ∃ n : Nat, 5 + z = (n : Int) := ⟨(5 + z).toNat, by omega⟩
    have h21 : (⟨#[100]⟩ : ByteArray).size = 1 := rfl
    have h20 : (⟨#[]⟩ : ByteArray).size = 0 := rfl
    obtain ⟨s, hs, hsz⟩ := many_ev 10 (by omega) n (⟨#[100]⟩ : ByteArray) (⟨#[]⟩ : ByteArray) (by omega) (by rw [h21]; omega) (by rw [h21, h20]; omega)
    refine ⟨l ++ [s], q + 1 + 1, start _ (ev_neg c0 (ev_neg c1 (ev_pos c2 (Ev.bind hz ?_)))), fun x hx => ?_, by simp; omega, by omega, by omega⟩
    ·simp only []
     rw [w64 (i := 5 + z) (by omega) (by omega), hn]
     exact Ev.bind hs (ev_pos (by omega) (ev_some rfl))
    ·rcases List.mem_append.1 hx with h | h
     ·exact sh x h
     ·simp at h; subst h; rw [← size_L]; exact hsz
   ·by_cases c3 : m = 3
    ·obtain ⟨s, hs, ks, ls⟩ := mess_l0_ev b (q + 1) 30 l 0 (by omega) (by omega) kl (by omega)
     exact ⟨s, q + 1, start _ (ev_neg c0 (ev_neg c1 (ev_neg c2 (ev_pos c3 hs)))), sok_short ks, ls, by omega, by omega⟩
    ·exact ⟨l, q + 1, start _ (ev_neg c0 (ev_neg c1 (ev_neg c2 (ev_neg c3 (ev_some rfl))))), sh, by omega, by omega, by omega⟩
theorem szl_of {s : List ByteArray} (h : ∀ x ∈ s, (L x).length ≤ 10) (hl : s.length ≤ 1000) : SzL s := ⟨by omega, fun x hx => by have := h x hx; rw [size_L]; omega⟩
section
variable {K : List Key} {X : List Nd} {keep : Nat} {Lt Mo Fi : ByteArray} {Rs : List ByteArray}
def EncW (K : List Key) (X : List Nd) (keep : Nat) (Lt Mo Fi : ByteArray) (Rs : List ByteArray) (t : Nat) : Prop :=
 ∀ (m : Nat) (hm : m < X.length) (out : List Bool), X.length - m ≤ t → out.length + X[m].1.length ≤ 1000000 →
  Ev (fun k => spec_l3Wholes.f k Lt Mo Fi Rs (keep : Int) ((off X m : Nat) : Int) ((off X (m + 1) : Nat) : Int) out) (out ++ X[m].1.map (cpl K keep))
theorem encw_l0 (h : Enc K X keep Lt Mo Fi Rs) (h0 : K ≠ []) (t : Nat) (hP : EncW K X keep Lt Mo Fi Rs t) {m : Nat} (hm : m < X.length) (ht' : X.length - m ≤ t + 1) (d : Nat) :
  ∀ (j : Nat) (out : List Bool), j ≤ (runs X[m].2 X[m].1).length → (runs X[m].2 X[m].1).length - j = d → out.length + (((runs X[m].2 X[m].1).drop j).flatten).length ≤ 1000000 →
   Ev (fun k => spec_l3Wholes.l0 k ((off X (m + 1) : Nat) : Int) out ((off X m + j : Nat) : Int) Lt Mo Fi Rs (keep : Int)) (out ++ (((runs X[m].2 X[m].1).drop j).flatten).map (cpl K keep)) := by
 have F := h.fm
 have hfew := F.few
 have hoff := off_succ hm
 have hle := off_le X (m + 1)
 have s1 := size_L Lt
 have s2 := size_L Mo
 have l1 := F.ln
 have l2 := F.mn
 induction d with
 | zero =>
  intro j out g1 g2 g3
  refine ev_succ ?_
  simp only [spec_l3Wholes.l0]
  refine ev_neg (by omega) (ev_succ ?_)
  simp only [spec_l3Wholes.j1]
  refine ev_neg (by simp) (ev_some ?_)
  rw [List.drop_eq_nil_of_le (by omega)]; simp
 | succ d ih =>
  intro j out g1 g2 g3
  have hj : j < (runs X[m].2 X[m].1).length := by omega
  have hi : off X m + j < (brs X).length := by omega
  have hdrop : (runs X[m].2 X[m].1).drop j = (runs X[m].2 X[m].1)[j] :: (runs X[m].2 X[m].1).drop (j + 1) := List.drop_eq_getElem_cons hj
  rw [hdrop, List.flatten_cons, List.length_append] at g3
  rw [hdrop, List.flatten_cons, List.map_append]
  have hw64 : ∀ _ : Unit, wrap64 (((off X m + j : Nat) : Int) + 1) = ((off X m + (j + 1) : Nat) : Int) := fun _ => by rw [w64 (by omega) (by omega)]; omega
  have hbM : bt Mo ((off X m + j : Nat) : Int) = 49 ↔ (L Mo).getD (off X m + j) 0 = 49 := bt_is (n := 49) (by omega)
  refine ev_succ ?_
  simp only [spec_l3Wholes.l0]
  refine ev_pos (by omega) (ev_succ ?_)
  simp only [spec_l3Wholes.j1]
  refine ev_pos (by rw [decide_eq_true_eq]; omega) (ev_pos (by omega) (ev_pos (by omega) ?_))
  by_cases hc : cont (runs X[m].2 X[m].1)[j] = true
  ·obtain ⟨hlt, hX, hmc, hgt, hM, hk⟩ := branch_node h.lv hm hj hc
   have hkd := kids_ev (keep := (keep : Int)) F (off X m + j) hi
   rw [h.m, h.pos h0 (by omega), h.pos h0 (by omega)] at hkd
   rw [← h.m] at hM
   have hrec := hP (onesB (encM X) (off X m + j + 1)) hlt out (by omega) (by rw [hX]; simp only; omega)
   rw [hX] at hrec
   simp only at hrec
   refine ev_pos (hbM.2 hM) (Ev.bind hkd (Ev.bind hrec ?_))
   rw [hw64 ()]
   refine ev_eq (ih (j + 1) (out ++ (runs X[m].2 X[m].1)[j].map (cpl K keep)) (by omega) (by omega) (by rw [List.length_append, List.length_map]; omega)) ?_
   rw [List.append_assoc]
  ·have hc' : cont (runs X[m].2 X[m].1)[j] = false := by simpa using hc
   obtain ⟨k, rv, hg, hkx, hdep, hrv, hR, p1, p2, ho, hwh⟩ := whole3 h hm hj hc'
   clear p1 p2 hrv
   obtain ⟨_, _, _, _, _, hM, _⟩ := branch_leaf h.lv hm hj hc'
   rw [← h.m] at hM
   rw [hg] at g3 ⊢
   simp only [List.length_cons, List.length_nil] at g3
   refine ev_neg (fun z => ?_) (Ev.bind hwh (ev_pos (by omega) ?_))
   ·rw [hbM.1 z] at hM; exact absurd hM (by decide)
   ·rw [hw64 ()]
    refine ev_eq (ih (j + 1) (out ++ [cpl K keep k]) (by omega) (by omega) (by rw [List.length_append]; simp only [List.length_cons, List.length_nil]; omega)) ?_
    rw [List.append_assoc]; rfl
theorem encw_P (h : Enc K X keep Lt Mo Fi Rs) (h0 : K ≠ []) : ∀ t, EncW K X keep Lt Mo Fi Rs t := by
 intro t
 induction t with
 | zero => intro m hm out g; omega
 | succ t ih =>
  intro m hm out g1 g3
  have hfl := runs_flatten X[m].2 X[m].1
  have := encw_l0 h h0 t ih hm g1 _ 0 out (Nat.zero_le _) rfl (by rw [List.drop_zero, hfl]; exact g3)
  rw [List.drop_zero, hfl] at this
  refine ev_succ ?_
  simp only [spec_l3Wholes.f]
  exact this
theorem wholes_enc (h : Enc K X keep Lt Mo Fi Rs) : ∃ t : Int, Ev (fun k => spec_l1One.f k Fi 1) t ∧ Ev (fun k => spec_l3Wholes.f k Lt Mo Fi Rs (keep : Int) 0 t []) (K.map (cpl K keep)) := by
 have F := h.fm
 have s2 := size_L Fi
 have hf := F.fn
 have hfew := F.few
 have h1 := spec_l1One_ev Fi (by omega) 1 (by omega)
 refine ⟨_, h1, ?_⟩
 by_cases h0 : K = []
 ·subst h0
  have hX := lvl_nil h.lv
  subst hX
  have hz : (brs [(([] : List Key), 0)]).length = 0 := by rw [brs_nil]; rfl
  have hp := Trie.pos_le (L Fi) 1
  have e1 : ((Trie.pos (L Fi) 1 : Nat) : Int) = 0 := by omega
  rw [e1]
  refine ev_succ ?_
  simp only [spec_l3Wholes.f]
  refine ev_succ ?_
  simp only [spec_l3Wholes.l0]
  refine ev_neg (by simp) (ev_succ ?_)
  simp only [spec_l3Wholes.j1]
  exact ev_neg (by simp) (ev_some rfl)
 ·have hX0 := h.lv.pos_root
  obtain ⟨hlt, hX⟩ := List.getElem?_eq_some_iff.1 hX0
  have := encw_P h h0 X.length 0 hlt [] (by omega) (by rw [hX]; have := h.few; simp only [List.length_nil]; omega)
  rw [hX, off_zero] at this
  have e1 : Trie.pos (L Fi) 1 = off X (0 + 1) := h.pos h0 (by omega)
  rw [e1]
  simpa using this
noncomputable def atK (K : List Key) (keep : Nat) (q : Key) (k : Key) : Bool := atb (Trie.part K keep k) q
theorem atK_eq (q : Key) (k : Key) : atK K keep q k = (!decide (Trie.hd K keep k < q) || (!cpl K keep k && (Trie.hd K keep k).isPrefixOf q)) := rfl
theorem L_ht (k : Key) : L (ht K keep k) = Trie.hd K keep k := L_mkS _
theorem ht_getD (l : List Key) {i : Nat} (hi : i < l.length) : (l.map (ht K keep)).getD i ByteArray.empty = ht K keep (l.getD i []) := by
 rw [getD_lt _ (by rw [List.length_map]; exact hi), getD_lt _ hi, List.getElem_map]
theorem behind_l0 (l : List Key) (hn : l.length ≤ 1000) (q : ByteArray) (d : Nat) : ∀ i : Nat, i ≤ l.length → l.length - i = d →
  Ev (fun k => spec_l3Behind.l0 k (l.map (ht K keep)) (l.map (cpl K keep)) q (i : Int)) (((i + (l.drop i).findIdx (atK K keep (L q)) : Nat) : Int)) := by
 have hl1 : (l.map (ht K keep)).length = l.length := List.length_map _
 have hl2 : (l.map (cpl K keep)).length = l.length := List.length_map _
 induction d with
 | zero =>
  intro i h1 h2
  refine ev_succ ?_
  simp only [spec_l3Behind.l0]
  refine ev_neg (by rw [hl1]; omega) (ev_some ?_)
  rw [List.drop_eq_nil_of_le (by omega), List.findIdx_nil, hl1]; omega
 | succ d ih =>
  intro i h1 h2
  have hlt : i < l.length := by omega
  refine ev_succ ?_
  simp only [spec_l3Behind.l0]
  have e1 : rdOf ByteArray.empty (l.map (ht K keep)) (i : Int) = ht K keep (l.getD i []) := ht_getD l hlt
  have e2 : rdOf false (l.map (cpl K keep)) (i : Int) = cpl K keep (l.getD i []) := by
   show (l.map (cpl K keep)).getD i false = _
   rw [getD_lt _ (by rw [hl2]; exact hlt), getD_lt _ hlt, List.getElem_map]
  rw [e1, e2, drop_cons [] hlt, List.findIdx_cons, atK_eq]
  have ih := ih (i + 1) (by omega) (by omega)
  have hw : ∀ _ : Unit, wrap64 ((i : Int) + 1) = ((i + 1 : Nat) : Int) := fun _ => by rw [w64 (by omega) (by omega)]; omega
  have hless := less_iff (ht K keep (l.getD i [])) q
  rw [L_ht] at hless
  refine ev_pos (by rw [hl1]; omega) (ev_pos (by omega) ?_)
  by_cases c : Trie.hd K keep (l.getD i []) < L q
  ·rw [decide_eq_true c]
   refine ev_pos (hless.2 c) (ev_pos (by rw [hl2]; omega) ?_)
   by_cases c2 : cpl K keep (l.getD i []) = true
   ·refine ev_pos c2 ?_
    rw [hw (), c2]
    refine ev_eq ih ?_
    simp only [Bool.not_true, Bool.false_and, Bool.or_false, cond_false]
    omega
   ·have c2' : cpl K keep (l.getD i []) = false := by simpa using c2
    refine ev_neg c2 (ev_bindc (spec_KeyBegins_eq _ _) ?_)
    rw [L_ht, c2']
    by_cases c3 : (Trie.hd K keep (l.getD i [])).isPrefixOf (L q) = true
    ·refine ev_pos c3 (ev_some ?_)
     rw [c3]
     simp
    ·refine ev_neg c3 ?_
     have c3' : (Trie.hd K keep (l.getD i [])).isPrefixOf (L q) = false := Bool.eq_false_iff.2 c3
     rw [hw (), c3']
     refine ev_eq ih ?_
     simp only [Bool.not_true, Bool.not_false, Bool.true_and, Bool.or_false, cond_false]
     omega
  ·rw [decide_eq_false c]
   refine ev_neg (fun z => c (hless.1 z)) (ev_some ?_)
   simp
theorem behind_ev (l : List Key) (hn : l.length ≤ 1000) (q : ByteArray) : Ev (fun k => spec_l3Behind.f k (l.map (ht K keep)) (l.map (cpl K keep)) q) ((l.findIdx (atK K keep (L q)) : Nat) : Int) := by
 unfold spec_l3Behind.f
 have := behind_l0 (K := K) (keep := keep) l hn q l.length 0 (Nat.zero_le _) rfl
 rw [List.drop_zero, Nat.zero_add] at this
 exact this
noncomputable def seekV (K : List Key) (keep : Nat) (q : Key) : ByteArray × Bool := match K.find? (atK K keep q) with | some k => (ht K keep k, true) | none => ((⟨#[]⟩ : ByteArray), false)
theorem seek_l0 (l : List Key) (hn : l.length ≤ 1000) (q : ByteArray) (d : Nat) : ∀ i : Nat, i ≤ l.length → l.length - i = d →
  Ev (fun k => impl_SieveSeek.l0 k q (l.map (pt K keep)) (l.length : Int) (i : Int)) (match (l.drop i).find? (atK K keep (L q)) with | some k => (ht K keep k, true) | none => ((⟨#[]⟩ : ByteArray), false)) := by
 have hl1 : (l.map (pt K keep)).length = l.length := List.length_map _
 induction d with
 | zero =>
  intro i h1 h2
  refine ev_succ ?_
  simp only [impl_SieveSeek.l0]
  refine ev_neg (by omega) (ev_some ?_)
  rw [List.drop_eq_nil_of_le (by omega)]; rfl
 | succ d ih =>
  intro i h1 h2
  have hlt : i < l.length := by omega
  refine ev_succ ?_
  simp only [impl_SieveSeek.l0]
  have e1 : rd_T93 (l.map (pt K keep)) (i : Int) = pt K keep (l.getD i []) := by
   show (l.map (pt K keep)).getD i z93 = _
   rw [getD_lt _ (by rw [hl1]; exact hlt), getD_lt _ hlt, List.getElem_map]
  have e2 : (pt K keep (l.getD i [])).f0 = ht K keep (l.getD i []) := rfl
  have e3 : (pt K keep (l.getD i [])).f1 = cpl K keep (l.getD i []) := rfl
  rw [e1, e2, e3, drop_cons [] hlt, List.find?_cons, atK_eq]
  have ih := ih (i + 1) (by omega) (by omega)
  have hw : ∀ _ : Unit, wrap64 ((i : Int) + 1) = ((i + 1 : Nat) : Int) := fun _ => by rw [w64 (by omega) (by omega)]; omega
  have hless := less_iff (ht K keep (l.getD i [])) q
  rw [L_ht] at hless
  refine ev_pos (by omega) (ev_pos (by omega) (ev_pos (by rw [hl1]; omega) ?_))
  by_cases c : Trie.hd K keep (l.getD i []) < L q
  ·rw [decide_eq_true c]
   refine ev_pos (hless.2 c) ?_
   by_cases c2 : cpl K keep (l.getD i []) = true
   ·refine ev_pos c2 ?_
    rw [hw (), c2]
    exact ev_eq ih (by simp)
   ·have c2' : cpl K keep (l.getD i []) = false := by simpa using c2
    refine ev_neg c2 (ev_bindc (impl_KeyBegins_eq _ _) ?_)
    rw [L_ht, c2']
    by_cases c3 : (Trie.hd K keep (l.getD i [])).isPrefixOf (L q) = true
    ·refine ev_pos c3 (ev_some ?_)
     rw [c3]
     simp
    ·refine ev_neg c3 ?_
     have c3' : (Trie.hd K keep (l.getD i [])).isPrefixOf (L q) = false := Bool.eq_false_iff.2 c3
     rw [hw (), c3']
     exact ev_eq ih (by simp)
  ·rw [decide_eq_false c]
   refine ev_neg (fun z => c (hless.1 z)) (ev_some ?_)
   simp
theorem find_idx (l : List Key) (p : Key → Bool) : (l.findIdx p < l.length ∧ l.find? p = some (l.getD (l.findIdx p) [])) ∨ (l.findIdx p = l.length ∧ l.find? p = none) := by
 induction l with
 | nil => exact .inr ⟨rfl, rfl⟩
 | cons a l ih =>
  rw [List.findIdx_cons, List.find?_cons]
  cases hp : p a with
  | true => exact .inl ⟨by simp, by simp⟩
  | false =>
   simp only [cond_false]
   rcases ih with ⟨h1, h2⟩ | ⟨h1, h2⟩
   ·exact .inl ⟨by rw [List.length_cons]; omega, by rw [h2, List.getD_cons_succ]⟩
   ·exact .inr ⟨by rw [h1, List.length_cons], h2⟩
end
section
variable {Lt Mo Fi : ByteArray} {Rs : List ByteArray} {a : Int}
noncomputable def hasV (K : List Key) (keep : Nat) (q : Key) : Bool := kokB q && mayL K keep K q
noncomputable def seekW (K : List Key) (keep : Nat) (q : Key) : ByteArray × Bool := if kokB q = true then seekV K keep q else ((⟨#[]⟩ : ByteArray), false)
noncomputable def meetsW (K : List Key) (keep : Nat) (x y : Key) : Bool := kokB x && kokB y && !decide (y < x) && (match K.find? (atK K keep x) with | some k => !decide (y < Trie.hd K keep k) | none => false)
theorem impl_seek_yes {K : List Key} {keep : Nat} (h : Is K keep Lt Mo Fi Rs) (hh : Ev (fun k => impl_Sieve_heads.f k Lt Mo Fi Rs (keep : Int)) (K.map (pt K keep), true)) (q : ByteArray) (hq : q.size ≤ 140737488355328) : Ev (fun k => impl_SieveSeek.f k Lt Mo Fi Rs (keep : Int) q) (seekW K keep (L q)) := by
 unfold impl_SieveSeek.f seekW
 refine Ev.bind hh (ev_pos rfl (Ev.bind (impl_KeyOk_ev q hq) (ev_succ ?_)))
 simp only [impl_SieveSeek.j0]
 have hl : (K.map (pt K keep)).length = K.length := List.length_map _
 by_cases c : kokB (L q) = true
 ·rw [if_pos c, c]
  refine ev_neg (by simp) ?_
  rw [hl]
  have := seek_l0 (K := K) (keep := keep) K (by have := h.ok.few; omega) q K.length 0 (Nat.zero_le _) rfl
  rw [List.drop_zero] at this
  exact this
 ·have c' : kokB (L q) = false := by simpa using c
  rw [if_neg c, c']
  exact ev_pos (by simp) (ev_some rfl)
theorem impl_meets_yes {K : List Key} {keep : Nat} (h : Is K keep Lt Mo Fi Rs) (hh : Ev (fun k => impl_Sieve_heads.f k Lt Mo Fi Rs (keep : Int)) (K.map (pt K keep), true)) (x y : ByteArray) (hx : x.size ≤ 140737488355328) (hy : y.size ≤ 140737488355328) : Ev (fun k => impl_SieveMeets.f k Lt Mo Fi Rs (keep : Int) x y) (meetsW K keep (L x) (L y)) := by
 unfold impl_SieveMeets.f meetsW
 refine Ev.bind (impl_KeyOk_ev x hx) ?_
 by_cases c1 : kokB (L x) = true
 ·rw [c1]
  refine ev_pos rfl (Ev.bind (impl_KeyOk_ev y hy) ?_)
  by_cases c2 : kokB (L y) = true
  ·rw [c2]
   refine ev_pos rfl ?_
   have hless := less_iff y x
   by_cases c3 : L y < L x
   ·exact ev_eq (ev_pos (hless.2 c3) (ev_some rfl)) (by simp [c3])
   ·refine ev_neg (fun z => c3 (hless.1 z)) (Ev.bind (impl_seek_yes h hh x hx) ?_)
    unfold seekW
    rw [if_pos c1, decide_eq_false c3]
    unfold seekV
    cases hf : K.find? (atK K keep (L x)) with
    | none => exact ev_neg (by simp) (ev_some (by simp))
    | some k =>
     refine ev_pos rfl (ev_some ?_)
     simp only [Bool.not_false, Bool.and_true, Bool.true_and]
     have h2 := less_iff y (ht K keep k)
     rw [L_ht] at h2
     congr 1
     rw [Bool.eq_iff_iff, decide_eq_true_eq]
     exact h2
  ·have c2' : kokB (L y) = false := by simpa using c2
   rw [c2']
   exact ev_neg (by simp) (ev_some (by simp))
 ·have c1' : kokB (L x) = false := by simpa using c1
  rw [c1']
  exact ev_neg (by simp) (ev_some (by simp))
theorem spec_meets_yes {K : List Key} {keep : Nat} (h : Is K keep Lt Mo Fi Rs) (hh : Ev (fun k => spec_SieveOk.f k Lt Mo Fi Rs (keep : Int)) true) (x y : ByteArray) (hx : x.size ≤ 140737488355328) (hy : y.size ≤ 140737488355328) : Ev (fun k => spec_SieveMeets.f k Lt Mo Fi Rs (keep : Int) x y) (meetsW K keep (L x) (L y)) := by
 unfold spec_SieveMeets.f meetsW
 have no : Ev (fun k => spec_SieveMeets.j0 k x y true Lt Mo Fi Rs (keep : Int)) false := by
  refine ev_succ ?_
  simp only [spec_SieveMeets.j0]
  exact ev_pos (by simp) (ev_some rfl)
 have hl : (K.map (ht K keep)).length = K.length := List.length_map _
 have hf := h.ok.few
 refine Ev.bind hh (ev_pos rfl (Ev.bind (spec_KeyOk_ev x hx) ?_))
 by_cases c1 : kokB (L x) = true
 ·refine ev_pos c1 (Ev.bind (spec_KeyOk_ev y hy) ?_)
  by_cases c2 : kokB (L y) = true
  ·refine ev_pos c2 (ev_succ ?_)
   simp only [spec_SieveMeets.j0]
   have hless := less_iff y x
   rw [c1, c2]
   by_cases c3 : L y < L x
   ·exact ev_eq (ev_pos (hless.2 c3) (ev_some rfl)) (by simp [c3])
   ·rw [decide_eq_false c3]
    obtain ⟨t, h1, h2⟩ := wholes_enc h.enc
    refine ev_neg (fun z => c3 (hless.1 z)) (Ev.bind (heads3_enc h.enc) (Ev.bind h1 (Ev.bind h2 (Ev.bind (behind_ev K (by omega) x) ?_))))
    rcases find_idx K (atK K keep (L x)) with ⟨g1, g2⟩ | ⟨g1, g2⟩
    ·rw [g2]
     refine ev_pos (by rw [hl]; omega) (ev_pos (by omega) (ev_some ?_))
     have e : rdOf ByteArray.empty (K.map (ht K keep)) ((K.findIdx (atK K keep (L x)) : Nat) : Int) = ht K keep (K.getD (K.findIdx (atK K keep (L x))) []) := ht_getD K g1
     rw [e]
     simp only [Bool.not_false, Bool.and_true, Bool.true_and]
     have h2 := less_iff y (ht K keep (K.getD (K.findIdx (atK K keep (L x))) []))
     rw [L_ht] at h2
     congr 1
     rw [Bool.eq_iff_iff, decide_eq_true_eq]
     exact h2
    ·rw [g2]
     exact ev_neg (by rw [hl]; omega) (ev_some (by simp))
  ·have c2' : kokB (L y) = false := by simpa using c2
   exact ev_neg c2 (ev_eq no (by simp [c2']))
 ·have c1' : kokB (L x) = false := by simpa using c1
  exact ev_neg c1 (ev_eq no (by simp [c1']))
end
theorem is_sz {K : List Key} {keep : Nat} {Lt Mo Fi : ByteArray} {Rs : List ByteArray} (h : Is K keep Lt Mo Fi Rs) : SvSz Lt Mo Fi Rs := by
 have F := h.enc.fm
 have hf := F.few
 have s1 := size_L Lt
 have s2 := size_L Mo
 have s3 := size_L Fi
 have h1 := F.ln
 have h2 := F.mn
 have h3 := F.fn
 exact ⟨by omega, by omega, by omega, by have := F.rs; omega, F.sz⟩
theorem heads_of {K : List Key} {keep : Nat} {Lt Mo Fi : ByteArray} {Rs : List ByteArray} (h : Is K keep Lt Mo Fi Rs) : Ev (fun k => impl_Sieve_heads.f k Lt Mo Fi Rs (keep : Int)) (K.map (pt K keep), true) := by
 rcases heads_ev (is_sz h) (keep : Int) with ⟨K', keep', e, hI, hh⟩ | ⟨hn, _⟩
 ·have e2 : keep' = keep := by omega
  subst e2
  have h1 := parts_enc h.enc
  have h2 := parts_enc hI.enc
  have := ev_unique h1 h2
  rw [this]; exact hh
 ·exact absurd h (hn K keep rfl)
theorem sieveV_cases (K : List Key) (a : Int) : ((sieveV K a).2.2.2.2.2 = false ∧ ¬ (KsOk K ∧ keepOk a)) ∨ ∃ (keep : Nat) (Lt Mo Fi : ByteArray) (Rs : List ByteArray), a = (keep : Int) ∧ sieveV K a = (Lt, Mo, Fi, Rs, (keep : Int), true) ∧ Is K keep Lt Mo Fi Rs := by
 by_cases c : keysB K = true ∧ keepOk a
 ·right
  have h1 : sieveV K a = encT (lvls K) a := by unfold sieveV; rw [if_pos c]
  have e : a = (a.toNat : Int) := by have := c.2.1; omega
  have hI : sieveV K a = ((sieveV K a).1, (sieveV K a).2.1, (sieveV K a).2.2.1, (sieveV K a).2.2.2.1, (a.toNat : Int), true) := by
   rw [h1]
   unfold encT
   rw [← e]
  obtain ⟨h2, _, _⟩ := is_of hI
  exact ⟨a.toNat, _, _, _, _, e, hI, h2⟩
 ·left
  unfold sieveV
  rw [if_neg c]
  exact ⟨rfl, fun h => c ⟨keysB_iff.2 h.1, h.2⟩⟩
theorem DrawSieveOf_ev (l0 : List Int) (hl : l0.length ≤ maxLen) (hw : ∀ x ∈ l0, (Lit.int .u8 x).wf = true) :
  ∃ s a, Ev (fun k => spec_DrawSieveOf.f k l0) (s, a) ∧ SzL s ∧ s.length ≤ 1000 := by
 obtain ⟨b, ho, hb⟩ := open_ev l0 hl hw
 obtain ⟨s, q, hs, ks, ns, q0, q1⟩ := keys_ev hb 0 (by omega) (by omega) 12 (by omega)
 obtain ⟨m, hm, m0, m1, _⟩ := pick_ev hb q (by omega) (by omega) 12 (by omega)
 by_cases c : m = 0
 ·obtain ⟨s', q', hs', ks', ns', a0, a1⟩ := mess_ev hb (q + 1) (by omega) (by omega)
  obtain ⟨i, hi, i0, i1, _⟩ := pick_ev hb q' (by omega) (by omega) 8 (by omega)
  refine ⟨s', rd [0, 0, 1, 1, 2, 5, 6, (-1)] i, ?_, szl_of ks' (by omega), by omega⟩
  unfold spec_DrawSieveOf.f
  exact ev_bindc ho (Ev.bind hs (Ev.bind hm (ev_pos c (Ev.bind hs' (ev_bindc rfl (Ev.bind hi (ev_pos i0 (ev_pos (by have := i1 (by omega); simpa using this) (ev_some rfl)))))))))
 ·obtain ⟨i, hi, i0, i1, _⟩ := pick_ev hb (q + 1) (by omega) (by omega) 8 (by omega)
  refine ⟨s, rd [0, 0, 1, 1, 2, 5, 6, (-1)] i, ?_, szl_of (sok_short ks) (by omega), by omega⟩
  unfold spec_DrawSieveOf.f
  exact ev_bindc ho (Ev.bind hs (Ev.bind hm (ev_neg c (ev_bindc rfl (Ev.bind hi (ev_pos i0 (ev_pos (by have := i1 (by omega); simpa using this) (ev_some rfl))))))))
theorem kok_size {x : ByteArray} (h : KOk (L x)) : x.size ≤ 140737488355328 := by
 have := h.len
 rw [size_L]; omega
theorem hasV_iff {K : List Key} {keep : Nat} {q : Key} : hasV K keep q = true ↔ KOk q ∧ ∃ k ∈ K, may (Trie.part K keep k) q = true := by
 unfold hasV mayL
 rw [Bool.and_eq_true, kokB_iff, List.any_eq_true]
theorem has_self {K : List Key} {keep : Nat} {q : Key} (hK : ∀ k ∈ K, KOk k) (hq : q ∈ K) : hasV K keep q = true :=
 hasV_iff.2 ⟨hK q hq, q, hq, part_may K keep q⟩
theorem find_parts (K : List Key) (keep : Nat) (q : Key) (l : List Key) : (l.map (Trie.part K keep)).find? (fun p => atb p q) = (l.find? (atK K keep q)).map (Trie.part K keep) := by
 rw [List.find?_map]; rfl
theorem meetsW_iff {K : List Key} (h : KsOk K) {keep : Nat} {x y : Key} : meetsW K keep x y = true ↔ KOk x ∧ KOk y ∧ ¬ y < x ∧ meetsB (K.map (Trie.part K keep)) x y := by
 have hm := meets_find (parts_sorted h.ok h.sorted keep) x y
 rw [find_parts] at hm
 unfold meetsW
 rw [Bool.and_eq_true, Bool.and_eq_true, Bool.and_eq_true, kokB_iff, kokB_iff, ← hm]
 simp only [Bool.not_eq_true', decide_eq_false_iff_not, Option.map_eq_some_iff]
 constructor
 ·rintro ⟨⟨⟨a, b⟩, c⟩, d⟩
  refine ⟨a, b, c, ?_⟩
  cases hf : K.find? (atK K keep x) with
  | none => rw [hf] at d; cases d
  | some k =>
   rw [hf] at d
   simp only [Bool.not_eq_true', decide_eq_false_iff_not] at d
   exact ⟨_, ⟨k, rfl, rfl⟩, d⟩
 ·rintro ⟨a, b, c, z, ⟨k, hk, rfl⟩, d⟩
  refine ⟨⟨⟨a, b⟩, c⟩, ?_⟩
  rw [hk]
  simp only [Bool.not_eq_true', decide_eq_false_iff_not]
  exact d
theorem meets_of_has {K : List Key} (h : KsOk K) {keep : Nat} {x y q : Key} (hq : hasV K keep q = true) (hx : KOk x) (hy : KOk y) (h1 : ¬ q < x) (h2 : ¬ y < q) : meetsW K keep x y = true := by
 obtain ⟨_, k, hk, hm⟩ := hasV_iff.1 hq
 exact (meetsW_iff h).2 ⟨hx, hy, le_trans' h1 h2, meets_of_may ⟨_, List.mem_map.2 ⟨k, hk, rfl⟩, hm⟩ h1 h2⟩
theorem sieveV_yes {K : List Key} (h : KsOk K) (keep : Nat) (hk : keep ≤ 5) : ∃ (Lt Mo Fi : ByteArray) (Rs : List ByteArray), sieveV K (keep : Int) = (Lt, Mo, Fi, Rs, (keep : Int), true) ∧ Is K keep Lt Mo Fi Rs := by
 rcases sieveV_cases K (keep : Int) with ⟨_, hn⟩ | ⟨keep', Lt, Mo, Fi, Rs, e, h1, hI⟩
 ·exact absurd ⟨h, by unfold keepOk; omega⟩ hn
 ·have : keep' = keep := by omega
  subst this
  exact ⟨Lt, Mo, Fi, Rs, h1, hI⟩
theorem Is.one {K : List Key} {keep keep' : Nat} {Lt Mo Fi Lt' Mo' Fi' : ByteArray} {Rs Rs' : List ByteArray} (h : Is K keep Lt Mo Fi Rs) (h' : Is K keep' Lt' Mo' Fi' Rs') : Lt = Lt' := by
 apply L_inj
 rw [h.enc.l, h'.enc.l]
structure SvS (Lt Mo Fi : ByteArray) (Rs : List ByteArray) : Prop where
 a : Lt.size ≤ 1000
 b : Mo.size ≤ 1000
 c : Fi.size ≤ 1000
 d : Rs.length ≤ 1000
 e : ∀ s ∈ Rs, s.size ≤ 1000
theorem SvS.sz {Lt Mo Fi : ByteArray} {Rs : List ByteArray} (h : SvS Lt Mo Fi Rs) : SvSz Lt Mo Fi Rs :=
 ⟨by have := h.a; omega, by have := h.b; omega, by have := h.c; omega, by have := h.d; omega, fun s hs => by have := h.e s hs; omega⟩
theorem encR_len {keep : Nat} {X : List Nd} (hk : keep ≤ 5) : ∀ s ∈ encR keep X, s.length ≤ 5 := by
 intro s hs
 unfold encR at hs
 obtain ⟨b, _, rfl⟩ := List.mem_map.1 hs
 unfold Trie.rest
 rw [List.length_take]
 omega
theorem is_small {K : List Key} {keep : Nat} {Lt Mo Fi : ByteArray} {Rs : List ByteArray} (h : Is K keep Lt Mo Fi Rs) : Lt.size ≤ 400 ∧ Mo.size ≤ 400 ∧ Fi.size ≤ 400 ∧ Rs.length ≤ 400 ∧ ∀ s ∈ Rs, s.size ≤ 5 := by
 have F := h.enc.fm
 have hf := F.few
 have s1 := size_L Lt
 have s2 := size_L Mo
 have s3 := size_L Fi
 have h1 := F.ln
 have h2 := F.mn
 have h3 := F.fn
 refine ⟨by omega, by omega, by omega, by have := F.rs; omega, fun s hs => ?_⟩
 have hm : L s ∈ encR keep (lvls K) := by
  rw [← h.enc.r]
  exact LL_mem hs
 have hl := encR_len h.kp _ hm
 rw [size_L]
 exact hl
theorem sieve71_ev {b : List Int} (hb : By b) (p : Int) (h0 : 0 ≤ p) (h1 : p ≤ 1000) :
  ∃ (Lt Mo Fi : ByteArray) (Rs : List ByteArray) (a : Int) (s : List ByteArray) (q : Int), Ev (fun k => spec_l71Sieve.f k b p) (Lt, Mo, Fi, Rs, a, s, q) ∧ (Lt.size ≤ 400 ∧ Mo.size ≤ 400 ∧ Fi.size ≤ 400 ∧ Rs.length ≤ 400 ∧ ∀ s ∈ Rs, s.size ≤ 5) ∧ (∀ x ∈ s, KOk (L x)) ∧ s.length ≤ 12 ∧ p ≤ q ∧ q ≤ p + 1100 := by
 obtain ⟨s, q, hs, ks, ns, q0, q1⟩ := keys_ev hb p h0 (by omega) 12 (by omega)
 obtain ⟨i, hi, i0, i1, _⟩ := pick_ev hb q (by omega) (by omega) 6 (by omega)
 have i1 := i1 (by omega)
 have hz : SzL s := szl_of (sok_short ks) (by omega)
 have hK : KsOk (LL s) := ⟨ks.ok, ks.sorted, by rw [LL_length]; omega⟩
 obtain ⟨j, rfl⟩ : ∃ j : Nat, i = (j : Int) := ⟨i.toNat, by omega⟩
 obtain ⟨keep, hk5, hk⟩ : ∃ keep : Nat, keep ≤ 5 ∧ rd [0, 0, 1, 1, 2, 5] (j : Int) = (keep : Int) := by
  have hj : j < 6 := by omega
  match j, hj with
  | 0, _ => exact ⟨0, by omega, rfl⟩
  | 1, _ => exact ⟨0, by omega, rfl⟩
  | 2, _ => exact ⟨1, by omega, rfl⟩
  | 3, _ => exact ⟨1, by omega, rfl⟩
  | 4, _ => exact ⟨2, by omega, rfl⟩
  | 5, _ => exact ⟨5, by omega, rfl⟩
 obtain ⟨Lt, Mo, Fi, Rs, hv, hI⟩ := sieveV_yes hK keep hk5
 have so := spec_SieveOf_ev s hz (keep : Int)
 rw [hv, ← hk] at so
 refine ⟨Lt, Mo, Fi, Rs, (keep : Int), s, q + 1, ?_, is_small hI, fun x hx => ks.ok _ (LL_mem hx), ns, by omega, by omega⟩
 unfold spec_l71Sieve.f
 rw [← hk]
 exact Ev.bind hs (ev_bindc rfl (Ev.bind hi (ev_pos i0 (ev_pos (by simpa using i1) (Ev.bind so (ev_some rfl))))))
theorem bent_ev {b : List Int} (hb : By b) (p : Int) (h0 : 0 ≤ p) (h1 : p ≤ 1000) :
  ∃ (Lt Mo Fi : ByteArray) (Rs : List ByteArray) (a : Int) (s : List ByteArray) (q : Int), Ev (fun k => spec_l71Bent.f k b p) (Lt, Mo, Fi, Rs, a, s, q) ∧ SvS Lt Mo Fi Rs ∧ (∀ x ∈ s, KOk (L x)) ∧ s.length ≤ 12 ∧ p ≤ q ∧ q ≤ p + 1200 := by
 obtain ⟨Lt, Mo, Fi, Rs, a, s, q, hs, ⟨z1, z2, z3, z4, z5⟩, hk, hn, q0, q1⟩ := sieve71_ev hb p h0 h1
 have z5' : ∀ s ∈ Rs, s.size ≤ 1000 := fun s hs => by have := z5 s hs; omega
 obtain ⟨m, hm, m0, m1, _⟩ := pick_ev hb q (by omega) (by omega) 10 (by omega)
 unfold spec_l71Bent.f
 by_cases c : m > 0
 ·exact ⟨Lt, Mo, Fi, Rs, a, s, q + 1, Ev.bind hs (Ev.bind hm (ev_pos c (ev_some rfl))), ⟨by omega, by omega, by omega, by omega, z5'⟩, hk, hn, by omega, by omega⟩
 ·obtain ⟨m', hm', _, _, _⟩ := pick_ev hb (q + 1) (by omega) (by omega) 7 (by omega)
  have one : ∀ x : UInt8, (⟨#[x]⟩ : ByteArray).size = 1 := fun _ => rfl
  by_cases d0 : m' = 0
  ·exact ⟨Lt ++ (⟨#[97]⟩ : ByteArray), Mo, Fi, Rs, a, s, q + 1 + 1, Ev.bind hs (Ev.bind hm (ev_neg c (Ev.bind hm' (ev_pos d0 (ev_pos (by simp only []; omega) (ev_some rfl)))))), ⟨by rw [ByteArray.size_append, one]; omega, by omega, by omega, by omega, z5'⟩, hk, hn, by omega, by omega⟩
  by_cases d1 : m' = 1
  ·exact ⟨Lt, Mo ++ (⟨#[49]⟩ : ByteArray), Fi, Rs, a, s, q + 1 + 1, Ev.bind hs (Ev.bind hm (ev_neg c (Ev.bind hm' (ev_neg d0 (ev_pos d1 (ev_pos (by simp only []; omega) (ev_some rfl))))))), ⟨by omega, by rw [ByteArray.size_append, one]; omega, by omega, by omega, z5'⟩, hk, hn, by omega, by omega⟩
  by_cases d2 : m' = 2
  ·exact ⟨Lt, Mo, (⟨#[49]⟩ : ByteArray) ++ Fi, Rs, a, s, q + 1 + 1, Ev.bind hs (Ev.bind hm (ev_neg c (Ev.bind hm' (ev_neg d0 (ev_neg d1 (ev_pos d2 (ev_pos (by simp only []; omega) (ev_some rfl)))))))), ⟨by omega, by omega, by rw [ByteArray.size_append, one]; omega, by omega, z5'⟩, hk, hn, by omega, by omega⟩
  by_cases d3 : m' = 3
  ·refine ⟨Lt, Mo, Fi, Rs ++ [(⟨#[]⟩ : ByteArray)], a, s, q + 1 + 1, Ev.bind hs (Ev.bind hm (ev_neg c (Ev.bind hm' (ev_neg d0 (ev_neg d1 (ev_neg d2 (ev_pos d3 (ev_pos (by simp only []; omega) (ev_some rfl))))))))), ⟨by omega, by omega, by omega, by simp; omega, fun t ht => ?_⟩, hk, hn, by omega, by omega⟩
   rcases List.mem_append.1 ht with g | g
   ·exact z5' t g
   ·have : t = (⟨#[]⟩ : ByteArray) := by simpa using g
    subst this
    show 0 ≤ 1000
    omega
  by_cases d4 : m' = 4
  ·obtain ⟨m2, hm2, g0, g1, _⟩ := pick_ev hb (q + 1 + 1) (by omega) (by omega) 3 (by omega)
   have g1 := g1 (by omega)
   exact ⟨Lt, Mo, Fi, Rs, rd [(-1), 6, 3] m2, s, q + 1 + 1 + 1, Ev.bind hs (Ev.bind hm (ev_neg c (Ev.bind hm' (ev_neg d0 (ev_neg d1 (ev_neg d2 (ev_neg d3 (ev_pos d4 (ev_bindc rfl (Ev.bind hm2 (ev_pos g0 (ev_pos (by simpa using g1) (ev_some rfl))))))))))))), ⟨by omega, by omega, by omega, by omega, z5'⟩, hk, hn, by omega, by omega⟩
  by_cases d5 : m' = 5
  ·exact ⟨(⟨#[97, 98]⟩ : ByteArray), (⟨#[49, 49]⟩ : ByteArray), (⟨#[49, 49]⟩ : ByteArray), [], 1, s, q + 1 + 1, Ev.bind hs (Ev.bind hm (ev_neg c (Ev.bind hm' (ev_neg d0 (ev_neg d1 (ev_neg d2 (ev_neg d3 (ev_neg d4 (ev_pos d5 (ev_some rfl)))))))))), ⟨by decide, by decide, by decide, by simp, by simp⟩, hk, hn, by omega, by omega⟩
  by_cases d6 : (Rs.length : Int) > 0
  ·have hr : (rdOf ByteArray.empty Rs 0).size ≤ 5 := by
    show (Rs.getD 0 ByteArray.empty).size ≤ 5
    rw [getD_lt _ (show 0 < Rs.length by omega)]
    exact z5 _ (List.getElem_mem _)
   have four : (⟨#[97, 97, 97, 97]⟩ : ByteArray).size = 4 := rfl
   refine ⟨Lt, Mo, Fi, Rs.set 0 (rdOf ByteArray.empty Rs 0 ++ (⟨#[97, 97, 97, 97]⟩ : ByteArray)), a, s, q + 1 + 1, Ev.bind hs (Ev.bind hm (ev_neg c (Ev.bind hm' (ev_neg d0 (ev_neg d1 (ev_neg d2 (ev_neg d3 (ev_neg d4 (ev_neg d5 (ev_pos d6 (ev_pos (by simp only []; omega) (ev_pos (by simp only []; omega) (ev_some rfl))))))))))))), ⟨by omega, by omega, by omega, by rw [List.length_set]; omega, fun t ht => ?_⟩, hk, hn, by omega, by omega⟩
   rcases List.mem_or_eq_of_mem_set ht with g | g
   ·exact z5' t g
   ·rw [g, ByteArray.size_append, four]; omega
  ·exact ⟨Lt, Mo, Fi, Rs, a, s, q + 1 + 1, Ev.bind hs (Ev.bind hm (ev_neg c (Ev.bind hm' (ev_neg d0 (ev_neg d1 (ev_neg d2 (ev_neg d3 (ev_neg d4 (ev_neg d5 (ev_neg d6 (ev_some rfl))))))))))), ⟨by omega, by omega, by omega, by omega, z5'⟩, hk, hn, by omega, by omega⟩
section
variable (l0 : List Int) (hl : l0.length ≤ maxLen) (hw : ∀ x ∈ l0, (Lit.int .u8 x).wf = true)
include hl hw
theorem DrawSieveMeets_ev : ∃ Lt Mo Fi Rs a x y, Ev (fun k => spec_DrawSieveMeets.f k l0) (Lt, Mo, Fi, Rs, a, x, y) ∧ SvS Lt Mo Fi Rs ∧ KOk (L x) ∧ KOk (L y) := by
 obtain ⟨b, ho, hb⟩ := open_ev l0 hl hw
 obtain ⟨Lt, Mo, Fi, Rs, a, s, q, hs, hz, hk, hn, q0, q1⟩ := bent_ev hb 0 (by omega) (by omega)
 obtain ⟨x, q', hx, kx, r0, r1⟩ := near_ev hb q (by omega) (by omega) s (by omega) hk
 obtain ⟨y, q2, hy, ky, s0, s1⟩ := near_ev hb q' (by omega) (by omega) s (by omega) hk
 obtain ⟨m, hm, m0, m1, _⟩ := pick_ev hb q2 (by omega) (by omega) 8 (by omega)
 unfold spec_DrawSieveMeets.f
 by_cases c : Op.bytesLess y.toList x.toList = true
 ·by_cases d : m > 0
  ·exact ⟨Lt, Mo, Fi, Rs, a, y, x, ev_bindc ho (Ev.bind hs (Ev.bind hx (Ev.bind hy (ev_pos c (Ev.bind hm (ev_pos d (ev_some rfl))))))), hz, ky, kx⟩
  ·exact ⟨Lt, Mo, Fi, Rs, a, x, y, ev_bindc ho (Ev.bind hs (Ev.bind hx (Ev.bind hy (ev_pos c (Ev.bind hm (ev_neg d (ev_some rfl))))))), hz, kx, ky⟩
 ·exact ⟨Lt, Mo, Fi, Rs, a, x, y, ev_bindc ho (Ev.bind hs (Ev.bind hx (Ev.bind hy (ev_neg c (ev_some rfl))))), hz, kx, ky⟩
end
end Go.Proofs.Ytifgcajpkgamgaa.Pb
end
section
set_option linter.unusedVariables false
set_option linter.unusedSimpArgs false
namespace Go.Proofs.Ytifgcajpkgamgaa.Pure
open Go Go.RowKit Go.Proofs.YtifgcajpkgamgaaW.PrintWords Go.Proofs.YtifgcajpkgamgaaW.PrintLast Go.Proofs.YtifgcajpkgamgaaW.PrintMore Go.Proofs.Ytifgcajpkgamgaa.Trie Go.Proofs.Ytifgcajpkgamgaa.Q Go.Proofs.Ytifgcajpkgamgaa.Pb
theorem meets_l0 (l : List ByteArray) (keep : Nat) {Lt Mo Fi : ByteArray} {Rs : List ByteArray} (h : Is (LL l) keep Lt Mo Fi Rs) (x y : ByteArray) (kx : KOk (L x)) (ky : KOk (L y)) (d : Nat) : ∀ i : Nat, i ≤ l.length → l.length - i = d →
  Ev (fun k => laws_FnSieveMeets.l0 k l x y (meetsW (LL l) keep (L x) (L y)) (i : Int) Lt Mo Fi Rs (keep : Int)) true := by
 have hn : l.length ≤ 24 := by have := h.ok.few; rwa [LL_length] at this
 have hok := spec_ok_yes (is_sz h) h
 induction d with
 | zero =>
  intro i h1 h2
  refine ev_succ ?_
  simp only [laws_FnSieveMeets.l0]
  exact ev_neg (by omega) (Ev.bind (spec_meets_yes h hok x y (kok_size kx) (kok_size ky)) (ev_some (by simp)))
 | succ d ih =>
  intro i h1 h2
  have ih := ih (i + 1) (by omega) (by omega)
  refine ev_succ ?_
  simp only [laws_FnSieveMeets.l0]
  have hw : ∀ _ : Unit, wrap64 ((i : Int) + 1) = ((i + 1 : Nat) : Int) := fun _ => by rw [w64 (by omega) (by omega)]; omega
  rw [hw ()]
  have hm : L (rdOf ByteArray.empty l (i : Int)) ∈ LL l := by
   show L (l.getD i ByteArray.empty) ∈ LL l
   rw [getD_lt _ (show i < l.length by omega)]
   exact LL_mem (List.getElem_mem _)
  refine ev_pos (by omega) (ev_pos (by omega) ?_)
  by_cases c1 : Op.bytesLess (rdOf ByteArray.empty l (i : Int)).toList x.toList = true
  ·exact ev_pos c1 ih
  ·refine ev_neg c1 ?_
   by_cases c2 : Op.bytesLess y.toList (rdOf ByteArray.empty l (i : Int)).toList = true
   ·exact ev_pos c2 ih
   ·exact ev_neg c2 (ev_pos (meets_of_has h.ok (has_self h.ok.ok hm) kx ky (fun z => c1 ((less_iff _ _).2 z)) (fun z => c2 ((less_iff _ _).2 z))) ih)
theorem FnSieveMeets : laws_FnSieveMeets.Pure := by
 intro l0 l1 hl _ hw hl' _ hw'
 refine Ev.rounds ?_
 unfold laws_FnSieveMeets.f
 have go : Ev (fun k => laws_FnSieveMeets.j0 k l0 l1 false) true := by
  obtain ⟨s, a, hd, hz, hn⟩ := DrawSieveOf_ev l0 hl hw
  obtain ⟨Lt', Mo', Fi', Rs', a', x, y, hx, _, kx, ky⟩ := DrawSieveMeets_ev l1 hl' hw'
  have i1 := spec_SieveOf_ev s hz a
  have i2 := impl_SieveOf_ev s hz a
  have hf := sieveV_few (LL s) a
  have lt := ltSieve_ev (sieveV (LL s) a) hf
  refine ev_succ ?_
  simp only [laws_FnSieveMeets.j0]
  refine ev_neg (by simp) (Ev.bind hd (Ev.bind hx (Ev.bind i1 (Ev.bind i2 (ev_neg (by simp) (Ev.bind lt (ev_pos rfl (ev_succ ?_))))))))
  simp only [laws_FnSieveMeets.j1]
  rcases sieveV_cases (LL s) a with ⟨h1, _⟩ | ⟨keep, Lt, Mo, Fi, Rs, e, h1, hI⟩
  ·rw [h1]
   exact ev_pos (by simp) (ev_pos (by simp) (Ev.bind lt (ev_some rfl)))
  ·rw [h1]
   have hh := heads_of hI
   have hK := hI.ok.ok
   have hle := LL_length s
   have hfew := hI.ok.few
   have sx := kok_size kx
   exact ev_neg (by simp) (Ev.bind (impl_meets_yes hI hh x y (kok_size kx) (kok_size ky)) (meets_l0 s keep hI x y kx ky s.length 0 (Nat.zero_le _) rfl))
 have stop : Ev (fun k => laws_FnSieveMeets.j0 k l0 l1 true) true := by
  refine ev_succ ?_
  simp only [laws_FnSieveMeets.j0]
  exact ev_pos (by simp) (ev_some rfl)
 by_cases c : (l0.length : Int) > 1048576
 ·exact ev_pos c stop
 ·refine ev_neg c ?_
  by_cases c' : (l1.length : Int) > 1048576
  ·rw [decide_eq_true c']; exact stop
  ·rw [decide_eq_false c']; exact go
end Go.Proofs.Ytifgcajpkgamgaa.Pure
end
