/- What the law FnKeysOk needs, part 3: the kit's printed words, the printed functions with their proofs, and plain facts on them. -/
import Derived.SizedLaws
import Derived.ChangeSlices
import Derived.Test.YtonagfbadoacjaaBFnKeysOkb
section
namespace Go.Proofs.Ytonagfbadoacjaa.Trie
abbrev Part := Key × Bool
noncomputable def part (K : List Key) (keep : Nat) (k : Key) : Part := (hd K keep k, cpl K keep k)
def may (p : Part) (q : Key) : Bool := if p.2 then q == p.1 else p.1.isPrefixOf q
def atb (p : Part) (q : Key) : Bool := (!decide (p.1 < q)) || (!p.2 && p.1.isPrefixOf q)
theorem prefix_take {k : Key} (n : Nat) : (k.take n) <+: k := List.take_prefix _ _
theorem cpl_iff {K : List Key} {keep : Nat} {k : Key} : cpl K keep k = true ↔ k.length < dep K k + 1 + keep := by simp [cpl]
theorem hd_cpl {K : List Key} {keep : Nat} {k : Key} (h : cpl K keep k = true) : hd K keep k = k := by
  have := cpl_iff.1 h
  exact List.take_of_length_le (by omega)
theorem hd_prefix (K : List Key) (keep : Nat) (k : Key) : hd K keep k <+: k := prefix_take _
theorem may_iff {p : Part} {q : Key} : may p q = true ↔ (p.2 = true ∧ q = p.1) ∨ (p.2 = false ∧ p.1 <+: q) := by
  unfold may
  cases p.2 <;> simp
theorem atb_iff {p : Part} {q : Key} : atb p q = true ↔ ¬ p.1 < q ∨ (p.2 = false ∧ p.1 <+: q) := by
  unfold atb
  cases p.2 <;> simp
theorem prefix_lab {a b : Key} (h : a <+: b) {e : Nat} (he : e < a.length) : lab a e = lab b e := by
  obtain ⟨t, rfl⟩ := h
  rw [lab_lt he, lab_lt (by rw [List.length_append]; omega), List.getElem_append_left he]
theorem may_lab {K : List Key} {keep : Nat} {k q : Key} (h : may (part K keep k) q = true) : ∀ e, e ≤ dep K k → lab q e = lab k e := by
  intro e he
  rcases may_iff.1 h with ⟨h1, h2⟩ | ⟨h1, h2⟩
  · have : hd K keep k = k := hd_cpl h1
    rw [show q = k from h2.trans this]
  · have h3 : ¬ k.length < dep K k + 1 + keep := fun hh => by
      have := cpl_iff.2 hh
      rw [show cpl K keep k = false from h1] at this
      cases this
    have h4 : (hd K keep k).length = dep K k + 1 + keep := by unfold hd; rw [List.length_take]; omega
    have h5 := prefix_lab (show hd K keep k <+: q from h2) (e := e) (by omega)
    rw [← h5, hd_lab keep he]
theorem self_split {q : Key} (hq : KOk q) {d : Nat} (hd : d ≤ q.length) : q.take d ++ (if lab q d = 45 then [] else [lab q d]) ++ q.drop (d + 1) = q := by
  have := leaf_head hq hd q.length
  rw [List.take_of_length_le (l := q.drop (d + 1)) (by rw [List.length_drop]; omega), List.take_of_length_le (l := q) (i := d + 1 + q.length) (by omega)] at this
  exact this
theorem leaf_may {K : List Key} (hK : ∀ k ∈ K, KOk k) (keep : Nat) {k q : Key} (hk : KOk k) (hq : KOk q) (hs : same (dep K k) q k) (hl : lab q (dep K k) = lab k (dep K k)) :
    may (part K keep k) q = (if cpl K keep k then q.drop (dep K k + 1) == (k.drop (dep K k + 1)).take keep else ((k.drop (dep K k + 1)).take keep).isPrefixOf (q.drop (dep K k + 1))) := by
  have hdk := dep_le hK hk
  have hdq : dep K k ≤ q.length := same_len hk hq hs.symm hdk
  have e1 := leaf_head hk hdk keep
  have e2 := self_split hq hdq
  have e3 := same_take hq hk hs
  rw [hl, e3] at e2
  generalize hA : k.take (dep K k) ++ (if lab k (dep K k) = 45 then [] else [lab k (dep K k)]) = A at e1 e2
  have e1' : hd K keep k = A ++ (k.drop (dep K k + 1)).take keep := e1.symm
  unfold may part
  simp only
  rw [e1']
  cases cpl K keep k
  · simp only [Bool.false_eq_true, if_false]
    rw [Bool.eq_iff_iff, List.isPrefixOf_iff_prefix, List.isPrefixOf_iff_prefix]
    conv => lhs; rw [← e2]
    exact List.prefix_append_right_inj A
  · simp only [if_true]
    rw [Bool.eq_iff_iff, beq_iff_eq, beq_iff_eq]
    conv => lhs; lhs; rw [← e2]
    exact ⟨fun h => List.append_cancel_left h, fun h => by rw [h]⟩
theorem prefix_not_lt : ∀ {a b : Key}, a <+: b → ¬ b < a := by
  intro a
  induction a with
  | nil => intro b _; exact List.not_lt_nil _
  | cons c a ih =>
    intro b h
    cases b with
    | nil => simp at h
    | cons c' b =>
      rw [List.cons_prefix_cons] at h
      intro hlt
      rcases List.cons_lt_cons_iff.1 hlt with q | ⟨_, q⟩
      · rw [h.1] at q
        have := UInt8.lt_iff_toNat_lt.1 q
        omega
      · exact ih h.2 q
theorem lt_prefix_or : ∀ {p a k : Key}, p <+: k → p < a → ¬ k < a → p <+: a := by
  intro p
  induction p with
  | nil => intro a k _ _ _; simp
  | cons c p ih =>
    intro a k h hlt hle
    cases k with
    | nil => simp at h
    | cons c' k =>
      rw [List.cons_prefix_cons] at h
      cases a with
      | nil => exact absurd hlt (List.not_lt_nil _)
      | cons d a =>
        rcases List.cons_lt_cons_iff.1 hlt with q | ⟨q1, q2⟩
        · exact absurd (List.cons_lt_cons_iff.2 (.inl (h.1 ▸ q))) hle
        · subst q1
          rw [List.cons_prefix_cons]
          refine ⟨rfl, ih h.2 q2 (fun q => hle (List.cons_lt_cons_iff.2 (.inr ⟨h.1.symm, q⟩)))⟩
theorem key_le_total (a b : Key) : a < b ∨ a = b ∨ b < a := by
  induction a generalizing b with
  | nil =>
    cases b with
    | nil => exact .inr (.inl rfl)
    | cons c b => exact .inl (List.nil_lt_cons _ _)
  | cons c a ih =>
    cases b with
    | nil => exact .inr (.inr (List.nil_lt_cons _ _))
    | cons d b =>
      rcases Nat.lt_trichotomy c.toNat d.toNat with h | h | h
      · exact .inl (List.cons_lt_cons_iff.2 (.inl (UInt8.lt_iff_toNat_lt.2 h)))
      · have hcd := UInt8.toNat_inj.1 h
        rcases ih b with q | q | q
        · exact .inl (List.cons_lt_cons_iff.2 (.inr ⟨hcd, q⟩))
        · exact .inr (.inl (by rw [hcd, q]))
        · exact .inr (.inr (List.cons_lt_cons_iff.2 (.inr ⟨hcd.symm, q⟩)))
      · exact .inr (.inr (List.cons_lt_cons_iff.2 (.inl (UInt8.lt_iff_toNat_lt.2 h))))
theorem le_trans' {a b c : Key} (h : ¬ b < a) (g : ¬ c < b) : ¬ c < a := by
  intro q
  rcases key_le_total b c with r | r | r
  · exact h (key_trans r q)
  · subst r; exact h q
  · exact g r
theorem lt_of_le_of_lt' {a b c : Key} (h : ¬ b < a) (g : b < c) : a < c := by
  rcases key_le_total a b with r | r | r
  · exact key_trans r g
  · subst r; exact g
  · exact absurd r h
theorem le_of_lt' {a b : Key} (h : a < b) : ¬ b < a := key_asymm h
theorem find_first {l : List Part} (hs : l.Pairwise (fun a b => a.1 < b.1)) {p : Part → Bool} {x y : Part} (hx : l.find? p = some x) (hy : y ∈ l) (hp : p y = true) : ¬ y.1 < x.1 := by
  rw [List.find?_eq_some_iff_append] at hx
  obtain ⟨_, as, bs, rfl, h3⟩ := hx
  rcases List.mem_append.1 hy with h | h
  · have := h3 y h
    rw [hp] at this
    cases this
  · rcases List.mem_cons.1 h with h | h
    · subst h; exact key_irrefl _
    · have := (List.pairwise_cons.1 (List.pairwise_append.1 hs).2.1).1 y h
      exact key_asymm this
def meetsB (l : List Part) (a b : Key) : Prop := ∃ p ∈ l, atb p a = true ∧ ¬ b < p.1
theorem meets_find {l : List Part} (hs : l.Pairwise (fun a b => a.1 < b.1)) (a b : Key) : (∃ x, l.find? (fun p => atb p a) = some x ∧ ¬ b < x.1) ↔ meetsB l a b := by
  constructor
  · rintro ⟨x, hx, hb⟩
    exact ⟨x, List.mem_of_find?_eq_some hx, List.find?_some (p := fun p => atb p a) hx, hb⟩
  · rintro ⟨p, hp, ha, hb⟩
    cases hf : l.find? (fun p => atb p a) with
    | none =>
      have := List.find?_eq_none.1 hf p hp
      exact absurd ha this
    | some x =>
      exact ⟨x, rfl, le_trans' (find_first hs hf hp ha) hb⟩
theorem may_atb {p : Part} {q : Key} (h : may p q = true) : atb p q = true ∧ ¬ q < p.1 := by
  rcases may_iff.1 h with ⟨_, rfl⟩ | ⟨h1, h2⟩
  · exact ⟨atb_iff.2 (.inl (key_irrefl _)), key_irrefl _⟩
  · exact ⟨atb_iff.2 (.inr ⟨h1, h2⟩), prefix_not_lt h2⟩
theorem atb_down {p : Part} {a k : Key} (h : atb p k = true) (hle : ¬ k < a) : atb p a = true := by
  rcases atb_iff.1 h with h1 | ⟨h1, h2⟩
  · exact atb_iff.2 (.inl (fun q => h1 (by
      rcases key_le_total a k with r | r | r
      · exact key_trans q r
      · exact r ▸ q
      · exact absurd r hle)))
  · by_cases q : p.1 < a
    · exact atb_iff.2 (.inr ⟨h1, lt_prefix_or h2 q hle⟩)
    · exact atb_iff.2 (.inl q)
theorem meets_wider {l : List Part} {a b a' b' : Key} (h : meetsB l a b) (ha : ¬ a < a') (hb : ¬ b' < b) : meetsB l a' b' := by
  obtain ⟨p, hp, h1, h2⟩ := h
  exact ⟨p, hp, atb_down h1 ha, le_trans' h2 hb⟩
theorem meets_of_may {l : List Part} {a b k : Key} (h : ∃ p ∈ l, may p k = true) (ha : ¬ k < a) (hb : ¬ b < k) : meetsB l a b := by
  obtain ⟨p, hp, h1⟩ := h
  obtain ⟨h2, h3⟩ := may_atb h1
  exact ⟨p, hp, atb_down h2 ha, le_trans' h3 hb⟩
theorem part_may (K : List Key) (keep : Nat) (k : Key) : may (part K keep k) k = true := by
  rw [may_iff]
  by_cases h : cpl K keep k = true
  · exact .inl ⟨h, (hd_cpl h).symm⟩
  · exact .inr ⟨Bool.eq_false_iff.2 h, hd_prefix _ _ _⟩
theorem may_keep {K : List Key} {keep : Nat} {k q : Key} (h : may (part K (keep + 1) k) q = true) : may (part K keep k) q = true := by
  have hp : hd K keep k <+: hd K (keep + 1) k := List.take_prefix_take_left (by omega)
  rcases may_iff.1 h with ⟨h1, h2⟩ | ⟨h1, h2⟩
  · have e : hd K (keep + 1) k = k := hd_cpl h1
    have e2 : q = k := h2.trans e
    rw [e2]
    exact part_may K keep k
  · refine may_iff.2 (.inr ⟨?_, List.IsPrefix.trans hp h2⟩)
    have h3 : ¬ k.length < dep K k + 1 + (keep + 1) := fun hh => by
      have := cpl_iff.2 hh
      rw [show cpl K (keep + 1) k = false from h1] at this
      cases this
    show cpl K keep k = false
    by_cases q2 : cpl K keep k = true
    · have := cpl_iff.1 q2; omega
    · simpa using q2
theorem part_whole {K : List Key} {k : Key} (hk : KOk k) : part K 5 k = (k, true) := by
  have h : cpl K 5 k = true := cpl_iff.2 (by have := hk.len; omega)
  unfold part
  rw [h, hd_cpl h]
theorem hd_apart {K : List Key} (hK : ∀ k ∈ K, KOk k) (keep : Nat) {k k' : Key} (hk : k ∈ K) (hk' : k' ∈ K) (hne : k' ≠ k) (hh : k ≠ hd K keep k) : ¬ hd K keep k <+: k' := by
  intro hp
  have h1 : ¬ cpl K keep k = true := fun q => hh (hd_cpl q).symm
  have h2 : may (part K keep k) k' = true := may_iff.2 (.inr ⟨Bool.eq_false_iff.2 h1, hp⟩)
  have h3 := may_lab h2
  obtain ⟨e, he, _, hs, hl⟩ := part_of hK hk hk' (Ne.symm hne)
  exact hl (h3 e he).symm
theorem parts_sorted {K : List Key} (hK : ∀ k ∈ K, KOk k) (hs : K.Pairwise (· < ·)) (keep : Nat) : (K.map (part K keep)).Pairwise (fun a b => a.1 < b.1) :=
  List.pairwise_map.2 (hs.imp_of_mem (fun ha hb hab => hd_lt hK keep ha hb hab))
end Go.Proofs.Ytonagfbadoacjaa.Trie
end
section
namespace Go.Proofs.Ytonagfbadoacjaa.Trie
def psum (g : Nat → Nat) : Nat → Nat
  | 0 => 0
  | t + 1 => psum g t + g t
theorem psum_mono (g : Nat → Nat) {a b : Nat} (h : a ≤ b) : psum g a ≤ psum g b := by
  obtain ⟨d, rfl⟩ : ∃ d, b = a + d := ⟨b - a, by omega⟩
  induction d with
  | zero => exact Nat.le_refl _
  | succ d ih =>
    have := ih (by omega)
    show psum g a ≤ psum g (a + d) + g (a + d)
    omega
def rsum (g : Nat → Nat) (a b : Nat) : Nat := psum g b - psum g a
theorem rsum_step (g : Nat → Nat) {a b : Nat} (h : a < b) : rsum g a b = g a + rsum g (a + 1) b := by
  unfold rsum
  have h1 : psum g (a + 1) = psum g a + g a := rfl
  have h2 := psum_mono g (show a + 1 ≤ b from h)
  omega
theorem rsum_le (g : Nat → Nat) {a b n : Nat} (h : b ≤ n) : rsum g a b ≤ psum g n := by
  unfold rsum
  have := psum_mono g h
  omega
theorem pos_mono : ∀ (l : List UInt8) {m m' : Nat}, m ≤ m' → pos l m ≤ pos l m' := by
  intro l
  induction l with
  | nil => intro m m' _; simp [pos]
  | cons c l ih =>
    intro m m' h
    unfold pos
    split
    · by_cases q : m = 0
      · rw [if_pos q]; omega
      · rw [if_neg q, if_neg (by omega)]
        have := ih (show m - 1 ≤ m' - 1 by omega)
        omega
    · have := ih h
      omega
def onesB (M : List UInt8) (i : Nat) : Nat := (M.take i).countP (· == 49)
theorem onesB_succ (M : List UInt8) {i : Nat} (h : i < M.length) : onesB M (i + 1) = onesB M i + (if M[i] = 49 then 1 else 0) := by
  unfold onesB
  rw [List.take_succ_eq_append_getElem h, List.countP_append, List.countP_singleton]
  simp
def wgt (M F : List UInt8) : Nat → Nat → Nat
  | 0, _ => 0
  | f + 1, i => if M.getD i 0 = 49 then rsum (wgt M F f) (pos F (onesB M (i + 1))) (pos F (onesB M (i + 1) + 1)) else 1
theorem wgt_sum (M F : List UInt8) (f : Nat) : ∀ t, t ≤ M.length → psum (wgt M F (f + 1)) t ≤ t + psum (wgt M F f) (pos F (onesB M t + 1)) := by
  intro t
  induction t with
  | zero => intro _; simp [psum]
  | succ t ih =>
    intro ht
    have h1 := ih (by omega)
    have h2 := onesB_succ M (show t < M.length by omega)
    have h3 : M.getD t 0 = M[t] := by simp [List.getD_eq_getElem?_getD, List.getElem?_eq_getElem (show t < M.length by omega)]
    show psum (wgt M F (f + 1)) t + wgt M F (f + 1) t ≤ _
    have h4 : wgt M F (f + 1) t = if M.getD t 0 = 49 then rsum (wgt M F f) (pos F (onesB M (t + 1))) (pos F (onesB M (t + 1) + 1)) else 1 := rfl
    rw [h4, h3]
    by_cases q : M[t] = 49
    · rw [if_pos q] at h2 ⊢
      rw [h2]
      unfold rsum
      have h5 := psum_mono (wgt M F f) (pos_mono F (show onesB M t + 1 ≤ onesB M t + 1 + 1 by omega))
      omega
    · rw [if_neg q] at h2 ⊢
      rw [h2]
      simp only [Nat.add_zero]
      omega
theorem wgt_bound (M F : List UInt8) {n : Nat} (hM : M.length = n) (hF : F.length = n) : ∀ f, psum (wgt M F f) n ≤ f * n := by
  intro f
  induction f with
  | zero =>
    have : ∀ t, psum (wgt M F 0) t = 0 := by
      intro t
      induction t with
      | zero => rfl
      | succ t ih => show psum (wgt M F 0) t + 0 = 0; omega
    rw [this]; omega
  | succ f ih =>
    have h1 := wgt_sum M F f n (by omega)
    have h2 := psum_mono (wgt M F f) (show pos F (onesB M n + 1) ≤ n by have := pos_le F (onesB M n + 1); omega)
    rw [Nat.succ_mul]
    omega
theorem wgt_all (M F : List UInt8) {n : Nat} (hM : M.length = n) (hF : F.length = n) (f a b : Nat) (hb : b ≤ n) : rsum (wgt M F f) a b ≤ f * n :=
  Nat.le_trans (rsum_le _ hb) (wgt_bound M F hM hF f)
end Go.Proofs.Ytonagfbadoacjaa.Trie
end
section
-- PRINTED BY print.sh 35421559b90ae4d0a3588c463048766b98c2df88dd9212a6774a882060cdf62d: not written by this session
-- PRINTED WORDS (module Derived/Print/Sized.lean): go-gate-2's, for the rows of laws over slices: an AI agent of Go's test side, Tue Nov 17 2026; no person has read it. Lean checks it.
namespace Go.Proofs.YtonagfbadoacjaaW.PrintWords
open Go.ChangeShapes Go.WideShapes
theorem sized_ints {H : Type} {enc : TypeId × Value → H} {P : Program} {W : World} {base : Nat} {spare : Nat → Bool} {held : Bool} {t e : TypeId} {k : IntKind} {a : Option Addr} {len cap : Nat} {d : DataW H} {ps : List MemPlace} {ts : List TypeId} {ds : List (DataW H)} {j : Nat}
    (hsz : (DataW.weightsEach P ts ds).all (· ≤ reachBytes) = true) (ht : ts[j]? = some t) (hd : ds[j]? = some d) (hu : P.underlying t = some (.slice e)) (he : P.underlying e = some (.int k)) (hc : P.cellsOf e = 1) {B : Nat} (hB : P.bytesOf e = B)
    (h : DataW.Trod enc P W base spare held t (.slice a len cap) d ps) : len * B ≤ 140737488351232 := by
  obtain ⟨fuel, hf⟩ := h
  rcases open_ints hu he hc hf with ⟨hcs, _⟩ | ⟨x, l, c, zs, hcs, _, hl, _, hz, hx, _, _⟩
  · simp [Value.cells] at hcs
    obtain ⟨rfl, rfl, rfl⟩ := hcs
    simp
  · simp [Value.cells] at hcs
    obtain ⟨rfl, rfl, rfl⟩ := hcs
    obtain ⟨hx, _⟩ := Prod.mk.inj hx
    subst hx
    have z := sized_slice hsz ht hd hu
    rw [hB] at z
    have hl2 : len ≤ zs.length := by
      rw [hz]
      split
      · exact hl
      · exact Nat.le_refl _
    have h1 : (lits (H := H) k (zs.take len)).length + (lits (H := H) k (zs.drop len)).length = zs.length := by
      simp [lits]
      omega
    rw [h1] at z
    exact Nat.le_trans (Nat.mul_le_mul_right _ hl2) z
end Go.Proofs.YtonagfbadoacjaaW.PrintWords
end
