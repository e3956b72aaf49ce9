/- What the laws of the set SQ need: the kit's printed words, the printed functions with their proofs, and plain facts on them. -/
import Derived.Test.YtifgcajpkgamgaaBSQa
section
namespace Go.Proofs.Ytifgcajpkgamgaa.Trie
abbrev Part := Key × Bool
noncomputable def part (K : List Key) (keep : Nat) (k : Key) : Part := (hd K keep k, cpl K keep k)
def may (p : Part) (q : Key) : Bool := if p.2 then q == p.1 else p.1.isPrefixOf q
theorem prefix_take {k : Key} (n : Nat) : (k.take n) <+: k := List.take_prefix _ _
theorem cpl_iff {K : List Key} {keep : Nat} {k : Key} : cpl K keep k = true ↔ k.length < dep K k + 1 + keep := by simp [cpl]
theorem hd_cpl {K : List Key} {keep : Nat} {k : Key} (h : cpl K keep k = true) : hd K keep k = k := by
 have := cpl_iff.1 h
 exact List.take_of_length_le (by omega)
theorem hd_prefix (K : List Key) (keep : Nat) (k : Key) : hd K keep k <+: k := prefix_take _
theorem may_iff {p : Part} {q : Key} : may p q = true ↔ (p.2 = true ∧ q = p.1) ∨ (p.2 = false ∧ p.1 <+: q) := by
 unfold may
 cases p.2 <;> simp
theorem prefix_lab {a b : Key} (h : a <+: b) {e : Nat} (he : e < a.length) : lab a e = lab b e := by
 obtain ⟨t, rfl⟩ := h
 rw [lab_lt he, lab_lt (by rw [List.length_append]; omega), List.getElem_append_left he]
theorem may_lab {K : List Key} {keep : Nat} {k q : Key} (h : may (part K keep k) q = true) : ∀ e, e ≤ dep K k → lab q e = lab k e := by
 intro e he
 rcases may_iff.1 h with ⟨h1, h2⟩ | ⟨h1, h2⟩
 ·have : hd K keep k = k := hd_cpl h1
  rw [show q = k from h2.trans this]
 ·have h3 : ¬ k.length < dep K k + 1 + keep := fun hh => by
   have := cpl_iff.2 hh
   rw [show cpl K keep k = false from h1] at this
   cases this
  have h4 : (hd K keep k).length = dep K k + 1 + keep := by unfold hd; rw [List.length_take]; omega
  have h5 := prefix_lab (show hd K keep k <+: q from h2) (e := e) (by omega)
  rw [← h5, hd_lab keep he]
theorem self_split {q : Key} (hq : KOk q) {d : Nat} (hd : d ≤ q.length) : q.take d ++ (if lab q d = 45 then [] else [lab q d]) ++ q.drop (d + 1) = q := by
 have := leaf_head hq hd q.length
 rw [List.take_of_length_le (l := q.drop (d + 1)) (by rw [List.length_drop]; omega), List.take_of_length_le (l := q) (i := d + 1 + q.length) (by omega)] at this
 exact this
theorem leaf_may {K : List Key} (hK : ∀ k ∈ K, KOk k) (keep : Nat) {k q : Key} (hk : KOk k) (hq : KOk q) (hs : same (dep K k) q k) (hl : lab q (dep K k) = lab k (dep K k)) :
  may (part K keep k) q = (if cpl K keep k then q.drop (dep K k + 1) == (k.drop (dep K k + 1)).take keep else ((k.drop (dep K k + 1)).take keep).isPrefixOf (q.drop (dep K k + 1))) := by
 have hdk := dep_le hK hk
 have hdq : dep K k ≤ q.length := same_len hk hq hs.symm hdk
 have e1 := leaf_head hk hdk keep
 have e2 := self_split hq hdq
 have e3 := same_take hq hk hs
 rw [hl, e3] at e2
 generalize hA : k.take (dep K k) ++ (if lab k (dep K k) = 45 then [] else [lab k (dep K k)]) = A at e1 e2
 have e1' : hd K keep k = A ++ (k.drop (dep K k + 1)).take keep := e1.symm
 unfold may part
 simp only
 rw [e1']
 cases cpl K keep k
 ·simp only [Bool.false_eq_true, if_false]
  rw [Bool.eq_iff_iff, List.isPrefixOf_iff_prefix, List.isPrefixOf_iff_prefix]
  conv => lhs; rw [← e2]
  exact List.prefix_append_right_inj A
 ·simp only [if_true]
  rw [Bool.eq_iff_iff, beq_iff_eq, beq_iff_eq]
  conv => lhs; lhs; rw [← e2]
  exact ⟨fun h => List.append_cancel_left h, fun h => by rw [h]⟩
theorem key_le_total (a b : Key) : a < b ∨ a = b ∨ b < a := by
 induction a generalizing b with
 | nil =>
  cases b with
  | nil => exact .inr (.inl rfl)
  | cons c b => exact .inl (List.nil_lt_cons _ _)
 | cons c a ih =>
  cases b with
  | nil => exact .inr (.inr (List.nil_lt_cons _ _))
  | cons d b =>
   rcases Nat.lt_trichotomy c.toNat d.toNat with h | h | h
   ·exact .inl (List.cons_lt_cons_iff.2 (.inl (UInt8.lt_iff_toNat_lt.2 h)))
   ·have hcd := UInt8.toNat_inj.1 h
    rcases ih b with q | q | q
    ·exact .inl (List.cons_lt_cons_iff.2 (.inr ⟨hcd, q⟩))
    ·exact .inr (.inl (by rw [hcd, q]))
    ·exact .inr (.inr (List.cons_lt_cons_iff.2 (.inr ⟨hcd.symm, q⟩)))
   ·exact .inr (.inr (List.cons_lt_cons_iff.2 (.inl (UInt8.lt_iff_toNat_lt.2 h))))
theorem part_may (K : List Key) (keep : Nat) (k : Key) : may (part K keep k) k = true := by
 rw [may_iff]
 by_cases h : cpl K keep k = true
 ·exact .inl ⟨h, (hd_cpl h).symm⟩
 ·exact .inr ⟨Bool.eq_false_iff.2 h, hd_prefix _ _ _⟩
def psum (g : Nat → Nat) : Nat → Nat
 | 0 => 0
 | t + 1 => psum g t + g t
theorem psum_mono (g : Nat → Nat) {a b : Nat} (h : a ≤ b) : psum g a ≤ psum g b := by
 obtain ⟨d, rfl⟩ : ∃ d, b = a + d := ⟨b - a, by omega⟩
 induction d with
 | zero => exact Nat.le_refl _
 | succ d ih =>
  have := ih (by omega)
  show psum g a ≤ psum g (a + d) + g (a + d)
  omega
def rsum (g : Nat → Nat) (a b : Nat) : Nat := psum g b - psum g a
theorem rsum_step (g : Nat → Nat) {a b : Nat} (h : a < b) : rsum g a b = g a + rsum g (a + 1) b := by
 unfold rsum
 have h1 : psum g (a + 1) = psum g a + g a := rfl
 have h2 := psum_mono g (show a + 1 ≤ b from h)
 omega
theorem rsum_le (g : Nat → Nat) {a b n : Nat} (h : b ≤ n) : rsum g a b ≤ psum g n := by
 unfold rsum
 have := psum_mono g h
 omega
theorem pos_mono : ∀ (l : List UInt8) {m m' : Nat}, m ≤ m' → pos l m ≤ pos l m' := by
 intro l
 induction l with
 | nil => intro m m' _; simp [pos]
 | cons c l ih =>
  intro m m' h
  unfold pos
  split
  ·by_cases q : m = 0
   ·rw [if_pos q]; omega
   ·rw [if_neg q, if_neg (by omega)]
    have := ih (show m - 1 ≤ m' - 1 by omega)
    omega
  ·have := ih h
   omega
def onesB (M : List UInt8) (i : Nat) : Nat := (M.take i).countP (· == 49)
theorem onesB_succ (M : List UInt8) {i : Nat} (h : i < M.length) : onesB M (i + 1) = onesB M i + (if M[i] = 49 then 1 else 0) := by
 unfold onesB
 rw [List.take_succ_eq_append_getElem h, List.countP_append, List.countP_singleton]
 simp
def wgt (M F : List UInt8) : Nat → Nat → Nat
 | 0, _ => 0
 | f + 1, i => if M.getD i 0 = 49 then rsum (wgt M F f) (pos F (onesB M (i + 1))) (pos F (onesB M (i + 1) + 1)) else 1
theorem wgt_sum (M F : List UInt8) (f : Nat) : ∀ t, t ≤ M.length → psum (wgt M F (f + 1)) t ≤ t + psum (wgt M F f) (pos F (onesB M t + 1)) := by
 intro t
 induction t with
 | zero => intro _; simp [psum]
 | succ t ih =>
  intro ht
  have h1 := ih (by omega)
  have h2 := onesB_succ M (show t < M.length by omega)
  have h3 : M.getD t 0 = M[t] := by simp [List.getD_eq_getElem?_getD, List.getElem?_eq_getElem (show t < M.length by omega)]
  show psum (wgt M F (f + 1)) t + wgt M F (f + 1) t ≤ _
  have h4 : wgt M F (f + 1) t = if M.getD t 0 = 49 then rsum (wgt M F f) (pos F (onesB M (t + 1))) (pos F (onesB M (t + 1) + 1)) else 1 := rfl
  rw [h4, h3]
  by_cases q : M[t] = 49
  ·rw [if_pos q] at h2 ⊢
   rw [h2]
   unfold rsum
   have h5 := psum_mono (wgt M F f) (pos_mono F (show onesB M t + 1 ≤ onesB M t + 1 + 1 by omega))
   omega
  ·rw [if_neg q] at h2 ⊢
   rw [h2]
   simp only [Nat.add_zero]
   omega
theorem wgt_bound (M F : List UInt8) {n : Nat} (hM : M.length = n) (hF : F.length = n) : ∀ f, psum (wgt M F f) n ≤ f * n := by
 intro f
 induction f with
 | zero =>
  have : ∀ t, psum (wgt M F 0) t = 0 := by
   intro t
   induction t with
   | zero => rfl
   | succ t ih => show psum (wgt M F 0) t + 0 = 0; omega
  rw [this]; omega
 | succ f ih =>
  have h1 := wgt_sum M F f n (by omega)
  have h2 := psum_mono (wgt M F f) (show pos F (onesB M n + 1) ≤ n by have := pos_le F (onesB M n + 1); omega)
  rw [Nat.succ_mul]
  omega
theorem wgt_all (M F : List UInt8) {n : Nat} (hM : M.length = n) (hF : F.length = n) (f a b : Nat) (hb : b ≤ n) : rsum (wgt M F f) a b ≤ f * n :=
 Nat.le_trans (rsum_le _ hb) (wgt_bound M F hM hF f)
theorem bit_49 (b : Nd) : (bit b == 49) = cont b.1 := by
 unfold bit
 cases cont b.1 <;> rfl
theorem onesB_enc (X : List Nd) (i : Nat) : onesB (encM X) i = ((brs X).take i).countP (fun b => cont b.1) := by
 unfold onesB encM
 rw [← List.map_take, List.countP_map]
 apply List.countP_congr
 intro b _
 simp only [Function.comp, bit_49]
theorem leaf_count (l : List Nd) : l.length = l.countP (fun b => cont b.1) + l.countP leaf := by
 induction l with
 | nil => rfl
 | cons a l ih =>
  rw [List.length_cons, List.countP_cons, List.countP_cons, ih]
  unfold leaf
  cases cont a.1 <;> simp <;> omega
theorem zeros_enc (X : List Nd) {i : Nat} (hi : i ≤ (brs X).length) : i - onesB (encM X) i = ((brs X).take i).countP leaf := by
 have h := leaf_count ((brs X).take i)
 rw [← onesB_enc, List.length_take, Nat.min_eq_left hi] at h
 omega
theorem encM_at (X : List Nd) {i : Nat} {b : Nd} (h : (brs X)[i]? = some b) : (encM X).getD i 0 = bit b := by
 unfold encM
 rw [List.getD_eq_getElem?_getD, List.getElem?_map, h]; rfl
theorem encL_at (X : List Nd) {i : Nat} {b : Nd} (h : (brs X)[i]? = some b) : (encL X).getD i 0 = letter b := by
 unfold encL
 rw [List.getD_eq_getElem?_getD, List.getElem?_map, h]; rfl
theorem encR_at (keep : Nat) (X : List Nd) {i : Nat} {b : Nd} (h : (brs X)[i]? = some b) (hc : cont b.1 = false) : (encR keep X)[i - onesB (encM X) i]? = some (rest keep b) := by
 obtain ⟨hi, e⟩ := List.getElem?_eq_some_iff.1 h
 rw [zeros_enc X (by omega), rest_at keep X i hi (by rw [e]; exact hc), e]
theorem child_enc {root : Nd} {X : List Nd} (h : X = root :: X.flatMap conts) {i : Nat} {b : Nd} (hb : (brs X)[i]? = some b) (hc : cont b.1 = true) : X[onesB (encM X) (i + 1)]? = some (b.1, b.2 + 1) := by
 obtain ⟨hi, e⟩ := List.getElem?_eq_some_iff.1 hb
 rw [onesB_enc]
 have := child_at h i hi (by rw [e]; exact hc)
 rw [this, e]
structure Lvl (K : List Key) (X : List Nd) : Prop where
 keys : ∀ k ∈ K, KOk k
 sorted : K.Pairwise (· < ·)
 bfs : Bfs [(K, 0)] X
theorem Lvl.root {K : List Key} {X : List Nd} (h : Lvl K X) : NOk (K, 0) :=
 ⟨h.keys, h.sorted, fun _ _ _ _ => same_zero _ _, Nat.zero_le _⟩
theorem Lvl.rootIn {K : List Key} {X : List Nd} (_ : Lvl K X) : In K (K, 0) :=
 ⟨fun _ h => h, fun _ _ _ h _ => h, .inl rfl⟩
theorem Lvl.eq {K : List Key} {X : List Nd} (h : Lvl K X) : X = (K, 0) :: X.flatMap conts := h.bfs.eq
theorem Lvl.nodes {K : List Key} {X : List Nd} (h : Lvl K X) : Nodes K X :=
 h.bfs.all (P := fun x => In K x ∧ NOk x) (fun _ hx _ hy => ⟨hx.1.conts hx.2 hy, (hx.2.conts hy).1⟩) (fun x hx => by
  rw [List.mem_singleton] at hx
  subst hx
  exact ⟨h.rootIn, h.root⟩)
theorem Lvl.ex {K : List Key} (hk : ∀ k ∈ K, KOk k) (hs : K.Pairwise (· < ·)) : ∃ X, Lvl K X ∧ X.length ≤ K.length * 6 + 1 := by
 have hr : NOk (K, 0) := ⟨hk, hs, fun _ _ _ _ => same_zero _ _, Nat.zero_le _⟩
 obtain ⟨X, hX, hl⟩ := Bfs.ex (mu [(K, 0)]) [(K, 0)] (Nat.le_refl _) (fun x hx => by
  rw [List.mem_singleton] at hx
  subst hx
  exact hr)
 refine ⟨X, ⟨hk, hs, hX⟩, ?_⟩
 simpa [mu] using hl
theorem Lvl.pos_root {K : List Key} {X : List Nd} (h : Lvl K X) : X[0]? = some (K, 0) := by
 rw [h.eq]; rfl
theorem Lvl.full {K : List Key} {X : List Nd} (h : Lvl K X) (h0 : K ≠ []) : Full X := by
 refine h.bfs.all (P := fun x => 0 < (runs x.2 x.1).length) ?_ ?_
 ·intro x _ y hy
  obtain ⟨_, h2, _⟩ := mem_conts.1 hy
  exact runs_pos (fun e => by rw [e] at h2; simp at h2)
 ·intro x hx
  rw [List.mem_singleton] at hx
  subst hx
  exact runs_pos h0
theorem brs_nil : brs [(([] : List Key), 0)] = [] := by
 simp [brs, bra, runs_nil]
theorem lvl_nil {X : List Nd} (h : Lvl [] X) : X = [([], 0)] := by
 have h1 := h.bfs
 have hc : conts (([] : List Key), 0) = [] := by simp [conts, runs_nil]
 cases h1 with
 | cons h2 =>
  rw [hc, List.append_nil] at h2
  cases h2
  rfl
end Go.Proofs.Ytifgcajpkgamgaa.Trie
end
section
namespace Go.Proofs.Ytifgcajpkgamgaa.Pb
open Go Go.RowKit Go.Proofs.YtifgcajpkgamgaaW.PrintWords Go.Proofs.YtifgcajpkgamgaaW.PrintLast Go.Proofs.YtifgcajpkgamgaaW.PrintMore Go.Proofs.Ytifgcajpkgamgaa.Trie
theorem ev_succ {α : Type} {g : Nat → Option α} {r : α} (h : Ev (fun k => g (k + 1)) r) : Ev g r := by
 obtain ⟨K, h⟩ := h
 refine ⟨K + 1, fun n hn => ?_⟩
 obtain ⟨m, rfl⟩ : ∃ m, n = m + 1 := ⟨n - 1, by omega⟩
 exact h m (by omega)
theorem ev_pos {α : Type} {c : Prop} [Decidable c] {g g' : Nat → Option α} {r : α} (hc : c) (h : Ev g r) : Ev (fun k => if c then g k else g' k) r := by
 simp only [if_pos hc]; exact h
theorem ev_neg {α : Type} {c : Prop} [Decidable c] {g g' : Nat → Option α} {r : α} (hc : ¬ c) (h : Ev g' r) : Ev (fun k => if c then g k else g' k) r := by
 simp only [if_neg hc]; exact h
theorem ev_bindc {α β : Type} {c : Option α} {f : Nat → α → Option β} {a : α} {r : β} (hc : c = some a) (h : Ev (fun k => f k a) r) : Ev (fun k => c.bind (f k)) r := by
 subst hc; exact h
theorem ev_eq {α : Type} {g : Nat → Option α} {r r' : α} (h : Ev g r) (e : r = r') : Ev g r' := e ▸ h
theorem ev_some {α : Type} {a r : α} (e : a = r) : Ev (fun _ => some a) r := e ▸ Ev.now a
theorem w64 {i : Int} (h0 : -9223372036854775808 ≤ i) (h1 : i ≤ 9223372036854775807) : wrap64 i = i := by unfold wrap64; omega
def L (s : ByteArray) : List UInt8 := s.data.toList
theorem size_L (s : ByteArray) : s.size = (L s).length := (Array.length_toList).symm
theorem toList_L (s : ByteArray) : s.toList = L s := ByteArray.toList_eq s
theorem L_append (a b : ByteArray) : L (a ++ b) = L a ++ L b := by simp [L]
theorem L_extract (a : ByteArray) (s e : Nat) : L (a.extract s e) = ((L a).take e).drop s := by
 simp [L, ByteArray.data_extract, List.extract_eq_take_drop, List.drop_take]
theorem L_inj {a b : ByteArray} (h : L a = L b) : a = b := by
 cases a with | mk x => cases b with | mk y =>
 congr 1
 exact Array.toList_inj.1 h
theorem L_mk (l : List UInt8) : L ⟨l.toArray⟩ = l := by simp [L]
theorem bt_L (s : ByteArray) (i : Nat) : bt s (i : Int) = (((L s).getD i 0).toNat : Int) := by
 unfold bt
 simp only [Int.toNat_natCast]
 split
 ·rename_i h
  have h' : i < (L s).length := by rw [← size_L]; exact h
  simp [List.getD_eq_getElem?_getD, List.getElem?_eq_getElem h']
  rfl
 ·rename_i h
  have h' : (L s).length ≤ i := by rw [← size_L]; omega
  simp [List.getD_eq_getElem?_getD, List.getElem?_eq_none h']
theorem less_L (a b : List UInt8) : Op.bytesLess a b = decide (a < b) := by
 induction a generalizing b with
 | nil =>
  cases b with
  | nil => simp [Op.bytesLess]
  | cons c b => simp [Op.bytesLess]
 | cons c a ih =>
  cases b with
  | nil => simp [Op.bytesLess]
  | cons d b =>
   unfold Op.bytesLess
   rw [ih]
   rw [Bool.eq_iff_iff]
   simp [List.cons_lt_cons_iff]
theorem getD_lt {α : Type} {l : List α} {i : Nat} (d : α) (h : i < l.length) : l.getD i d = l[i] := by
 simp [List.getD_eq_getElem?_getD, List.getElem?_eq_getElem h]
theorem drop_cons {α : Type} {l : List α} {i : Nat} (d : α) (h : i < l.length) : l.drop i = l.getD i d :: l.drop (i + 1) := by
 rw [getD_lt d h]; exact List.drop_eq_getElem_cons h
def LL (l : List ByteArray) : List Key := l.map L
theorem LL_length (l : List ByteArray) : (LL l).length = l.length := by simp [LL]
theorem LL_append (a b : List ByteArray) : LL (a ++ b) = LL a ++ LL b := by simp [LL]
theorem LL_getD (l : List ByteArray) (i : Nat) : L (l.getD i ByteArray.empty) = (LL l).getD i [] := by
 simp only [LL, List.getD_eq_getElem?_getD, List.getElem?_map]
 cases l[i]? <;> rfl
end Go.Proofs.Ytifgcajpkgamgaa.Pb
end
section
namespace Go.Proofs.Ytifgcajpkgamgaa.Trie
theorem Lvl.key {K : List Key} {X : List Nd} (h : Lvl K X) {m : Nat} (hm : m < X.length) {k : Key} (hk : k ∈ X[m].1) : k ∈ K ∧ KOk k ∧ X[m].2 ≤ dep K k ∧ X[m].2 ≤ k.length := by
 obtain ⟨hI, hN⟩ := h.nodes X[m] (List.getElem_mem hm)
 have h1 := hI.sub k hk
 have h2 := hN.ok k hk
 have h3 := hI.dep_ge h.keys hN hk
 exact ⟨h1, h2, h3, Nat.le_trans h3 (dep_le h.keys h2)⟩
theorem branch_leaf {K : List Key} {X : List Nd} (h : Lvl K X) {m : Nat} (hm : m < X.length) {j : Nat} (hj : j < (runs X[m].2 X[m].1).length) (hc : cont (runs X[m].2 X[m].1)[j] = false) :
  ∃ k, (runs X[m].2 X[m].1)[j] = [k] ∧ k ∈ X[m].1 ∧ dep K k = X[m].2 ∧ (encL X).getD (off X m + j) 0 = lab k X[m].2 ∧ (encM X).getD (off X m + j) 0 = 48 ∧
   ∀ keep, (encR keep X)[off X m + j - onesB (encM X) (off X m + j)]? = some ((k.drop (X[m].2 + 1)).take keep) := by
 obtain ⟨hI, hN⟩ := h.nodes X[m] (List.getElem_mem hm)
 have hb := brs_at hm hj
 have hg := List.getElem_mem hj
 obtain ⟨k, hk⟩ := leaf_one hg hc
 have hg' : [k] ∈ runs X[m].2 X[m].1 := by rw [← hk]; exact hg
 refine ⟨k, hk, (runs_sub hg').subset (by simp), hI.dep_leaf h.keys hN hg', ?_, ?_, fun keep => ?_⟩
 ·rw [encL_at X hb]; unfold letter; rw [hk]; rfl
 ·rw [encM_at X hb]; unfold bit; rw [if_neg (by rw [hc]; simp)]
 ·rw [encR_at keep X hb hc]; unfold rest; rw [hk]; rfl
theorem branch_node {K : List Key} {X : List Nd} (h : Lvl K X) {m : Nat} (hm : m < X.length) {j : Nat} (hj : j < (runs X[m].2 X[m].1).length) (hc : cont (runs X[m].2 X[m].1)[j] = true) :
  ∃ hlt : onesB (encM X) (off X m + j + 1) < X.length, X[onesB (encM X) (off X m + j + 1)] = ((runs X[m].2 X[m].1)[j], X[m].2 + 1) ∧ m < onesB (encM X) (off X m + j + 1) ∧ off X m + j < off X (onesB (encM X) (off X m + j + 1)) ∧
   (encM X).getD (off X m + j) 0 = 49 ∧ ∀ k ∈ (runs X[m].2 X[m].1)[j], (encL X).getD (off X m + j) 0 = lab k X[m].2 ∧ lab k X[m].2 ≠ 45 ∧ X[m].2 < k.length := by
 obtain ⟨hI, hN⟩ := h.nodes X[m] (List.getElem_mem hm)
 have hb := brs_at hm hj
 have hg := List.getElem_mem hj
 obtain ⟨hlt, hX⟩ := List.getElem?_eq_some_iff.1 (child_enc h.eq hb hc)
 have ha := child_ahead h.bfs hm hj hc
 rw [← onesB_enc] at ha
 have hoff : off X m + j < off X (onesB (encM X) (off X m + j + 1)) := by
  have h1 := off_mono X ha
  rw [off_succ hm] at h1
  omega
 refine ⟨hlt, hX, ha, hoff, ?_, fun k hk => ?_⟩
 ·rw [encM_at X hb]; unfold bit; rw [if_pos hc]
 ·have hne := runs_ne_nil _ _ hg
  have hh := headD_mem hne
  have hkx := (runs_sub hg).subset hk
  have e1 : (encL X).getD (off X m + j) 0 = lab k X[m].2 := by
   rw [encL_at X hb]
   exact runs_lab _ _ hg _ hh k hk
  have hkk := h.key hm hkx
  have hk2 : k ∈ (X[onesB (encM X) (off X m + j + 1)]).1 := by rw [hX]; exact hk
  have hk3 := h.key hlt hk2
  rw [hX] at hk3
  have h4 : X[m].2 + 1 ≤ k.length := hk3.2.2.2
  refine ⟨e1, fun q => ?_, by omega⟩
  have := (hkk.2.1.lab_eq _).1 q
  omega
theorem leaf_text {K : List Key} {k : Key} (hk : KOk k) {d : Nat} (hd : dep K k = d) (hl : d ≤ k.length) (keep : Nat) :
  k.take d ++ (if lab k d = 45 then [] else [lab k d]) ++ (k.drop (d + 1)).take keep = Trie.hd K keep k := by
 unfold Trie.hd
 rw [hd]
 exact leaf_head hk hl keep
theorem leaf_all {K : List Key} {k : Key} (hk : KOk k) {d : Nat} (hd : dep K k = d) (hl : d ≤ k.length) (keep : Nat) :
  (lab k d = 45 ∨ ((k.drop (d + 1)).take keep).length < keep) ↔ cpl K keep k = true := by
 rw [leaf_cpl hk hl, cpl_iff, hd]
end Go.Proofs.Ytifgcajpkgamgaa.Trie
end
