/- What the laws of the set SM need: the kit's printed words, the printed functions with their proofs, and plain facts on them. -/
import Derived.SizedLaws
import Derived.ChangeSlices
import Derived.Test.YtifgcajpkgamgaaBSMa
section
namespace Go.Proofs.Ytifgcajpkgamgaa.Trie
theorem bit_49 (b : Nd) : (bit b == 49) = cont b.1 := by
 unfold bit
 cases cont b.1 <;> rfl
theorem onesB_enc (X : List Nd) (i : Nat) : onesB (encM X) i = ((brs X).take i).countP (fun b => cont b.1) := by
 unfold onesB encM
 rw [← List.map_take, List.countP_map]
 apply List.countP_congr
 intro b _
 simp only [Function.comp, bit_49]
theorem leaf_count (l : List Nd) : l.length = l.countP (fun b => cont b.1) + l.countP leaf := by
 induction l with
 | nil => rfl
 | cons a l ih =>
  rw [List.length_cons, List.countP_cons, List.countP_cons, ih]
  unfold leaf
  cases cont a.1 <;> simp <;> omega
theorem zeros_enc (X : List Nd) {i : Nat} (hi : i ≤ (brs X).length) : i - onesB (encM X) i = ((brs X).take i).countP leaf := by
 have h := leaf_count ((brs X).take i)
 rw [← onesB_enc, List.length_take, Nat.min_eq_left hi] at h
 omega
theorem encM_at (X : List Nd) {i : Nat} {b : Nd} (h : (brs X)[i]? = some b) : (encM X).getD i 0 = bit b := by
 unfold encM
 rw [List.getD_eq_getElem?_getD, List.getElem?_map, h]; rfl
theorem encL_at (X : List Nd) {i : Nat} {b : Nd} (h : (brs X)[i]? = some b) : (encL X).getD i 0 = letter b := by
 unfold encL
 rw [List.getD_eq_getElem?_getD, List.getElem?_map, h]; rfl
theorem encR_at (keep : Nat) (X : List Nd) {i : Nat} {b : Nd} (h : (brs X)[i]? = some b) (hc : cont b.1 = false) : (encR keep X)[i - onesB (encM X) i]? = some (rest keep b) := by
 obtain ⟨hi, e⟩ := List.getElem?_eq_some_iff.1 h
 rw [zeros_enc X (by omega), rest_at keep X i hi (by rw [e]; exact hc), e]
theorem child_enc {root : Nd} {X : List Nd} (h : X = root :: X.flatMap conts) {i : Nat} {b : Nd} (hb : (brs X)[i]? = some b) (hc : cont b.1 = true) : X[onesB (encM X) (i + 1)]? = some (b.1, b.2 + 1) := by
 obtain ⟨hi, e⟩ := List.getElem?_eq_some_iff.1 hb
 rw [onesB_enc]
 have := child_at h i hi (by rw [e]; exact hc)
 rw [this, e]
structure Lvl (K : List Key) (X : List Nd) : Prop where
 keys : ∀ k ∈ K, KOk k
 sorted : K.Pairwise (· < ·)
 bfs : Bfs [(K, 0)] X
theorem Lvl.root {K : List Key} {X : List Nd} (h : Lvl K X) : NOk (K, 0) :=
 ⟨h.keys, h.sorted, fun _ _ _ _ => same_zero _ _, Nat.zero_le _⟩
theorem Lvl.rootIn {K : List Key} {X : List Nd} (_ : Lvl K X) : In K (K, 0) :=
 ⟨fun _ h => h, fun _ _ _ h _ => h, .inl rfl⟩
theorem Lvl.eq {K : List Key} {X : List Nd} (h : Lvl K X) : X = (K, 0) :: X.flatMap conts := h.bfs.eq
theorem Lvl.nodes {K : List Key} {X : List Nd} (h : Lvl K X) : Nodes K X :=
 h.bfs.all (P := fun x => In K x ∧ NOk x) (fun _ hx _ hy => ⟨hx.1.conts hx.2 hy, (hx.2.conts hy).1⟩) (fun x hx => by
  rw [List.mem_singleton] at hx
  subst hx
  exact ⟨h.rootIn, h.root⟩)
theorem Lvl.ex {K : List Key} (hk : ∀ k ∈ K, KOk k) (hs : K.Pairwise (· < ·)) : ∃ X, Lvl K X ∧ X.length ≤ K.length * 6 + 1 := by
 have hr : NOk (K, 0) := ⟨hk, hs, fun _ _ _ _ => same_zero _ _, Nat.zero_le _⟩
 obtain ⟨X, hX, hl⟩ := Bfs.ex (mu [(K, 0)]) [(K, 0)] (Nat.le_refl _) (fun x hx => by
  rw [List.mem_singleton] at hx
  subst hx
  exact hr)
 refine ⟨X, ⟨hk, hs, hX⟩, ?_⟩
 simpa [mu] using hl
theorem Lvl.pos_root {K : List Key} {X : List Nd} (h : Lvl K X) : X[0]? = some (K, 0) := by
 rw [h.eq]; rfl
theorem Lvl.full {K : List Key} {X : List Nd} (h : Lvl K X) (h0 : K ≠ []) : Full X := by
 refine h.bfs.all (P := fun x => 0 < (runs x.2 x.1).length) ?_ ?_
 ·intro x _ y hy
  obtain ⟨_, h2, _⟩ := mem_conts.1 hy
  exact runs_pos (fun e => by rw [e] at h2; simp at h2)
 ·intro x hx
  rw [List.mem_singleton] at hx
  subst hx
  exact runs_pos h0
theorem brs_nil : brs [(([] : List Key), 0)] = [] := by
 simp [brs, bra, runs_nil]
theorem lvl_nil {X : List Nd} (h : Lvl [] X) : X = [([], 0)] := by
 have h1 := h.bfs
 have hc : conts (([] : List Key), 0) = [] := by simp [conts, runs_nil]
 cases h1 with
 | cons h2 =>
  rw [hc, List.append_nil] at h2
  cases h2
  rfl
end Go.Proofs.Ytifgcajpkgamgaa.Trie
end
section
namespace Go.Proofs.Ytifgcajpkgamgaa.Pb
open Go Go.RowKit Go.Proofs.YtifgcajpkgamgaaW.PrintWords Go.Proofs.YtifgcajpkgamgaaW.PrintLast Go.Proofs.YtifgcajpkgamgaaW.PrintMore Go.Proofs.Ytifgcajpkgamgaa.Trie
theorem ev_succ {α : Type} {g : Nat → Option α} {r : α} (h : Ev (fun k => g (k + 1)) r) : Ev g r := by
 obtain ⟨K, h⟩ := h
 refine ⟨K + 1, fun n hn => ?_⟩
 obtain ⟨m, rfl⟩ : ∃ m, n = m + 1 := ⟨n - 1, by omega⟩
 exact h m (by omega)
theorem ev_pos {α : Type} {c : Prop} [Decidable c] {g g' : Nat → Option α} {r : α} (hc : c) (h : Ev g r) : Ev (fun k => if c then g k else g' k) r := by
 simp only [if_pos hc]; exact h
theorem ev_neg {α : Type} {c : Prop} [Decidable c] {g g' : Nat → Option α} {r : α} (hc : ¬ c) (h : Ev g' r) : Ev (fun k => if c then g k else g' k) r := by
 simp only [if_neg hc]; exact h
theorem ev_bindc {α β : Type} {c : Option α} {f : Nat → α → Option β} {a : α} {r : β} (hc : c = some a) (h : Ev (fun k => f k a) r) : Ev (fun k => c.bind (f k)) r := by
 subst hc; exact h
theorem ev_eq {α : Type} {g : Nat → Option α} {r r' : α} (h : Ev g r) (e : r = r') : Ev g r' := e ▸ h
theorem ev_some {α : Type} {a r : α} (e : a = r) : Ev (fun _ => some a) r := e ▸ Ev.now a
theorem w64 {i : Int} (h0 : -9223372036854775808 ≤ i) (h1 : i ≤ 9223372036854775807) : wrap64 i = i := by unfold wrap64; omega
def L (s : ByteArray) : List UInt8 := s.data.toList
theorem size_L (s : ByteArray) : s.size = (L s).length := (Array.length_toList).symm
theorem toList_L (s : ByteArray) : s.toList = L s := ByteArray.toList_eq s
theorem L_append (a b : ByteArray) : L (a ++ b) = L a ++ L b := by simp [L]
theorem L_extract (a : ByteArray) (s e : Nat) : L (a.extract s e) = ((L a).take e).drop s := by
 simp [L, ByteArray.data_extract, List.extract_eq_take_drop, List.drop_take]
theorem L_inj {a b : ByteArray} (h : L a = L b) : a = b := by
 cases a with | mk x => cases b with | mk y =>
 congr 1
 exact Array.toList_inj.1 h
theorem L_mk (l : List UInt8) : L ⟨l.toArray⟩ = l := by simp [L]
theorem bt_L (s : ByteArray) (i : Nat) : bt s (i : Int) = (((L s).getD i 0).toNat : Int) := by
 unfold bt
 simp only [Int.toNat_natCast]
 split
 ·rename_i h
  have h' : i < (L s).length := by rw [← size_L]; exact h
  simp [List.getD_eq_getElem?_getD, List.getElem?_eq_getElem h']
  rfl
 ·rename_i h
  have h' : (L s).length ≤ i := by rw [← size_L]; omega
  simp [List.getD_eq_getElem?_getD, List.getElem?_eq_none h']
theorem less_L (a b : List UInt8) : Op.bytesLess a b = decide (a < b) := by
 induction a generalizing b with
 | nil =>
  cases b with
  | nil => simp [Op.bytesLess]
  | cons c b => simp [Op.bytesLess]
 | cons c a ih =>
  cases b with
  | nil => simp [Op.bytesLess]
  | cons d b =>
   unfold Op.bytesLess
   rw [ih]
   rw [Bool.eq_iff_iff]
   simp [List.cons_lt_cons_iff]
theorem getD_lt {α : Type} {l : List α} {i : Nat} (d : α) (h : i < l.length) : l.getD i d = l[i] := by
 simp [List.getD_eq_getElem?_getD, List.getElem?_eq_getElem h]
theorem drop_cons {α : Type} {l : List α} {i : Nat} (d : α) (h : i < l.length) : l.drop i = l.getD i d :: l.drop (i + 1) := by
 rw [getD_lt d h]; exact List.drop_eq_getElem_cons h
def LL (l : List ByteArray) : List Key := l.map L
theorem LL_length (l : List ByteArray) : (LL l).length = l.length := by simp [LL]
theorem LL_append (a b : List ByteArray) : LL (a ++ b) = LL a ++ LL b := by simp [LL]
theorem LL_getD (l : List ByteArray) (i : Nat) : L (l.getD i ByteArray.empty) = (LL l).getD i [] := by
 simp only [LL, List.getD_eq_getElem?_getD, List.getElem?_map]
 cases l[i]? <;> rfl
end Go.Proofs.Ytifgcajpkgamgaa.Pb
end
section
namespace Go.Proofs.Ytifgcajpkgamgaa.Trie
theorem Lvl.key {K : List Key} {X : List Nd} (h : Lvl K X) {m : Nat} (hm : m < X.length) {k : Key} (hk : k ∈ X[m].1) : k ∈ K ∧ KOk k ∧ X[m].2 ≤ dep K k ∧ X[m].2 ≤ k.length := by
 obtain ⟨hI, hN⟩ := h.nodes X[m] (List.getElem_mem hm)
 have h1 := hI.sub k hk
 have h2 := hN.ok k hk
 have h3 := hI.dep_ge h.keys hN hk
 exact ⟨h1, h2, h3, Nat.le_trans h3 (dep_le h.keys h2)⟩
theorem branch_leaf {K : List Key} {X : List Nd} (h : Lvl K X) {m : Nat} (hm : m < X.length) {j : Nat} (hj : j < (runs X[m].2 X[m].1).length) (hc : cont (runs X[m].2 X[m].1)[j] = false) :
  ∃ k, (runs X[m].2 X[m].1)[j] = [k] ∧ k ∈ X[m].1 ∧ dep K k = X[m].2 ∧ (encL X).getD (off X m + j) 0 = lab k X[m].2 ∧ (encM X).getD (off X m + j) 0 = 48 ∧
   ∀ keep, (encR keep X)[off X m + j - onesB (encM X) (off X m + j)]? = some ((k.drop (X[m].2 + 1)).take keep) := by
 obtain ⟨hI, hN⟩ := h.nodes X[m] (List.getElem_mem hm)
 have hb := brs_at hm hj
 have hg := List.getElem_mem hj
 obtain ⟨k, hk⟩ := leaf_one hg hc
 have hg' : [k] ∈ runs X[m].2 X[m].1 := by rw [← hk]; exact hg
 refine ⟨k, hk, (runs_sub hg').subset (by simp), hI.dep_leaf h.keys hN hg', ?_, ?_, fun keep => ?_⟩
 ·rw [encL_at X hb]; unfold letter; rw [hk]; rfl
 ·rw [encM_at X hb]; unfold bit; rw [if_neg (by rw [hc]; simp)]
 ·rw [encR_at keep X hb hc]; unfold rest; rw [hk]; rfl
theorem branch_node {K : List Key} {X : List Nd} (h : Lvl K X) {m : Nat} (hm : m < X.length) {j : Nat} (hj : j < (runs X[m].2 X[m].1).length) (hc : cont (runs X[m].2 X[m].1)[j] = true) :
  ∃ hlt : onesB (encM X) (off X m + j + 1) < X.length, X[onesB (encM X) (off X m + j + 1)] = ((runs X[m].2 X[m].1)[j], X[m].2 + 1) ∧ m < onesB (encM X) (off X m + j + 1) ∧ off X m + j < off X (onesB (encM X) (off X m + j + 1)) ∧
   (encM X).getD (off X m + j) 0 = 49 ∧ ∀ k ∈ (runs X[m].2 X[m].1)[j], (encL X).getD (off X m + j) 0 = lab k X[m].2 ∧ lab k X[m].2 ≠ 45 ∧ X[m].2 < k.length := by
 obtain ⟨hI, hN⟩ := h.nodes X[m] (List.getElem_mem hm)
 have hb := brs_at hm hj
 have hg := List.getElem_mem hj
 obtain ⟨hlt, hX⟩ := List.getElem?_eq_some_iff.1 (child_enc h.eq hb hc)
 have ha := child_ahead h.bfs hm hj hc
 rw [← onesB_enc] at ha
 have hoff : off X m + j < off X (onesB (encM X) (off X m + j + 1)) := by
  have h1 := off_mono X ha
  rw [off_succ hm] at h1
  omega
 refine ⟨hlt, hX, ha, hoff, ?_, fun k hk => ?_⟩
 ·rw [encM_at X hb]; unfold bit; rw [if_pos hc]
 ·have hne := runs_ne_nil _ _ hg
  have hh := headD_mem hne
  have hkx := (runs_sub hg).subset hk
  have e1 : (encL X).getD (off X m + j) 0 = lab k X[m].2 := by
   rw [encL_at X hb]
   exact runs_lab _ _ hg _ hh k hk
  have hkk := h.key hm hkx
  have hk2 : k ∈ (X[onesB (encM X) (off X m + j + 1)]).1 := by rw [hX]; exact hk
  have hk3 := h.key hlt hk2
  rw [hX] at hk3
  have h4 : X[m].2 + 1 ≤ k.length := hk3.2.2.2
  refine ⟨e1, fun q => ?_, by omega⟩
  have := (hkk.2.1.lab_eq _).1 q
  omega
theorem leaf_text {K : List Key} {k : Key} (hk : KOk k) {d : Nat} (hd : dep K k = d) (hl : d ≤ k.length) (keep : Nat) :
  k.take d ++ (if lab k d = 45 then [] else [lab k d]) ++ (k.drop (d + 1)).take keep = Trie.hd K keep k := by
 unfold Trie.hd
 rw [hd]
 exact leaf_head hk hl keep
theorem leaf_all {K : List Key} {k : Key} (hk : KOk k) {d : Nat} (hd : dep K k = d) (hl : d ≤ k.length) (keep : Nat) :
  (lab k d = 45 ∨ ((k.drop (d + 1)).take keep).length < keep) ↔ cpl K keep k = true := by
 rw [leaf_cpl hk hl, cpl_iff, hd]
end Go.Proofs.Ytifgcajpkgamgaa.Trie
end
section
-- PRINTED BY print.sh 35421559b90ae4d0a3588c463048766b98c2df88dd9212a6774a882060cdf62d: not written by this session
-- PRINTED WORDS (module Derived/Print/Sized.lean): go-gate-2's, for the rows of laws over slices: an AI agent of Go's test side, Tue Nov 17 2026; no person has read it. Lean checks it.
namespace Go.Proofs.YtifgcajpkgamgaaW.PrintWords
open Go.ChangeShapes Go.WideShapes
theorem sized_ints {H : Type} {enc : TypeId × Value → H} {P : Program} {W : World} {base : Nat} {spare : Nat → Bool} {held : Bool} {t e : TypeId} {k : IntKind} {a : Option Addr} {len cap : Nat} {d : DataW H} {ps : List MemPlace} {ts : List TypeId} {ds : List (DataW H)} {j : Nat}
  (hsz : (DataW.weightsEach P ts ds).all (· ≤ reachBytes) = true) (ht : ts[j]? = some t) (hd : ds[j]? = some d) (hu : P.underlying t = some (.slice e)) (he : P.underlying e = some (.int k)) (hc : P.cellsOf e = 1) {B : Nat} (hB : P.bytesOf e = B)
  (h : DataW.Trod enc P W base spare held t (.slice a len cap) d ps) : len * B ≤ 140737488351232 := by
 obtain ⟨fuel, hf⟩ := h
 rcases open_ints hu he hc hf with ⟨hcs, _⟩ | ⟨x, l, c, zs, hcs, _, hl, _, hz, hx, _, _⟩
 ·simp [Value.cells] at hcs
  obtain ⟨rfl, rfl, rfl⟩ := hcs
  simp
 ·simp [Value.cells] at hcs
  obtain ⟨rfl, rfl, rfl⟩ := hcs
  obtain ⟨hx, _⟩ := Prod.mk.inj hx
  subst hx
  have z := sized_slice hsz ht hd hu
  rw [hB] at z
  have hl2 : len ≤ zs.length := by
   rw [hz]
   split
   ·exact hl
   ·exact Nat.le_refl _
  have h1 : (lits (H := H) k (zs.take len)).length + (lits (H := H) k (zs.drop len)).length = zs.length := by
   simp [lits]
   omega
  rw [h1] at z
  exact Nat.le_trans (Nat.mul_le_mul_right _ hl2) z
end Go.Proofs.YtifgcajpkgamgaaW.PrintWords
end
