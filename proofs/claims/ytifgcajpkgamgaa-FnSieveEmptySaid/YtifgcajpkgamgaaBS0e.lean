/- What the laws of the set S0 need: the kit's printed words, the printed functions with their proofs, and plain facts on them. -/
import Derived.Test.YtifgcajpkgamgaaBS0d
section
set_option linter.unusedVariables false
set_option linter.unusedSimpArgs false
namespace Go.Proofs.Ytifgcajpkgamgaa.Pb
open Go Go.RowKit Go.Proofs.YtifgcajpkgamgaaW.PrintWords Go.Proofs.YtifgcajpkgamgaaW.PrintLast Go.Proofs.YtifgcajpkgamgaaW.PrintMore Go.Proofs.Ytifgcajpkgamgaa.Trie Go.Proofs.Ytifgcajpkgamgaa.Q
theorem is_sz {K : List Key} {keep : Nat} {Lt Mo Fi : ByteArray} {Rs : List ByteArray} (h : Is K keep Lt Mo Fi Rs) : SvSz Lt Mo Fi Rs := by
 have F := h.enc.fm
 have hf := F.few
 have s1 := size_L Lt
 have s2 := size_L Mo
 have s3 := size_L Fi
 have h1 := F.ln
 have h2 := F.mn
 have h3 := F.fn
 exact ⟨by omega, by omega, by omega, by have := F.rs; omega, F.sz⟩
theorem heads_of {K : List Key} {keep : Nat} {Lt Mo Fi : ByteArray} {Rs : List ByteArray} (h : Is K keep Lt Mo Fi Rs) : Ev (fun k => impl_Sieve_heads.f k Lt Mo Fi Rs (keep : Int)) (K.map (pt K keep), true) := by
 rcases heads_ev (is_sz h) (keep : Int) with ⟨K', keep', e, hI, hh⟩ | ⟨hn, _⟩
 ·have e2 : keep' = keep := by omega
  subst e2
  have h1 := parts_enc h.enc
  have h2 := parts_enc hI.enc
  have := ev_unique h1 h2
  rw [this]; exact hh
 ·exact absurd h (hn K keep rfl)
theorem sieveV_cases (K : List Key) (a : Int) : ((sieveV K a).2.2.2.2.2 = false ∧ ¬ (KsOk K ∧ keepOk a)) ∨ ∃ (keep : Nat) (Lt Mo Fi : ByteArray) (Rs : List ByteArray), a = (keep : Int) ∧ sieveV K a = (Lt, Mo, Fi, Rs, (keep : Int), true) ∧ Is K keep Lt Mo Fi Rs := by
 by_cases c : keysB K = true ∧ keepOk a
 ·right
  have h1 : sieveV K a = encT (lvls K) a := by unfold sieveV; rw [if_pos c]
  have e : a = (a.toNat : Int) := by have := c.2.1; omega
  have hI : sieveV K a = ((sieveV K a).1, (sieveV K a).2.1, (sieveV K a).2.2.1, (sieveV K a).2.2.2.1, (a.toNat : Int), true) := by
   rw [h1]
   unfold encT
   rw [← e]
  obtain ⟨h2, _, _⟩ := is_of hI
  exact ⟨a.toNat, _, _, _, _, e, hI, h2⟩
 ·left
  unfold sieveV
  rw [if_neg c]
  exact ⟨rfl, fun h => c ⟨keysB_iff.2 h.1, h.2⟩⟩
theorem DrawKeyBegins_ev (l0 : List Int) (h0 : l0.length ≤ maxLen) (h2 : ∀ x ∈ l0, (Lit.int .u8 x).wf = true) : ∃ x y, Ev (fun k => spec_DrawKeyBegins.f k l0) (x, y) ∧ KOk (L x) ∧ KOk (L y) := by
 obtain ⟨b, ho, hb⟩ := open_ev l0 h0 h2
 obtain ⟨x, q, hx, kx, q0, q1⟩ := key_ev hb 0 (by omega) (by omega)
 obtain ⟨y, q', hy, ky, _, _⟩ := near_ev hb q (by omega) (by omega) [x] (by simp) (by simpa using kx)
 refine ⟨x, y, ?_, kx, ky⟩
 unfold spec_DrawKeyBegins.f
 exact ev_bindc ho (Ev.bind hx (Ev.bind hy (ev_some rfl)))
theorem kok_size {x : ByteArray} (h : KOk (L x)) : x.size ≤ 140737488355328 := by
 have := h.len
 rw [size_L]; omega
theorem hasV_iff {K : List Key} {keep : Nat} {q : Key} : hasV K keep q = true ↔ KOk q ∧ ∃ k ∈ K, may (Trie.part K keep k) q = true := by
 unfold hasV mayL
 rw [Bool.and_eq_true, kokB_iff, List.any_eq_true]
theorem has_self {K : List Key} {keep : Nat} {q : Key} (hK : ∀ k ∈ K, KOk k) (hq : q ∈ K) : hasV K keep q = true :=
 hasV_iff.2 ⟨hK q hq, q, hq, part_may K keep q⟩
theorem find_parts (K : List Key) (keep : Nat) (q : Key) (l : List Key) : (l.map (Trie.part K keep)).find? (fun p => atb p q) = (l.find? (atK K keep q)).map (Trie.part K keep) := by
 rw [List.find?_map]; rfl
theorem meetsW_iff {K : List Key} (h : KsOk K) {keep : Nat} {x y : Key} : meetsW K keep x y = true ↔ KOk x ∧ KOk y ∧ ¬ y < x ∧ meetsB (K.map (Trie.part K keep)) x y := by
 have hm := meets_find (parts_sorted h.ok h.sorted keep) x y
 rw [find_parts] at hm
 unfold meetsW
 rw [Bool.and_eq_true, Bool.and_eq_true, Bool.and_eq_true, kokB_iff, kokB_iff, ← hm]
 simp only [Bool.not_eq_true', decide_eq_false_iff_not, Option.map_eq_some_iff]
 constructor
 ·rintro ⟨⟨⟨a, b⟩, c⟩, d⟩
  refine ⟨a, b, c, ?_⟩
  cases hf : K.find? (atK K keep x) with
  | none => rw [hf] at d; cases d
  | some k =>
   rw [hf] at d
   simp only [Bool.not_eq_true', decide_eq_false_iff_not] at d
   exact ⟨_, ⟨k, rfl, rfl⟩, d⟩
 ·rintro ⟨a, b, c, z, ⟨k, hk, rfl⟩, d⟩
  refine ⟨⟨⟨a, b⟩, c⟩, ?_⟩
  rw [hk]
  simp only [Bool.not_eq_true', decide_eq_false_iff_not]
  exact d
theorem meets_of_has {K : List Key} (h : KsOk K) {keep : Nat} {x y q : Key} (hq : hasV K keep q = true) (hx : KOk x) (hy : KOk y) (h1 : ¬ q < x) (h2 : ¬ y < q) : meetsW K keep x y = true := by
 obtain ⟨_, k, hk, hm⟩ := hasV_iff.1 hq
 exact (meetsW_iff h).2 ⟨hx, hy, le_trans' h1 h2, meets_of_may ⟨_, List.mem_map.2 ⟨k, hk, rfl⟩, hm⟩ h1 h2⟩
theorem size_yes {Lt Mo Fi : ByteArray} {Rs : List ByteArray} {a : Int} {l : List S93} (h : Ev (fun k => impl_Sieve_heads.f k Lt Mo Fi Rs a) (l, true)) : Ev (fun k => impl_SieveSize.f k Lt Mo Fi Rs a) (Lt.size : Int) := by
 unfold impl_SieveSize.f
 exact Ev.bind (impl_SieveOk_of h) (ev_pos rfl (ev_some rfl))
theorem size_no {Lt Mo Fi : ByteArray} {Rs : List ByteArray} {a : Int} {l : List S93} (h : Ev (fun k => impl_Sieve_heads.f k Lt Mo Fi Rs a) (l, false)) : Ev (fun k => impl_SieveSize.f k Lt Mo Fi Rs a) (-1) := by
 unfold impl_SieveSize.f
 exact Ev.bind (impl_SieveOk_of h) (ev_neg (by simp) (ev_some rfl))
theorem sieveV_yes {K : List Key} (h : KsOk K) (keep : Nat) (hk : keep ≤ 5) : ∃ (Lt Mo Fi : ByteArray) (Rs : List ByteArray), sieveV K (keep : Int) = (Lt, Mo, Fi, Rs, (keep : Int), true) ∧ Is K keep Lt Mo Fi Rs := by
 rcases sieveV_cases K (keep : Int) with ⟨_, hn⟩ | ⟨keep', Lt, Mo, Fi, Rs, e, h1, hI⟩
 ·exact absurd ⟨h, by unfold keepOk; omega⟩ hn
 ·have : keep' = keep := by omega
  subst this
  exact ⟨Lt, Mo, Fi, Rs, h1, hI⟩
theorem Is.one {K : List Key} {keep keep' : Nat} {Lt Mo Fi Lt' Mo' Fi' : ByteArray} {Rs Rs' : List ByteArray} (h : Is K keep Lt Mo Fi Rs) (h' : Is K keep' Lt' Mo' Fi' Rs') : Lt = Lt' := by
 apply L_inj
 rw [h.enc.l, h'.enc.l]
end Go.Proofs.Ytifgcajpkgamgaa.Pb
end
