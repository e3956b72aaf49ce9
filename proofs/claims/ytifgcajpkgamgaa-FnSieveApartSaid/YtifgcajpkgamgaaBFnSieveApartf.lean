/- What the law FnSieveApart needs, part 6: the kit's printed words, the printed functions with their proofs, and plain facts on them. -/
import Derived.Test.YtifgcajpkgamgaaBFnSieveAparte
section
set_option linter.unusedVariables false
set_option linter.unusedSimpArgs false
namespace Go.Proofs.Ytifgcajpkgamgaa.Pb
open Go Go.RowKit Go.Proofs.YtifgcajpkgamgaaW.PrintWords Go.Proofs.YtifgcajpkgamgaaW.PrintLast Go.Proofs.YtifgcajpkgamgaaW.PrintMore Go.Proofs.Ytifgcajpkgamgaa.Trie Go.Proofs.Ytifgcajpkgamgaa.Q
theorem label_eq (a : ByteArray) (d : Nat) (hd : d ≤ (L a).length) : impl_label.f a (d : Int) = some ((lab (L a) d).toNat : Int) := by
  unfold impl_label.f
  have hs := size_L a
  by_cases c : d = (L a).length
  · rw [if_pos (by omega), lab_ge (by omega)]; rfl
  · rw [if_neg (by omega), if_pos (by omega), if_pos (by omega), bt_L, lab_lt (show d < (L a).length by omega), getD_lt _ (by omega)]
def frontN (d : Nat) (r : List ByteArray) : Nat := (r.tail.takeWhile (fun x => labS d x == labS d (r.getD 0 ByteArray.empty))).length + 1
theorem frontN_le {d : Nat} {r : List ByteArray} (h : r ≠ []) : frontN d r ≤ r.length := by
  cases r with
  | nil => exact absurd rfl h
  | cons a t =>
    unfold frontN
    have := (List.takeWhile_sublist (l := t) (fun x => labS d x == labS d ((a :: t).getD 0 ByteArray.empty))).length_le
    simp only [List.tail_cons, List.length_cons]
    omega
theorem takeWhile_at {α : Type} (p : α → Bool) : ∀ (l : List α) (i : Nat) (h : i < l.length), (i < (l.takeWhile p).length → p l[i] = true) ∧ (i = (l.takeWhile p).length → p l[i] = false) := by
  intro l
  induction l with
  | nil => intro i h; simp at h
  | cons a l ih =>
    intro i h
    rw [List.takeWhile_cons]
    by_cases c : p a = true
    · rw [if_pos c, List.length_cons]
      cases i with
      | zero => exact ⟨fun _ => c, fun q => by omega⟩
      | succ i =>
        have := ih i (by simpa using h)
        exact ⟨fun q => this.1 (by omega), fun q => this.2 (by omega)⟩
    · rw [if_neg c]
      cases i with
      | zero => exact ⟨fun q => by simp at q, fun _ => by simpa using c⟩
      | succ i => exact ⟨fun q => by simp at q, fun q => by simp at q⟩
theorem l2_ev {Lt Mo Fi : ByteArray} {Rs : List ByteArray} {Q : List S108} {keep i mark : Int} {rest : List ByteArray} {d : Nat} {r : ByteArray × ByteArray × ByteArray × List ByteArray × Int} (hs : Sm rest) (h0 : rest ≠ []) (hd : ∀ s ∈ rest, d ≤ (L s).length)
    (h3 : Ev (fun k => impl_sieveOf.l3 k Lt Mo Fi Rs Q keep i rest (d : Int) mark (frontN d rest : Int)) r) (m : Nat) : ∀ n : Nat, 1 ≤ n → n ≤ frontN d rest → frontN d rest - n = m →
    Ev (fun k => impl_sieveOf.l2 k Lt Mo Fi Rs Q keep i rest (d : Int) mark (n : Int)) r := by
  have hlen := hs.len
  have hf := frontN_le (d := d) h0
  obtain ⟨a, t, rfl⟩ : ∃ a t, rest = a :: t := by
    cases rest with
    | nil => exact absurd rfl h0
    | cons a t => exact ⟨a, t, rfl⟩
  simp only [List.length_cons] at hlen hf
  have hg0 : rdOf ByteArray.empty (a :: t) 0 = a := rfl
  have hat : ∀ n : Nat, n < t.length + 1 → L (rdOf ByteArray.empty (a :: t) (n : Int)) = L ((a :: t).getD n ByteArray.empty) := fun _ _ => rfl
  have hmem : ∀ n : Nat, n < t.length + 1 → d ≤ (L ((a :: t).getD n ByteArray.empty)).length := fun n hn => by
    refine hd _ ?_
    rw [getD_lt _ (by simpa using hn)]
    exact List.getElem_mem _
  have hfr : frontN d (a :: t) = (t.takeWhile (fun x => labS d x == labS d a)).length + 1 := rfl
  have htw := takeWhile_at (fun x => labS d x == labS d a) t
  have hgd : ∀ n : Nat, 1 ≤ n → n < t.length + 1 → ∀ h : n - 1 < t.length, (a :: t).getD n ByteArray.empty = t[n - 1] := fun n h1 h2 h => by
    obtain ⟨j, rfl⟩ : ∃ j, n = j + 1 := ⟨n - 1, by omega⟩
    rw [getD_lt _ (by simpa using h2)]
    rfl
  induction m with
  | zero =>
    intro n h1 h2 h4
    have e : n = frontN d (a :: t) := by omega
    refine ev_succ ?_
    simp only [impl_sieveOf.l2]
    by_cases c : n < t.length + 1
    · refine ev_pos (by simp only [List.length_cons]; omega) (ev_pos (by omega) ?_)
      have hr : rdOf ByteArray.empty (a :: t) (n : Int) = (a :: t).getD n ByteArray.empty := rfl
      rw [hr, hg0]
      refine ev_bindc (label_eq _ d (hmem n c)) (ev_bindc (label_eq a d (hd a (by simp))) (ev_neg ?_ ?_))
      · intro q
        have q2 : lab (L ((a :: t).getD n ByteArray.empty)) d = lab (L a) d := UInt8.toNat_inj.1 (by omega)
        have h5 := (htw (n - 1) (by omega)).2 (by omega)
        rw [hgd n h1 c (by omega)] at q2
        unfold labS at h5
        rw [q2] at h5
        simp at h5
      · rw [e]; exact h3
    · refine ev_neg (by simp only [List.length_cons]; omega) ?_
      rw [e]; exact h3
  | succ m ih =>
    intro n h1 h2 h4
    have hlt : n < frontN d (a :: t) := by omega
    have c : n < t.length + 1 := by omega
    refine ev_succ ?_
    simp only [impl_sieveOf.l2]
    refine ev_pos (by simp only [List.length_cons]; omega) (ev_pos (by omega) ?_)
    have hr : rdOf ByteArray.empty (a :: t) (n : Int) = (a :: t).getD n ByteArray.empty := rfl
    rw [hr, hg0]
    refine ev_bindc (label_eq _ d (hmem n c)) (ev_bindc (label_eq a d (hd a (by simp))) (ev_pos ?_ ?_))
    · have h5 := (htw (n - 1) (by omega)).1 (by omega)
      rw [hgd n h1 c (by omega)]
      unfold labS at h5
      rw [beq_iff_eq.1 h5]
    · rw [w64 (by omega) (by omega)]
      exact ih (n + 1) (by omega) (by omega) (by omega)
theorem frontN_run {d : Nat} {a : ByteArray} {t : List ByteArray} :
    LL ((a :: t).take (frontN d (a :: t))) = L a :: (LL t).takeWhile (fun x => lab x d == lab (L a) d) ∧ LL ((a :: t).drop (frontN d (a :: t))) = (LL t).dropWhile (fun x => lab x d == lab (L a) d) := by
  have hfr : frontN d (a :: t) = (t.takeWhile (fun x => labS d x == labS d a)).length + 1 := rfl
  rw [hfr, List.take_succ_cons, List.drop_succ_cons]
  have e1 : ∀ (p : ByteArray → Bool) (l : List ByteArray), l.take (l.takeWhile p).length = l.takeWhile p ∧ l.drop (l.takeWhile p).length = l.dropWhile p := by
    intro p l
    induction l with
    | nil => exact ⟨rfl, rfl⟩
    | cons b l ih =>
      rw [List.takeWhile_cons, List.dropWhile_cons]
      by_cases c : p b = true
      · rw [if_pos c, if_pos c, List.length_cons, List.take_succ_cons, List.drop_succ_cons, ih.1, ih.2]; exact ⟨rfl, rfl⟩
      · rw [if_neg c, if_neg c]; exact ⟨rfl, rfl⟩
  have e2 : ∀ (l : List ByteArray), LL (l.takeWhile (fun x => labS d x == labS d a)) = (LL l).takeWhile (fun x => lab x d == lab (L a) d) ∧ LL (l.dropWhile (fun x => labS d x == labS d a)) = (LL l).dropWhile (fun x => lab x d == lab (L a) d) := by
    intro l
    induction l with
    | nil => exact ⟨rfl, rfl⟩
    | cons b l ih =>
      have hb : LL (b :: l) = L b :: LL l := rfl
      rw [hb, List.takeWhile_cons, List.dropWhile_cons, List.takeWhile_cons, List.dropWhile_cons]
      by_cases c : (labS d b == labS d a) = true
      · have c' : (lab (L b) d == lab (L a) d) = true := c
        rw [if_pos c, if_pos c, if_pos c', if_pos c']
        refine ⟨?_, ih.2⟩
        show L b :: LL _ = _
        rw [ih.1]
      · have c' : ¬ (lab (L b) d == lab (L a) d) = true := c
        rw [if_neg c, if_neg c, if_neg c', if_neg c']
        exact ⟨rfl, hb⟩
  refine ⟨?_, ?_⟩
  · show L a :: LL _ = _
    rw [(e1 _ t).1, (e2 t).1]
  · rw [(e1 _ t).2, (e2 t).2]
def ndq (s : S108) : Nd := (LL s.f0, s.f1.toNat)
structure Nq (s : S108) : Prop where
  sm : Sm s.f0
  low : 0 ≤ s.f1
  high : s.f1 ≤ 900
theorem mnk (k n : Nat) : mn (k : Int) (n : Int) = ((min k n : Nat) : Int) := by unfold mn; split <;> omega
theorem push_L (s : ByteArray) (c : UInt8) : L (s.push c) = L s ++ [c] := by simp [L]
theorem push_size (s : ByteArray) (c : UInt8) : (s.push c).size = s.size + 1 := by rw [size_L, size_L, push_L]; simp
theorem byte_back (c : UInt8) : ((c.toNat : Int)).toNat.toUInt8 = c := by
  have : ((c.toNat : Int)).toNat = c.toNat := by omega
  rw [this]; exact UInt8.ofNat_toNat
theorem l1_ev (keep d : Nat) (hd : d ≤ 800) (i : Int) (m : Nat) : ∀ (ks : List ByteArray) (Q : List S108) (c : UInt8) (Lt Mo Fi : ByteArray) (Rs : List ByteArray), ks.length ≤ m → Sm ks → (∀ s ∈ ks, d ≤ (L s).length) → (∀ s ∈ Q, Nq s) →
    Lt.size + ks.length ≤ 1000000 → Mo.size + ks.length ≤ 1000000 → Fi.size + ks.length ≤ 1000000 → Rs.length + ks.length ≤ 1000000 → Q.length + ks.length ≤ 1000000 →
    ∃ Lt' Mo' Fi' Rs' x6', (∀ r, Ev (fun k => impl_sieveOf.l0 k Lt' Mo' Fi' Rs' (Q ++ x6') (keep : Int) (wrap64 (i + 1))) r → Ev (fun k => impl_sieveOf.l1 k Lt Mo Fi Rs Q (keep : Int) i ks (d : Int) (c.toNat : Int)) r) ∧
      L Lt' = L Lt ++ (bra (LL ks, d)).map letter ∧ L Mo' = L Mo ++ (bra (LL ks, d)).map bit ∧ L Fi' = L Fi ++ marks c (runs d (LL ks)).length ∧
      LL Rs' = LL Rs ++ ((bra (LL ks, d)).filter leaf).map (rest keep) ∧ x6'.map ndq = conts (LL ks, d) ∧ (∀ s ∈ x6', Nq s) := by
  induction m with
  | zero =>
    intro ks Q c Lt Mo Fi Rs h0 hS hD hN _ _ _ _ _
    have : ks = [] := List.eq_nil_of_length_eq_zero (by omega)
    subst this
    have hr : runs d (LL ([] : List ByteArray)) = [] := runs_nil d
    refine ⟨Lt, Mo, Fi, Rs, [], fun r h => ev_succ ?_, ?_, ?_, ?_, ?_, ?_, fun s hs => by cases hs⟩
    · simp only [impl_sieveOf.l1]
      rw [List.append_nil] at h
      exact ev_neg (by simp) h
    all_goals simp [bra, hr, marks, Trie.conts]
  | succ m ih =>
    intro ks Q c Lt Mo Fi Rs h0 hS hD hN z1 z2 z3 z4 z5
    cases ks with
    | nil =>
      have hr : runs d (LL ([] : List ByteArray)) = [] := runs_nil d
      refine ⟨Lt, Mo, Fi, Rs, [], fun r h => ev_succ ?_, ?_, ?_, ?_, ?_, ?_, fun s hs => by cases hs⟩
      · simp only [impl_sieveOf.l1]
        rw [List.append_nil] at h
        exact ev_neg (by simp) h
      all_goals simp [bra, hr, marks, Trie.conts]
    | cons s ks =>
      obtain ⟨f1, f2⟩ := frontN_run (d := d) (a := s) (t := ks)
      have hne : s :: ks ≠ [] := by simp
      have hfl := frontN_le (d := d) hne
      have hf1 : 1 ≤ frontN d (s :: ks) := by unfold frontN; omega
      have hk := hS.len
      simp only [List.length_cons] at hfl z1 z2 z3 z4 z5 h0 hk
      have hGl : ((s :: ks).take (frontN d (s :: ks))).length = frontN d (s :: ks) := by rw [List.length_take, List.length_cons]; omega
      have hrun : runs d (LL (s :: ks)) = LL ((s :: ks).take (frontN d (s :: ks))) :: runs d (LL ((s :: ks).drop (frontN d (s :: ks)))) := by
        have : LL (s :: ks) = L s :: LL ks := rfl
        rw [this, runs_cons, f1, f2]
      have hSd : Sm ((s :: ks).drop (frontN d (s :: ks))) := hS.sub (List.drop_sublist _ _)
      have hgsm : Sm ((s :: ks).take (frontN d (s :: ks))) := hS.sub (List.take_sublist _ _)
      have hDd : ∀ x ∈ (s :: ks).drop (frontN d (s :: ks)), d ≤ (L x).length := fun x hx => hD x (List.mem_of_mem_drop hx)
      have hld : ((s :: ks).drop (frontN d (s :: ks))).length + frontN d (s :: ks) = ks.length + 1 := by rw [List.length_drop, List.length_cons]; omega
      have hcat : ∀ {α : Type} (a : List α) (b : α) (e : List α), (a ++ [b]) ++ e = a ++ (b :: e) := fun a b e => by simp
      have hl2 := fun (r : ByteArray × ByteArray × ByteArray × List ByteArray × Int) (h3 : Ev (fun k => impl_sieveOf.l3 k Lt Mo Fi Rs Q (keep : Int) i (s :: ks) (d : Int) (c.toNat : Int) (frontN d (s :: ks) : Int)) r) => l2_ev (r := r) hS hne hD h3 (frontN d (s :: ks) - 1) 1 (Nat.le_refl _) hf1 rfl
      have hlabel := label_eq s d (hD s (by simp))
      have hg0 : rdOf ByteArray.empty (s :: ks) 0 = s := rfl
      generalize hn : frontN d (s :: ks) = n at *
      have hnt : ((n : Int)).toNat = n := by omega
      have hsz := size_L s
      have hss : s.size ≤ 1000 := hS.sz s (by simp)
      have hcond : Lt.size + 1 ≤ 140737488355328 ∧ Mo.size + 1 ≤ 140737488355328 ∧ Fi.size + 1 ≤ 140737488355328 ∧ 0 ≤ (n : Int) ∧ (n : Int) ≤ ((s :: ks).length : Int) ∧ 0 ≤ (d : Int) ∧ (d : Int) ≤ 1000000000 ∧ 0 ≤ (keep : Int) ∧ Q.length < 4398046511104 ∧ Rs.length < 8796093022208 := by
        refine ⟨by omega, by omega, by omega, by omega, by simp only [List.length_cons]; omega, by omega, by omega, by omega, by omega, by omega⟩
      by_cases q : 1 < n
      · have hc : cont (LL ((s :: ks).take n)) = true := by simp only [cont, LL_length, hGl, decide_eq_true_eq]; omega
        have hNq : Nq ⟨(s :: ks).take n, wrap64 ((d : Int) + 1)⟩ := by
          rw [w64 (by omega) (by omega)]
          exact ⟨hgsm, by show (0 : Int) ≤ (d : Int) + 1; omega, by show (d : Int) + 1 ≤ 900; omega⟩
        obtain ⟨Lt', Mo', Fi', Rs', x6', e, a1, a2, a3, a4, a5, a6⟩ := ih ((s :: ks).drop n) (Q ++ [⟨(s :: ks).take n, wrap64 ((d : Int) + 1)⟩]) 48 (Lt.push (lab (L s) d)) (Mo.push 49) (Fi.push c) Rs (by omega) hSd hDd
          (fun y hy => by
            rcases List.mem_append.1 hy with hy | hy
            · exact hN y hy
            · rw [List.mem_singleton.1 hy]; exact hNq)
          (by rw [push_size]; omega) (by rw [push_size]; omega) (by rw [push_size]; omega) (by omega) (by simp only [List.length_append, List.length_cons, List.length_nil]; omega)
        refine ⟨Lt', Mo', Fi', Rs', ⟨(s :: ks).take n, wrap64 ((d : Int) + 1)⟩ :: x6', fun r h => ev_succ ?_, ?_, ?_, ?_, ?_, ?_, ?_⟩
        · simp only [impl_sieveOf.l1]
          refine ev_pos (by simp only [List.length_cons]; omega) (hl2 r (ev_succ ?_))
          simp only [impl_sieveOf.l3]
          rw [hg0]
          refine ev_pos hcond (ev_bindc hlabel (ev_pos (by omega) ?_))
          rw [hnt, byte_back, byte_back]
          refine e r ?_
          rw [hcat]; exact h
        · rw [a1, push_L]
          unfold bra
          rw [hrun, List.map_cons, List.map_cons, hcat]
          congr 2
          show _ = lab ((LL ((s :: ks).take n)).headD []) d
          rw [f1]; rfl
        · rw [a2, push_L]
          unfold bra
          rw [hrun, List.map_cons, List.map_cons, hcat]
          congr 2
          show _ = bit (LL ((s :: ks).take n), d)
          unfold bit
          rw [if_pos hc]
        · rw [a3, push_L, hrun, List.length_cons, marks_48]
          simp [marks]
        · rw [a4]
          unfold bra
          rw [hrun, List.map_cons, List.filter_cons, if_neg (by simp [leaf, hc])]
        · rw [List.map_cons, a5]
          unfold Trie.conts
          simp only []
          rw [hrun, List.filter_cons, if_pos hc, List.map_cons]
          congr 1
          show (LL ((s :: ks).take n), (wrap64 ((d : Int) + 1)).toNat) = _
          rw [w64 (by omega) (by omega)]
          congr 1
        · intro y hy
          rcases List.mem_cons.1 hy with rfl | hy
          · exact hNq
          · exact a6 y hy
      · have hc : cont (LL ((s :: ks).take n)) = false := by simp only [cont, LL_length, hGl, decide_eq_false_iff_not]; omega
        obtain ⟨Lt', Mo', Fi', Rs', x6', e, a1, a2, a3, a4, a5, a6⟩ := ih ((s :: ks).drop n) Q 48 (Lt.push (lab (L s) d)) (Mo.push 48) (Fi.push c) (Rs ++ [(s.extract (mn (wrap64 ((d : Int) + 1)) (s.size : Int)).toNat s.size).extract 0 (mn (keep : Int) ((s.extract (mn (wrap64 ((d : Int) + 1)) (s.size : Int)).toNat s.size).size : Int)).toNat]) (by omega) hSd hDd hN
          (by rw [push_size]; omega) (by rw [push_size]; omega) (by rw [push_size]; omega) (by simp only [List.length_append, List.length_cons, List.length_nil]; omega) (by omega)
        refine ⟨Lt', Mo', Fi', Rs', x6', fun r h => ev_succ ?_, ?_, ?_, ?_, ?_, ?_, a6⟩
        · simp only [impl_sieveOf.l1]
          refine ev_pos (by simp only [List.length_cons]; omega) (hl2 r (ev_succ ?_))
          simp only [impl_sieveOf.l3]
          rw [hg0]
          refine ev_pos hcond (ev_bindc hlabel (ev_neg (by omega) ?_))
          rw [hnt, byte_back, byte_back]
          exact e r h
        · rw [a1, push_L]
          unfold bra
          rw [hrun, List.map_cons, List.map_cons, hcat]
          congr 2
          show _ = lab ((LL ((s :: ks).take n)).headD []) d
          rw [f1]; rfl
        · rw [a2, push_L]
          unfold bra
          rw [hrun, List.map_cons, List.map_cons, hcat]
          congr 2
          show _ = bit (LL ((s :: ks).take n), d)
          unfold bit
          rw [if_neg (by rw [hc]; simp)]
        · rw [a3, push_L, hrun, List.length_cons, marks_48]
          simp [marks]
        · rw [a4, LL_append]
          unfold bra
          rw [hrun, List.map_cons, List.filter_cons, if_pos (by simp [leaf, hc]), List.map_cons]
          have : ∀ x : ByteArray, LL [x] = [L x] := fun _ => rfl
          rw [this, hcat]
          congr 2
          show _ = (((LL ((s :: ks).take n)).headD []).drop (d + 1)).take keep
          rw [f1]
          show _ = ((L s).drop (d + 1)).take keep
          have e1 : mn (wrap64 ((d : Int) + 1)) (s.size : Int) = ((min (d + 1) s.size : Nat) : Int) := by
            rw [w64 (by omega) (by omega)]; exact mnk (d + 1) s.size
          rw [e1]
          have e2 : (((min (d + 1) s.size : Nat) : Int)).toNat = min (d + 1) s.size := by omega
          rw [e2, mnk]
          have e3 : ∀ z : Nat, ((z : Nat) : Int).toNat = z := fun z => by omega
          rw [e3, L_extract, L_extract, List.drop_zero, List.take_of_length_le (i := s.size) (by omega)]
          have e4 : (s.extract (min (d + 1) s.size) s.size).size = s.size - min (d + 1) s.size := by
            rw [size_L, L_extract, List.length_drop, List.length_take]; omega
          rw [e4]
          by_cases g : d + 1 ≤ s.size
          · rw [Nat.min_eq_left g]
            by_cases g2 : keep ≤ s.size - (d + 1)
            · rw [Nat.min_eq_left g2]
            · rw [Nat.min_eq_right (by omega), List.take_of_length_le (by rw [List.length_drop]; omega), List.take_of_length_le (by rw [List.length_drop]; omega)]
          · rw [Nat.min_eq_right (by omega), List.drop_eq_nil_of_le (by omega), List.drop_eq_nil_of_le (by omega)]
            simp
        · rw [a5]
          unfold Trie.conts
          simp only []
          rw [hrun, List.filter_cons, if_neg (by rw [hc]; simp)]
theorem deep_of {x : Nd} {K : List Key} (hK : ∀ k ∈ K, KOk k) (hI : In K x) (hN : NOk x) : Deep x := fun k hk => Nat.le_trans (hI.dep_ge hK hN hk) (dep_le hK (hN.ok k hk))
theorem l0_ev (keep : Nat) {q X : List Nd} (hB : Bfs q X) : ∀ (Q : List S108) (i : Nat) (Lt Mo Fi : ByteArray) (Rs : List ByteArray), (Q.drop i).map ndq = q → i ≤ Q.length → (∀ s ∈ Q, Nq s) → (∀ x ∈ X, NOk x ∧ Deep x) →
    Lt.size + (brs X).length ≤ 900000 → Mo.size + (brs X).length ≤ 900000 → Fi.size + (brs X).length ≤ 900000 → Rs.length + (brs X).length ≤ 900000 → i + X.length ≤ 900000 →
    ∃ Lt' Mo' Fi' Rs', Ev (fun k => impl_sieveOf.l0 k Lt Mo Fi Rs Q (keep : Int) (i : Int)) (Lt', Mo', Fi', Rs', (keep : Int)) ∧
      L Lt' = L Lt ++ encL X ∧ L Mo' = L Mo ++ encM X ∧ L Fi' = L Fi ++ encF X ∧ LL Rs' = LL Rs ++ encR keep X := by
  induction hB with
  | nil =>
    intro Q i Lt Mo Fi Rs h0 hi _ _ _ _ _ _ _
    have : Q.drop i = [] := List.map_eq_nil_iff.1 h0
    have hl := congrArg List.length this
    rw [List.length_drop] at hl
    simp only [List.length_nil] at hl
    refine ⟨Lt, Mo, Fi, Rs, ev_succ ?_, ?_, ?_, ?_, ?_⟩
    · simp only [impl_sieveOf.l0]
      exact ev_neg (by omega) (ev_some rfl)
    all_goals simp [encL, encM, encF, encR, brs]
  | cons hX ih =>
    rename_i x q X
    intro Q i Lt Mo Fi Rs h0 hi hN hO z1 z2 z3 z4 z5
    cases hQ : Q.drop i with
    | nil => rw [hQ] at h0; cases h0
    | cons s t =>
      rw [hQ, List.map_cons, List.cons.injEq] at h0
      obtain ⟨rfl, h0⟩ := h0
      have hlt : i < Q.length := by
        have := congrArg List.length hQ
        rw [List.length_drop] at this
        simp only [List.length_cons] at this
        omega
      have hsi : Q[i] = s ∧ Q.drop (i + 1) = t := by
        rw [List.drop_eq_getElem_cons hlt, List.cons.injEq] at hQ; exact hQ
      have hs := hN s (by rw [← hsi.1]; exact List.getElem_mem hlt)
      have hx := hO (ndq s) (by simp)
      have hd : s.f1 = ((ndq s).2 : Int) := by show s.f1 = (s.f1.toNat : Int); have := hs.low; omega
      have hd5 := hx.1.deep
      have hlen := hs.sm.len
      have hbl : (bra (ndq s)).length ≤ s.f0.length := by
        rw [bra_length]
        have := runs_length_le (ndq s).2 (ndq s).1
        have e : (ndq s).1.length = s.f0.length := LL_length _
        omega
      rw [brs_cons, List.length_append] at z1 z2 z3 z4
      rw [List.length_cons] at z5
      have hql := bfs_len hX
      rw [List.length_append, ← h0, List.length_map] at hql
      have htl : t.length + (i + 1) = Q.length := by
        have := congrArg List.length hsi.2
        rw [List.length_drop] at this; omega
      obtain ⟨Lt1, Mo1, Fi1, Rs1, n1, e1, a1, a2, a3, a4, a5, a6⟩ := l1_ev keep (ndq s).2 (by omega) (i : Int) s.f0.length s.f0 Q 49 Lt Mo Fi Rs (Nat.le_refl _) hs.sm (fun y hy => hx.2 (L y) (List.mem_map_of_mem hy)) hN (by omega) (by omega) (by omega) (by omega) (by omega)
      have hbr : (LL s.f0, (ndq s).2) = ndq s := rfl
      rw [hbr] at a1 a2 a4 a5
      have hsz : ∀ {a b : ByteArray} {l : List UInt8}, L a = L b ++ l → a.size = b.size + l.length := fun {a b l} h => by rw [size_L, size_L, h, List.length_append]
      have b1 := hsz a1
      have b2 := hsz a2
      have b3 := hsz a3
      have b4 : Rs1.length = Rs.length + (((bra (ndq s)).filter leaf).map (rest keep)).length := by rw [← LL_length, a4, List.length_append, LL_length]
      rw [List.length_map] at b1 b2 b4
      have b6 : (marks 49 (runs (ndq s).2 (LL s.f0)).length).length = (bra (ndq s)).length := by rw [marks_49, fst1_length, bra_length]; rfl
      have b7 := List.length_filter_le leaf (bra (ndq s))
      obtain ⟨Lt', Mo', Fi', Rs', e2, c1, c2, c3, c4⟩ := ih (Q ++ n1) (i + 1) Lt1 Mo1 Fi1 Rs1 (by rw [List.drop_append_of_le_length (by omega), hsi.2, List.map_append, h0, a5]) (by rw [List.length_append]; omega)
        (fun y hy => by
          rcases List.mem_append.1 hy with hy | hy
          · exact hN y hy
          · exact a6 y hy)
        (fun y hy => hO y (by simp [hy])) (by omega) (by omega) (by omega) (by omega) (by omega)
      refine ⟨Lt', Mo', Fi', Rs', ev_succ ?_, ?_, ?_, ?_, ?_⟩
      · simp only [impl_sieveOf.l0]
        have hr : rd_T108 Q (i : Int) = s := by
          show Q.getD i z108 = s
          rw [getD_lt _ hlt]; exact hsi.1
        rw [hr, hd]
        refine ev_pos (by omega) (ev_pos (by omega) (e1 _ ?_))
        rw [w64 (by omega) (by omega)]
        exact e2
      · rw [c1, a1, List.append_assoc]; unfold encL; rw [brs_cons, List.map_append]
      · rw [c2, a2, List.append_assoc]; unfold encM; rw [brs_cons, List.map_append]
      · rw [c3, a3, List.append_assoc, marks_49]; unfold encF; rw [List.flatMap_cons]; rfl
      · rw [c4, a4, List.append_assoc]; unfold encR; rw [brs_cons, List.filter_append, List.map_append]
theorem isKeep_eq (a : Int) : impl_isKeep.f a = some (decide (keepOk a)) := by
  unfold impl_isKeep.f
  rw [impl_in_eq]; rfl
theorem impl_SieveOf_ev (l : List ByteArray) (hl : SzL l) (a : Int) : Ev (fun k => impl_SieveOf.f k l a) (sieveV (LL l) a) := by
  unfold impl_SieveOf.f sieveV
  refine Ev.bind (impl_KeysOk_ev l hl) ?_
  by_cases c : keysB (LL l) = true
  · refine ev_pos c (ev_bindc (isKeep_eq a) ?_)
    by_cases g : keepOk a
    · rw [if_pos ⟨c, g⟩]
      refine ev_pos (decide_eq_true g) ?_
      have hk := keysB_iff.1 c
      obtain ⟨hL, hX⟩ := lvls_is hk
      have hfew := hk.few
      have hb := brs_few hL hfew hX
      obtain ⟨keep, rfl⟩ : ∃ n : Nat, a = (n : Int) := ⟨a.toNat, by have := g.1; omega⟩
      obtain ⟨Lt, Mo, Fi, Rs, e, a1, a2, a3, a4⟩ := l0_ev keep hL.bfs [⟨l, 0⟩] 0 (⟨#[]⟩ : ByteArray) (⟨#[]⟩ : ByteArray) (⟨#[]⟩ : ByteArray) [] rfl (by simp)
        (fun s hs => by
          rw [List.mem_singleton.1 hs]
          exact ⟨ksok_sm hk, by show (0 : Int) ≤ 0; omega, by show (0 : Int) ≤ 900; omega⟩)
        (fun x hx => ⟨(hL.nodes x hx).2, deep_of hk.ok (hL.nodes x hx).1 (hL.nodes x hx).2⟩) (by show 0 + _ ≤ _; omega) (by show 0 + _ ≤ _; omega) (by show 0 + _ ≤ _; omega) (by show 0 + _ ≤ _; omega) (by omega)
      refine Ev.bind (a := (Lt, Mo, Fi, Rs, (keep : Int))) (by unfold impl_sieveOf.f; exact e) (ev_some (encT_of ?_ ?_ ?_ ?_))
      · rw [a1]; rfl
      · rw [a2]; rfl
      · rw [a3]; rfl
      · rw [a4]; rfl
    · rw [if_neg (fun h => g h.2)]
      exact ev_neg (by simp [g]) (ev_some rfl)
  · refine ev_neg c ?_
    rw [if_neg (fun h => c h.1)]
    exact ev_some rfl
end Go.Proofs.Ytifgcajpkgamgaa.Pb
end
section
set_option linter.unusedVariables false
set_option linter.unusedSimpArgs false
namespace Go.Proofs.Ytifgcajpkgamgaa.Pb
open Go Go.RowKit Go.Proofs.YtifgcajpkgamgaaW.PrintWords Go.Proofs.YtifgcajpkgamgaaW.PrintLast Go.Proofs.YtifgcajpkgamgaaW.PrintMore Go.Proofs.Ytifgcajpkgamgaa.Trie Go.Proofs.Ytifgcajpkgamgaa.Q
structure Fm (Lt Mo Fi : ByteArray) (Rs : List ByteArray) (n : Nat) : Prop where
  ln : (L Lt).length = n
  mn : (L Mo).length = n
  fn : (L Fi).length = n
  few : n ≤ 400
  mb : (L Mo).all bitc = true
  fb : (L Fi).all bitc = true
  rs : Rs.length = n - onesB (L Mo) n
  sz : ∀ s ∈ Rs, s.size ≤ 1048576
theorem bit_or {l : List UInt8} (h : l.all bitc = true) {i : Nat} (hi : i < l.length) : l.getD i 0 = 48 ∨ l.getD i 0 = 49 := by
  rw [getD_lt _ hi]
  have := List.all_eq_true.1 h _ (List.getElem_mem hi)
  simpa [bitc] using this
theorem pos_succ_ge : ∀ (l : List UInt8) (m : Nat), pos l m < l.length → pos l m + 1 ≤ pos l (m + 1) := by
  intro l
  induction l with
  | nil => intro m h; simp [pos] at h
  | cons c l ih =>
    intro m h
    unfold pos at h ⊢
    simp only [List.length_cons] at h
    by_cases q : c = 49
    · rw [if_pos q] at h ⊢
      rw [if_pos q, if_neg (show ¬ m + 1 = 0 by omega)]
      by_cases z : m = 0
      · rw [if_pos z]; omega
      · rw [if_neg z] at h ⊢
        have e : m + 1 - 1 = (m - 1) + 1 := by omega
        have := ih (m - 1) (by omega)
        rw [e]; omega
    · rw [if_neg q] at h ⊢
      rw [if_neg q]
      have := ih m (by omega)
      omega
theorem between : ∀ (l : List UInt8) (m i : Nat), pos l m < i → i < pos l (m + 1) → l.getD i 0 ≠ 49 := by
  intro l
  induction l with
  | nil => intro m i h1 h2; simp [pos] at h2
  | cons c l ih =>
    intro m i h1 h2
    unfold pos at h1 h2
    cases i with
    | zero => omega
    | succ i =>
      rw [List.getD_cons_succ]
      by_cases q : c = 49
      · rw [if_pos q] at h1 h2
        rw [if_neg (show ¬ m + 1 = 0 by omega)] at h2
        by_cases z : m = 0
        · subst z
          have h3 : i < pos l 0 := by
            simp at h2
            omega
          clear h1 h2 ih
          intro hq
          have : ∀ (l : List UInt8) (i : Nat), i < pos l 0 → l.getD i 0 ≠ 49 := by
            intro l
            induction l with
            | nil => intro i h; simp [pos] at h
            | cons c l ih =>
              intro i h
              unfold pos at h
              by_cases q : c = 49
              · rw [if_pos q, if_pos rfl] at h; omega
              · rw [if_neg q] at h
                cases i with
                | zero => simpa using q
                | succ i => rw [List.getD_cons_succ]; exact ih i (by omega)
          exact this l i h3 hq
        · rw [if_neg z] at h1
          have e : m + 1 - 1 = (m - 1) + 1 := by omega
          rw [e] at h2
          exact ih (m - 1) i (by omega) (by omega)
      · rw [if_neg q] at h1 h2
        exact ih m i (by omega) (by omega)
section
variable {Lt Mo Fi : ByteArray} {Rs : List ByteArray} {keep : Int} {n : Nat}
theorem branches_l0 (h : Fm Lt Mo Fi Rs n) (m : Nat) (hm : pos (L Fi) m < n) (d : Nat) : ∀ i : Nat, pos (L Fi) m < i → i ≤ pos (L Fi) (m + 1) → pos (L Fi) (m + 1) - i = d →
    Ev (fun k => impl_Sieve_branches.l0 k ((pos (L Fi) m : Nat) : Int) (i : Int) Lt Mo Fi Rs keep) (((pos (L Fi) m : Nat) : Int), ((pos (L Fi) (m + 1) : Nat) : Int)) := by
  have hf := h.fn
  have hs := size_L Fi
  have hle := pos_le (L Fi) (m + 1)
  have hfew := h.few
  induction d with
  | zero =>
    intro i h1 h2 h3
    have e : i = pos (L Fi) (m + 1) := by omega
    refine ev_succ ?_
    simp only [impl_Sieve_branches.l0]
    by_cases c : i < n
    · have h1' := (pos_one (L Fi) (m + 1) (by omega)).1
      refine ev_pos (by omega) (ev_pos (by omega) (ev_neg ?_ (ev_some (by rw [e]))))
      rw [bt_L, e, h1']
      decide
    · exact ev_neg (by omega) (ev_some (by rw [e]))
  | succ d ih =>
    intro i h1 h2 h3
    have hlt : i < n := by omega
    refine ev_succ ?_
    simp only [impl_Sieve_branches.l0]
    have hz : (L Fi).getD i 0 = 48 := by
      rcases bit_or h.fb (show i < (L Fi).length by omega) with q | q
      · exact q
      · exact absurd q (between _ _ _ h1 (by omega))
    refine ev_pos (by omega) (ev_pos (by omega) (ev_pos ?_ ?_))
    · rw [bt_L, hz]; rfl
    · rw [w64 (by omega) (by omega)]
      exact ih (i + 1) (by omega) (by omega) (by omega)
def brI (F : List UInt8) (m : Nat) : Int × Int := if pos F m < F.length then (((pos F m : Nat) : Int), ((pos F (m + 1) : Nat) : Int)) else (0, 0)
theorem branches_ev (h : Fm Lt Mo Fi Rs n) (m : Nat) (hm : m ≤ 1000000) : Ev (fun k => impl_Sieve_branches.f k Lt Mo Fi Rs keep (m : Int)) (brI (L Fi) m) := by
  unfold impl_Sieve_branches.f brI
  have hf := h.fn
  have hs := size_L Fi
  have hfew := h.few
  refine Ev.bind (impl_one_ev Fi (by omega) m (by omega)) ?_
  unfold oneI
  by_cases c : pos (L Fi) m < (L Fi).length
  · rw [if_pos c, if_pos c]
    refine ev_neg (by omega) ?_
    rw [w64 (by omega) (by omega)]
    exact branches_l0 h m (by omega) _ (pos (L Fi) m + 1) (by omega) (pos_succ_ge _ _ c) rfl
  · rw [if_neg c, if_neg c]
    exact ev_pos (by omega) (ev_some rfl)
theorem one_L : L (⟨#[49]⟩ : ByteArray) = [49] := rfl
theorem nought_L : L (⟨#[48]⟩ : ByteArray) = [48] := rfl
theorem node_eq (h : Fm Lt Mo Fi Rs n) (i : Nat) (hi : i < n) : impl_Sieve_node.f Lt Mo Fi Rs keep (i : Int) = some ((onesB (L Mo) (i + 1) : Nat) : Int) := by
  unfold impl_Sieve_node.f
  have hf := h.mn
  have hs := size_L Mo
  have hfew := h.few
  rw [w64 (by omega) (by omega), if_pos (by omega), if_pos (by omega), count_L one_L]
  simp only [Option.bind_some]
  rw [L_extract]
  have : ((i : Int) + 1).toNat = i + 1 := by omega
  rw [this, List.drop_zero, onesB_count]
theorem noughts : ∀ (l : List UInt8), l.all bitc = true → ∀ i, i ≤ l.length → (l.take i).count 48 = i - onesB l i := by
  intro l hl i hi
  have h1 : ∀ (l : List UInt8), l.all bitc = true → l.count 48 + l.countP (· == 49) = l.length := by
    intro l
    induction l with
    | nil => intro _; rfl
    | cons c l ih =>
      intro h
      rw [List.all_cons, Bool.and_eq_true] at h
      have := ih h.2
      have hc : c = 48 ∨ c = 49 := by simpa [bitc] using h.1
      rcases hc with rfl | rfl <;> simp <;> omega
  have h2 := h1 (l.take i) (by
    rw [List.all_eq_true] at hl ⊢
    exact fun x hx => hl x (List.mem_of_mem_take hx))
  rw [List.length_take, Nat.min_eq_left hi] at h2
  unfold onesB
  omega
theorem rest_eq (h : Fm Lt Mo Fi Rs n) (i : Nat) (hi : i < n) (h48 : (L Mo).getD i 0 = 48) : impl_Sieve_rest.f Lt Mo Fi Rs keep (i : Int) = some (Rs.getD (i - onesB (L Mo) i) ByteArray.empty) ∧ i - onesB (L Mo) i < Rs.length := by
  have hf := h.mn
  have hs := size_L Mo
  have hfew := h.few
  have hlt : i - onesB (L Mo) i < Rs.length := by
    rw [h.rs]
    have h1 := noughts (L Mo) h.mb i (by omega)
    have h2 := noughts (L Mo) h.mb n (by omega)
    have h3 := noughts (L Mo) h.mb (i + 1) (by omega)
    rw [← h1, ← h2]
    have e : (L Mo).take (i + 1) = (L Mo).take i ++ [48] := by
      rw [List.take_succ_eq_append_getElem (by omega)]
      congr 1
      rw [getD_lt _ (by omega)] at h48
      rw [h48]
    have h4 : ((L Mo).take (i + 1)).count 48 = ((L Mo).take i).count 48 + 1 := by rw [e, List.count_append]; rfl
    have h5 : ((L Mo).take (i + 1)).count 48 ≤ ((L Mo).take n).count 48 := (List.IsPrefix.sublist (List.take_prefix_take_left (by omega))).count_le 48
    omega
  refine ⟨?_, hlt⟩
  unfold impl_Sieve_rest.f
  rw [if_pos (by omega), if_pos (by omega), count_L nought_L]
  simp only [Option.bind_some]
  rw [L_extract]
  have : ((i : Int)).toNat = i := by omega
  rw [this, List.drop_zero, noughts (L Mo) h.mb i (by omega), if_pos (by omega), if_pos (by omega)]
  rfl
theorem complete_eq (h : Fm Lt Mo Fi Rs n) (i : Nat) (hi : i < n) (h48 : (L Mo).getD i 0 = 48) : impl_Sieve_complete.f Lt Mo Fi Rs keep (i : Int) = some (decide ((L Lt).getD i 0 = 45 ∨ ((L (Rs.getD (i - onesB (L Mo) i) ByteArray.empty)).length : Int) < keep)) := by
  unfold impl_Sieve_complete.f
  have hf := h.ln
  have hs := size_L Lt
  rw [if_pos (by omega), if_pos (by omega)]
  have hb : bt Lt (i : Int) = 45 ↔ (L Lt).getD i 0 = 45 := bt_is (n := 45) (by omega)
  by_cases c : (L Lt).getD i 0 = 45
  · rw [if_pos (hb.2 c), decide_eq_true (.inl c)]
  · rw [if_neg (fun q => c (hb.1 q)), (rest_eq h i hi h48).1]
    simp only [Option.bind_some]
    rw [size_L]
    congr 1
    rw [Bool.eq_iff_iff, decide_eq_true_eq, decide_eq_true_eq]
    exact ⟨.inr, fun q => q.elim (fun q => absurd q c) id⟩
end
end Go.Proofs.Ytifgcajpkgamgaa.Pb
end
section
set_option linter.unusedVariables false
set_option linter.unusedSimpArgs false
namespace Go.Proofs.Ytifgcajpkgamgaa.Pb
open Go Go.RowKit Go.Proofs.YtifgcajpkgamgaaW.PrintWords Go.Proofs.YtifgcajpkgamgaaW.PrintLast Go.Proofs.YtifgcajpkgamgaaW.PrintMore Go.Proofs.Ytifgcajpkgamgaa.Trie Go.Proofs.Ytifgcajpkgamgaa.Q
theorem cut_one (a : ByteArray) {i : Nat} (hi : i < (L a).length) : L (a.extract ((i : Int)).toNat ((i : Int) + 1).toNat) = [(L a).getD i 0] := by
  rw [L_extract, getD_lt _ hi]
  have e1 : ((i : Int)).toNat = i := by omega
  have e2 : ((i : Int) + 1).toNat = i + 1 := by omega
  rw [e1, e2, List.drop_take, List.drop_eq_getElem_cons hi]
  have : i + 1 - i = 1 := by omega
  rw [this]; rfl
theorem cut_one_size (a : ByteArray) {i : Nat} (hi : i < (L a).length) : (a.extract ((i : Int)).toNat ((i : Int) + 1).toNat).size = 1 := by rw [size_L, cut_one a hi]; rfl
section
variable {Lt Mo Fi : ByteArray} {Rs : List ByteArray} {keep : Int} {n : Nat}
def cost (Mo Fi : ByteArray) (t a b : Nat) : Nat := rsum (wgt (L Mo) (L Fi) t) a b
theorem cost_leaf {t a b : Nat} (h : a < b) (h48 : (L Mo).getD a 0 = 48) : cost Mo Fi (t + 1) a b = 1 + cost Mo Fi (t + 1) (a + 1) b := by
  unfold cost
  rw [rsum_step _ h]
  congr 1
  show (if (L Mo).getD a 0 = 49 then _ else 1) = 1
  rw [if_neg (by rw [h48]; decide)]
theorem cost_node {t a b : Nat} (h : a < b) (h49 : (L Mo).getD a 0 = 49) : cost Mo Fi (t + 1) a b = cost Mo Fi t (pos (L Fi) (onesB (L Mo) (a + 1))) (pos (L Fi) (onesB (L Mo) (a + 1) + 1)) + cost Mo Fi (t + 1) (a + 1) b := by
  unfold cost
  rw [rsum_step _ h]
  congr 1
  show (if (L Mo).getD a 0 = 49 then _ else 1) = _
  rw [if_pos h49]
def Ts (l : List S93) : Prop := ∀ s ∈ l, s.f0.size ≤ 2000000
theorem Ts.snoc {l : List S93} (h : Ts l) {s : S93} (hs : s.f0.size ≤ 2000000) : Ts (l ++ [s]) := fun x hx => by
  rcases List.mem_append.1 hx with hx | hx
  · exact h x hx
  · rw [List.mem_singleton.1 hx]; exact hs
def PartsP (Lt Mo Fi : ByteArray) (Rs : List ByteArray) (keep : Int) (n t : Nat) : Prop :=
  ∀ (m : Nat) (way : ByteArray) (out : List S93), m ≤ 1000000 → pos (L Fi) m < n → n - pos (L Fi) m < t → way.size ≤ 1000 → out.length + cost Mo Fi t (pos (L Fi) m) (pos (L Fi) (m + 1)) ≤ 1000000 → Ts out →
    ∃ r, Ev (fun k => impl_Sieve_parts.f k Lt Mo Fi Rs keep (m : Int) way out) r ∧ (r.2 = true → r.1.length ≤ out.length + cost Mo Fi t (pos (L Fi) m) (pos (L Fi) (m + 1)) ∧ Ts r.1)
theorem parts_l0 (h : Fm Lt Mo Fi Rs n) (t tq : Nat) (hto : tq ≤ n) (hP : PartsP Lt Mo Fi Rs keep n t) (way : ByteArray) (hw : way.size ≤ 5) (d : Nat) : ∀ (i : Nat) (out : List S93), i ≤ tq → tq - i = d → n - i ≤ t → out.length + cost Mo Fi (t + 1) i tq ≤ 1000000 → Ts out →
    ∃ r, Ev (fun k => impl_Sieve_parts.l0 k way out (tq : Int) (i : Int) Lt Mo Fi Rs keep) r ∧ (r.2 = true → r.1.length ≤ out.length + cost Mo Fi (t + 1) i tq ∧ Ts r.1) := by
  have hfew := h.few
  have s1 := size_L Lt
  have s2 := size_L Mo
  have h1l := h.ln
  have h2l := h.mn
  induction d with
  | zero =>
    intro i out g1 g2 g3 g4 g5
    refine ⟨(out, true), ev_succ ?_, fun _ => ⟨by show out.length ≤ _; omega, g5⟩⟩
    simp only [impl_Sieve_parts.l0]
    exact ev_neg (by omega) (ev_some rfl)
  | succ d ih =>
    intro i out g1 g2 g3 g4 g5
    have hlt : i < tq := by omega
    have hin : i < n := by omega
    have hw64 : ∀ _ : Unit, wrap64 ((i : Int) + 1) = ((i + 1 : Nat) : Int) := fun _ => by rw [w64 (by omega) (by omega)]; omega
    have key : ∀ way' : ByteArray, way'.size ≤ 6 → ∃ r, Ev (fun k => impl_Sieve_parts.j1 k way out (tq : Int) (i : Int) way' Lt Mo Fi Rs keep) r ∧ (r.2 = true → r.1.length ≤ out.length + cost Mo Fi (t + 1) i tq ∧ Ts r.1) := by
      intro way' hw'
      rcases bit_or h.mb (show i < (L Mo).length by omega) with h48 | h49
      · have hc := cost_leaf (Mo := Mo) (Fi := Fi) (t := t) hlt h48
        have hb : bt Mo (i : Int) = 48 := (bt_is (n := 48) (by omega)).2 h48
        obtain ⟨hr1, hr2⟩ := rest_eq (keep := keep) h i hin h48
        have hrs := h.sz _ (show Rs.getD (i - onesB (L Mo) i) ByteArray.empty ∈ Rs by rw [getD_lt _ hr2]; exact List.getElem_mem _)
        have hcm := complete_eq (keep := keep) h i hin h48
        generalize Rs.getD (i - onesB (L Mo) i) ByteArray.empty = rv at hr1 hrs hcm
        generalize decide ((L Lt).getD i 0 = 45 ∨ ((L rv).length : Int) < keep) = cv at hcm
        obtain ⟨r, hr, hb2⟩ := ih (i + 1) (out ++ [⟨way' ++ rv, cv⟩]) (by omega) (by omega) (by omega) (by rw [List.length_append]; simp only [List.length_cons, List.length_nil]; omega) (g5.snoc (by show (way' ++ rv).size ≤ _; rw [ByteArray.size_append]; omega))
        refine ⟨r, ev_succ ?_, fun q => ⟨by have := (hb2 q).1; rw [List.length_append] at this; simp only [List.length_cons, List.length_nil] at this; omega, (hb2 q).2⟩⟩
        simp only [impl_Sieve_parts.j1]
        refine ev_pos (by omega) (ev_pos (by omega) (ev_pos hb ?_))
        simp only [hr1, Option.bind_some]
        refine ev_pos (by omega) ?_
        simp only [hcm, Option.bind_some]
        refine ev_pos (by omega) ?_
        rw [hw64 ()]; exact hr
      · have hc := cost_node (Mo := Mo) (Fi := Fi) (t := t) hlt h49
        have hb : ¬ bt Mo (i : Int) = 48 := fun q => by
          have := (bt_is (n := 48) (by omega)).1 q
          rw [h49] at this; exact absurd this (by decide)
        have hno : ∀ b : Bool, b = true → Ev (fun k => impl_Sieve_parts.j2 k way out (tq : Int) (i : Int) way' b Lt Mo Fi Rs keep) ([], false) := by
          intro b hb
          refine ev_succ ?_
          simp only [impl_Sieve_parts.j2]
          exact ev_pos hb (ev_some rfl)
        have hone := onesB_le (L Mo) (i + 1)
        have hbr := branches_ev (keep := keep) h (onesB (L Mo) (i + 1)) (by omega)
        have hno' : ∀ b : Bool, b = true → ∃ r, Ev (fun k => impl_Sieve_parts.j2 k way out (tq : Int) (i : Int) way' b Lt Mo Fi Rs keep) r ∧ (r.2 = true → r.1.length ≤ out.length + cost Mo Fi (t + 1) i tq ∧ Ts r.1) := fun b hb => ⟨_, hno b hb, fun q => by cases q⟩
        have hj : ∃ r, Ev (fun k => (if (brI (L Fi) (onesB (L Mo) (i + 1))).1 ≤ (i : Int) then (impl_Sieve_parts.j2 k way out (tq : Int) (i : Int) way' true Lt Mo Fi Rs keep) else (if (i : Int) < (Lt.size : Int) then (impl_Sieve_parts.j2 k way out (tq : Int) (i : Int) way' ((bt Lt (i : Int)) == 45) Lt Mo Fi Rs keep) else none))) r ∧ (r.2 = true → r.1.length ≤ out.length + cost Mo Fi (t + 1) i tq ∧ Ts r.1) := by
          by_cases c : (brI (L Fi) (onesB (L Mo) (i + 1))).1 ≤ (i : Int)
          · obtain ⟨r, h1, h2⟩ := hno' true rfl
            exact ⟨r, ev_pos c h1, h2⟩
          · by_cases c2 : ((bt Lt (i : Int)) == 45) = true
            · obtain ⟨r, h1, h2⟩ := hno' _ c2
              exact ⟨r, ev_neg c (ev_pos (by omega) h1), h2⟩
            · have hpos : pos (L Fi) (onesB (L Mo) (i + 1)) < n := by
                by_cases z : pos (L Fi) (onesB (L Mo) (i + 1)) < (L Fi).length
                · have := h.fn; omega
                · unfold brI at c
                  rw [if_neg z] at c
                  exact absurd (show (0 : Int) ≤ (i : Int) by omega) c
              have hgt : i < pos (L Fi) (onesB (L Mo) (i + 1)) := by
                unfold brI at c
                rw [if_pos (by have := h.fn; omega)] at c
                simp only at c; omega
              obtain ⟨r1, e1, b1⟩ := hP (onesB (L Mo) (i + 1)) way' out (by omega) hpos (by omega) (by omega) (by omega) g5
              have hfin : ∃ r, Ev (fun k => impl_Sieve_parts.j2 k way out (tq : Int) (i : Int) way' ((bt Lt (i : Int)) == 45) Lt Mo Fi Rs keep) r ∧ (r.2 = true → r.1.length ≤ out.length + cost Mo Fi (t + 1) i tq ∧ Ts r.1) := by
                by_cases q : r1.2 = true
                · obtain ⟨b1', b1''⟩ := b1 q
                  obtain ⟨r, hr, hb2⟩ := ih (i + 1) r1.1 (by omega) (by omega) (by omega) (by omega) b1''
                  refine ⟨r, ev_succ ?_, fun q2 => ⟨by have := (hb2 q2).1; omega, (hb2 q2).2⟩⟩
                  simp only [impl_Sieve_parts.j2]
                  refine ev_neg c2 (ev_bindc (node_eq h i hin) (Ev.bind e1 (ev_pos q ?_)))
                  rw [hw64 ()]; exact hr
                · refine ⟨([], false), ev_succ ?_, fun q2 => by cases q2⟩
                  simp only [impl_Sieve_parts.j2]
                  exact ev_neg c2 (ev_bindc (node_eq h i hin) (Ev.bind e1 (ev_neg q (ev_some rfl))))
              obtain ⟨r, h1, h2⟩ := hfin
              exact ⟨r, ev_neg c (ev_pos (by omega) h1), h2⟩
        obtain ⟨r, h1, h2⟩ := hj
        refine ⟨r, ev_succ ?_, h2⟩
        simp only [impl_Sieve_parts.j1]
        exact ev_pos (by omega) (ev_pos (by omega) (ev_neg hb (ev_bindc (node_eq h i hin) (Ev.bind hbr h1))))
    by_cases c : bt Lt (i : Int) = 45
    · obtain ⟨r, h1, h2⟩ := key way (by omega)
      refine ⟨r, ev_succ ?_, h2⟩
      simp only [impl_Sieve_parts.l0]
      exact ev_pos (by omega) (ev_pos (by omega) (ev_pos (by omega) (ev_pos c h1)))
    · have hz := cut_one_size Lt (show i < (L Lt).length by omega)
      have hw64' : ∀ _ : Unit, wrap64 ((i : Int) + 1) = (i : Int) + 1 := fun _ => w64 (by omega) (by omega)
      obtain ⟨r, h1, h2⟩ := key (way ++ Lt.extract ((i : Int)).toNat ((i : Int) + 1).toNat) (by rw [ByteArray.size_append]; omega)
      refine ⟨r, ev_succ ?_, h2⟩
      simp only [impl_Sieve_parts.l0]
      rw [hw64' ()]
      exact ev_pos (by omega) (ev_pos (by omega) (ev_pos (by omega) (ev_neg c (ev_pos (by omega) (ev_pos (by omega) (ev_pos (by omega) h1))))))
theorem parts_P (h : Fm Lt Mo Fi Rs n) : ∀ t, PartsP Lt Mo Fi Rs keep n t := by
  have hfew := h.few
  intro t
  induction t with
  | zero => intro m way out _ g1 g2; omega
  | succ t ih =>
    intro m way out hm g1 g2 g3 g4 g5
    have hbr := branches_ev (keep := keep) h m hm
    unfold brI at hbr
    rw [if_pos (by have := h.fn; omega)] at hbr
    by_cases c : (way.size : Int) > 5
    · refine ⟨([], false), ev_succ ?_, fun q => by cases q⟩
      simp only [impl_Sieve_parts.f]
      exact ev_pos c (ev_some rfl)
    · have hto : pos (L Fi) (m + 1) ≤ n := by have := pos_le (L Fi) (m + 1); have := h.fn; omega
      have hle := pos_mono (L Fi) (show m ≤ m + 1 by omega)
      obtain ⟨r, e1, b1⟩ := parts_l0 h t (pos (L Fi) (m + 1)) hto ih way (by omega) _ (pos (L Fi) m) out hle rfl (by omega) g4 g5
      refine ⟨r, ev_succ ?_, b1⟩
      simp only [impl_Sieve_parts.f]
      exact ev_neg c (Ev.bind hbr e1)
theorem parts_any (h : Fm Lt Mo Fi Rs n) : ∃ r, Ev (fun k => impl_Sieve_parts.f k Lt Mo Fi Rs keep 0 (⟨#[]⟩ : ByteArray) []) r ∧ (r.2 = true → r.1.length ≤ 1000000 ∧ Ts r.1) := by
  have hfew := h.few
  by_cases c : pos (L Fi) 0 < n
  · have hcost : cost Mo Fi (n + 1) (pos (L Fi) 0) (pos (L Fi) (0 + 1)) ≤ (n + 1) * n := wgt_all _ _ h.mn h.fn _ _ _ (by have := pos_le (L Fi) (0 + 1); have := h.fn; omega)
    have h400 : (n + 1) * n ≤ 401 * 400 := Nat.mul_le_mul (by omega) (by omega)
    obtain ⟨r, e, b⟩ := parts_P (keep := keep) h (n + 1) 0 (⟨#[]⟩ : ByteArray) [] (by omega) c (by omega) (by show 0 ≤ 1000; omega) (by simp only [List.length_nil]; omega) (fun s hs => by cases hs)
    exact ⟨r, e, fun q => ⟨by have := (b q).1; simp only [List.length_nil] at this; omega, (b q).2⟩⟩
  · refine ⟨([], true), ev_succ ?_, fun _ => ⟨by simp, fun s hs => by cases hs⟩⟩
    have hbr := branches_ev (keep := keep) h 0 (by omega)
    unfold brI at hbr
    rw [if_neg (by have := h.fn; omega)] at hbr
    simp only [impl_Sieve_parts.f]
    refine ev_neg (by show ¬ ((0 : Nat) : Int) > 5; omega) (Ev.bind hbr (ev_succ ?_))
    simp only [impl_Sieve_parts.l0]
    exact ev_neg (by omega) (ev_some rfl)
end
end Go.Proofs.Ytifgcajpkgamgaa.Pb
end
section
set_option linter.unusedVariables false
set_option linter.unusedSimpArgs false
namespace Go.Proofs.Ytifgcajpkgamgaa.Pb
open Go Go.RowKit Go.Proofs.YtifgcajpkgamgaaW.PrintWords Go.Proofs.YtifgcajpkgamgaaW.PrintLast Go.Proofs.YtifgcajpkgamgaaW.PrintMore Go.Proofs.Ytifgcajpkgamgaa.Trie Go.Proofs.Ytifgcajpkgamgaa.Q
structure Enc (K : List Key) (X : List Nd) (keep : Nat) (Lt Mo Fi : ByteArray) (Rs : List ByteArray) : Prop where
  lv : Lvl K X
  few : K.length ≤ 24
  fewb : (brs X).length ≤ 400
  kp : keep ≤ 5
  l : L Lt = encL X
  m : L Mo = encM X
  f : L Fi = encF X
  r : LL Rs = encR keep X
theorem fst1_bits (n : Nat) : (fst1 n).all bitc = true := by
  cases n with
  | zero => rfl
  | succ n =>
    show (49 :: List.replicate n 48).all bitc = true
    rw [List.all_cons, List.all_replicate]
    simp [bitc]
section
variable {K : List Key} {X : List Nd} {keep : Nat} {Lt Mo Fi : ByteArray} {Rs : List ByteArray}
theorem encR_short (keep : Nat) (X : List Nd) (hX : ∀ x ∈ X, NOk x) : ∀ s ∈ encR keep X, s.length ≤ 5 := by
  intro s hs
  unfold encR at hs
  obtain ⟨b, hb, rfl⟩ := List.mem_map.1 hs
  obtain ⟨x, hx, h1, h2⟩ := mem_brs.1 (List.mem_filter.1 hb).1
  have hk := (hX x hx).ok _ ((runs_sub h1).subset (headD_mem (runs_ne_nil _ _ h1)))
  unfold rest
  rw [List.length_take, List.length_drop]
  have := hk.len
  omega
theorem Enc.fm (h : Enc K X keep Lt Mo Fi Rs) : Fm Lt Mo Fi Rs (brs X).length where
  ln := by rw [h.l, encL_length]
  mn := by rw [h.m, encM_length]
  fn := by rw [h.f, encF_length]
  few := h.fewb
  mb := by
    rw [h.m]; unfold encM
    rw [List.all_map, List.all_eq_true]
    intro b _
    simp only [Function.comp]
    unfold bit
    split <;> rfl
  fb := by
    rw [h.f]; unfold encF
    rw [List.all_flatMap, List.all_eq_true]
    intro x _
    exact fst1_bits _
  rs := by
    rw [← LL_length, h.r, h.m]
    rw [zeros_enc X (Nat.le_refl _), List.take_length]
    unfold encR
    rw [List.length_map, List.countP_eq_length_filter]
  sz := by
    intro s hs
    have h1 : L s ∈ LL Rs := List.mem_map_of_mem hs
    rw [h.r] at h1
    have := encR_short keep X (fun x hx => (h.lv.nodes x hx).2) _ h1
    rw [size_L]; omega
theorem Enc.pos (h : Enc K X keep Lt Mo Fi Rs) (h0 : K ≠ []) {m : Nat} (hm : m ≤ X.length) : Trie.pos (L Fi) m = off X m := by
  rw [h.f]; exact pos_encF X (h.lv.full h0) m hm
theorem off_le (X : List Nd) (m : Nat) : off X m ≤ (brs X).length := by
  have h1 : off X m ≤ off X (max m X.length) := off_mono X (Nat.le_max_left _ _)
  have h2 : off X (max m X.length) = (brs X).length := by
    unfold off
    rw [List.take_of_length_le (Nat.le_max_right _ _)]
  omega
theorem Enc.br (h : Enc K X keep Lt Mo Fi Rs) (h0 : K ≠ []) {m : Nat} (hm : m < X.length) : brI (L Fi) m = (((off X m : Nat) : Int), ((off X (m + 1) : Nat) : Int)) ∧ off X m < (brs X).length := by
  have h1 := off_succ hm
  have h2 := h.lv.full h0 X[m] (List.getElem_mem hm)
  have h3 := off_le X (m + 1)
  refine ⟨?_, by omega⟩
  unfold brI
  rw [h.pos h0 (by omega), h.pos h0 (by omega), if_pos (by have := h.fm.fn; omega)]
noncomputable def pt (K : List Key) (keep : Nat) (k : Key) : S93 := ⟨mkS (Trie.hd K keep k), cpl K keep k⟩
theorem LL_at {l : List ByteArray} {i : Nat} {s : Key} (h : (LL l)[i]? = some s) : L (l.getD i ByteArray.empty) = s := by
  rw [LL_getD, List.getD_eq_getElem?_getD, h]; rfl
def EncP (K : List Key) (X : List Nd) (keep : Nat) (Lt Mo Fi : ByteArray) (Rs : List ByteArray) (t : Nat) : Prop :=
  ∀ (m : Nat) (hm : m < X.length) (way : ByteArray) (out : List S93), X.length - m ≤ t → (∀ k ∈ X[m].1, L way = k.take X[m].2) → out.length + X[m].1.length ≤ 1000000 →
    Ev (fun k => impl_Sieve_parts.f k Lt Mo Fi Rs (keep : Int) (m : Int) way out) (out ++ X[m].1.map (pt K keep), true)
theorem enc_l0 (h : Enc K X keep Lt Mo Fi Rs) (h0 : K ≠ []) (t : Nat) (hP : EncP K X keep Lt Mo Fi Rs t) {m : Nat} (hm : m < X.length) (ht : X.length - m ≤ t + 1) (way : ByteArray) (hway : ∀ k ∈ X[m].1, L way = k.take X[m].2) (d : Nat) :
    ∀ (j : Nat) (out : List S93), j ≤ (runs X[m].2 X[m].1).length → (runs X[m].2 X[m].1).length - j = d → out.length + (((runs X[m].2 X[m].1).drop j).flatten).length ≤ 1000000 →
      Ev (fun k => impl_Sieve_parts.l0 k way out ((off X (m + 1) : Nat) : Int) ((off X m + j : Nat) : Int) Lt Mo Fi Rs (keep : Int)) (out ++ (((runs X[m].2 X[m].1).drop j).flatten).map (pt K keep), true) := by
  have F := h.fm
  have hfew := F.few
  have hoff := off_succ hm
  have hle := off_le X (m + 1)
  have s1 := size_L Lt
  have s2 := size_L Mo
  have l1 := F.ln
  have l2 := F.mn
  have hd5 := (h.lv.nodes X[m] (List.getElem_mem hm)).2.deep
  induction d with
  | zero =>
    intro j out g1 g2 g3
    refine ev_succ ?_
    simp only [impl_Sieve_parts.l0]
    refine ev_neg (by omega) (ev_some ?_)
    rw [List.drop_eq_nil_of_le (by omega)]; simp
  | succ d ih =>
    intro j out g1 g2 g3
    have hj : j < (runs X[m].2 X[m].1).length := by omega
    have hi : off X m + j < (brs X).length := by omega
    have hdrop : (runs X[m].2 X[m].1).drop j = (runs X[m].2 X[m].1)[j] :: (runs X[m].2 X[m].1).drop (j + 1) := List.drop_eq_getElem_cons hj
    rw [hdrop, List.flatten_cons, List.length_append] at g3
    rw [hdrop, List.flatten_cons, List.map_append]
    have hw64 : ∀ _ : Unit, wrap64 (((off X m + j : Nat) : Int) + 1) = ((off X m + (j + 1) : Nat) : Int) := fun _ => by rw [w64 (by omega) (by omega)]; omega
    have hw64' : ∀ _ : Unit, wrap64 (((off X m + j : Nat) : Int) + 1) = ((off X m + j : Nat) : Int) + 1 := fun _ => w64 (by omega) (by omega)
    have hbL : bt Lt ((off X m + j : Nat) : Int) = 45 ↔ (L Lt).getD (off X m + j) 0 = 45 := bt_is (n := 45) (by omega)
    have hbM : bt Mo ((off X m + j : Nat) : Int) = 48 ↔ (L Mo).getD (off X m + j) 0 = 48 := bt_is (n := 48) (by omega)
    have lets : ∀ r, (∀ way' : ByteArray, (L way' = L way ++ (if (L Lt).getD (off X m + j) 0 = 45 then [] else [(L Lt).getD (off X m + j) 0])) → way'.size ≤ 1000 → Ev (fun k => impl_Sieve_parts.j1 k way out ((off X (m + 1) : Nat) : Int) ((off X m + j : Nat) : Int) way' Lt Mo Fi Rs (keep : Int)) r) → way.size ≤ 100 →
        Ev (fun k => impl_Sieve_parts.l0 k way out ((off X (m + 1) : Nat) : Int) ((off X m + j : Nat) : Int) Lt Mo Fi Rs (keep : Int)) r := by
      intro r hr hws
      refine ev_succ ?_
      simp only [impl_Sieve_parts.l0]
      refine ev_pos (by omega) (ev_pos (by omega) (ev_pos (by omega) ?_))
      by_cases c : (L Lt).getD (off X m + j) 0 = 45
      · refine ev_pos (hbL.2 c) (hr way ?_ (by omega))
        rw [if_pos c, List.append_nil]
      · have hz := cut_one_size Lt (show off X m + j < (L Lt).length by omega)
        have hcut := cut_one Lt (show off X m + j < (L Lt).length by omega)
        rw [hw64' ()]
        refine ev_neg (fun q => c (hbL.1 q)) (ev_pos (by omega) (ev_pos (by omega) (ev_pos (by omega) (hr _ ?_ (by rw [ByteArray.size_append]; omega)))))
        rw [if_neg c, L_append, hcut]
    by_cases hc : cont (runs X[m].2 X[m].1)[j] = true
    · obtain ⟨hlt, hX, hmc, hgt, hM, hk⟩ := branch_node h.lv hm hj hc
      have hne := runs_ne_nil _ _ (List.getElem_mem hj)
      obtain ⟨k0, hk0⟩ : ∃ k0, k0 ∈ (runs X[m].2 X[m].1)[j] := ⟨_, headD_mem hne⟩
      have hk0x := (runs_sub (List.getElem_mem hj)).subset hk0
      have hwl : way.size ≤ 5 := by
        rw [size_L, hway k0 hk0x, List.length_take]; omega
      have hbr := branches_ev (keep := (keep : Int)) F (onesB (L Mo) (off X m + j + 1)) (by have := onesB_le (L Mo) (off X m + j + 1); omega)
      have hno := node_eq (keep := (keep : Int)) F (off X m + j) hi
      have hbx := (h.br h0 hlt).1
      rw [← h.m] at hM
      rw [h.m] at hno hbr
      rw [hbx] at hbr
      refine lets _ (fun way' e hz => ev_succ ?_) (by omega)
      simp only [impl_Sieve_parts.j1]
      refine ev_pos (by omega) (ev_pos (by omega) (ev_neg (fun q => ?_) (ev_bindc hno (Ev.bind hbr (ev_neg (by simp only; omega) (ev_pos (by omega) (ev_succ ?_)))))))
      · rw [hbM.1 q] at hM; exact absurd hM (by decide)
      · simp only [impl_Sieve_parts.j2]
        refine ev_neg (fun q => ?_) (ev_bindc hno ?_)
        · have q2 := hbL.1 (by simpa using q)
          rw [h.l] at q2
          rw [(hk k0 hk0).1] at q2
          exact (hk k0 hk0).2.1 q2
        · have hch : ∀ k ∈ (X[onesB (encM X) (off X m + j + 1)]).1, L way' = k.take (X[onesB (encM X) (off X m + j + 1)]).2 := by
            intro k hkk
            rw [hX] at hkk ⊢
            simp only at hkk ⊢
            have hkx := (runs_sub (List.getElem_mem hj)).subset hkk
            obtain ⟨q1, q2, q3⟩ := hk k hkk
            rw [e, h.l, q1, if_neg q2, hway k hkx, lab_lt q3, ← List.take_succ_eq_append_getElem q3]
          have hrec := hP (onesB (encM X) (off X m + j + 1)) hlt way' out (by omega) hch (by rw [hX]; simp only; omega)
          rw [hX] at hrec
          simp only at hrec
          refine Ev.bind hrec (ev_pos rfl ?_)
          rw [hw64 ()]
          refine ev_eq (ih (j + 1) (out ++ (runs X[m].2 X[m].1)[j].map (pt K keep)) (by omega) (by omega) (by rw [List.length_append, List.length_map]; omega)) ?_
          rw [List.append_assoc]
    · have hc' : cont (runs X[m].2 X[m].1)[j] = false := by simpa using hc
      obtain ⟨k, hg, hkx, hdep, hL, hM, hR⟩ := branch_leaf h.lv hm hj hc'
      obtain ⟨hkK, hko, _, hkl⟩ := h.lv.key hm hkx
      have hwl : way.size ≤ 5 := by
        rw [size_L, hway k hkx, List.length_take]; omega
      have hR := LL_at (l := Rs) (by rw [h.r]; exact hR keep)
      rw [← h.m] at hR hM
      rw [← h.l] at hL
      have hr := (rest_eq (keep := (keep : Int)) F (off X m + j) hi hM).1
      have hcm := complete_eq (keep := (keep : Int)) F (off X m + j) hi hM
      generalize Rs.getD (off X m + j - onesB (L Mo) (off X m + j)) ByteArray.empty = rv at hR hr hcm
      have hcv : decide ((L Lt).getD (off X m + j) 0 = 45 ∨ ((L rv).length : Int) < (keep : Int)) = cpl K keep k := by
        have h1 := leaf_all hko hdep hkl keep
        rw [hL, hR]
        rw [Bool.eq_iff_iff, decide_eq_true_eq, ← h1]
        constructor
        · rintro (q | q)
          · exact .inl q
          · exact .inr (by omega)
        · rintro (q | q)
          · exact .inl q
          · exact .inr (by omega)
      rw [hcv] at hcm
      have hrvs : rv.size ≤ 5 := by
        rw [size_L, hR, List.length_take, List.length_drop]; have := hko.len; omega
      refine lets _ (fun way' e hz => ev_succ ?_) (by omega)
      simp only [impl_Sieve_parts.j1]
      refine ev_pos (by omega) (ev_pos (by omega) (ev_pos (hbM.2 hM) ?_))
      simp only [hr, Option.bind_some]
      refine ev_pos (by omega) ?_
      simp only [hcm, Option.bind_some]
      rw [hg] at g3 ⊢
      refine ev_pos (by simp only [List.length_cons, List.length_nil] at g3; omega) ?_
      rw [hw64 ()]
      have hpt : (⟨way' ++ rv, cpl K keep k⟩ : S93) = pt K keep k := by
        unfold pt
        congr 1
        apply L_inj
        rw [L_mkS, L_append, e, hL, hR, hway k hkx]
        exact leaf_text hko hdep hkl keep
      rw [hpt]
      refine ev_eq (ih (j + 1) (out ++ [pt K keep k]) (by omega) (by omega) (by rw [List.length_append]; simp only [List.length_cons, List.length_nil] at g3 ⊢; omega)) ?_
      rw [List.append_assoc]; rfl
theorem enc_P (h : Enc K X keep Lt Mo Fi Rs) (h0 : K ≠ []) : ∀ t, EncP K X keep Lt Mo Fi Rs t := by
  intro t
  induction t with
  | zero => intro m hm way out g; omega
  | succ t ih =>
    intro m hm way out g1 g2 g3
    have hfl := runs_flatten X[m].2 X[m].1
    have hd5 := (h.lv.nodes X[m] (List.getElem_mem hm)).2.deep
    have hne : X[m].1 ≠ [] := by
      have := h.lv.full h0 X[m] (List.getElem_mem hm)
      intro q
      rw [q, runs_nil] at this
      simp at this
    obtain ⟨k0, hk0⟩ := List.exists_mem_of_ne_nil _ hne
    have hwl : way.size ≤ 5 := by
      rw [size_L, g2 k0 hk0, List.length_take]; omega
    have hmX : X.length ≤ 1000 := by
      have := size_eq h.lv.eq
      have := h.fewb
      simp only at *
      omega
    have hbr := branches_ev (keep := (keep : Int)) h.fm m (by omega)
    rw [(h.br h0 hm).1] at hbr
    have := enc_l0 h h0 t ih hm g1 way g2 _ 0 out (Nat.zero_le _) rfl (by rw [List.drop_zero, hfl]; exact g3)
    rw [List.drop_zero, hfl] at this
    refine ev_succ ?_
    simp only [impl_Sieve_parts.f]
    exact ev_neg (by omega) (Ev.bind hbr this)
theorem parts_enc (h : Enc K X keep Lt Mo Fi Rs) : Ev (fun k => impl_Sieve_parts.f k Lt Mo Fi Rs (keep : Int) 0 (⟨#[]⟩ : ByteArray) []) (K.map (pt K keep), true) := by
  by_cases h0 : K = []
  · subst h0
    have hX := lvl_nil h.lv
    subst hX
    have hz : (brs [(([] : List Key), 0)]).length = 0 := by rw [brs_nil]; rfl
    have F := h.fm
    have hbr := branches_ev (keep := (keep : Int)) F 0 (by omega)
    unfold brI at hbr
    rw [if_neg (by have := F.fn; omega)] at hbr
    refine ev_succ ?_
    simp only [impl_Sieve_parts.f]
    refine ev_neg (by show ¬ ((0 : Nat) : Int) > 5; omega) (Ev.bind hbr (ev_succ ?_))
    simp only [impl_Sieve_parts.l0]
    exact ev_neg (by omega) (ev_some rfl)
  · have hX0 := h.lv.pos_root
    obtain ⟨hlt, hX⟩ := List.getElem?_eq_some_iff.1 hX0
    have := enc_P h h0 X.length 0 hlt (⟨#[]⟩ : ByteArray) [] (by omega) (fun k _ => by rw [hX]; rfl) (by rw [hX]; have := h.few; simp only [List.length_nil]; omega)
    rw [hX] at this
    simpa using this
end
end Go.Proofs.Ytifgcajpkgamgaa.Pb
end
section
set_option linter.unusedVariables false
set_option linter.unusedSimpArgs false
namespace Go.Proofs.Ytifgcajpkgamgaa.Pb
open Go Go.RowKit Go.Proofs.YtifgcajpkgamgaaW.PrintWords Go.Proofs.YtifgcajpkgamgaaW.PrintLast Go.Proofs.YtifgcajpkgamgaaW.PrintMore Go.Proofs.Ytifgcajpkgamgaa.Trie Go.Proofs.Ytifgcajpkgamgaa.Q
theorem sieveV_few (K : List Key) (a : Int) : (sieveV K a).2.2.2.1.length ≤ 2000000 := by
  unfold sieveV
  split
  · rename_i h
    have hk := keysB_iff.1 h.1
    obtain ⟨h1, h2⟩ := lvls_is hk
    have hb := brs_few h1 hk.few h2
    unfold encT
    simp only [List.length_map]
    unfold encR
    rw [List.length_map]
    have := List.length_filter_le leaf (brs (lvls K))
    omega
  · simp
theorem ltSieve_ev (t : SvT) (hf : t.2.2.2.1.length ≤ 2000000) : Ev (fun k => laws_ltSieve.f k t.1 t.2.1 t.2.2.1 t.2.2.2.1 t.2.2.2.2.1 t.1 t.2.1 t.2.2.1 t.2.2.2.1 t.2.2.2.2.1) true := by
  unfold laws_ltSieve.f
  exact ev_pos rfl (ev_pos rfl (ev_pos rfl (ev_pos rfl (Ev.bind (same_ev _ hf) (ev_some rfl)))))
end Go.Proofs.Ytifgcajpkgamgaa.Pb
end
section
set_option linter.unusedVariables false
set_option linter.unusedSimpArgs false
namespace Go.Proofs.Ytifgcajpkgamgaa.Pb
open Go Go.RowKit Go.Proofs.YtifgcajpkgamgaaW.PrintWords Go.Proofs.YtifgcajpkgamgaaW.PrintLast Go.Proofs.YtifgcajpkgamgaaW.PrintMore Go.Proofs.Ytifgcajpkgamgaa.Trie Go.Proofs.Ytifgcajpkgamgaa.Q
theorem ev_unique {α : Type} {g : Nat → Option α} {a b : α} (ha : Ev g a) (hb : Ev g b) : a = b := by
  obtain ⟨K, h1⟩ := ha
  obtain ⟨K', h2⟩ := hb
  have e1 := h1 (K + K') (by omega)
  have e2 := h2 (K + K') (by omega)
  rw [e1] at e2
  injection e2
theorem bfs_unique {q X Y : List Nd} (h : Bfs q X) (g : Bfs q Y) : X = Y := by
  induction h generalizing Y with
  | nil => cases g; rfl
  | cons _ ih =>
    cases g with
    | cons g => rw [ih g]
theorem heads_ok {K : List Key} (h : KsOk K) (keep : Nat) : KsOk (K.map (Trie.hd K keep)) := by
  refine ⟨fun k hk => ?_, heads_sorted h.ok h.sorted keep, by rw [List.length_map]; exact h.few⟩
  obtain ⟨k', hk', rfl⟩ := List.mem_map.1 hk
  exact (h.ok k' hk').take _
theorem heads_enc {K : List Key} (h : KsOk K) (keep : Nat) : encT (lvls (K.map (Trie.hd K keep))) (keep : Int) = encT (lvls K) (keep : Int) := by
  obtain ⟨h1, _⟩ := lvls_is h
  obtain ⟨h2, _⟩ := lvls_is (heads_ok h keep)
  have hl : ∀ x, In K x ∧ NOk x → ∀ k ∈ x.1, lab (Trie.hd K keep k) x.2 = lab k x.2 := fun x hx => mem_lab h.ok keep hx.1 hx.2
  have hb := bfs_map (f := Trie.hd K keep) (P := fun x => In K x ∧ NOk x) (fun x hx y hy => ⟨hx.1.conts hx.2 hy, (hx.2.conts hy).1⟩) hl h1.bfs (fun x hx => by
    rw [List.mem_singleton] at hx
    subst hx
    exact ⟨h1.rootIn, h1.root⟩)
  have e : lvls (K.map (Trie.hd K keep)) = (lvls K).map (mapN (Trie.hd K keep)) := bfs_unique h2.bfs hb
  rw [e]
  obtain ⟨e1, e2, e3, e4⟩ := enc_heads h.ok keep h1.nodes
  unfold encT
  have : ((keep : Int)).toNat = keep := by omega
  rw [this, e1, e2, e3, e4]
structure Is (K : List Key) (keep : Nat) (Lt Mo Fi : ByteArray) (Rs : List ByteArray) : Prop where
  ok : KsOk K
  kp : keep ≤ 5
  eq : encT (lvls K) (keep : Int) = (Lt, Mo, Fi, Rs, (keep : Int), true)
section
variable {K : List Key} {keep : Nat} {Lt Mo Fi : ByteArray} {Rs : List ByteArray}
theorem Is.enc (h : Is K keep Lt Mo Fi Rs) : Enc K (lvls K) keep Lt Mo Fi Rs := by
  obtain ⟨h1, h2⟩ := lvls_is h.ok
  have e := h.eq
  unfold encT at e
  have e0 : ((keep : Int)).toNat = keep := by omega
  rw [e0] at e
  simp only [Prod.mk.injEq] at e
  obtain ⟨e1, e2, e3, e4, _⟩ := e
  have hb := brs_few h1 h.ok.few h2
  have hs := size_eq h1.eq
  simp only at hs
  have hf := h.ok.few
  refine ⟨h1, h.ok.few, by omega, h.kp, by rw [← e1, L_mkS], by rw [← e2, L_mkS], by rw [← e3, L_mkS], ?_⟩
  rw [← e4]
  exact LL_mkS _
theorem Is.heads (h : Is K keep Lt Mo Fi Rs) : sieveV (K.map (Trie.hd K keep)) (keep : Int) = (Lt, Mo, Fi, Rs, (keep : Int), true) := by
  unfold sieveV
  rw [if_pos ⟨keysB_iff.2 (heads_ok h.ok keep), by constructor <;> have := h.kp <;> omega⟩, heads_enc h.ok keep]
  exact h.eq
theorem is_of {l : List Key} {a : Int} {Lt Mo Fi : ByteArray} {Rs : List ByteArray} {a' : Int} (h : sieveV l a = (Lt, Mo, Fi, Rs, a', true)) : Is l a.toNat Lt Mo Fi Rs ∧ a = (a.toNat : Int) ∧ a' = a := by
  unfold sieveV at h
  by_cases c : keysB l = true ∧ keepOk a
  · rw [if_pos c] at h
    have e : a = (a.toNat : Int) := by have := c.2.1; omega
    have e2 : a' = a := by
      have h2 := h
      unfold encT at h2
      simp only [Prod.mk.injEq] at h2
      exact h2.2.2.2.2.1.symm
    rw [e2, e] at h
    exact ⟨⟨keysB_iff.1 c.1, by have := c.2.2; omega, h⟩, e, e2⟩
  · rw [if_neg c] at h
    simp at h
end
theorem bytes_eq {a b : ByteArray} : a.toList = b.toList ↔ a = b := ⟨fun h => L_inj (L_eq_iff.1 h), fun h => by rw [h]⟩
theorem equal_l0 (a b : List ByteArray) (hn : a.length ≤ 2000000) (hl : a.length = b.length) (d : Nat) : ∀ i : Nat, i ≤ a.length → a.length - i = d →
    Ev (fun k => slices_Equal_string_string.l0 k a b (a.length : Int) (i : Int)) (decide (a.drop i = b.drop i)) := by
  induction d with
  | zero =>
    intro i h1 h2
    refine ev_succ ?_
    simp only [slices_Equal_string_string.l0]
    refine ev_neg (by omega) (ev_some ?_)
    rw [List.drop_eq_nil_of_le (by omega), List.drop_eq_nil_of_le (by omega)]; simp
  | succ d ih =>
    intro i h1 h2
    have hlt : i < a.length := by omega
    refine ev_succ ?_
    simp only [slices_Equal_string_string.l0]
    refine ev_pos (by omega) (ev_pos (by omega) (ev_pos (by omega) (ev_pos (by omega) ?_)))
    have e1 : rdOf ByteArray.empty a (i : Int) = a.getD i ByteArray.empty := rfl
    have e2 : rdOf ByteArray.empty b (i : Int) = b.getD i ByteArray.empty := rfl
    rw [e1, e2, drop_cons ByteArray.empty hlt, drop_cons ByteArray.empty (show i < b.length by omega)]
    by_cases c : a.getD i ByteArray.empty = b.getD i ByteArray.empty
    · refine ev_pos (bytes_eq.2 c) ?_
      rw [w64 (by omega) (by omega)]
      refine ev_eq (ih (i + 1) (by omega) (by omega)) ?_
      rw [Bool.eq_iff_iff, decide_eq_true_eq, decide_eq_true_eq, List.cons.injEq]
      exact ⟨fun h => ⟨c, h⟩, fun h => h.2⟩
    · refine ev_neg (fun q => c (bytes_eq.1 q)) (ev_some ?_)
      rw [eq_comm, decide_eq_false_iff_not, List.cons.injEq]
      exact fun h => c h.1
theorem equal_ev (a b : List ByteArray) (hn : a.length ≤ 2000000) : Ev (fun k => slices_Equal_string_string.f k a b) (decide (a = b)) := by
  unfold slices_Equal_string_string.f
  by_cases c : a.length = b.length
  · refine ev_pos (by omega) (ev_eq (equal_l0 a b hn c a.length 0 (by omega) (by omega)) ?_)
    rw [List.drop_zero, List.drop_zero]
  · refine ev_neg (by omega) (ev_some ?_)
    rw [eq_comm, decide_eq_false_iff_not]
    exact fun h => c (by rw [h])
theorem same_sv_ev (t s : SvT) (hn : t.2.2.2.1.length ≤ 2000000) (ht : t.2.2.2.2.2 = s.2.2.2.2.2) : Ev (fun k => impl_Sieve_same.f k t.1 t.2.1 t.2.2.1 t.2.2.2.1 t.2.2.2.2.1 s.1 s.2.1 s.2.2.1 s.2.2.2.1 s.2.2.2.2.1) (decide (t = s)) := by
  obtain ⟨t1, t2, t3, t4, t5, t6⟩ := t
  obtain ⟨s1, s2, s3, s4, s5, s6⟩ := s
  simp only at ht hn ⊢
  subst ht
  unfold impl_Sieve_same.f
  have no : ∀ {b : Bool}, ¬ ((t1, t2, t3, t4, t5, t6) : SvT) = (s1, s2, s3, s4, s5, t6) → false = decide (((t1, t2, t3, t4, t5, t6) : SvT) = (s1, s2, s3, s4, s5, t6)) := fun h => by
    rw [eq_comm, decide_eq_false_iff_not]; exact h
  by_cases c1 : t1 = s1
  · refine ev_pos (bytes_eq.2 c1) ?_
    by_cases c2 : t2 = s2
    · refine ev_pos (bytes_eq.2 c2) ?_
      by_cases c3 : t3 = s3
      · refine ev_pos (bytes_eq.2 c3) ?_
        by_cases c5 : t5 = s5
        · refine ev_pos c5 (Ev.bind (equal_ev t4 s4 hn) (ev_some ?_))
          rw [Bool.eq_iff_iff, decide_eq_true_eq, decide_eq_true_eq, c1, c2, c3, c5]
          simp
        · exact ev_neg c5 (ev_some (no (b := true) (fun h => c5 (by simp only [Prod.mk.injEq] at h; exact h.2.2.2.2.1))))
      · exact ev_neg (fun q => c3 (bytes_eq.1 q)) (ev_some (no (b := true) (fun h => c3 (by simp only [Prod.mk.injEq] at h; exact h.2.2.1))))
    · exact ev_neg (fun q => c2 (bytes_eq.1 q)) (ev_some (no (b := true) (fun h => c2 (by simp only [Prod.mk.injEq] at h; exact h.2.1))))
  · exact ev_neg (fun q => c1 (bytes_eq.1 q)) (ev_some (no (b := true) (fun h => c1 (by simp only [Prod.mk.injEq] at h; exact h.1))))
theorem texts_l0 (l : List S93) (hn : l.length ≤ 2000000) (d : Nat) : ∀ (i : Nat) (x : List ByteArray), i ≤ l.length → l.length - i = d → x.length ≤ i →
    Ev (fun k => impl_texts.l0 k x l (l.length : Int) (i : Int)) (x ++ (l.drop i).map S93.f0) := by
  induction d with
  | zero =>
    intro i x h1 h2 h3
    refine ev_succ ?_
    simp only [impl_texts.l0]
    refine ev_neg (by omega) (ev_some ?_)
    rw [List.drop_eq_nil_of_le (by omega)]; simp
  | succ d ih =>
    intro i x h1 h2 h3
    have hlt : i < l.length := by omega
    refine ev_succ ?_
    simp only [impl_texts.l0]
    refine ev_pos (by omega) (ev_pos (by omega) (ev_pos (by omega) (ev_pos (by omega) ?_)))
    have e1 : rd_T93 l (i : Int) = l.getD i z93 := rfl
    rw [w64 (by omega) (by omega), e1]
    refine ev_eq (ih (i + 1) (x ++ [(l.getD i z93).f0]) (by omega) (by omega) (by rw [List.length_append]; simp only [List.length_cons, List.length_nil]; omega)) ?_
    rw [drop_cons z93 hlt, List.map_cons, List.append_assoc]; rfl
theorem texts_ev (l : List S93) (hn : l.length ≤ 2000000) : Ev (fun k => impl_texts.f k l) (l.map S93.f0) := by
  unfold impl_texts.f
  exact ev_eq (texts_l0 l hn l.length 0 [] (by omega) (by omega) (by simp)) (by simp)
structure SvSz (Lt Mo Fi : ByteArray) (Rs : List ByteArray) : Prop where
  a : Lt.size ≤ 1048576
  b : Mo.size ≤ 1048576
  c : Fi.size ≤ 1048576
  d : Rs.length ≤ 1048576
  e : ∀ s ∈ Rs, s.size ≤ 1048576
theorem heads_ev {Lt Mo Fi : ByteArray} {Rs : List ByteArray} (hz : SvSz Lt Mo Fi Rs) (a : Int) :
    (∃ K keep, a = ((keep : Nat) : Int) ∧ Is K keep Lt Mo Fi Rs ∧ Ev (fun k => impl_Sieve_heads.f k Lt Mo Fi Rs a) (K.map (pt K keep), true)) ∨
    ((∀ K keep, a = ((keep : Nat) : Int) → ¬ Is K keep Lt Mo Fi Rs) ∧ Ev (fun k => impl_Sieve_heads.f k Lt Mo Fi Rs a) ([], false)) := by
  have s1 := size_L Lt
  have s2 := size_L Mo
  have s3 := size_L Fi
  have z1 := hz.a
  have z2 := hz.b
  have z3 := hz.c
  have z4 := hz.d
  have hM := impl_BitsOk_ev Mo (by omega)
  have hF := impl_BitsOk_ev Fi (by omega)
  have hno : Ev (fun k => impl_Sieve_heads.j0 k true Lt Mo Fi Rs a) ([], false) := by
    refine ev_succ ?_
    simp only [impl_Sieve_heads.j0]
    exact ev_pos (by simp) (ev_some rfl)
  have isfm : ∀ K keep, a = ((keep : Nat) : Int) → Is K keep Lt Mo Fi Rs → Fm Lt Mo Fi Rs (L Lt).length ∧ keepOk a := by
    intro K keep ha h
    have h1 := h.enc.fm
    have h2 := h1.ln
    rw [h2]
    refine ⟨h1, ?_, ?_⟩ <;> have := h.kp <;> omega
  have bits : ∀ {s : ByteArray}, bitsB (L s) = true ↔ (L s).all bitc = true ∧ (L s).length ≤ 400 := fun {s} => by
    unfold bitsB; rw [Bool.and_eq_true, decide_eq_true_eq]
  by_cases c1 : bitsB (L Mo) = true
  · by_cases c2 : bitsB (L Fi) = true
    · by_cases c3 : (Mo.size : Int) = (Lt.size : Int)
      · by_cases c4 : (Fi.size : Int) = (Lt.size : Int)
        · by_cases c5 : keepOk a
          · have hcnt := count_L (x := Mo) nought_L
            have hnt := noughts (L Mo) (bits.1 c1).1 (L Mo).length (Nat.le_refl _)
            rw [List.take_length] at hnt
            rw [hnt] at hcnt
            have hgo : ∀ r, Ev (fun k => impl_Sieve_heads.j0 k ((Rs.length : Int) != (((L Mo).length - onesB (L Mo) (L Mo).length : Nat) : Int)) Lt Mo Fi Rs a) r → Ev (fun k => impl_Sieve_heads.f k Lt Mo Fi Rs a) r := by
              intro r hr
              unfold impl_Sieve_heads.f
              exact Ev.bind hM (ev_pos c1 (Ev.bind hF (ev_pos c2 (ev_pos c3 (ev_pos c4 (ev_bindc (isKeep_eq a) (ev_pos (decide_eq_true c5) (ev_bindc hcnt hr))))))))
            by_cases c6 : (Rs.length : Int) = (((L Mo).length - onesB (L Mo) (L Mo).length : Nat) : Int)
            · have hfm : Fm Lt Mo Fi Rs (L Lt).length := by
                have e1 : (L Mo).length = (L Lt).length := by omega
                refine ⟨rfl, e1, by omega, by have := (bits.1 c1).2; omega, (bits.1 c1).1, (bits.1 c2).1, ?_, hz.e⟩
                rw [e1] at c6; omega
              obtain ⟨keep, ha⟩ : ∃ n : Nat, a = (n : Int) := ⟨a.toNat, by have := c5.1; omega⟩
              have hb6 : ((Rs.length : Int) != (((L Mo).length - onesB (L Mo) (L Mo).length : Nat) : Int)) = false := bne_eq_false_iff_eq.2 c6
              rw [hb6] at hgo
              obtain ⟨r, hr, hrb⟩ := parts_any (keep := a) hfm
              obtain ⟨rl, rb⟩ := r
              cases rb with
              | false =>
                right
                refine ⟨fun K kp hk h => ?_, hgo _ (ev_succ ?_)⟩
                · have h1 := parts_enc h.enc
                  rw [← hk] at h1
                  have := ev_unique hr h1
                  simp at this
                · simp only [impl_Sieve_heads.j0]
                  exact ev_neg (by simp) (Ev.bind hr (ev_neg (by simp) (ev_some rfl)))
              | true =>
                obtain ⟨b1, b2⟩ := hrb rfl
                simp only at b1 b2
                have htx := texts_ev rl (by omega)
                have hsz : SzL (rl.map S93.f0) := by
                  refine ⟨by rw [List.length_map]; omega, fun x hx => ?_⟩
                  obtain ⟨s, hs, rfl⟩ := List.mem_map.1 hx
                  have := b2 s hs
                  omega
                have hof := impl_SieveOf_ev (rl.map S93.f0) hsz a
                have hfew := sieveV_few (LL (rl.map S93.f0)) a
                by_cases c7 : (sieveV (LL (rl.map S93.f0)) a).2.2.2.2.2 = true
                · have hsm := same_sv_ev (sieveV (LL (rl.map S93.f0)) a) (Lt, Mo, Fi, Rs, a, true) hfew c7
                  by_cases c8 : sieveV (LL (rl.map S93.f0)) a = (Lt, Mo, Fi, Rs, a, true)
                  · left
                    obtain ⟨hI, e1, _⟩ := is_of c8
                    have h1 := parts_enc hI.enc
                    rw [← e1] at h1
                    have e2 := ev_unique hr h1
                    simp only [Prod.mk.injEq, and_true] at e2
                    refine ⟨_, a.toNat, e1, hI, ?_⟩
                    rw [← e2]
                    refine hgo _ (ev_succ ?_)
                    simp only [impl_Sieve_heads.j0]
                    exact ev_neg (by simp) (Ev.bind hr (ev_pos rfl (Ev.bind htx (Ev.bind hof (ev_pos c7 (Ev.bind hsm (ev_pos (by rw [decide_eq_true_eq]; exact c8) (ev_some rfl))))))))
                  · right
                    refine ⟨fun K kp hk h => ?_, hgo _ (ev_succ ?_)⟩
                    · have h1 := parts_enc h.enc
                      rw [← hk] at h1
                      have e2 := ev_unique hr h1
                      simp only [Prod.mk.injEq, and_true] at e2
                      refine c8 ?_
                      have h3 := h.heads
                      rw [← hk] at h3
                      rw [← h3, e2]
                      congr 1
                      unfold LL pt
                      rw [List.map_map, List.map_map]
                      apply List.map_congr_left
                      intro x _
                      exact L_mkS _
                    · simp only [impl_Sieve_heads.j0]
                      exact ev_neg (by simp) (Ev.bind hr (ev_pos rfl (Ev.bind htx (Ev.bind hof (ev_pos c7 (Ev.bind hsm (ev_neg (by rw [decide_eq_true_eq]; exact c8) (ev_some rfl))))))))
                · right
                  refine ⟨fun K kp hk h => ?_, hgo _ (ev_succ ?_)⟩
                  · have h1 := parts_enc h.enc
                    rw [← hk] at h1
                    have e2 := ev_unique hr h1
                    simp only [Prod.mk.injEq, and_true] at e2
                    refine c7 ?_
                    have h3 := h.heads
                    rw [← hk] at h3
                    have h4 : LL (rl.map S93.f0) = K.map (Trie.hd K kp) := by
                      rw [e2]
                      unfold LL pt
                      rw [List.map_map, List.map_map]
                      apply List.map_congr_left
                      intro x _
                      exact L_mkS _
                    rw [h4, h3]
                  · simp only [impl_Sieve_heads.j0]
                    exact ev_neg (by simp) (Ev.bind hr (ev_pos rfl (Ev.bind htx (Ev.bind hof (ev_neg c7 (ev_some rfl))))))
            · right
              have hb6 : ((Rs.length : Int) != (((L Mo).length - onesB (L Mo) (L Mo).length : Nat) : Int)) = true := bne_iff_ne.2 c6
              rw [hb6] at hgo
              refine ⟨fun K kp hk h => c6 ?_, hgo _ hno⟩
              have h1 := (isfm K kp hk h).1
              have e1 := h1.mn
              have := h1.rs
              rw [← e1] at this
              omega
          · right
            refine ⟨fun K kp hk h => c5 (isfm K kp hk h).2, ?_⟩
            unfold impl_Sieve_heads.f
            exact Ev.bind hM (ev_pos c1 (Ev.bind hF (ev_pos c2 (ev_pos c3 (ev_pos c4 (ev_bindc (isKeep_eq a) (ev_neg (by rw [decide_eq_true_eq]; exact c5) hno)))))))
        · right
          refine ⟨fun K kp hk h => c4 ?_, ?_⟩
          · have := (isfm K kp hk h).1.fn; omega
          · unfold impl_Sieve_heads.f
            exact Ev.bind hM (ev_pos c1 (Ev.bind hF (ev_pos c2 (ev_pos c3 (ev_neg c4 hno)))))
      · right
        refine ⟨fun K kp hk h => c3 ?_, ?_⟩
        · have := (isfm K kp hk h).1.mn; omega
        · unfold impl_Sieve_heads.f
          exact Ev.bind hM (ev_pos c1 (Ev.bind hF (ev_pos c2 (ev_neg c3 hno))))
    · right
      refine ⟨fun K kp hk h => c2 (bits.2 ?_), ?_⟩
      · have h1 := (isfm K kp hk h).1
        exact ⟨h1.fb, by have := h1.fn; have := h1.few; omega⟩
      · unfold impl_Sieve_heads.f
        exact Ev.bind hM (ev_pos c1 (Ev.bind hF (ev_neg c2 hno)))
  · right
    refine ⟨fun K kp hk h => c1 (bits.2 ?_), ?_⟩
    · have h1 := (isfm K kp hk h).1
      exact ⟨h1.mb, by have := h1.mn; have := h1.few; omega⟩
    · unfold impl_Sieve_heads.f
      exact Ev.bind hM (ev_neg c1 hno)
end Go.Proofs.Ytifgcajpkgamgaa.Pb
end
section
set_option linter.unusedVariables false
set_option linter.unusedSimpArgs false
namespace Go.Proofs.Ytifgcajpkgamgaa.Pb
open Go Go.RowKit Go.Proofs.YtifgcajpkgamgaaW.PrintWords Go.Proofs.YtifgcajpkgamgaaW.PrintLast Go.Proofs.YtifgcajpkgamgaaW.PrintMore Go.Proofs.Ytifgcajpkgamgaa.Trie Go.Proofs.Ytifgcajpkgamgaa.Q
section
variable {Lt Mo Fi : ByteArray} {Rs : List ByteArray} {keep : Int} {n : Nat}
end
section
variable {K : List Key} {X : List Nd} {keep : Nat} {Lt Mo Fi : ByteArray} {Rs : List ByteArray}
noncomputable def ht (K : List Key) (keep : Nat) (k : Key) : ByteArray := mkS (Trie.hd K keep k)
end
end Go.Proofs.Ytifgcajpkgamgaa.Pb
end
section
set_option linter.unusedVariables false
set_option linter.unusedSimpArgs false
namespace Go.Proofs.Ytifgcajpkgamgaa.Pb
open Go Go.RowKit Go.Proofs.YtifgcajpkgamgaaW.PrintWords Go.Proofs.YtifgcajpkgamgaaW.PrintLast Go.Proofs.YtifgcajpkgamgaaW.PrintMore Go.Proofs.Ytifgcajpkgamgaa.Trie Go.Proofs.Ytifgcajpkgamgaa.Q
theorem pt_text (K : List Key) (keep : Nat) : (K.map (pt K keep)).map S93.f0 = K.map (ht K keep) := by
  rw [List.map_map]; rfl
theorem impl_SieveHeads_of {Lt Mo Fi : ByteArray} {Rs : List ByteArray} {a : Int} {l : List S93} {b : Bool} (hl : l.length ≤ 2000000) (h : Ev (fun k => impl_Sieve_heads.f k Lt Mo Fi Rs a) (l, b)) : Ev (fun k => impl_SieveHeads.f k Lt Mo Fi Rs a) (l.map S93.f0) := by
  unfold impl_SieveHeads.f
  exact Ev.bind h (Ev.bind (texts_ev l hl) (ev_some rfl))
end Go.Proofs.Ytifgcajpkgamgaa.Pb
end
section
set_option linter.unusedVariables false
set_option linter.unusedSimpArgs false
namespace Go.Proofs.Ytifgcajpkgamgaa.Pb
open Go Go.RowKit Go.Proofs.YtifgcajpkgamgaaW.PrintWords Go.Proofs.YtifgcajpkgamgaaW.PrintLast Go.Proofs.YtifgcajpkgamgaaW.PrintMore Go.Proofs.Ytifgcajpkgamgaa.Trie Go.Proofs.Ytifgcajpkgamgaa.Q
section
variable {K : List Key} {X : List Nd} {keep : Nat} {Lt Mo Fi : ByteArray} {Rs : List ByteArray}
end
end Go.Proofs.Ytifgcajpkgamgaa.Pb
end
section
set_option linter.unusedVariables false
set_option linter.unusedSimpArgs false
namespace Go.Proofs.Ytifgcajpkgamgaa.Pb
open Go Go.RowKit Go.Proofs.YtifgcajpkgamgaaW.PrintWords Go.Proofs.YtifgcajpkgamgaaW.PrintLast Go.Proofs.YtifgcajpkgamgaaW.PrintMore Go.Proofs.Ytifgcajpkgamgaa.Trie Go.Proofs.Ytifgcajpkgamgaa.Q
section
variable {K : List Key} {X : List Nd} {keep : Nat} {Lt Mo Fi : ByteArray} {Rs : List ByteArray}
end
end Go.Proofs.Ytifgcajpkgamgaa.Pb
end
section
set_option linter.unusedVariables false
set_option linter.unusedSimpArgs false
namespace Go.Proofs.Ytifgcajpkgamgaa.Pb
open Go Go.RowKit Go.Proofs.YtifgcajpkgamgaaW.PrintWords Go.Proofs.YtifgcajpkgamgaaW.PrintLast Go.Proofs.YtifgcajpkgamgaaW.PrintMore Go.Proofs.Ytifgcajpkgamgaa.Trie Go.Proofs.Ytifgcajpkgamgaa.Q
theorem mess_l0_ev (b : List Int) (p : Int) (d : Nat) : ∀ (x3 : List ByteArray) (i : Nat), 30 - i = d → i ≤ 30 → SOk (LL x3) → x3.length ≤ 10 + i →
    ∃ s, Ev (fun k => spec_l71Mess.l0 k x3 (i : Int) b p) (s, p) ∧ SOk (LL s) ∧ s.length ≤ 40 := by
  induction d with
  | zero =>
    intro x3 i h1 h2 h3 h4
    refine ⟨x3, ev_succ ?_, h3, by omega⟩
    simp only [spec_l71Mess.l0]
    exact ev_neg (by omega) (ev_some rfl)
  | succ d ih =>
    intro x3 i h1 h2 h3 h4
    have e1 : Int.tmod (i : Int) 5 = ((i % 5 : Nat) : Int) := by rw [Int.tmod_eq_emod_of_nonneg (by omega)]; omega
    have e2 : wrap64 (Int.tdiv (i : Int) 5) = ((i / 5 : Nat) : Int) := by rw [Int.tdiv_eq_ediv_of_nonneg (by omega), w64 (by omega) (by omega)]; omega
    have sm : ∀ j : Nat, j < 5 → ∃ u : ByteArray, rdOf ByteArray.empty ([(⟨#[]⟩ : ByteArray), (⟨#[97]⟩ : ByteArray), (⟨#[98]⟩ : ByteArray), (⟨#[99]⟩ : ByteArray), (⟨#[100]⟩ : ByteArray)] : List ByteArray) (j : Int) = u ∧ (L u).length ≤ 1 ∧ ∀ c ∈ L u, 97 ≤ c.toNat ∧ c.toNat ≤ 100 := by
      intro j hj
      have : j = 0 ∨ j = 1 ∨ j = 2 ∨ j = 3 ∨ j = 4 := by omega
      rcases this with rfl | rfl | rfl | rfl | rfl <;> refine ⟨_, rfl, by decide, by decide⟩
    have sm2 : ∀ j : Nat, j < 6 → ∃ u : ByteArray, rdOf ByteArray.empty ([(⟨#[]⟩ : ByteArray), (⟨#[97]⟩ : ByteArray), (⟨#[98]⟩ : ByteArray), (⟨#[99]⟩ : ByteArray), (⟨#[100]⟩ : ByteArray), (⟨#[100, 97]⟩ : ByteArray)] : List ByteArray) (j : Int) = u ∧ (L u).length ≤ 2 ∧ ∀ c ∈ L u, 97 ≤ c.toNat ∧ c.toNat ≤ 100 := by
      intro j hj
      have : j = 0 ∨ j = 1 ∨ j = 2 ∨ j = 3 ∨ j = 4 ∨ j = 5 := by omega
      rcases this with rfl | rfl | rfl | rfl | rfl | rfl <;> refine ⟨_, rfl, by decide, by decide⟩
    obtain ⟨u, hu, lu, au⟩ := sm (i % 5) (by omega)
    obtain ⟨v, hv, lv, av⟩ := sm2 (i / 5) (by omega)
    have su := size_L u
    have sv := size_L v
    have hd : (L (⟨#[100]⟩ : ByteArray)) = [100] := rfl
    have hL : L (((⟨#[100]⟩ : ByteArray) ++ u) ++ v) = [100] ++ L u ++ L v := by rw [L_append, L_append, hd]
    have hk : KOk (L (((⟨#[100]⟩ : ByteArray) ++ u) ++ v)) := by
      rw [hL]
      refine ⟨by simp; omega, fun c hc => ?_⟩
      simp only [List.mem_append, List.mem_singleton] at hc
      rcases hc with (rfl | hc) | hc
      · decide
      · exact au c hc
      · exact av c hc
    obtain ⟨r, hr, he⟩ := l2Put_ev x3 (((⟨#[100]⟩ : ByteArray) ++ u) ++ v) (by omega)
    have hl : r.length ≤ x3.length + 1 := by
      have := putB_length (k := L (((⟨#[100]⟩ : ByteArray) ++ u) ++ v)) (K := LL x3)
      rw [← he, LL_length, LL_length] at this; exact this
    obtain ⟨s, hs, ks, ls⟩ := ih r (i + 1) (by omega) (by omega) (by rw [he]; exact sok_put h3 hk) (by omega)
    refine ⟨s, ev_succ ?_, ks, ls⟩
    have hsz : ((⟨#[100]⟩ : ByteArray) ++ u).size = 1 + u.size := ByteArray.size_append
    simp only [spec_l71Mess.l0]
    rw [e1, e2]
    refine ev_pos (by omega) (ev_bindc rfl (ev_pos (by omega) (ev_pos (by simp only [List.length_cons, List.length_nil]; omega) ?_)))
    rw [hu]
    refine ev_pos (by omega) (ev_bindc rfl (ev_pos (by omega) (ev_pos (by simp only [List.length_cons, List.length_nil]; omega) ?_)))
    rw [hv]
    refine ev_pos (by rw [hsz]; omega) (Ev.bind hr ?_)
    rw [w64 (by omega) (by omega)]
    exact hs
theorem sok_short {l : List ByteArray} (h : SOk (LL l)) : ∀ x ∈ l, (L x).length ≤ 10 := fun x hx => by
  have := (h.ok _ (LL_mem hx)).len; omega
theorem mess_ev {b : List Int} (hb : By b) (p : Int) (h0 : 0 ≤ p) (h1 : p ≤ 50000) :
    ∃ s q, Ev (fun k => spec_l71Mess.f k b p) (s, q) ∧ (∀ x ∈ s, (L x).length ≤ 10) ∧ s.length ≤ 40 ∧ p ≤ q ∧ q ≤ p + 2000 := by
  obtain ⟨l, q, hl, kl, nl, q0, q1⟩ := keys_ev hb p h0 (by omega) 8 (by omega)
  obtain ⟨m, hm, m0, m1, _⟩ := pick_ev hb q (by omega) (by omega) 5 (by omega)
  have sh := sok_short kl
  have start : ∀ r, Ev (fun k => (if m = 0 then (if l.length < 8796093022208 then (some ((l ++ [(⟨#[97]⟩ : ByteArray)]), q + 1)) else (none)) else (if m = 1 then ((some (([(⟨#[120]⟩ : ByteArray), (⟨#[101]⟩ : ByteArray)] : List ByteArray) : List ByteArray)).bind fun y585 => (if l.length + y585.length < 8796093022208 then (some ((l ++ y585), q + 1)) else (none))) else (if m = 2 then ((spec_l6Rd_pick.f k b (q + 1) 2).bind fun bt591 => ((spec_l6Many.f k (⟨#[100]⟩ : ByteArray) (wrap64 (5 + bt591.1))).bind fun t593 => (if l.length < 8796093022208 then (some ((l ++ [t593]), bt591.2)) else (none)))) else (if m = 3 then (spec_l71Mess.l0 k l 0 b (q + 1)) else (some (l, q + 1))))))) r → Ev (fun k => spec_l71Mess.f k b p) r := by
    intro r h
    unfold spec_l71Mess.f
    exact Ev.bind hl (Ev.bind hm h)
  by_cases c0 : m = 0
  · refine ⟨l ++ [(⟨#[97]⟩ : ByteArray)], q + 1, start _ (ev_pos c0 (ev_pos (by omega) (ev_some rfl))), fun x hx => ?_, by simp; omega, by omega, by omega⟩
    rcases List.mem_append.1 hx with h | h
    · exact sh x h
    · simp at h; subst h; decide
  · by_cases c1 : m = 1
    · refine ⟨l ++ [(⟨#[120]⟩ : ByteArray), (⟨#[101]⟩ : ByteArray)], q + 1, start _ (ev_neg c0 (ev_pos c1 (ev_bindc rfl (ev_pos (by simp; omega) (ev_some rfl))))), fun x hx => ?_, by simp; omega, by omega, by omega⟩
      rcases List.mem_append.1 hx with h | h
      · exact sh x h
      · simp at h; rcases h with rfl | rfl <;> decide
    · by_cases c2 : m = 2
      · obtain ⟨z, hz, z0, z1, _⟩ := pick_ev hb (q + 1) (by omega) (by omega) 2 (by omega)
        have z1 := z1 (by omega)
        obtain ⟨n, hn⟩ : ∃ n : Nat, 5 + z = (n : Int) := ⟨(5 + z).toNat, by omega⟩
        have h21 : (⟨#[100]⟩ : ByteArray).size = 1 := rfl
        have h20 : (⟨#[]⟩ : ByteArray).size = 0 := rfl
        obtain ⟨s, hs, hsz⟩ := many_ev 10 (by omega) n (⟨#[100]⟩ : ByteArray) (⟨#[]⟩ : ByteArray) (by omega) (by rw [h21]; omega) (by rw [h21, h20]; omega)
        refine ⟨l ++ [s], q + 1 + 1, start _ (ev_neg c0 (ev_neg c1 (ev_pos c2 (Ev.bind hz ?_)))), fun x hx => ?_, by simp; omega, by omega, by omega⟩
        · simp only []
          rw [w64 (i := 5 + z) (by omega) (by omega), hn]
          exact Ev.bind hs (ev_pos (by omega) (ev_some rfl))
        · rcases List.mem_append.1 hx with h | h
          · exact sh x h
          · simp at h; subst h; rw [← size_L]; exact hsz
      · by_cases c3 : m = 3
        · obtain ⟨s, hs, ks, ls⟩ := mess_l0_ev b (q + 1) 30 l 0 (by omega) (by omega) kl (by omega)
          exact ⟨s, q + 1, start _ (ev_neg c0 (ev_neg c1 (ev_neg c2 (ev_pos c3 hs)))), sok_short ks, ls, by omega, by omega⟩
        · exact ⟨l, q + 1, start _ (ev_neg c0 (ev_neg c1 (ev_neg c2 (ev_neg c3 (ev_some rfl))))), sh, by omega, by omega, by omega⟩
theorem szl_of {s : List ByteArray} (h : ∀ x ∈ s, (L x).length ≤ 10) (hl : s.length ≤ 1000) : SzL s := ⟨by omega, fun x hx => by have := h x hx; rw [size_L]; omega⟩
end Go.Proofs.Ytifgcajpkgamgaa.Pb
end
section
set_option linter.unusedVariables false
set_option linter.unusedSimpArgs false
namespace Go.Proofs.Ytifgcajpkgamgaa.Pb
open Go Go.RowKit Go.Proofs.YtifgcajpkgamgaaW.PrintWords Go.Proofs.YtifgcajpkgamgaaW.PrintLast Go.Proofs.YtifgcajpkgamgaaW.PrintMore Go.Proofs.Ytifgcajpkgamgaa.Trie Go.Proofs.Ytifgcajpkgamgaa.Q
section
variable {K : List Key} {X : List Nd} {keep : Nat} {Lt Mo Fi : ByteArray} {Rs : List ByteArray}
theorem L_ht (k : Key) : L (ht K keep k) = Trie.hd K keep k := L_mkS _
theorem ht_getD (l : List Key) {i : Nat} (hi : i < l.length) : (l.map (ht K keep)).getD i ByteArray.empty = ht K keep (l.getD i []) := by
  rw [getD_lt _ (by rw [List.length_map]; exact hi), getD_lt _ hi, List.getElem_map]
end
end Go.Proofs.Ytifgcajpkgamgaa.Pb
end
section
set_option linter.unusedVariables false
set_option linter.unusedSimpArgs false
namespace Go.Proofs.Ytifgcajpkgamgaa.Pb
open Go Go.RowKit Go.Proofs.YtifgcajpkgamgaaW.PrintWords Go.Proofs.YtifgcajpkgamgaaW.PrintLast Go.Proofs.YtifgcajpkgamgaaW.PrintMore Go.Proofs.Ytifgcajpkgamgaa.Trie Go.Proofs.Ytifgcajpkgamgaa.Q
section
variable {Lt Mo Fi : ByteArray} {Rs : List ByteArray} {a : Int}
end
end Go.Proofs.Ytifgcajpkgamgaa.Pb
end
section
set_option linter.unusedVariables false
set_option linter.unusedSimpArgs false
namespace Go.Proofs.Ytifgcajpkgamgaa.Pb
open Go Go.RowKit Go.Proofs.YtifgcajpkgamgaaW.PrintWords Go.Proofs.YtifgcajpkgamgaaW.PrintLast Go.Proofs.YtifgcajpkgamgaaW.PrintMore Go.Proofs.Ytifgcajpkgamgaa.Trie Go.Proofs.Ytifgcajpkgamgaa.Q
theorem is_sz {K : List Key} {keep : Nat} {Lt Mo Fi : ByteArray} {Rs : List ByteArray} (h : Is K keep Lt Mo Fi Rs) : SvSz Lt Mo Fi Rs := by
  have F := h.enc.fm
  have hf := F.few
  have s1 := size_L Lt
  have s2 := size_L Mo
  have s3 := size_L Fi
  have h1 := F.ln
  have h2 := F.mn
  have h3 := F.fn
  exact ⟨by omega, by omega, by omega, by have := F.rs; omega, F.sz⟩
theorem heads_of {K : List Key} {keep : Nat} {Lt Mo Fi : ByteArray} {Rs : List ByteArray} (h : Is K keep Lt Mo Fi Rs) : Ev (fun k => impl_Sieve_heads.f k Lt Mo Fi Rs (keep : Int)) (K.map (pt K keep), true) := by
  rcases heads_ev (is_sz h) (keep : Int) with ⟨K', keep', e, hI, hh⟩ | ⟨hn, _⟩
  · have e2 : keep' = keep := by omega
    subst e2
    have h1 := parts_enc h.enc
    have h2 := parts_enc hI.enc
    have := ev_unique h1 h2
    rw [this]; exact hh
  · exact absurd h (hn K keep rfl)
theorem sieveV_cases (K : List Key) (a : Int) : ((sieveV K a).2.2.2.2.2 = false ∧ ¬ (KsOk K ∧ keepOk a)) ∨ ∃ (keep : Nat) (Lt Mo Fi : ByteArray) (Rs : List ByteArray), a = (keep : Int) ∧ sieveV K a = (Lt, Mo, Fi, Rs, (keep : Int), true) ∧ Is K keep Lt Mo Fi Rs := by
  by_cases c : keysB K = true ∧ keepOk a
  · right
    have h1 : sieveV K a = encT (lvls K) a := by unfold sieveV; rw [if_pos c]
    have e : a = (a.toNat : Int) := by have := c.2.1; omega
    have hI : sieveV K a = ((sieveV K a).1, (sieveV K a).2.1, (sieveV K a).2.2.1, (sieveV K a).2.2.2.1, (a.toNat : Int), true) := by
      rw [h1]
      unfold encT
      rw [← e]
    obtain ⟨h2, _, _⟩ := is_of hI
    exact ⟨a.toNat, _, _, _, _, e, hI, h2⟩
  · left
    unfold sieveV
    rw [if_neg c]
    exact ⟨rfl, fun h => c ⟨keysB_iff.2 h.1, h.2⟩⟩
theorem DrawSieveOf_ev (l0 : List Int) (hl : l0.length ≤ maxLen) (hw : ∀ x ∈ l0, (Lit.int .u8 x).wf = true) :
    ∃ s a, Ev (fun k => spec_DrawSieveOf.f k l0) (s, a) ∧ SzL s ∧ s.length ≤ 1000 := by
  obtain ⟨b, ho, hb⟩ := open_ev l0 hl hw
  obtain ⟨s, q, hs, ks, ns, q0, q1⟩ := keys_ev hb 0 (by omega) (by omega) 12 (by omega)
  obtain ⟨m, hm, m0, m1, _⟩ := pick_ev hb q (by omega) (by omega) 12 (by omega)
  by_cases c : m = 0
  · obtain ⟨s', q', hs', ks', ns', a0, a1⟩ := mess_ev hb (q + 1) (by omega) (by omega)
    obtain ⟨i, hi, i0, i1, _⟩ := pick_ev hb q' (by omega) (by omega) 8 (by omega)
    refine ⟨s', rd [0, 0, 1, 1, 2, 5, 6, (-1)] i, ?_, szl_of ks' (by omega), by omega⟩
    unfold spec_DrawSieveOf.f
    exact ev_bindc ho (Ev.bind hs (Ev.bind hm (ev_pos c (Ev.bind hs' (ev_bindc rfl (Ev.bind hi (ev_pos i0 (ev_pos (by have := i1 (by omega); simpa using this) (ev_some rfl)))))))))
  · obtain ⟨i, hi, i0, i1, _⟩ := pick_ev hb (q + 1) (by omega) (by omega) 8 (by omega)
    refine ⟨s, rd [0, 0, 1, 1, 2, 5, 6, (-1)] i, ?_, szl_of (sok_short ks) (by omega), by omega⟩
    unfold spec_DrawSieveOf.f
    exact ev_bindc ho (Ev.bind hs (Ev.bind hm (ev_neg c (ev_bindc rfl (Ev.bind hi (ev_pos i0 (ev_pos (by have := i1 (by omega); simpa using this) (ev_some rfl))))))))
end Go.Proofs.Ytifgcajpkgamgaa.Pb
end
section
set_option linter.unusedVariables false
set_option linter.unusedSimpArgs false
namespace Go.Proofs.Ytifgcajpkgamgaa.Pb
open Go Go.RowKit Go.Proofs.YtifgcajpkgamgaaW.PrintWords Go.Proofs.YtifgcajpkgamgaaW.PrintLast Go.Proofs.YtifgcajpkgamgaaW.PrintMore Go.Proofs.Ytifgcajpkgamgaa.Trie Go.Proofs.Ytifgcajpkgamgaa.Q
theorem Is.one {K : List Key} {keep keep' : Nat} {Lt Mo Fi Lt' Mo' Fi' : ByteArray} {Rs Rs' : List ByteArray} (h : Is K keep Lt Mo Fi Rs) (h' : Is K keep' Lt' Mo' Fi' Rs') : Lt = Lt' := by
  apply L_inj
  rw [h.enc.l, h'.enc.l]
end Go.Proofs.Ytifgcajpkgamgaa.Pb
end
section
set_option linter.unusedVariables false
set_option linter.unusedSimpArgs false
namespace Go.Proofs.Ytifgcajpkgamgaa.Pure
open Go Go.RowKit Go.Proofs.YtifgcajpkgamgaaW.PrintWords Go.Proofs.YtifgcajpkgamgaaW.PrintLast Go.Proofs.YtifgcajpkgamgaaW.PrintMore Go.Proofs.Ytifgcajpkgamgaa.Trie Go.Proofs.Ytifgcajpkgamgaa.Q Go.Proofs.Ytifgcajpkgamgaa.Pb
theorem kept_getD (l : List ByteArray) (keep : Nat) {i : Nat} (hi : i < l.length) : L (rdOf ByteArray.empty ((LL l).map (ht (LL l) keep)) (i : Int)) = Trie.hd (LL l) keep (L (l.getD i ByteArray.empty)) := by
  have h := ht_getD (keep := keep) (K := LL l) (LL l) (i := i) (by rw [LL_length]; exact hi)
  show L (((LL l).map (ht (LL l) keep)).getD i ByteArray.empty) = _
  rw [h, L_ht, LL_getD]
theorem apart_l1 (l : List ByteArray) (keep : Nat) (h : KsOk (LL l)) {i : Nat} (hi : i < l.length)
    (nx : Ev (fun k => laws_FnSieveApart.l0 k l ((LL l).map (ht (LL l) keep)) ((i + 1 : Nat) : Int)) true) (d : Nat) : ∀ j : Nat, j ≤ l.length → l.length - j = d →
    Ev (fun k => laws_FnSieveApart.l1 k l ((LL l).map (ht (LL l) keep)) (i : Int) (j : Int)) true := by
  have hn : l.length ≤ 24 := by have := h.few; rwa [LL_length] at this
  have hw : ∀ (m : Nat), m ≤ 24 → wrap64 ((m : Int) + 1) = ((m + 1 : Nat) : Int) := fun m hm => by rw [w64 (by omega) (by omega)]; omega
  have hl1 : ((LL l).map (ht (LL l) keep)).length = l.length := by rw [List.length_map, LL_length]
  have hm : ∀ j : Nat, j < l.length → L (l.getD j ByteArray.empty) ∈ LL l := fun j hj => by
    rw [getD_lt _ hj]
    exact LL_mem (List.getElem_mem hj)
  induction d with
  | zero =>
    intro j h1 h2
    refine ev_succ ?_
    simp only [laws_FnSieveApart.l1]
    rw [hw i (by omega)]
    exact ev_neg (by omega) nx
  | succ d ih =>
    intro j h1 h2
    have ih := ih (j + 1) (by omega) (by omega)
    refine ev_succ ?_
    simp only [laws_FnSieveApart.l1]
    rw [hw j (by omega)]
    refine ev_pos (by omega) ?_
    by_cases c : (i : Int) = (j : Int)
    · exact ev_pos c ih
    · refine ev_neg c (ev_pos (by omega) (ev_pos (by omega) (ev_pos (by rw [hl1]; omega) ?_)))
      have hk := kept_getD l keep hi
      by_cases c2 : (rdOf ByteArray.empty l (i : Int)).toList = (rdOf ByteArray.empty ((LL l).map (ht (LL l) keep)) (i : Int)).toList
      · exact ev_pos c2 ih
      · refine ev_neg c2 (ev_pos (by omega) (ev_bindc (impl_KeyBegins_eq _ _) (ev_neg ?_ ih)))
        intro hp
        rw [hk, List.isPrefixOf_iff_prefix] at hp
        have hne : L (l.getD j ByteArray.empty) ≠ L (l.getD i ByteArray.empty) := by
          have hs := List.pairwise_iff_getElem.1 h.sorted
          rw [LL_getD, LL_getD, getD_lt _ (by rw [LL_length]; omega), getD_lt _ (by rw [LL_length]; omega)]
          intro q
          rcases Nat.lt_or_ge i j with g | g
          · have := hs i j (by rw [LL_length]; omega) (by rw [LL_length]; omega) g
            rw [q] at this
            exact key_irrefl _ this
          · have := hs j i (by rw [LL_length]; omega) (by rw [LL_length]; omega) (by omega)
            rw [q] at this
            exact key_irrefl _ this
        refine hd_apart h.ok keep (hm i hi) (hm j (by omega)) hne (fun q => c2 ?_) hp
        rw [toList_L, toList_L, hk]
        exact q
theorem apart_l0 (l : List ByteArray) (keep : Nat) (h : KsOk (LL l)) (d : Nat) : ∀ i : Nat, i ≤ l.length → l.length - i = d →
    Ev (fun k => laws_FnSieveApart.l0 k l ((LL l).map (ht (LL l) keep)) (i : Int)) true := by
  induction d with
  | zero =>
    intro i h1 h2
    refine ev_succ ?_
    simp only [laws_FnSieveApart.l0]
    exact ev_neg (by omega) (ev_some rfl)
  | succ d ih =>
    intro i h1 h2
    refine ev_succ ?_
    simp only [laws_FnSieveApart.l0]
    exact ev_pos (by omega) (apart_l1 l keep h (by omega) (ih (i + 1) (by omega) (by omega)) l.length 0 (Nat.zero_le _) rfl)
theorem FnSieveApart : laws_FnSieveApart.Pure := by
  intro l0 hl _ hw
  refine Ev.rounds ?_
  unfold laws_FnSieveApart.f
  by_cases c : (l0.length : Int) > 1048576
  · exact ev_pos c (ev_some rfl)
  · obtain ⟨s, a, hd, hz, hn⟩ := DrawSieveOf_ev l0 hl hw
    have i1 := spec_SieveOf_ev s hz a
    have i2 := impl_SieveOf_ev s hz a
    have hf := sieveV_few (LL s) a
    have lt := ltSieve_ev (sieveV (LL s) a) hf
    refine ev_neg c (Ev.bind hd (Ev.bind i1 (Ev.bind i2 (ev_neg (by simp) (Ev.bind lt (ev_pos rfl (ev_succ ?_)))))))
    simp only [laws_FnSieveApart.j0]
    rcases sieveV_cases (LL s) a with ⟨h1, _⟩ | ⟨keep, Lt, Mo, Fi, Rs, e, h1, hI⟩
    · rw [h1]
      exact ev_pos (by simp) (ev_pos (by simp) (Ev.bind lt (ev_some rfl)))
    · rw [h1]
      have hh := heads_of hI
      have hK := hI.ok.ok
      have hle := LL_length s
      have hfew := hI.ok.few
      have hsh := impl_SieveHeads_of (by rw [List.length_map, LL_length]; omega) hh
      rw [pt_text] at hsh
      exact ev_neg (by simp) (Ev.bind hsh (apart_l0 s keep hI.ok s.length 0 (Nat.zero_le _) rfl))
end Go.Proofs.Ytifgcajpkgamgaa.Pure
end
