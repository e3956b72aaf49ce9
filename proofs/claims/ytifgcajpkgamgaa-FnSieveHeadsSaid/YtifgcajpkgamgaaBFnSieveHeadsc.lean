/- What the law FnSieveHeads needs, part 3: the kit's printed words, the printed functions with their proofs, and plain facts on them. -/
import Derived.Deep.RegionLaw
import Derived.Deep.DeepMust
import Derived.Test.YtifgcajpkgamgaaBFnSieveHeadsb
section
namespace Go.Proofs.Ytifgcajpkgamgaa.Hand
open Go Go.RowKit Go.Proofs.Ytifgcajpkgamgaa.Q Go.Proofs.YtifgcajpkgamgaaW.PrintWords Go.Proofs.YtifgcajpkgamgaaW.PrintLast Go.Proofs.YtifgcajpkgamgaaW.PrintMore
set_option linter.unusedVariables false
set_option linter.unusedSimpArgs false
theorem Sv.start (w : World) {A0 : Option Addr} {c0 : Nat} {l0 : List ByteArray} (a1 : Int) (hr0 : Kd.C Kd.string w A0 l0.length l0) (hc0 : l0.length ≤ c0) :
    Sv w ((((((w.alloc (.cells #[.string ⟨#[]⟩, .string ⟨#[]⟩, .string ⟨#[]⟩, .slice none 0 0, .int .i64 0] 25)).alloc (.cells #[.pointer none, .slice none 0 0] 106)).alloc (.cells #[.pointer none, .slice none 0 0] 106)).alloc (.cells #[.pointer none, .slice none 0 0] 106)).alloc
      (.cells #[.string ⟨#[]⟩, .string ⟨#[]⟩, .string ⟨#[]⟩, .slice none 0 0, .int .i64 a1] 25)).alloc (.cells #[.slice A0 l0.length c0, .int .i64 0] 108))
      (.slice (some ⟨w.heap.size + 1 + 1 + 1 + 1 + 1, 0, none⟩) 1 1) (.slice none 0 0) (fun _ => []) [] [⟨l0, 0⟩] a1 := by
  have hz : ∀ (w : World) (o : Obj), (w.alloc o).heap.size = w.heap.size + 1 := fun w o => by simp only [World.alloc, Array.size_push]
  have e0 := blk_new w (.cells #[.string ⟨#[]⟩, .string ⟨#[]⟩, .string ⟨#[]⟩, .slice none 0 0, .int .i64 0] 25)
  generalize hw1 : w.alloc (.cells #[.string ⟨#[]⟩, .string ⟨#[]⟩, .string ⟨#[]⟩, .slice none 0 0, .int .i64 0] 25) = w1 at e0 ⊢
  have z1 : w1.heap.size = w.heap.size + 1 := by rw [← hw1, hz]
  have b1 : Below w.heap.size w w1 := by rw [← hw1]; exact below_alloc (Below.refl _ _) _
  have e1 := blk_new w1 (.cells #[.pointer none, .slice none 0 0] 106)
  have e2 := blk_new (w1.alloc (.cells #[.pointer none, .slice none 0 0] 106)) (.cells #[.pointer none, .slice none 0 0] 106)
  have e3 := blk_new ((w1.alloc (.cells #[.pointer none, .slice none 0 0] 106)).alloc (.cells #[.pointer none, .slice none 0 0] 106)) (.cells #[.pointer none, .slice none 0 0] 106)
  rw [hz, z1] at e2
  rw [hz, hz, z1] at e3
  rw [z1] at e1
  generalize hw2 : ((w1.alloc (.cells #[.pointer none, .slice none 0 0] 106)).alloc (.cells #[.pointer none, .slice none 0 0] 106)).alloc (.cells #[.pointer none, .slice none 0 0] 106) = w2 at e3 ⊢
  have e1' : w2.heap[w.heap.size + 1]? = some (.cells #[.pointer none, .slice none 0 0] 106) := by rw [← hw2]; exact blk_alloc (blk_alloc e1 _) _
  have e2' : w2.heap[w.heap.size + 1 + 1]? = some (.cells #[.pointer none, .slice none 0 0] 106) := by rw [← hw2]; exact blk_alloc e2 _
  have e0' : w2.heap[w.heap.size]? = some (.cells #[.string ⟨#[]⟩, .string ⟨#[]⟩, .string ⟨#[]⟩, .slice none 0 0, .int .i64 0] 25) := by rw [← hw2]; exact blk_alloc (blk_alloc (blk_alloc e0 _) _) _
  have z2 : w2.heap.size = w.heap.size + 1 + 1 + 1 + 1 := by rw [← hw2, hz, hz, hz, z1]
  have b2 : Below w.heap.size w w2 := by rw [← hw2]; exact below_alloc (below_alloc (below_alloc b1 _) _) _
  have e4 := blk_new w2 (.cells #[.string ⟨#[]⟩, .string ⟨#[]⟩, .string ⟨#[]⟩, .slice none 0 0, .int .i64 a1] 25)
  have e5 := blk_new (w2.alloc (.cells #[.string ⟨#[]⟩, .string ⟨#[]⟩, .string ⟨#[]⟩, .slice none 0 0, .int .i64 a1] 25)) (.cells #[.slice A0 l0.length c0, .int .i64 0] 108)
  rw [hz, z2] at e5
  rw [z2] at e4
  refine ⟨below_alloc (below_alloc b2 _) _, ⟨fun _ => .pointer none, fun _ => .slice none 0 0, fun j hj => ⟨.inl rfl, ?_, Kd.R_nil _ _ _ _ _, by omega⟩, fun i j _ _ _ => ne_nil _, fun _ _ _ => rfl⟩, blk_alloc (blk_alloc e0' _) _, blk_alloc e4 _, Kd.R_nil _ _ _ _ _, ?_⟩
  · match j, hj with
    | 0, _ => exact blk_alloc (blk_alloc e1' _) _
    | 1, _ => exact blk_alloc (blk_alloc e2' _) _
    | 2, _ => exact blk_alloc (blk_alloc e3 _) _
  · refine ⟨fun k hk => hk.symm, [.slice A0 l0.length c0, .int .i64 0], ⟨rfl, .inr ⟨_, 1, #[.slice A0 l0.length c0, .int .i64 0], rfl, by omega, e5, Nat.le_refl _, by unfold maxLen; omega, rfl, rfl⟩⟩, ⟨rfl, fun j p hj => ?_⟩⟩
    match j with
    | 0 =>
      have : p = (⟨l0, 0⟩ : S108) := by simpa using hj.symm
      subst this
      exact k108_mk w ⟨l0, 0⟩ hc0 hr0
    | j + 1 => simp at hj
section
variable {w0 W W1 : World} {vQ vR : Value} {T : Nat → List Int} {R : List ByteArray} {Q : List S108} {keep : Int}
theorem Sv.slice (h : Sv w0 W vQ vR T R Q keep) : ∃ A c, vQ = .slice A Q.length c := Kd.R_slice h.rQ
theorem Sv.at {A : Option Addr} {c : Nat} (h : Sv w0 W (.slice A Q.length c) vR T R Q keep) (i : Int) (h0 : 0 ≤ i) (h1 : i < Q.length) :
    ∃ ad A1 c1, A = some ad ∧ W.cell? (ad.add (i.toNat * 2)) = some (.slice A1 (rd_T108 Q i).f0.length c1) ∧ W.cell? ⟨(ad.add (i.toNat * 2)).block, (ad.add (i.toNat * 2)).off + 1, none⟩ = some (.int .i64 (rd_T108 Q i).f1) ∧ (rd_T108 Q i).f0.length ≤ c1 ∧ Kd.string.C w0 A1 (rd_T108 Q i).f0.length (rd_T108 Q i).f0 := by
  obtain ⟨ad, c, e, _, hK, hc0⟩ := Kd.C_get (Kd.R_reads' h.rQ).2.2 z108 i h0 h1
  have hc : ∀ j u, c[j]? = some u → W.cell? (ad.add (i.toNat * 2 + j)) = some u := hc0
  obtain ⟨A0, c0, rfl, l0, g0⟩ := k108_open hK
  exact ⟨ad, A0, c0, e, hc 0 _ rfl, by rw [← add_field _ _ 1 (by omega)]; exact hc 1 _ rfl, l0, g0⟩
theorem Sv.key {A : Option Addr} {l : List ByteArray} (h : Sv w0 W vQ vR T R Q keep) (hc : Kd.string.C w0 A l.length l) (i : Int) (h0 : 0 ≤ i) (h1 : i < l.length) : ∃ ad, A = some ad ∧ W.cell? (ad.add i.toNat) = some (.string (rdOf ByteArray.empty l i)) :=
  Kd.at_string (Kd.C_below hc h.below) i h0 h1
theorem Sv.boxc (h : Sv w0 W vQ vR T R Q keep) : W.cell? ⟨w0.heap.size + 1 + 1 + 1 + 1, 3, none⟩ = some vR ∧ W.frozen? ⟨w0.heap.size + 1 + 1 + 1 + 1, 3, none⟩ = false :=
  ⟨by rw [Lib.cell_of_heap (show W.heap[w0.heap.size + 1 + 1 + 1 + 1]? = some (.cells _ 25 (0, 0)) from h.box)]; rfl, blk_frozen (show W.heap[w0.heap.size + 1 + 1 + 1 + 1]? = some (.cells _ 25 (0, 0)) from h.box) 3⟩
theorem Sv.boxg (h : Sv w0 W vQ vR T R Q keep) (hg : W.grownBy W1 vR.ownBlock) : W1.cell? ⟨w0.heap.size + 1 + 1 + 1 + 1, 3, none⟩ = some vR ∧ W1.frozen? ⟨w0.heap.size + 1 + 1 + 1 + 1, 3, none⟩ = false := by
  have hb : W1.heap[w0.heap.size + 1 + 1 + 1 + 1]? = some (boxS vR keep) := blk_kept h.box (S := fun k => some k = vR.ownBlock) ⟨hg.size, fun i hi hne => hg.block i hi hne⟩ (fun e => Kd.R_ne h.rR (show W.heap[w0.heap.size + 1 + 3]? = some (.cells _ 25 (0, 0)) from h.box) (by decide) e)
  exact ⟨by rw [Lib.cell_of_heap (show W1.heap[w0.heap.size + 1 + 1 + 1 + 1]? = some (.cells _ 25 (0, 0)) from hb)]; rfl, blk_frozen (show W1.heap[w0.heap.size + 1 + 1 + 1 + 1]? = some (.cells _ 25 (0, 0)) from hb) 3⟩
theorem Sv.congr {T' : Nat → List Int} (h : Sv w0 W vQ vR T R Q keep) (hT : ∀ j, j < 3 → T j = T' j) : Sv w0 W vQ vR T' R Q keep := by
  obtain ⟨p, v, hb, hn, hz⟩ := h.ex
  exact ⟨h.below, ⟨p, v, fun j hj => hT j hj ▸ hb j hj, hn, fun j hj e => hz j hj ((hT j hj).trans e)⟩, h.res, h.box, h.rR, h.rQ⟩
def bs (s : ByteArray) : List Int := nums s.data.toList
theorem bs_push (s : ByteArray) (c : UInt8) : bs (s.push c) = bs s ++ [(c.toNat : Int)] := by simp [bs, nums]
theorem bs_length (s : ByteArray) : (bs s).length = s.size := by simp [bs, nums]
def three (a b c : ByteArray) : Nat → List Int := tri (bs a) (bs b) (bs c)
theorem Sv.wL {a b c : ByteArray} (h : Sv w0 W vQ vR (three a b c) R Q keep) (x : UInt8) (hl : a.size + 1 ≤ 140737488355328) :
    Calls Try.prog 109 #[.pointer (some ⟨w0.heap.size + 1, 0, none⟩), .int .u8 (x.toNat : Int)] W fun e w' => e = .returned .nilIface ∧ Aside0 (Sv w0 w' vQ vR (three (a.push x) b c) R Q keep) := by
  refine (h.write (j := 0) (by omega) (x.toNat : Int) (by show (bs a).length + 1 ≤ _; rw [bs_length]; exact hl)).mono ?_
  rintro e w' ⟨rfl, hs⟩
  refine ⟨rfl, ⟨hs.out.congr (fun j hj => ?_)⟩⟩
  match j, hj with
  | 0, _ => exact (bs_push a x).symm
  | 1, _ => rfl
  | 2, _ => rfl
theorem Sv.wM {a b c : ByteArray} (h : Sv w0 W vQ vR (three a b c) R Q keep) (x : UInt8) (hl : b.size + 1 ≤ 140737488355328) :
    Calls Try.prog 109 #[.pointer (some ⟨w0.heap.size + 1 + 1, 0, none⟩), .int .u8 (x.toNat : Int)] W fun e w' => e = .returned .nilIface ∧ Aside0 (Sv w0 w' vQ vR (three a (b.push x) c) R Q keep) := by
  refine (h.write (j := 1) (by omega) (x.toNat : Int) (by show (bs b).length + 1 ≤ _; rw [bs_length]; exact hl)).mono ?_
  rintro e w' ⟨rfl, hs⟩
  refine ⟨rfl, ⟨hs.out.congr (fun j hj => ?_)⟩⟩
  match j, hj with
  | 0, _ => rfl
  | 1, _ => exact (bs_push b x).symm
  | 2, _ => rfl
theorem Sv.wF {a b c : ByteArray} (h : Sv w0 W vQ vR (three a b c) R Q keep) (x : UInt8) (hl : c.size + 1 ≤ 140737488355328) :
    Calls Try.prog 109 #[.pointer (some ⟨w0.heap.size + 1 + 1 + 1, 0, none⟩), .int .u8 (x.toNat : Int)] W fun e w' => e = .returned .nilIface ∧ Aside0 (Sv w0 w' vQ vR (three a b (c.push x)) R Q keep) := by
  refine (h.write (j := 2) (by omega) (x.toNat : Int) (by show (bs c).length + 1 ≤ _; rw [bs_length]; exact hl)).mono ?_
  rintro e w' ⟨rfl, hs⟩
  refine ⟨rfl, ⟨hs.out.congr (fun j hj => ?_)⟩⟩
  match j, hj with
  | 0, _ => rfl
  | 1, _ => rfl
  | 2, _ => exact (bs_push c x).symm
theorem Sw.sL {a b c : ByteArray} (h : Sw w0 W vR (fun _ => True) (three a b c) R keep) :
    Calls Try.prog 110 #[.pointer (some ⟨w0.heap.size + 1, 0, none⟩)] W fun e w' => e = .returned (.string a) ∧ Aside0 (Sw w0 w' vR (fun i => i ≠ 0) (three a b c) R keep) := by
  refine (h.string (j := 0) (l := a.data.toList) (by omega) trivial rfl).mono ?_
  rintro e w' ⟨rfl, hs⟩
  exact ⟨rfl, ⟨hs.out.below, (by obtain ⟨p, v, hb, hn⟩ := hs.out.ex; exact ⟨p, v, fun j hj hJ => hb j hj ⟨trivial, hJ⟩, hn⟩), hs.out.res, hs.out.box, hs.out.rR⟩⟩
theorem Sw.sM {a b c : ByteArray} (h : Sw w0 W vR (fun i => i ≠ 0) (three a b c) R keep) :
    Calls Try.prog 110 #[.pointer (some ⟨w0.heap.size + 1 + 1, 0, none⟩)] W fun e w' => e = .returned (.string b) ∧ Aside0 (Sw w0 w' vR (fun i => i = 2) (three a b c) R keep) := by
  refine (h.string (j := 1) (l := b.data.toList) (by omega) (by omega) rfl).mono ?_
  rintro e w' ⟨rfl, hs⟩
  exact ⟨rfl, ⟨hs.out.below, (by obtain ⟨p, v, hb, hn⟩ := hs.out.ex; exact ⟨p, v, fun j hj hJ => hb j hj ⟨by omega, by omega⟩, hn⟩), hs.out.res, hs.out.box, hs.out.rR⟩⟩
theorem Sw.sF {a b c : ByteArray} (h : Sw w0 W vR (fun i => i = 2) (three a b c) R keep) :
    Calls Try.prog 110 #[.pointer (some ⟨w0.heap.size + 1 + 1 + 1, 0, none⟩)] W fun e w' => e = .returned (.string c) ∧ Aside0 (Below w0.heap.size w0 w' ∧ w'.heap[w0.heap.size]? = some boxZ ∧ w'.heap[w0.heap.size + 1 + 1 + 1 + 1]? = some (boxS vR keep) ∧ Kd.R Kd.string 9 w' w0.heap.size (fun k => some k = vR.ownBlock) vR R) := by
  refine (h.string (j := 2) (l := c.data.toList) (by omega) rfl rfl).mono ?_
  rintro e w' ⟨rfl, hs⟩
  exact ⟨rfl, ⟨hs.out.below, hs.out.res, hs.out.box, hs.out.rR⟩⟩
theorem fin1 {vR : Value} {a b c : ByteArray} (h : Below w0.heap.size w0 W ∧ W.heap[w0.heap.size]? = some boxZ ∧ W.heap[w0.heap.size + 1 + 1 + 1 + 1]? = some (boxS vR keep) ∧ Kd.R Kd.string 9 W w0.heap.size (fun k => some k = vR.ownBlock) vR R) :
    Aside0 (Below w0.heap.size w0 (((W.setCell ⟨w0.heap.size + 1 + 1 + 1 + 1, 0, none⟩ (.string a)).setCell ⟨w0.heap.size + 1 + 1 + 1 + 1, 1, none⟩ (.string b)).setCell ⟨w0.heap.size + 1 + 1 + 1 + 1, 2, none⟩ (.string c)) ∧
      (((W.setCell ⟨w0.heap.size + 1 + 1 + 1 + 1, 0, none⟩ (.string a)).setCell ⟨w0.heap.size + 1 + 1 + 1 + 1, 1, none⟩ (.string b)).setCell ⟨w0.heap.size + 1 + 1 + 1 + 1, 2, none⟩ (.string c)).heap[w0.heap.size]? = some boxZ ∧
      (((W.setCell ⟨w0.heap.size + 1 + 1 + 1 + 1, 0, none⟩ (.string a)).setCell ⟨w0.heap.size + 1 + 1 + 1 + 1, 1, none⟩ (.string b)).setCell ⟨w0.heap.size + 1 + 1 + 1 + 1, 2, none⟩ (.string c)).heap[w0.heap.size + 1 + 1 + 1 + 1]? = some (.cells #[.string a, .string b, .string c, vR, .int .i64 keep] 25 (0, 0)) ∧
      Kd.R Kd.string 9 (((W.setCell ⟨w0.heap.size + 1 + 1 + 1 + 1, 0, none⟩ (.string a)).setCell ⟨w0.heap.size + 1 + 1 + 1 + 1, 1, none⟩ (.string b)).setCell ⟨w0.heap.size + 1 + 1 + 1 + 1, 2, none⟩ (.string c)) w0.heap.size (fun k => some k = vR.ownBlock) vR R) := by
  obtain ⟨h1, h2, h3, h4⟩ := h
  have hne : ∀ k, some k = vR.ownBlock → k ≠ w0.heap.size + 1 + 1 + 1 + 1 := by
    rintro k hk rfl
    exact Kd.R_ne h4 (show W.heap[w0.heap.size + 1 + 1 + 1 + 1]? = some (.cells _ 25 (0, 0)) from h3) (by decide) hk
  have hb : ∀ i : Nat, w0.heap.size ≤ (⟨w0.heap.size + 1 + 1 + 1 + 1, i, none⟩ : Addr).block := fun i => by show w0.heap.size ≤ w0.heap.size + 1 + 1 + 1 + 1; omega
  refine ⟨⟨((h1.setCell (hb 0) _).setCell (hb 1) _).setCell (hb 2) _, ?_, ?_, ?_⟩⟩
  · refine (Below.heap_setCell _ _ _ _ (by show w0.heap.size ≠ w0.heap.size + 1 + 1 + 1 + 1; omega)).trans ((Below.heap_setCell _ _ _ _ (by show w0.heap.size ≠ w0.heap.size + 1 + 1 + 1 + 1; omega)).trans ((Below.heap_setCell _ _ _ _ (by show w0.heap.size ≠ w0.heap.size + 1 + 1 + 1 + 1; omega)).trans h2))
  · exact blk_put (blk_put (blk_put (show W.heap[w0.heap.size + 1 + 1 + 1 + 1]? = some (.cells _ 25 (0, 0)) from h3) 0 _ rfl) 1 _ rfl) 2 _ rfl
  · exact Kd.R_far (p := ⟨w0.heap.size + 1 + 1 + 1 + 1, 2, none⟩) (Kd.R_far (p := ⟨w0.heap.size + 1 + 1 + 1 + 1, 1, none⟩) (Kd.R_far (p := ⟨w0.heap.size + 1 + 1 + 1 + 1, 0, none⟩) h4 hne _) hne _) hne _
theorem fin2 {vR : Value} {a b c : ByteArray} (h : Below w0.heap.size w0 W ∧ W.heap[w0.heap.size]? = some boxZ ∧ W.heap[w0.heap.size + 1 + 1 + 1 + 1]? = some (.cells #[.string a, .string b, .string c, vR, .int .i64 keep] 25 (0, 0)) ∧ Kd.R Kd.string 9 W w0.heap.size (fun k => some k = vR.ownBlock) vR R) :
    Aside0 (Below w0.heap.size w0 (((((W.setCell ⟨w0.heap.size, 0, none⟩ (.string a)).setCell ⟨w0.heap.size, 1, none⟩ (.string b)).setCell ⟨w0.heap.size, 2, none⟩ (.string c)).setCell ⟨w0.heap.size, 3, none⟩ vR).setCell ⟨w0.heap.size, 4, none⟩ (.int .i64 keep)) ∧
      (((((W.setCell ⟨w0.heap.size, 0, none⟩ (.string a)).setCell ⟨w0.heap.size, 1, none⟩ (.string b)).setCell ⟨w0.heap.size, 2, none⟩ (.string c)).setCell ⟨w0.heap.size, 3, none⟩ vR).setCell ⟨w0.heap.size, 4, none⟩ (.int .i64 keep)).heap[w0.heap.size]? = some (.cells #[.string a, .string b, .string c, vR, .int .i64 keep] 25 (0, 0)) ∧
      Kd.R Kd.string 9 (((((W.setCell ⟨w0.heap.size, 0, none⟩ (.string a)).setCell ⟨w0.heap.size, 1, none⟩ (.string b)).setCell ⟨w0.heap.size, 2, none⟩ (.string c)).setCell ⟨w0.heap.size, 3, none⟩ vR).setCell ⟨w0.heap.size, 4, none⟩ (.int .i64 keep)) w0.heap.size (fun _ => True) vR R) := by
  obtain ⟨h1, h2, h3, h4⟩ := h
  have hne : ∀ k, some k = vR.ownBlock → k ≠ w0.heap.size := by
    rintro k hk rfl
    exact Kd.R_ne h4 (show W.heap[w0.heap.size]? = some (.cells _ 25 (0, 0)) from h2) (by decide) hk
  have hb : ∀ i : Nat, w0.heap.size ≤ (⟨w0.heap.size, i, none⟩ : Addr).block := fun i => Nat.le_refl _
  refine ⟨⟨((((h1.setCell (hb 0) _).setCell (hb 1) _).setCell (hb 2) _).setCell (hb 3) _).setCell (hb 4) _, ?_, ?_⟩⟩
  · exact blk_put (blk_put (blk_put (blk_put (blk_put (show W.heap[w0.heap.size]? = some (.cells _ 25 (0, 0)) from h2) 0 _ rfl) 1 _ rfl) 2 _ rfl) 3 _ rfl) 4 _ rfl
  · exact Kd.R_mono (Kd.R_far (p := ⟨w0.heap.size, 4, none⟩) (Kd.R_far (p := ⟨w0.heap.size, 3, none⟩) (Kd.R_far (p := ⟨w0.heap.size, 2, none⟩) (Kd.R_far (p := ⟨w0.heap.size, 1, none⟩) (Kd.R_far (p := ⟨w0.heap.size, 0, none⟩) h4 hne _) hne _) hne _) hne _) hne _) (fun _ _ => trivial)
theorem byte_of {c : Int} (h0 : 0 ≤ c) (h1 : c ≤ 255) : ((c.toNat.toUInt8).toNat : Int) = c := by
  have : (c.toNat.toUInt8).toNat = c.toNat % 256 := by simp [Nat.toUInt8]
  rw [this]; omega
theorem Sv.bL {a b c : ByteArray} (h : Sv w0 W vQ vR (three a b c) R Q keep) (x : Int) (hx : 0 ≤ x ∧ x ≤ 255) (hl : a.size + 1 ≤ 140737488355328) :
    Calls Try.prog 109 #[.pointer (some ⟨w0.heap.size + 1, 0, none⟩), .int .u8 x] W fun e w' => e = .returned .nilIface ∧ Aside0 (Sv w0 w' vQ vR (three (a.push x.toNat.toUInt8) b c) R Q keep) := by
  have := h.wL x.toNat.toUInt8 hl
  rwa [byte_of hx.1 hx.2] at this
theorem Sv.bM {a b c : ByteArray} (h : Sv w0 W vQ vR (three a b c) R Q keep) (x : Int) (hx : 0 ≤ x ∧ x ≤ 255) (hl : b.size + 1 ≤ 140737488355328) :
    Calls Try.prog 109 #[.pointer (some ⟨w0.heap.size + 1 + 1, 0, none⟩), .int .u8 x] W fun e w' => e = .returned .nilIface ∧ Aside0 (Sv w0 w' vQ vR (three a (b.push x.toNat.toUInt8) c) R Q keep) := by
  have := h.wM x.toNat.toUInt8 hl
  rwa [byte_of hx.1 hx.2] at this
theorem Sv.bF {a b c : ByteArray} (h : Sv w0 W vQ vR (three a b c) R Q keep) (x : Int) (hx : 0 ≤ x ∧ x ≤ 255) (hl : c.size + 1 ≤ 140737488355328) :
    Calls Try.prog 109 #[.pointer (some ⟨w0.heap.size + 1 + 1 + 1, 0, none⟩), .int .u8 x] W fun e w' => e = .returned .nilIface ∧ Aside0 (Sv w0 w' vQ vR (three a b (c.push x.toNat.toUInt8)) R Q keep) := by
  have := h.wF x.toNat.toUInt8 hl
  rwa [byte_of hx.1 hx.2] at this
end
end Go.Proofs.Ytifgcajpkgamgaa.Hand
end
section
namespace Go.Proofs.Ytifgcajpkgamgaa.Hand
open Go Go.RowKit Go.Proofs.Ytifgcajpkgamgaa.Q Go.Proofs.YtifgcajpkgamgaaW.PrintWords Go.Proofs.YtifgcajpkgamgaaW.PrintLast Go.Proofs.YtifgcajpkgamgaaW.PrintMore
attribute [local go_sem] max2_int min2_int max_two min_two max_three min_three max_four min_four
set_option linter.unusedVariables false
set_option linter.unusedSimpArgs false
theorem label_range {a : ByteArray} {d r : Int} (h : impl_label.f a d = some r) : 0 ≤ r ∧ r ≤ 255 := by
  unfold impl_label.f at h
  split at h
  · injection h with h; omega
  · split at h
    · split at h
      · injection h with h
        have := bt_range a d
        omega
      · cases h
    · cases h
def SvPost (w : World) (r : ByteArray × ByteArray × ByteArray × List ByteArray × Int) (e : Ending) (w' : World) : Prop :=
  ∃ v3_ : Value, e = .returned (.agg #[.string r.1, .string r.2.1, .string r.2.2.1, v3_, .int .i64 r.2.2.2.2]) ∧ Kd.R Kd.string 9 w' w.heap.size (fun _ => True) v3_ r.2.2.2.1 ∧ Below w.heap.size w w'
set_option maxHeartbeats 8000000 in
set_option maxRecDepth 100000 in
theorem sieveOf (k : Nat) (A0 : Option Addr) (c0 : Nat) (l0 : List ByteArray) (a1 : Int) (r : ByteArray × ByteArray × ByteArray × List ByteArray × Int) (w : World) (hr0 : Kd.C Kd.string w A0 l0.length l0) (hc0 : l0.length ≤ c0) (h : impl_sieveOf.f k l0 a1 = some r) :
    Calls Try.prog 75 #[.slice A0 l0.length c0, .int .i64 a1] w (SvPost w r) := by
  have HS := Aside0.mk (Sv.start w a1 hr0 hc0)
  have H' := Aside0.mk (show impl_sieveOf.l0 k (⟨#[]⟩ : ByteArray) (⟨#[]⟩ : ByteArray) (⟨#[]⟩ : ByteArray) [] [⟨l0, 0⟩] a1 0 = some r from h)
  clear hr0 hc0 h
  go_enter Try.func75, Try.ntmps75
  go_wp2
  go_loopg [9, 10] k (fun kq v9 v10 wr => ∃ (a b c : ByteArray) (R : List ByteArray) (Q : List S108) (i : Int) (vR : Value), v10 = .int .i64 i ∧ Aside0 (impl_sieveOf.l0 kq a b c R Q a1 i = some r) ∧ Aside0 (kq ≤ k) ∧ Aside0 (Sv w wr v9 vR (three a b c) R Q a1))
  case atStart => exact ⟨_, _, _, _, _, 0, _, rfl, H', ⟨Nat.le_refl _⟩, ⟨HS.out.congr (fun j hj => match j, hj with | 0, _ => rfl | 1, _ => rfl | 2, _ => rfl)⟩⟩
  case round =>
    clear H' HS
    obtain ⟨a, b, c, R, Q, i, vR, rfl, HA, HK1, HS⟩ := hrel
    cases gk with
    | zero => exact absurd HA.out (by simp [impl_sieveOf.l0])
    | succ k1 =>
      have H := HA.out
      clear HA
      simp only [impl_sieveOf.l0] at H
      obtain ⟨Aq, cq, hvq⟩ := HS.out.slice
      subst hvq
      by_cases c5 : i < (Q.length : Int)
      · rw [if_pos c5] at H
        obtain ⟨c6, H⟩ := zn H
        obtain ⟨ad, A1, c1, hA, x0, x1, hl1, hC⟩ := HS.out.at i c6 c5
        subst hA
        have HC := Aside0.mk (And.intro hl1 hC)
        clear hl1 hC
        have H' := Aside0.mk H
        clear H
        have t5 : decide (i < (Q.length : Int)) = true := decide_eq_true c5
        replace c5 := eq_true c5
        replace c6 := eq_true c6
        generalize (rd_T108 Q i).f0 = rest at H' HC x0
        generalize (rd_T108 Q i).f1 = depth at H' x1
        go_wp2
        go_quiet (fail)
        go_wp2
        clear x0 x1 t5 c5 c6
        go_loopg [9, 11, 13] k1 (fun kq v9 v11 v13 wr => ∃ (a b c : ByteArray) (R : List ByteArray) (Q : List S108) (vR : Value) (rest : List ByteArray) (A1 : Option Addr) (c1 : Nat) (mark : Int), v11 = .slice A1 rest.length c1 ∧ v13 = .int .u8 mark ∧ Aside0 (impl_sieveOf.l1 kq a b c R Q a1 i rest depth mark = some r) ∧ Aside0 (kq ≤ k1) ∧ Aside0 (Sv w wr v9 vR (three a b c) R Q a1) ∧ Aside0 (rest.length ≤ c1 ∧ Kd.string.C w A1 rest.length rest) ∧ Aside0 (0 ≤ mark ∧ mark ≤ 255))
        case atStart => exact ⟨a, b, c, R, Q, vR, rest, A1, c1, 49, rfl, rfl, H', ⟨Nat.le_refl _⟩, ⟨HS.out.drewN _⟩, HC, ⟨by omega⟩⟩
        case round =>
          clear H' HS HC
          obtain ⟨a, b, c, R, Q, vR, rest, A1, c1, mark, rfl, rfl, HA, HK2, HS, HC, HM⟩ := hrel
          cases gk with
          | zero => exact absurd HA.out (by simp [impl_sieveOf.l1])
          | succ k2 =>
            have H := HA.out
            clear HA
            simp only [impl_sieveOf.l1] at H
            obtain ⟨Aq, cq, hvq⟩ := HS.out.slice
            subst hvq
            by_cases c7 : (rest.length : Int) > 0
            · rw [if_pos c7] at H
              have H' := Aside0.mk H
              clear H
              have t7 : decide ((rest.length : Int) > 0) = true := decide_eq_true c7
              have t7' : decide (0 < rest.length) = true := decide_eq_true (by omega)
              have C7 := Aside0.mk c7
              clear c7
              go_upto_block 4 with (fail)
              go_cut [14] (fun v14 wc => ∃ (kq : Nat) (n : Int), v14 = .int .i64 n ∧ Aside0 (impl_sieveOf.l3 kq a b c R Q a1 i rest depth mark n = some r) ∧ Aside0 (kq ≤ k2) ∧ Aside0 (Sv w wc (.slice Aq Q.length cq) vR (three a b c) R Q a1))
              case first =>
                go_wp2
                go_loopg [14] k2 (fun kq v14 wr => ∃ (n : Int), v14 = .int .i64 n ∧ Aside0 (impl_sieveOf.l2 kq a b c R Q a1 i rest depth mark n = some r) ∧ Aside0 (kq ≤ k2) ∧ Aside0 (Sv w wr (.slice Aq Q.length cq) vR (three a b c) R Q a1))
                case atStart => exact ⟨1, rfl, H', ⟨Nat.le_refl _⟩, HS⟩
                case round =>
                  clear H' HS
                  obtain ⟨n, rfl, HA, HK3, HS⟩ := hrel
                  cases gk with
                  | zero => exact absurd HA.out (by simp [impl_sieveOf.l2])
                  | succ k3 =>
                    have H := HA.out
                    clear HA
                    simp only [impl_sieveOf.l2] at H
                    by_cases c8 : n < (rest.length : Int)
                    · rw [if_pos c8] at H
                      obtain ⟨c9, H⟩ := zn H
                      obtain ⟨x, hx, H⟩ := Option.bind_eq_some_iff.1 H
                      obtain ⟨y, hy, H⟩ := Option.bind_eq_some_iff.1 H
                      obtain ⟨ad1, hA, x0⟩ := HS.out.key HC.out.2 n c9 c8
                      subst hA
                      obtain ⟨ad2, hA, y0⟩ := HS.out.key HC.out.2 0 (Int.le_refl 0) (by omega)
                      obtain rfl : ad1 = ad2 := by injection hA
                      clear hA
                      have HX := Aside0.mk hx
                      have HY := Aside0.mk hy
                      clear hx hy
                      have t8 : decide (n < (rest.length : Int)) = true := decide_eq_true c8
                      have t9 : (0 < rest.length) = True := eq_true (by omega)
                      rw [show ((0 : Int)).toNat = 0 from rfl, Addr.add_zero'] at y0
                      replace c8 := eq_true c8
                      replace c9 := eq_true c9
                      by_cases cq' : x = y
                      · rw [if_pos cq'] at H
                        have H' := Aside0.mk H
                        clear H
                        have t10 : ((x : Int) == y) = true := beq_iff_eq.2 cq'
                        clear cq'
                        go_wp2
                        go_quiet (first | (go_at_call 103; (with_reducible refine (impl_label.calls _ _ x _ HX.out).mono ?_); rintro e w' ⟨rfl, ⟨nd, rfl⟩⟩; (first | exact ⟨rfl, _, World.drewN_drewN _ _ _⟩ | exact ⟨rfl, _, Eq.trans (World.drewN_drewN _ _ _) (congrArg (World.drewN _) (Nat.add_assoc _ _ _))⟩)) | (go_at_call 103; (with_reducible refine (impl_label.calls _ _ y _ HY.out).mono ?_); rintro e w' ⟨rfl, ⟨nd, rfl⟩⟩; (first | exact ⟨rfl, _, World.drewN_drewN _ _ _⟩ | exact ⟨rfl, _, Eq.trans (World.drewN_drewN _ _ _) (congrArg (World.drewN _) (Nat.add_assoc _ _ _))⟩)))
                        go_wp2
                        go_roundg k3
                        case measure => omega
                        case rel => exact ⟨_, rfl, H', ⟨by have := HK3.out; omega⟩, ⟨HS.out.drewN _⟩⟩
                      · rw [if_neg cq'] at H
                        have H' := Aside0.mk H
                        clear H
                        have t10 : ((x : Int) == y) = false := beq_eq_false_iff_ne.2 cq'
                        clear cq'
                        go_wp2
                        go_quiet (first | (go_at_call 103; (with_reducible refine (impl_label.calls _ _ x _ HX.out).mono ?_); rintro e w' ⟨rfl, ⟨nd, rfl⟩⟩; (first | exact ⟨rfl, _, World.drewN_drewN _ _ _⟩ | exact ⟨rfl, _, Eq.trans (World.drewN_drewN _ _ _) (congrArg (World.drewN _) (Nat.add_assoc _ _ _))⟩)) | (go_at_call 103; (with_reducible refine (impl_label.calls _ _ y _ HY.out).mono ?_); rintro e w' ⟨rfl, ⟨nd, rfl⟩⟩; (first | exact ⟨rfl, _, World.drewN_drewN _ _ _⟩ | exact ⟨rfl, _, Eq.trans (World.drewN_drewN _ _ _) (congrArg (World.drewN _) (Nat.add_assoc _ _ _))⟩)))
                        go_wp2
                        go_meet
                        case rel => exact ⟨_, n, rfl, H', ⟨by have := HK3.out; omega⟩, ⟨HS.out.drewN _⟩⟩
                    · rw [if_neg c8] at H
                      have H' := Aside0.mk H
                      clear H
                      have t8 : decide (n < (rest.length : Int)) = false := decide_eq_false c8
                      clear c8
                      go_wp2
                      go_quiet (fail)
                      go_wp2
                      go_meet
                      case rel => exact ⟨_, n, rfl, H', ⟨by have := HK3.out; omega⟩, ⟨HS.out.drewN _⟩⟩
              case rest =>
                clear H' HS
                obtain ⟨kq, n, rfl, HA, HK3, HS⟩ := hcut
                cases kq with
                | zero => exact absurd HA.out (by simp [impl_sieveOf.l3])
                | succ k3 =>
                  have H := HA.out
                  clear HA
                  simp only [impl_sieveOf.l3] at H
                  obtain ⟨g, H⟩ := zn H
                  obtain ⟨x, hx, H⟩ := Option.bind_eq_some_iff.1 H
                  have HXR := Aside0.mk (label_range hx)
                  have HX := Aside0.mk hx
                  clear hx
                  obtain ⟨ad1, hA, y0⟩ := HS.out.key HC.out.2 0 (Int.le_refl 0) (by have := C7.out; omega)
                  subst hA
                  rw [show ((0 : Int)).toNat = 0 from rfl, Addr.add_zero'] at y0
                  have t9 : (0 < rest.length) = True := eq_true (by have := C7.out; omega)
                  obtain ⟨i9, hi9, _, hsz9, _⟩ := info_parts info9
                  have hcutF := cut_from (P := Try.prog) 23 9 .i64 Try.underlying23 hi9 1 hsz9 (some ad1) rest.length c1 n g.2.2.2.1 g.2.2.2.2.1
                  have hcutT := cut_to (P := Try.prog) 23 9 .i64 Try.underlying23 hi9 (some ad1) rest.length c1 n g.2.2.2.1 g.2.2.2.2.1 HC.out.1
                  have hCF := Kd.C_drop (m := n.toNat) (c := c1) HC.out.2 (by omega) HC.out.1
                  have hCT := Kd.C_take (m := n.toNat) HC.out.2 (by omega)
                  obtain ⟨dr, hdr⟩ : ∃ dr, dr = rest.drop n.toNat := ⟨_, rfl⟩
                  obtain ⟨tk, htk⟩ : ∃ tk, tk = rest.take n.toNat := ⟨_, rfl⟩
                  have hdl : rest.length - n.toNat = dr.length := by rw [hdr, List.length_drop]
                  have htl : n.toNat = tk.length := by rw [htk, List.length_take]; omega
                  have hc1' := HC.out.1
                  obtain ⟨Af, hAf⟩ : ∃ Af, Af = (if c1 = n.toNat then (some ad1 : Option Addr) else (some ad1 : Option Addr).map (·.add (n.toNat * 1))) := ⟨_, rfl⟩
                  obtain ⟨cf, hcf⟩ : ∃ cf, cf = c1 - n.toNat := ⟨_, rfl⟩
                  have hcle : dr.length ≤ cf := by omega
                  have htc : tk.length ≤ c1 := by omega
                  rw [← hdr] at H hCF
                  rw [← htk] at H hCT
                  rw [← hAf, ← hcf, hdl] at hcutF
                  replace hCF : Kd.string.C w Af dr.length dr := by rw [hAf]; exact hCF
                  rw [htl] at hcutT
                  have HCF := Aside0.mk (And.intro hcle hCF)
                  have HCT := Aside0.mk (And.intro htc hCT)
                  have G := Aside0.mk g
                  have HT := Aside0.mk htl
                  clear g hi9 hsz9 hCF hCT hdr htk hdl htl hAf hcf hcle htc hc1'
                  by_cases c8 : n > 1
                  · rw [if_pos c8] at H
                    have H' := Aside0.mk H
                    clear H
                    have t8 : decide (n > 1) = true := decide_eq_true c8
                    clear c8
                    go_wp2_with (first | (go_at_call 103; (with_reducible refine (impl_label.calls _ _ x _ HX.out).mono ?_); rintro e w' ⟨rfl, ⟨nd, rfl⟩⟩; replace HS := Aside0.mk (HS.out.drewN nd)) | (go_at_call 109; (with_reducible refine (Sv.bL HS.out x HXR.out G.out.1).mono ?_); rintro e w5 ⟨rfl, HS1⟩; clear HS; have HS := HS1; clear HS1) | (go_at_call 109; (with_reducible refine (Sv.bF HS.out mark HM.out G.out.2.2.1).mono ?_); rintro e w6 ⟨rfl, HS1⟩; clear HS; have HS := HS1; clear HS1) | (go_at_call 109; (with_reducible refine (Sv.bM HS.out 49 (by omega) G.out.2.1).mono ?_); rintro e w7 ⟨rfl, HS1⟩; clear HS; have HS := HS1; clear HS1) | ((with_reducible refine gate_builtin (b := .append) (xs := #[.tmp 71, .tmp 78]) rfl ?_); at_builtin; go_must (refine Kd.R_append (kq w) (w0 := w) w.heap.size rfl (.tmp 71) (.tmp 78) 109 108 (.agg #[(.slice none 0 0), (.int .i64 0)]) 32 rfl Try.underlying109 info108 rfl (show 0 < 2 by decide) (by omega) (.slice Aq Q.length cq) Q (⟨tk, wrap64 (depth + 1)⟩ : S108) [.slice (some ad1) tk.length c1, .int .i64 (wrap64 (depth + 1))] (fun _ => True) (fun _ => False) rfl rfl (k108_mk w ⟨tk, wrap64 (depth + 1)⟩ HCT.out.1 HCT.out.2) (fun _ h => h.elim) (fun _ _ => trivial) (Kd.R_mono HS.out.rQ (fun _ _ => trivial)) HS.out.below HS.out.below.size (by have := G.out.2.2.2.2.2.2.2.2.1; omega) ?_); intro v8 w8 hown8 hbel8 hgrow8 hat8; have HS1 := Aside0.mk (HS.out.pushQ hgrow8 hbel8 hown8); clear HS hown8 hbel8 hgrow8 hat8; have HS := HS1; clear HS1))
                    go_roundg k3
                    case measure => have := HK3.out; omega
                    case rel => exact ⟨_, _, _, _, _, _, dr, Af, cf, 48, rfl, rfl, H', ⟨by have := HK2.out; have := HK3.out; omega⟩, HS, HCF, ⟨by omega⟩⟩
                  · rw [if_neg c8] at H
                    have H' := Aside0.mk H
                    clear H
                    have t8 : decide (n > 1) = false := decide_eq_false c8
                    clear c8
                    go_upto_region 20 with (first | (go_at_call 103; (with_reducible refine (impl_label.calls _ _ x _ HX.out).mono ?_); rintro e w' ⟨rfl, ⟨nd, rfl⟩⟩; replace HS := Aside0.mk (HS.out.drewN nd)) | (go_at_call 109; (with_reducible refine (Sv.bL HS.out x HXR.out G.out.1).mono ?_); rintro e w5 ⟨rfl, HS1⟩; clear HS; have HS := HS1; clear HS1) | (go_at_call 109; (with_reducible refine (Sv.bF HS.out mark HM.out G.out.2.2.1).mono ?_); rintro e w6 ⟨rfl, HS1⟩; clear HS; have HS := HS1; clear HS1) | (go_at_call 109; (with_reducible refine (Sv.bM HS.out 48 (by omega) G.out.2.1).mono ?_); rintro e w7 ⟨rfl, HS1⟩; clear HS; have HS := HS1; clear HS1))
                    clear y0
                    obtain ⟨ad2, hA, y0⟩ := HS.out.key HC.out.2 0 (Int.le_refl 0) (by have := C7.out; omega)
                    obtain rfl : ad1 = ad2 := by injection hA
                    clear hA
                    rw [show ((0 : Int)).toNat = 0 from rfl, Addr.add_zero'] at y0
                    generalize rdOf ByteArray.empty rest 0 = s at y0 H'
                    have LO := Aside0.mk (show 0 ≤ mn (wrap64 (depth + 1)) (s.size : Int) ∧ mn (wrap64 (depth + 1)) (s.size : Int) ≤ (s.size : Int) by
                      have h1 := G.out.2.2.2.2.2.1
                      have h2 := G.out.2.2.2.2.2.2.1
                      have h3 : wrap64 (depth + 1) = depth + 1 := by unfold wrap64; omega
                      rw [h3]
                      unfold mn
                      split <;> omega)
                    obtain ⟨ji, hji⟩ : ∃ j_ : Int, mn (wrap64 (depth + 1)) (s.size : Int) = j_ := ⟨_, rfl⟩
                    rw [hji] at LO H'
                    have hji_ : (if (s.size : Int) < (wrap64 (depth + 1)) then (s.size : Int) else (wrap64 (depth + 1))) = ji := hji
                    clear hji
                    have hwr : IntKind.i64.wrap (depth + 1) = wrap64 (depth + 1) := i64_w _
                    have p1 := eq_true LO.out.1
                    have p2 := eq_true LO.out.2
                    have p3 : decide (0 ≤ ji) = true := decide_eq_true LO.out.1
                    have p4 : decide (ji ≤ (s.size : Int)) = true := decide_eq_true LO.out.2
                    go_wp2
                    go_quiet (fail)
                    go_wp2
                    replace HS := Aside0.mk (HS.out.drewN nq)
                    generalize w7.drewN nq = w8 at HS ⊢
                    clear y0 p1 p2 p3 p4 hji_ hwr LO
                    generalize s.extract ji.toNat s.size = tl at H' ⊢
                    have LO := Aside0.mk (show 0 ≤ mn a1 (tl.size : Int) ∧ mn a1 (tl.size : Int) ≤ (tl.size : Int) by
                      have h1 := G.out.2.2.2.2.2.2.2.1
                      unfold mn
                      split <;> omega)
                    obtain ⟨jh, hjh⟩ : ∃ j_ : Int, mn a1 (tl.size : Int) = j_ := ⟨_, rfl⟩
                    rw [hjh] at LO H'
                    have hjh_ : (if (tl.size : Int) < a1 then (tl.size : Int) else a1) = jh := hjh
                    clear hjh
                    have p1 := eq_true LO.out.1
                    have p2 := eq_true LO.out.2
                    have p3 : decide (0 ≤ jh) = true := decide_eq_true LO.out.1
                    have p4 : decide (jh ≤ (tl.size : Int)) = true := decide_eq_true LO.out.2
                    obtain ⟨b0, f0⟩ := HS.out.boxc
                    have hlt : (w.heap.size + 1 + 1 + 1 + 1 < w8.heap.size) = True := eq_true (blk_lt HS.out.box)
                    go_region_law ((refine Kd.R_append_step Kd.string (w0 := w) (W := w8.drew) w.heap.size (by first | rfl | simp [Region.wanted]) (.tmp 93) (.tmp 100) 23 9 (.string ⟨#[]⟩) 16 (by rfl) Try.underlying23 info9 (by rfl) (by decide) (by omega) vR R (tl.extract 0 jh.toNat) [.string (tl.extract 0 jh.toNat)] (fun _ => True) (fun _ => False) (by first | rfl | simp [Act.eval, Act.put]) (by first | rfl | (simp [Act.eval, Act.put]; done)) (by rfl) (fun _ h => h.elim) (fun _ _ => trivial) (Kd.R_mono HS.out.drew.rR (fun _ _ => trivial)) HS.out.drew.below HS.out.drew.below.size (by have := G.out.2.2.2.2.2.2.2.2.2; omega) ?_; intro v9 w9 hown9 hbel9 hgrow9 hat9; obtain ⟨ao9, cap9, rfl⟩ := Kd.R_slice hown9; obtain ⟨b9, f9⟩ := HS.out.drew.boxg hgrow9; have HS9 := Aside0.mk (HS.out.drew.pushR hgrow9 hbel9 hown9); rw [show (R ++ [tl.extract 0 jh.toNat]).length = R.length + 1 from List.length_append] at HS9; clear hown9 hbel9 hgrow9 hat9))
                    all_goals
                      clear b0 f0 b9 f9 p1 p2 p3 p4 hjh_ hlt HS
                      go_wp2
                      go_roundg k3
                      case measure => have := HK3.out; omega
                      case rel => exact ⟨_, _, _, _, _, _, dr, Af, cf, 48, rfl, rfl, H', ⟨by have := HK2.out; have := HK3.out; omega⟩, HS9, HCF, ⟨by omega⟩⟩
            · rw [if_neg c7] at H
              have H' := Aside0.mk H
              clear H
              have t7 : decide ((rest.length : Int) > 0) = false := decide_eq_false c7
              have t7' : decide (0 < rest.length) = false := decide_eq_false (by omega)
              clear c7
              go_wp2
              go_roundg k2
              case measure => have := HK2.out; omega
              case rel => exact ⟨a, b, c, R, Q, _, vR, rfl, H', ⟨by have := HK1.out; have := HK2.out; omega⟩, HS⟩
      · rw [if_neg c5] at H
        have t5 : decide (i < (Q.length : Int)) = false := decide_eq_false c5
        clear c5
        obtain rfl := Option.some.inj H
        clear H
        replace HS := Aside0.mk HS.out.sw
        go_upto_region 24 with (first | (go_at_call 110; (with_reducible refine (Sw.sL HS.out).mono ?_); rintro e w5 ⟨rfl, HS1⟩; clear HS; have HS := HS1; clear HS1) | (go_at_call 110; (with_reducible refine (Sw.sM HS.out).mono ?_); rintro e w6 ⟨rfl, HS1⟩; clear HS; have HS := HS1; clear HS1) | (go_at_call 110; (with_reducible refine (Sw.sF HS.out).mono ?_); rintro e w7 ⟨rfl, HS1⟩; clear HS; have HS := HS1; clear HS1; have b0 := blk_cell (show w7.heap[w.heap.size + 1 + 1 + 1 + 1]? = some (.cells _ 25 (0, 0)) from HS.out.2.2.1) 0; have b1 := blk_cell (show w7.heap[w.heap.size + 1 + 1 + 1 + 1]? = some (.cells _ 25 (0, 0)) from HS.out.2.2.1) 1; have b2 := blk_cell (show w7.heap[w.heap.size + 1 + 1 + 1 + 1]? = some (.cells _ 25 (0, 0)) from HS.out.2.2.1) 2; have f0 := blk_frozen (show w7.heap[w.heap.size + 1 + 1 + 1 + 1]? = some (.cells _ 25 (0, 0)) from HS.out.2.2.1) 0; have f1 := blk_frozen (show w7.heap[w.heap.size + 1 + 1 + 1 + 1]? = some (.cells _ 25 (0, 0)) from HS.out.2.2.1) 1; have f2 := blk_frozen (show w7.heap[w.heap.size + 1 + 1 + 1 + 1]? = some (.cells _ 25 (0, 0)) from HS.out.2.2.1) 2))
        obtain ⟨Av, cv, hv⟩ := Kd.R_slice HS.out.2.2.2
        subst hv
        replace HS := fin1 (a := a) (b := b) (c := c) HS.out
        clear b0 b1 b2 f0 f1 f2
        generalize (((w7.setCell ⟨w.heap.size + 1 + 1 + 1 + 1, 0, none⟩ (.string a)).setCell ⟨w.heap.size + 1 + 1 + 1 + 1, 1, none⟩ (.string b)).setCell ⟨w.heap.size + 1 + 1 + 1 + 1, 2, none⟩ (.string c)) = w8 at HS ⊢
        have z0 := blk_cell HS.out.2.2.1 0
        have z1 := blk_cell HS.out.2.2.1 1
        have z2 := blk_cell HS.out.2.2.1 2
        have z3 := blk_cell HS.out.2.2.1 3
        have z4 := blk_cell HS.out.2.2.1 4
        have g0 := blk_frozen (show w8.heap[w.heap.size]? = some (.cells _ 25 (0, 0)) from HS.out.2.1) 0
        have g1 := blk_frozen (show w8.heap[w.heap.size]? = some (.cells _ 25 (0, 0)) from HS.out.2.1) 1
        have g2 := blk_frozen (show w8.heap[w.heap.size]? = some (.cells _ 25 (0, 0)) from HS.out.2.1) 2
        have g3 := blk_frozen (show w8.heap[w.heap.size]? = some (.cells _ 25 (0, 0)) from HS.out.2.1) 3
        have g4 := blk_frozen (show w8.heap[w.heap.size]? = some (.cells _ 25 (0, 0)) from HS.out.2.1) 4
        have y0 := blk_cell (show w8.heap[w.heap.size]? = some (.cells _ 25 (0, 0)) from HS.out.2.1) 0
        have y1 := blk_cell (show w8.heap[w.heap.size]? = some (.cells _ 25 (0, 0)) from HS.out.2.1) 1
        have y2 := blk_cell (show w8.heap[w.heap.size]? = some (.cells _ 25 (0, 0)) from HS.out.2.1) 2
        have y3 := blk_cell (show w8.heap[w.heap.size]? = some (.cells _ 25 (0, 0)) from HS.out.2.1) 3
        have y4 := blk_cell (show w8.heap[w.heap.size]? = some (.cells _ 25 (0, 0)) from HS.out.2.1) 4
        have hu25 := Try.underlying25
        go_wp2
        have HZ := fin2 HS.out
        clear z0 z1 z2 z3 z4 g0 g1 g2 g3 g4 y0 y1 y2 y3 y4 HS
        refine bodyPost_ret (results_cell_row rfl _ _ w.heap.size 25 #[.string a, .string b, .string c, .slice Av R.length cv, .int .i64 a1] (0, 0) _ rfl HZ.out.2.1 Try.underlying25 rfl (by kernel_rfl)) rfl ?_
        exact ⟨_, rfl, HZ.out.2.2, HZ.out.1⟩
end Go.Proofs.Ytifgcajpkgamgaa.Hand
end
section
namespace Go.Proofs.Ytifgcajpkgamgaa.Q
open Go.RowKit Go.Proofs.YtifgcajpkgamgaaW.PrintWords Go.Proofs.YtifgcajpkgamgaaW.PrintLast Go.Proofs.YtifgcajpkgamgaaW.PrintMore
attribute [local go_sem] max2_int min2_int max_two min_two max_three min_three max_four min_four   
set_option linter.unusedVariables false
set_option linter.unusedSimpArgs false
theorem impl_sieveOf.mono_l : ∀ k, (∀ y0 y1 y2 y3 y4 y5 y6, LeO (impl_sieveOf.l0 k y0 y1 y2 y3 y4 y5 y6) (impl_sieveOf.l0 (k + 1) y0 y1 y2 y3 y4 y5 y6)) ∧ (∀ y0 y1 y2 y3 y4 y5 y6 y7 y8 y9, LeO (impl_sieveOf.l1 k y0 y1 y2 y3 y4 y5 y6 y7 y8 y9) (impl_sieveOf.l1 (k + 1) y0 y1 y2 y3 y4 y5 y6 y7 y8 y9)) ∧ (∀ y0 y1 y2 y3 y4 y5 y6 y7 y8 y9 y10, LeO (impl_sieveOf.l2 k y0 y1 y2 y3 y4 y5 y6 y7 y8 y9 y10) (impl_sieveOf.l2 (k + 1) y0 y1 y2 y3 y4 y5 y6 y7 y8 y9 y10)) ∧ (∀ y0 y1 y2 y3 y4 y5 y6 y7 y8 y9 y10, LeO (impl_sieveOf.l3 k y0 y1 y2 y3 y4 y5 y6 y7 y8 y9 y10) (impl_sieveOf.l3 (k + 1) y0 y1 y2 y3 y4 y5 y6 y7 y8 y9 y10))
  | 0 => ⟨fun _ _ _ _ _ _ _ r h => by simp [impl_sieveOf.l0] at h, fun _ _ _ _ _ _ _ _ _ _ r h => by simp [impl_sieveOf.l1] at h, fun _ _ _ _ _ _ _ _ _ _ _ r h => by simp [impl_sieveOf.l2] at h, fun _ _ _ _ _ _ _ _ _ _ _ r h => by simp [impl_sieveOf.l3] at h⟩
  | k + 1 => by
    obtain ⟨ih0, ih1, ih2, ih3⟩ := impl_sieveOf.mono_l k
    refine ⟨?_, ?_, ?_, ?_⟩
    · intro y0 y1 y2 y3 y4 y5 y6
      unfold impl_sieveOf.l0
      repeat' first
      | (with_reducible exact ih0 _ _ _ _ _ _ _)
      | (with_reducible exact ih1 _ _ _ _ _ _ _ _ _ _)
      | (with_reducible exact ih2 _ _ _ _ _ _ _ _ _ _ _)
      | (with_reducible exact ih3 _ _ _ _ _ _ _ _ _ _ _)
      | (with_reducible exact LeO.refl _)
      | (with_reducible exact LeO.none _)
      | (with_reducible refine LeO.ite ?_ ?_)
      | (with_reducible refine LeO.bind ?_ (fun _ => ?_))
      | exact ih0 _ _ _ _ _ _ _
      | exact ih1 _ _ _ _ _ _ _ _ _ _
      | exact ih2 _ _ _ _ _ _ _ _ _ _ _
      | exact ih3 _ _ _ _ _ _ _ _ _ _ _
      | exact LeO.none _
      | refine LeO.ite ?_ ?_
      | refine LeO.bind ?_ (fun _ => ?_)
    · intro y0 y1 y2 y3 y4 y5 y6 y7 y8 y9
      unfold impl_sieveOf.l1
      repeat' first
      | (with_reducible exact ih0 _ _ _ _ _ _ _)
      | (with_reducible exact ih1 _ _ _ _ _ _ _ _ _ _)
      | (with_reducible exact ih2 _ _ _ _ _ _ _ _ _ _ _)
      | (with_reducible exact ih3 _ _ _ _ _ _ _ _ _ _ _)
      | (with_reducible exact LeO.refl _)
      | (with_reducible exact LeO.none _)
      | (with_reducible refine LeO.ite ?_ ?_)
      | (with_reducible refine LeO.bind ?_ (fun _ => ?_))
      | exact ih0 _ _ _ _ _ _ _
      | exact ih1 _ _ _ _ _ _ _ _ _ _
      | exact ih2 _ _ _ _ _ _ _ _ _ _ _
      | exact ih3 _ _ _ _ _ _ _ _ _ _ _
      | exact LeO.none _
      | refine LeO.ite ?_ ?_
      | refine LeO.bind ?_ (fun _ => ?_)
    · intro y0 y1 y2 y3 y4 y5 y6 y7 y8 y9 y10
      unfold impl_sieveOf.l2
      repeat' first
      | (with_reducible exact ih0 _ _ _ _ _ _ _)
      | (with_reducible exact ih1 _ _ _ _ _ _ _ _ _ _)
      | (with_reducible exact ih2 _ _ _ _ _ _ _ _ _ _ _)
      | (with_reducible exact ih3 _ _ _ _ _ _ _ _ _ _ _)
      | (with_reducible exact LeO.refl _)
      | (with_reducible exact LeO.none _)
      | (with_reducible refine LeO.ite ?_ ?_)
      | (with_reducible refine LeO.bind ?_ (fun _ => ?_))
      | exact ih0 _ _ _ _ _ _ _
      | exact ih1 _ _ _ _ _ _ _ _ _ _
      | exact ih2 _ _ _ _ _ _ _ _ _ _ _
      | exact ih3 _ _ _ _ _ _ _ _ _ _ _
      | exact LeO.none _
      | refine LeO.ite ?_ ?_
      | refine LeO.bind ?_ (fun _ => ?_)
    · intro y0 y1 y2 y3 y4 y5 y6 y7 y8 y9 y10
      unfold impl_sieveOf.l3
      repeat' first
      | (with_reducible exact ih0 _ _ _ _ _ _ _)
      | (with_reducible exact ih1 _ _ _ _ _ _ _ _ _ _)
      | (with_reducible exact ih2 _ _ _ _ _ _ _ _ _ _ _)
      | (with_reducible exact ih3 _ _ _ _ _ _ _ _ _ _ _)
      | (with_reducible exact LeO.refl _)
      | (with_reducible exact LeO.none _)
      | (with_reducible refine LeO.ite ?_ ?_)
      | (with_reducible refine LeO.bind ?_ (fun _ => ?_))
      | exact ih0 _ _ _ _ _ _ _
      | exact ih1 _ _ _ _ _ _ _ _ _ _
      | exact ih2 _ _ _ _ _ _ _ _ _ _ _
      | exact ih3 _ _ _ _ _ _ _ _ _ _ _
      | exact LeO.none _
      | refine LeO.ite ?_ ?_
      | refine LeO.bind ?_ (fun _ => ?_)
theorem impl_sieveOf.mono : ∀ a0 a1 k, LeO (impl_sieveOf.f k a0 a1) (impl_sieveOf.f (k + 1) a0 a1) := by
  intro a0 a1 k
  obtain ⟨ih0, ih1, ih2, ih3⟩ := impl_sieveOf.mono_l k
  unfold impl_sieveOf.f
  repeat' first
      | (with_reducible exact ih0 _ _ _ _ _ _ _)
      | (with_reducible exact ih1 _ _ _ _ _ _ _ _ _ _)
      | (with_reducible exact ih2 _ _ _ _ _ _ _ _ _ _ _)
      | (with_reducible exact ih3 _ _ _ _ _ _ _ _ _ _ _)
      | (with_reducible exact LeO.refl _)
      | (with_reducible exact LeO.none _)
      | (with_reducible refine LeO.ite ?_ ?_)
      | (with_reducible refine LeO.bind ?_ (fun _ => ?_))
      | exact ih0 _ _ _ _ _ _ _
      | exact ih1 _ _ _ _ _ _ _ _ _ _
      | exact ih2 _ _ _ _ _ _ _ _ _ _ _
      | exact ih3 _ _ _ _ _ _ _ _ _ _ _
      | exact LeO.none _
      | refine LeO.ite ?_ ?_
      | refine LeO.bind ?_ (fun _ => ?_)
theorem impl_sieveOf.calls (k : Nat) (A0 : Option Addr) (c0 : Nat) (l0 : List ByteArray) (a1 : Int) (r1 : ByteArray) (r2 : ByteArray) (r3 : ByteArray) (r4 : List ByteArray) (r5 : Int) (w : World) (hr0 : Kd.C Kd.string w A0 l0.length l0) (hc0 : l0.length ≤ c0) (h : impl_sieveOf.f k l0 a1 = some (r1, r2, r3, r4, r5)) :
    Calls Try.prog 75 #[.slice A0 l0.length c0, .int .i64 a1] w fun e w' => ∃ v3_ : Value, e = .returned (.agg #[.string r1, .string r2, .string r3, v3_, .int .i64 r5]) ∧ Kd.R Kd.string 9 w' w.heap.size (fun _ => True) v3_ r4 ∧ Below w.heap.size w w' :=
  (Hand.sieveOf k A0 c0 l0 a1 (r1, r2, r3, r4, r5) w hr0 hc0 h).mono fun e w' h => h
end Go.Proofs.Ytifgcajpkgamgaa.Q
end
section
namespace Go.Proofs.Ytifgcajpkgamgaa.Q
open Go.RowKit Go.Proofs.YtifgcajpkgamgaaW.PrintWords Go.Proofs.YtifgcajpkgamgaaW.PrintLast Go.Proofs.YtifgcajpkgamgaaW.PrintMore
attribute [local go_sem] max2_int min2_int max_two min_two max_three min_three max_four min_four   
set_option linter.unusedVariables false
set_option linter.unusedSimpArgs false
theorem impl_SieveOf.mono : ∀ a0 a1 k, LeO (impl_SieveOf.f k a0 a1) (impl_SieveOf.f (k + 1) a0 a1) := by
  intro a0 a1 k
  unfold impl_SieveOf.f
  repeat' first
      | (with_reducible exact impl_KeysOk.mono _ _)
      | (with_reducible exact impl_sieveOf.mono _ _ _)
      | (with_reducible exact LeO.refl _)
      | (with_reducible exact LeO.none _)
      | (with_reducible refine LeO.ite ?_ ?_)
      | (with_reducible refine LeO.bind ?_ (fun _ => ?_))
      | exact impl_KeysOk.mono _ _
      | exact impl_sieveOf.mono _ _ _
      | exact LeO.none _
      | refine LeO.ite ?_ ?_
      | refine LeO.bind ?_ (fun _ => ?_)
set_option maxHeartbeats 8000000 in
set_option maxRecDepth 100000 in
theorem impl_SieveOf.calls (k : Nat) (A0 : Option Addr) (c0 : Nat) (l0 : List ByteArray) (a1 : Int) (r1 : ByteArray) (r2 : ByteArray) (r3 : ByteArray) (r4 : List ByteArray) (r5 : Int) (r6 : Bool) (w : World) (hr0 : Kd.C Kd.string w A0 l0.length l0) (hc0 : l0.length ≤ c0) (h : impl_SieveOf.f k l0 a1 = some (r1, r2, r3, r4, r5, r6)) :
    Calls Try.prog 30 #[.slice A0 l0.length c0, .int .i64 a1] w fun e w' => ∃ v3_ : Value, e = .returned (.tuple #[.agg #[.string r1, .string r2, .string r3, v3_, .int .i64 r5], .bool r6]) ∧ Kd.R Kd.string 9 w' w.heap.size (fun _ => True) v3_ r4 ∧ Below w.heap.size w w' := by
 have hu25 := Try.underlying25; have HR0 := Aside0.mk hr0; have HC0 := Aside0.mk hc0; clear hr0 hc0; have HB := z0 (Below.refl w.heap.size w); have H : ((impl_KeysOk.f k l0).bind fun t321 => (if t321 = true then ((impl_isKeep.f a1).bind fun t322 => (if t322 = true then ((impl_sieveOf.f k l0 a1).bind fun bt323 => (some (bt323.1, bt323.2.1, bt323.2.2.1, bt323.2.2.2.1, bt323.2.2.2.2, true))) else (some ((⟨#[]⟩ : ByteArray), (⟨#[]⟩ : ByteArray), (⟨#[]⟩ : ByteArray), ([] : List ByteArray), 0, false)))) else (some ((⟨#[]⟩ : ByteArray), (⟨#[]⟩ : ByteArray), (⟨#[]⟩ : ByteArray), ([] : List ByteArray), 0, false)))) = some (r1, r2, r3, r4, r5, r6) := h; clear h; replace H := zi H; obtain ⟨t321, A3, H⟩ := H
 by_cases c4 : t321 = true
 ·subst c4
  have H1 : ((impl_isKeep.f a1).bind fun t322 => (if t322 = true then ((impl_sieveOf.f k l0 a1).bind fun bt323 => (some (bt323.1, bt323.2.1, bt323.2.2.1, bt323.2.2.2.1, bt323.2.2.2.2, true))) else (some ((⟨#[]⟩ : ByteArray), (⟨#[]⟩ : ByteArray), (⟨#[]⟩ : ByteArray), ([] : List ByteArray), 0, false)))) = some (r1, r2, r3, r4, r5, r6) := by rw [if_pos rfl] at H; exact H
  clear H; have H := H1; clear H1; replace H := zi H; obtain ⟨t322, A5, H⟩ := H
  by_cases c6 : t322 = true
  ·subst c6
   have H1 : ((impl_sieveOf.f k l0 a1).bind fun bt323 => (some (bt323.1, bt323.2.1, bt323.2.2.1, bt323.2.2.2.1, bt323.2.2.2.2, true))) = some (r1, r2, r3, r4, r5, r6) := by rw [if_pos rfl] at H; exact H
   clear H; have H := H1; clear H1; replace H := zi H; obtain ⟨⟨t323, t324, t325, t326, t329⟩, A7, H⟩ := H; (try dsimp only at H); simp only [Option.some.injEq, Prod.mk.injEq] at H; obtain ⟨rfl, rfl, rfl, rfl, rfl, rfl⟩ := H; go_enter Try.func30, Try.ntmps30
   go_wp2_with (first | ((with_reducible refine gate_dst (N := 4) rfl ?_); refine box_event zh (N := 4) zh (cs := #[.string (⟨#[]⟩ : ByteArray), .string (⟨#[]⟩ : ByteArray), .string (⟨#[]⟩ : ByteArray), .slice none 0 0, .int .i64 0]) (t := 25) zg ?_; intro gb320 hg w8 hbox hb; have BK320 := z0 (hbox); have GW320 := (zG hg HB : Aside0 (w.heap.size ≤ gb320)); have GE320 := (zG hg HB : Aside0 (w.heap.size ≤ gb320)); replace HB := zH HB hb; clear hb hbox hg) | ((with_reducible refine gate_callee (f := 73) rfl ?_); refine goesL_ (some 7) rfl rfl Try.func73 (by kernel_rfl) rfl #[.slice A0 l0.length c0] rfl (by (try simp only [List.map_toArray, List.map_cons, List.map_nil]); first | done | rfl | (simp only [List.length_drop, List.length_take]; rfl)) ?_; (with_reducible refine (impl_KeysOk.calls k _ _ l0 true _ ?side1 ?side2 A3.out).mono ?_); (case side1 => repeat (first | exact (Kd.C_below HR0.out HB.out) | (with_reducible refine Kd.C_alloc ?_ _) | (with_reducible refine Kd.C_drewN ?_ _) | (with_reducible refine Kd.C_drew ?_))); (case side2 => exact HC0.out); rintro e w' ⟨rfl, ⟨nd, rfl⟩⟩; refine ⟨_, rfl, ?_⟩; (try (rw [drewN_self w8]; generalize hq_ : World.drewN w8 _ = w8; have n0_ : Aside0 (w8.heap[gb320]? = some (.cells #[.string (⟨#[]⟩ : ByteArray), .string (⟨#[]⟩ : ByteArray), .string (⟨#[]⟩ : ByteArray), .slice none 0 0, .int .i64 0] 25 (0, 0))) := ⟨by rw [← hq_]; exact (zl BK320.out)⟩; have n1_ : Aside0 (Below w.heap.size w w8) := ⟨by rw [← hq_]; exact (zb HB.out)⟩; clear BK320 HB hq_; have BK320 := n0_; have HB := n1_; clear n0_ n1_))) | (go_at_call 74; (with_reducible refine (impl_isKeep.calls a1 true _ A5.out).mono ?_); rintro e w' ⟨rfl, ⟨nd, rfl⟩⟩; (try (rw [drewN_self w8]; generalize hq_ : World.drewN w8 _ = w8; have n0_ : Aside0 (w8.heap[gb320]? = some (.cells #[.string (⟨#[]⟩ : ByteArray), .string (⟨#[]⟩ : ByteArray), .string (⟨#[]⟩ : ByteArray), .slice none 0 0, .int .i64 0] 25 (0, 0))) := ⟨by rw [← hq_]; exact (zl BK320.out)⟩; have n1_ : Aside0 (Below w.heap.size w w8) := ⟨by rw [← hq_]; exact (zb HB.out)⟩; clear BK320 HB hq_; have BK320 := n0_; have HB := n1_; clear n0_ n1_))) | ((with_reducible refine gate_callee (f := 75) rfl ?_); refine goesL_ (some 17) rfl rfl Try.func75 (by kernel_rfl) rfl #[.slice A0 l0.length c0, .int .i64 a1] rfl zo ?_; (with_reducible refine (impl_sieveOf.calls k _ _ l0 a1 t323 t324 t325 t326 t329 _ (zC (Kd.C_below HR0.out HB.out)) HC0.out A7.out).mono ?_); rintro e w9 ⟨v327, rfl, ho0, hb⟩; refine zv ?_; have HO328 := z0 (Kd.R_lower ho0 (below_size (zb HB.out))); replace BK320 := zK BK320 hb; replace HB := zH HB hb; (try clear hb ho0); have hcz10 := zc5 BK320.out; obtain ⟨Ao11, co11, eo11⟩ := Kd.R_slice HO328.out; subst eo11))
   refine bodyPost_ret (results_ct rfl _ _ gb320 25 #[.string t323, .string t324, .string t325, .slice Ao11 t326.length co11, .int .i64 t329] (0, 0) _ rfl (zp BK320.out) Try.underlying25 rfl (by kernel_rfl)) rfl ?_; exact ⟨_, ze, Kd.R_mono (zt HO328.out BK320.out) (fun _ hk => trivial), zb HB.out⟩
  ·replace c6 := Bool.eq_false_iff.mpr c6; subst c6
   have H1 : (some ((⟨#[]⟩ : ByteArray), (⟨#[]⟩ : ByteArray), (⟨#[]⟩ : ByteArray), ([] : List ByteArray), 0, false)) = some (r1, r2, r3, r4, r5, r6) := by rw [if_neg (show ¬ (false = true) by decide)] at H; exact H
   clear H; have H := H1; clear H1; simp only [Option.some.injEq, Prod.mk.injEq] at H; obtain ⟨rfl, rfl, rfl, rfl, rfl, rfl⟩ := H; go_enter Try.func30, Try.ntmps30
   go_wp2_with (first | ((with_reducible refine gate_dst (N := 4) rfl ?_); refine box_event zh (N := 4) zh (cs := #[.string (⟨#[]⟩ : ByteArray), .string (⟨#[]⟩ : ByteArray), .string (⟨#[]⟩ : ByteArray), .slice none 0 0, .int .i64 0]) (t := 25) zg ?_; intro gb320 hg w12 hbox hb; have BK320 := z0 (hbox); have GW320 := (zG hg HB : Aside0 (w.heap.size ≤ gb320)); have GE320 := (zG hg HB : Aside0 (w.heap.size ≤ gb320)); replace HB := zH HB hb; clear hb hbox hg) | ((with_reducible refine gate_callee (f := 73) rfl ?_); refine goesL_ (some 7) rfl rfl Try.func73 (by kernel_rfl) rfl #[.slice A0 l0.length c0] rfl (by (try simp only [List.map_toArray, List.map_cons, List.map_nil]); first | done | rfl | (simp only [List.length_drop, List.length_take]; rfl)) ?_; (with_reducible refine (impl_KeysOk.calls k _ _ l0 true _ ?side1 ?side2 A3.out).mono ?_); (case side1 => repeat (first | exact (Kd.C_below HR0.out HB.out) | (with_reducible refine Kd.C_alloc ?_ _) | (with_reducible refine Kd.C_drewN ?_ _) | (with_reducible refine Kd.C_drew ?_))); (case side2 => exact HC0.out); rintro e w' ⟨rfl, ⟨nd, rfl⟩⟩; refine ⟨_, rfl, ?_⟩; (try (rw [drewN_self w12]; generalize hq_ : World.drewN w12 _ = w12; have n0_ : Aside0 (w12.heap[gb320]? = some (.cells #[.string (⟨#[]⟩ : ByteArray), .string (⟨#[]⟩ : ByteArray), .string (⟨#[]⟩ : ByteArray), .slice none 0 0, .int .i64 0] 25 (0, 0))) := ⟨by rw [← hq_]; exact (zl BK320.out)⟩; have n1_ : Aside0 (Below w.heap.size w w12) := ⟨by rw [← hq_]; exact (zb HB.out)⟩; clear BK320 HB hq_; have BK320 := n0_; have HB := n1_; clear n0_ n1_))) | (go_at_call 74; (with_reducible refine (impl_isKeep.calls a1 false _ A5.out).mono ?_); rintro e w' ⟨rfl, ⟨nd, rfl⟩⟩; (try (rw [drewN_self w12]; generalize hq_ : World.drewN w12 _ = w12; have n0_ : Aside0 (w12.heap[gb320]? = some (.cells #[.string (⟨#[]⟩ : ByteArray), .string (⟨#[]⟩ : ByteArray), .string (⟨#[]⟩ : ByteArray), .slice none 0 0, .int .i64 0] 25 (0, 0))) := ⟨by rw [← hq_]; exact (zl BK320.out)⟩; have n1_ : Aside0 (Below w.heap.size w w12) := ⟨by rw [← hq_]; exact (zb HB.out)⟩; clear BK320 HB hq_; have BK320 := n0_; have HB := n1_; clear n0_ n1_)); have hcz13 := zc5 BK320.out))
   refine bodyPost_ret (results_ct rfl _ _ gb320 25 #[.string (⟨#[]⟩ : ByteArray), .string (⟨#[]⟩ : ByteArray), .string (⟨#[]⟩ : ByteArray), .slice none 0 0, .int .i64 0] (0, 0) _ rfl (zp BK320.out) Try.underlying25 rfl (by kernel_rfl)) rfl ?_; exact ⟨_, ze, by first | exact Kd.R_nil _ _ _ _ _ | exact Kd.N_nil _ _ _ _ _ | exact Kd.V_nil _ _ _ _ _ | exact Kd.Q_nil _ _ _ _ _ | exact Kd.S_nil _ _ _ _ _, zb HB.out⟩
 ·replace c4 := Bool.eq_false_iff.mpr c4; subst c4
  have H1 : (some ((⟨#[]⟩ : ByteArray), (⟨#[]⟩ : ByteArray), (⟨#[]⟩ : ByteArray), ([] : List ByteArray), 0, false)) = some (r1, r2, r3, r4, r5, r6) := by rw [if_neg (show ¬ (false = true) by decide)] at H; exact H
  clear H; have H := H1; clear H1; simp only [Option.some.injEq, Prod.mk.injEq] at H; obtain ⟨rfl, rfl, rfl, rfl, rfl, rfl⟩ := H; go_enter Try.func30, Try.ntmps30
  go_wp2_with (first | ((with_reducible refine gate_dst (N := 4) rfl ?_); refine box_event zh (N := 4) zh (cs := #[.string (⟨#[]⟩ : ByteArray), .string (⟨#[]⟩ : ByteArray), .string (⟨#[]⟩ : ByteArray), .slice none 0 0, .int .i64 0]) (t := 25) zg ?_; intro gb320 hg w14 hbox hb; have BK320 := z0 (hbox); have GW320 := (zG hg HB : Aside0 (w.heap.size ≤ gb320)); have GE320 := (zG hg HB : Aside0 (w.heap.size ≤ gb320)); replace HB := zH HB hb; clear hb hbox hg) | ((with_reducible refine gate_callee (f := 73) rfl ?_); refine goesL_ (some 7) rfl rfl Try.func73 (by kernel_rfl) rfl #[.slice A0 l0.length c0] rfl (by (try simp only [List.map_toArray, List.map_cons, List.map_nil]); first | done | rfl | (simp only [List.length_drop, List.length_take]; rfl)) ?_; (with_reducible refine (impl_KeysOk.calls k _ _ l0 false _ ?side1 ?side2 A3.out).mono ?_); (case side1 => repeat (first | exact (Kd.C_below HR0.out HB.out) | (with_reducible refine Kd.C_alloc ?_ _) | (with_reducible refine Kd.C_drewN ?_ _) | (with_reducible refine Kd.C_drew ?_))); (case side2 => exact HC0.out); rintro e w' ⟨rfl, ⟨nd, rfl⟩⟩; refine ⟨_, rfl, ?_⟩; (try (rw [drewN_self w14]; generalize hq_ : World.drewN w14 _ = w14; have n0_ : Aside0 (w14.heap[gb320]? = some (.cells #[.string (⟨#[]⟩ : ByteArray), .string (⟨#[]⟩ : ByteArray), .string (⟨#[]⟩ : ByteArray), .slice none 0 0, .int .i64 0] 25 (0, 0))) := ⟨by rw [← hq_]; exact (zl BK320.out)⟩; have n1_ : Aside0 (Below w.heap.size w w14) := ⟨by rw [← hq_]; exact (zb HB.out)⟩; clear BK320 HB hq_; have BK320 := n0_; have HB := n1_; clear n0_ n1_)); have hcz15 := zc5 BK320.out))
  refine bodyPost_ret (results_ct rfl _ _ gb320 25 #[.string (⟨#[]⟩ : ByteArray), .string (⟨#[]⟩ : ByteArray), .string (⟨#[]⟩ : ByteArray), .slice none 0 0, .int .i64 0] (0, 0) _ rfl (zp BK320.out) Try.underlying25 rfl (by kernel_rfl)) rfl ?_; exact ⟨_, ze, by first | exact Kd.R_nil _ _ _ _ _ | exact Kd.N_nil _ _ _ _ _ | exact Kd.V_nil _ _ _ _ _ | exact Kd.Q_nil _ _ _ _ _ | exact Kd.S_nil _ _ _ _ _, zb HB.out⟩
end Go.Proofs.Ytifgcajpkgamgaa.Q
end
section
namespace Go.Proofs.Ytifgcajpkgamgaa.Q
open Go.RowKit Go.Proofs.YtifgcajpkgamgaaW.PrintWords Go.Proofs.YtifgcajpkgamgaaW.PrintLast Go.Proofs.YtifgcajpkgamgaaW.PrintMore
attribute [local go_sem] max2_int min2_int max_two min_two max_three min_three max_four min_four   
set_option linter.unusedVariables false
set_option linter.unusedSimpArgs false
set_option maxHeartbeats 8000000 in
set_option maxRecDepth 100000 in
theorem stringslite_HasPrefix.calls (a0 : ByteArray) (a1 : ByteArray) (r : Bool) (w : World) (h : stringslite_HasPrefix.f a0 a1 = some r) :
    Calls Try.prog 120 #[.string a0, .string a1] w fun e w' => e = .returned (.bool r) ∧ Drawn0 w w' := by
 have H : (if (a0.size : Int) ≥ (a1.size : Int) then (if 0 ≤ (a1.size : Int) then (if (a1.size : Int) ≤ (a0.size : Int) then (some ((a0.extract 0 ((a1.size : Int) : Int).toNat).toList == a1.toList)) else (none)) else (none)) else (some false)) = some r := h; clear h
 by_cases c3 : (a0.size : Int) ≥ (a1.size : Int)
 ·rw [if_pos c3] at H; have c3b0 : decide ((a1.size : Int) ≤ (a0.size : Int)) = true := decide_eq_true c3; have c3b1 : decide (a1.size ≤ a0.size) = true := decide_eq_true (Int.ofNat_le.mp c3); clear c3
  by_cases c4 : 0 ≤ (a1.size : Int)
  ·rw [if_pos c4] at H; have c4b0 := eq_true c4; have c4b1 : decide (0 ≤ (a1.size : Int)) = true := decide_eq_true c4; clear c4
   by_cases c5 : (a1.size : Int) ≤ (a0.size : Int)
   ·rw [if_pos c5] at H; have c5b0 := eq_true c5; have c5b1 : decide ((a1.size : Int) ≤ (a0.size : Int)) = true := decide_eq_true c5; clear c5; obtain rfl := Option.some.inj H; go_enter Try.func120, Try.ntmps120; go_wp2; go_ret; exact ⟨zf, by repeat (first | exact Drawn0.refl _ | apply Drawn0.step)⟩
   ·rw [if_neg c5] at H; exact absurd H (by simp)
  ·rw [if_neg c4] at H; exact absurd H (by simp)
 ·rw [if_neg c3] at H; have c3b0 : decide ((a1.size : Int) ≤ (a0.size : Int)) = false := decide_eq_false c3; have c3b1 : decide (a1.size ≤ a0.size) = false := decide_eq_false (fun h => c3 (Int.ofNat_le.mpr h)); clear c3; obtain rfl := Option.some.inj H; go_enter Try.func120, Try.ntmps120; go_wp2; go_ret; exact ⟨zf, by repeat (first | exact Drawn0.refl _ | apply Drawn0.step)⟩
end Go.Proofs.Ytifgcajpkgamgaa.Q
end
section
namespace Go.Proofs.Ytifgcajpkgamgaa.Q
open Go.RowKit Go.Proofs.YtifgcajpkgamgaaW.PrintWords Go.Proofs.YtifgcajpkgamgaaW.PrintLast Go.Proofs.YtifgcajpkgamgaaW.PrintMore
attribute [local go_sem] max2_int min2_int max_two min_two max_three min_three max_four min_four   
set_option linter.unusedVariables false
set_option linter.unusedSimpArgs false
set_option maxHeartbeats 8000000 in
set_option maxRecDepth 100000 in
theorem strings_HasPrefix.calls (a0 : ByteArray) (a1 : ByteArray) (r : Bool) (w : World) (h : strings_HasPrefix.f a0 a1 = some r) :
    Calls Try.prog 91 #[.string a0, .string a1] w fun e w' => e = .returned (.bool r) ∧ Drawn0 w w' := by
 have H : ((stringslite_HasPrefix.f a0 a1).bind fun t394 => (some t394)) = some r := h; clear h; replace H := zi H; obtain ⟨t394, A3, H⟩ := H; obtain rfl := Option.some.inj H; go_enter Try.func91, Try.ntmps91
 go_wp2_with (first | ((with_reducible refine gate_callee (f := 120) rfl ?_); refine goesL_ (some 7) rfl rfl Try.func120 (by kernel_rfl) rfl #[.string a0, .string a1] rfl (by (try simp only [List.map_toArray, List.map_cons, List.map_nil]); first | done | rfl | (simp only [List.length_drop, List.length_take]; rfl)) ?_; (with_reducible refine (stringslite_HasPrefix.calls a0 a1 t394 _ A3.out).mono ?_); rintro e w' ⟨rfl, ⟨nd, rfl⟩⟩; refine ⟨_, rfl, ?_⟩))
 go_ret; exact ⟨zf, by repeat (first | exact Drawn0.refl _ | apply Drawn0.step)⟩
end Go.Proofs.Ytifgcajpkgamgaa.Q
end
section
namespace Go.Proofs.Ytifgcajpkgamgaa.Q
open Go.RowKit Go.Proofs.YtifgcajpkgamgaaW.PrintWords Go.Proofs.YtifgcajpkgamgaaW.PrintLast Go.Proofs.YtifgcajpkgamgaaW.PrintMore
attribute [local go_sem] max2_int min2_int max_two min_two max_three min_three max_four min_four   
set_option linter.unusedVariables false
set_option linter.unusedSimpArgs false
set_option maxHeartbeats 8000000 in
set_option maxRecDepth 100000 in
theorem impl_KeyBegins.calls (a0 : ByteArray) (a1 : ByteArray) (r : Bool) (w : World) (h : impl_KeyBegins.f a0 a1 = some r) :
    Calls Try.prog 42 #[.string a0, .string a1] w fun e w' => e = .returned (.bool r) ∧ Drawn0 w w' := by
 have H : ((strings_HasPrefix.f a0 a1).bind fun t395 => (some t395)) = some r := h; clear h; replace H := zi H; obtain ⟨t395, A3, H⟩ := H; obtain rfl := Option.some.inj H; go_enter Try.func42, Try.ntmps42
 go_wp2_with (first | ((with_reducible refine gate_callee (f := 91) rfl ?_); refine goesL_ (some 7) rfl rfl Try.func91 (by kernel_rfl) rfl #[.string a0, .string a1] rfl (by (try simp only [List.map_toArray, List.map_cons, List.map_nil]); first | done | rfl | (simp only [List.length_drop, List.length_take]; rfl)) ?_; (with_reducible refine (strings_HasPrefix.calls a0 a1 t395 _ A3.out).mono ?_); rintro e w' ⟨rfl, ⟨nd, rfl⟩⟩; refine ⟨_, rfl, ?_⟩))
 go_ret; exact ⟨zf, by repeat (first | exact Drawn0.refl _ | apply Drawn0.step)⟩
end Go.Proofs.Ytifgcajpkgamgaa.Q
end
section
namespace Go.Proofs.Ytifgcajpkgamgaa.Q
open Go.RowKit Go.Proofs.YtifgcajpkgamgaaW.PrintWords Go.Proofs.YtifgcajpkgamgaaW.PrintLast Go.Proofs.YtifgcajpkgamgaaW.PrintMore
attribute [local go_sem] max2_int min2_int max_two min_two max_three min_three max_four min_four   
set_option linter.unusedVariables false
set_option linter.unusedSimpArgs false
def IsS98 (w0 W : World) (g : Nat) (f0 : List Int) (f1 : Int) : Prop := ∃ A0 c0, W.heap[g]? = some (.cells #[.slice A0 f0.length c0, .int .i64 f1] 98 (0, 0)) ∧ w0.heap.size ≤ g ∧ Kd.C (Kd.int .u8) w0 A0 f0.length f0
theorem IsS98.grown {w0 W : World} {g : Nat} {f0 : List Int} {f1 : Int} {W1 : World} {row : Option Nat} (h : IsS98 w0 W g f0 f1) (hw : W.grownBy W1 row) (hne : some g ≠ row) : IsS98 w0 W1 g f0 f1 := by
  obtain ⟨A0, c0, hb, hg, hr0⟩ := h
  exact ⟨A0, c0, blk_grown hb hw hne, hg, hr0⟩
theorem IsS98.kept {w0 W : World} {g : Nat} {f0 : List Int} {f1 : Int} {W1 : World} {S : Nat → Prop} (h : IsS98 w0 W g f0 f1) (hk : Kept W W1 S) (hne : ¬ S g) : IsS98 w0 W1 g f0 f1 := by
  obtain ⟨A0, c0, hb, hg, hr0⟩ := h
  exact ⟨A0, c0, blk_kept hb hk hne, hg, hr0⟩
theorem IsS98.below {w0 W : World} {g : Nat} {f0 : List Int} {f1 : Int} {W1 : World} (h : IsS98 w0 W g f0 f1) (hw : Below W.heap.size W W1) : IsS98 w0 W1 g f0 f1 := h.grown (grown_of_below hw none) (by simp)
theorem IsS98.alloc {w0 W : World} {g : Nat} {f0 : List Int} {f1 : Int} (h : IsS98 w0 W g f0 f1) (o : Obj) : IsS98 w0 (W.alloc o) g f0 f1 := h.below (below_alloc (Below.refl _ _) o)
theorem IsS98.drewN {w0 W : World} {g : Nat} {f0 : List Int} {f1 : Int} (h : IsS98 w0 W g f0 f1) (m : Nat) : IsS98 w0 (W.drewN m) g f0 f1 := h
theorem IsS98.drew {w0 W : World} {g : Nat} {f0 : List Int} {f1 : Int} (h : IsS98 w0 W g f0 f1) : IsS98 w0 W.drew g f0 f1 := h
theorem IsS98.at_ {w0 W : World} {g : Nat} {f0 : List Int} {f1 : Int} {w' : World} {m : Nat} (hq : W.drewN m = w') (h : IsS98 w0 W g f0 f1) : IsS98 w0 w' g f0 f1 := by subst hq; exact IsS98.drewN h m
theorem IsS98.apart {w0 W : World} {g : Nat} {f0 : List Int} {f1 : Int} {α : Type} {d : Kd α} {e : Nat} {base : Nat} {ok : Nat → Prop} {v : Value} {xs : List α} (h : IsS98 w0 W g f0 f1) (ho : d.R e W base ok v xs) (ht : ∀ q, q ∈ e :: d.E → q ≠ 98) : d.R e W base (fun k => ok k ∧ k ≠ g) v xs := by
  obtain ⟨A0, c0, hb, hg, hr0⟩ := h
  exact Kd.R_types ho hb ht
theorem IsS98.own_ne {w0 W : World} {g : Nat} {f0 : List Int} {f1 : Int} {α : Type} {d : Kd α} {e : Nat} {base : Nat} {ok : Nat → Prop} {v : Value} {xs : List α} (h : IsS98 w0 W g f0 f1) (ho : d.R e W base ok v xs) (ht : e ≠ 98) : some g ≠ v.ownBlock := by
  obtain ⟨A0, c0, hb, hg, hr0⟩ := h
  exact Kd.R_ne ho hb ht
theorem IsS98.lt {w0 W : World} {g : Nat} {f0 : List Int} {f1 : Int} (h : IsS98 w0 W g f0 f1) : g < W.heap.size := by
  obtain ⟨A0, c0, hb, hg, hr0⟩ := h
  exact blk_lt hb
theorem IsS98.ge {w0 W : World} {g : Nat} {f0 : List Int} {f1 : Int} (h : IsS98 w0 W g f0 f1) : w0.heap.size ≤ g := by
  obtain ⟨A0, c0, hb, hg, hr0⟩ := h
  exact hg
theorem cellS98_0 {W : World} {g : Nat} {A0 : Option Addr} {c0 : Nat} {f0 : List Int} {f1 : Int} (h : W.heap[g]? = some (.cells #[.slice A0 f0.length c0, .int .i64 f1] 98 (0, 0))) : W.cell? ⟨g, 0, none⟩ = some (.slice A0 f0.length c0) := (blk_cell h 0).trans rfl
theorem cellS98_1 {W : World} {g : Nat} {A0 : Option Addr} {c0 : Nat} {f0 : List Int} {f1 : Int} (h : W.heap[g]? = some (.cells #[.slice A0 f0.length c0, .int .i64 f1] 98 (0, 0))) : W.cell? ⟨g, 1, none⟩ = some (.int .i64 f1) := (blk_cell h 1).trans rfl
theorem IsS98.set_1 {w0 W : World} {g : Nat} {f0 : List Int} {f1 : Int} (h : IsS98 w0 W g f0 f1) (x : Int) : IsS98 w0 (W.setCell ⟨g, 1, none⟩ (.int .i64 x)) g f0 x := by
  obtain ⟨A0, c0, hb, hg, hr0⟩ := h
  exact ⟨A0, c0, by simpa using blk_set hb 1 (.int .i64 x), hg, hr0⟩
set_option maxHeartbeats 8000000 in
set_option maxRecDepth 100000 in
theorem spec_l6Open.calls (A0 : Option Addr) (c0 : Nat) (l0 : List Int) (r1 : List Int) (r2 : Int) (w0 w : World) (hB : Below w0.heap.size w0 w) (hr0 : Kd.C (Kd.int .u8) w0 A0 l0.length l0) (hc0 : l0.length ≤ c0) (h : spec_l6Open.f l0 = some (r1, r2)) :
    Calls Try.prog 64 #[.slice A0 l0.length c0] w fun e w' => ∃ g_ : Nat, e = .returned (.pointer (some ⟨g_, 0, none⟩)) ∧ IsS98 w0 w' g_ r1 r2 ∧ Below w0.heap.size w0 w' ∧ Below w.heap.size w w' := by
 have hu98 := Try.underlying98; have HR0 := Aside0.mk hr0; have HC0 := Aside0.mk hc0; clear hr0 hc0; have HBW := z0 (Below.refl w.heap.size w); have HW0 := Aside0.mk hB.size; have HB := Aside0.mk hB; clear hB; have H : (if (l0.length : Int) > 2000 then (if 2000 ≤ (l0.length : Int) then (some (l0.take 2000, 0)) else (none)) else (some (l0, 0))) = some (r1, r2) := h; clear h
 by_cases c2 : (l0.length : Int) > 2000
 ·rw [if_pos c2] at H; have c2b0 : decide (2000 < (l0.length : Int)) = true := decide_eq_true c2; have c2b1 : decide (2000 < l0.length) = true := decide_eq_true (by omega); clear c2
  by_cases c3 : 2000 ≤ (l0.length : Int)
  ·rw [if_pos c3] at H; have c3b0 := eq_true c3; have c3b1 : decide (2000 ≤ (l0.length : Int)) = true := decide_eq_true c3; clear c3; simp only [Option.some.injEq, Prod.mk.injEq] at H; obtain ⟨rfl, rfl⟩ := H; obtain ⟨i04, hi04, _, hsz4, _⟩ := info_parts info5; obtain ⟨hcut4, hA4, hC4⟩ := print_take_of (P := Try.prog) (Value.int .u8) 0 22 5 .i64 Try.underlying22 hi04 hsz4 A0 c0 l0 2000 (by omega) (zd) HC0.out; have HR101 := z0 (Kd.C_of_reads (h1 := fun _ => rfl) (hA4 _ (Kd.reads_of_C HR0.out))); have HC101 := Aside0.mk hC4; clear hA4 hC4 hi04 hsz4; go_enter Try.func64, Try.ntmps64
   go_wp2_with (first | ((with_reducible refine gate_dst (N := 10) rfl ?_); refine box_event zh (N := 10) zh (cs := #[.slice A0 (l0.take 2000).length c0, .int .i64 0]) (t := 98) zg ?_; intro gb102 hg w5 hbox hb; replace HB := zH HB hb; have BK102 := z0 (hbox); have GW102 := z0 ((by rw [hg]; exact (below_size (by repeat (first | (with_reducible first | exact HBW.out | apply below_alloc | apply pw_below_drewN | apply below_drew1) | exact HBW.out))) : w.heap.size ≤ gb102)); have GE102 := z0 ((Nat.le_trans HW0.out (by rw [hg]; exact (below_size (by repeat (first | (with_reducible first | exact HBW.out | apply below_alloc | apply pw_below_drewN | apply below_drew1) | exact HBW.out))) : w.heap.size ≤ gb102) : w0.heap.size ≤ gb102)); replace HBW := z0 (below_step HBW.out hb); clear hb hbox hg))
   go_ret; exact ⟨_, rfl, (show IsS98 w0 _ gb102 (l0.take 2000) 0 from ⟨_, _, zl BK102.out, GE102.out, HR101.out⟩), zb HB.out, by repeat (first | (with_reducible first | exact HBW.out | apply below_alloc | apply pw_below_drewN | apply below_drew1 | refine below_set ?_ GW102.out) | exact HBW.out)⟩
  ·rw [if_neg c3] at H; exact absurd H (by simp)
 ·rw [if_neg c2] at H; have c2b0 : decide (2000 < (l0.length : Int)) = false := decide_eq_false c2; have c2b1 : decide (2000 < l0.length) = false := decide_eq_false (by omega); clear c2; simp only [Option.some.injEq, Prod.mk.injEq] at H; obtain ⟨rfl, rfl⟩ := H; go_enter Try.func64, Try.ntmps64
  go_wp2_with (first | ((with_reducible refine gate_dst (N := 10) rfl ?_); refine box_event zh (N := 10) zh (cs := #[.slice A0 l0.length c0, .int .i64 0]) (t := 98) zg ?_; intro gb103 hg w6 hbox hb; replace HB := zH HB hb; have BK103 := z0 (hbox); have GW103 := z0 ((by rw [hg]; exact (below_size (by repeat (first | (with_reducible first | exact HBW.out | apply below_alloc | apply pw_below_drewN | apply below_drew1) | exact HBW.out))) : w.heap.size ≤ gb103)); have GE103 := z0 ((Nat.le_trans HW0.out (by rw [hg]; exact (below_size (by repeat (first | (with_reducible first | exact HBW.out | apply below_alloc | apply pw_below_drewN | apply below_drew1) | exact HBW.out))) : w.heap.size ≤ gb103) : w0.heap.size ≤ gb103)); replace HBW := z0 (below_step HBW.out hb); clear hb hbox hg))
  go_ret; exact ⟨_, rfl, (show IsS98 w0 _ gb103 l0 0 from ⟨_, _, zl BK103.out, GE103.out, HR0.out⟩), zb HB.out, by repeat (first | (with_reducible first | exact HBW.out | apply below_alloc | apply pw_below_drewN | apply below_drew1 | refine below_set ?_ GW103.out) | exact HBW.out)⟩
end Go.Proofs.Ytifgcajpkgamgaa.Q
end
section
namespace Go.Proofs.Ytifgcajpkgamgaa.Q
open Go.RowKit Go.Proofs.YtifgcajpkgamgaaW.PrintWords Go.Proofs.YtifgcajpkgamgaaW.PrintLast Go.Proofs.YtifgcajpkgamgaaW.PrintMore
attribute [local go_sem] max2_int min2_int max_two min_two max_three min_three max_four min_four   
set_option linter.unusedVariables false
set_option linter.unusedSimpArgs false
theorem spec_l6Rd_pick.mono_l : ∀ k, (∀ y0 y1 y2 y3, LeO (spec_l6Rd_pick.j0 k y0 y1 y2 y3) (spec_l6Rd_pick.j0 (k + 1) y0 y1 y2 y3))
  | 0 => fun _ _ _ _ r h => by simp [spec_l6Rd_pick.j0] at h
  | k + 1 => by
    have ih0 := spec_l6Rd_pick.mono_l k
    · intro y0 y1 y2 y3
      unfold spec_l6Rd_pick.j0
      repeat' first
      | (with_reducible exact ih0 _ _ _ _)
      | (with_reducible exact LeO.refl _)
      | (with_reducible exact LeO.none _)
      | (with_reducible refine LeO.ite ?_ ?_)
      | (with_reducible refine LeO.bind ?_ (fun _ => ?_))
      | exact ih0 _ _ _ _
      | exact LeO.none _
      | refine LeO.ite ?_ ?_
      | refine LeO.bind ?_ (fun _ => ?_)
theorem spec_l6Rd_pick.mono : ∀ a0 a1 a2 k, LeO (spec_l6Rd_pick.f k a0 a1 a2) (spec_l6Rd_pick.f (k + 1) a0 a1 a2) := by
  intro a0 a1 a2 k
  have ih0 := spec_l6Rd_pick.mono_l k
  unfold spec_l6Rd_pick.f
  repeat' first
      | (with_reducible exact ih0 _ _ _ _)
      | (with_reducible exact LeO.refl _)
      | (with_reducible exact LeO.none _)
      | (with_reducible refine LeO.ite ?_ ?_)
      | (with_reducible refine LeO.bind ?_ (fun _ => ?_))
      | exact ih0 _ _ _ _
      | exact LeO.none _
      | refine LeO.ite ?_ ?_
      | refine LeO.bind ?_ (fun _ => ?_)
set_option maxHeartbeats 8000000 in
set_option maxRecDepth 100000 in
theorem spec_l6Rd_pick.calls (k : Nat) (g : Nat) (s0_0 : List Int) (s0_1 : Int) (a1 : Int) (r1 : Int) (r2 : Int) (w0 w : World) (hI : IsS98 w0 w g s0_0 s0_1) (hB : Below w0.heap.size w0 w) (h : spec_l6Rd_pick.f k s0_0 s0_1 a1 = some (r1, r2)) :
    Calls Try.prog 78 #[.pointer (some ⟨g, 0, none⟩), .int .i64 a1] w fun e w' => e = .returned (.int .i64 r1) ∧ IsS98 w0 w' g s0_0 r2 ∧ Below w0.heap.size w0 w' ∧ KeepBut w w' g none := by
 have HI0 := Aside0.mk hI; have HK := z0 (KeepBut.refl w g none); have HL := Aside0.mk hB.size; clear hI; have HW0 := Aside0.mk hB.size; have HB := Aside0.mk hB; clear hB; have H : (if a1 < 1 then (spec_l6Rd_pick.j0 k a1 true s0_0 (wrap64 (s0_1 + 1))) else (spec_l6Rd_pick.j0 k a1 ((s0_0.length : Int) == 0) s0_0 (wrap64 (s0_1 + 1)))) = some (r1, r2) := h; clear h; have HC3 := Aside0.mk H; clear H; obtain ⟨ASz4_0, cSz4_0, HGz4, hgz4, HSz4_0⟩ := HI0.out; have hcz4_0 := cellS98_0 HGz4; have hcz4_1 := cellS98_1 HGz4; have hfz4_1 := blk_frozen HGz4 1; clear HGz4 hgz4; go_enter Try.func78, Try.ntmps78
 go_upto_region 2 with (fail)
 repeat (go_quiet (fail); go_upto_region 2 with (fail))
 go_cut [24] (fun v24 wc => ∃ (kq : Nat) (x24_2 : Bool), v24 = .bool x24_2 ∧ Aside0 (spec_l6Rd_pick.j0 kq a1 x24_2 s0_0 (wrap64 (s0_1 + 1)) = some (r1, r2)) ∧ Aside0 (kq ≤ k) ∧ Aside0 (IsS98 w0 wc g s0_0 (wrap64 (s0_1 + 1))) ∧ Aside0 (KeepBut w wc g none) ∧ Aside0 (Below w0.heap.size w0 wc))
 case first =>
  have H := HC3.out; clear HC3
  by_cases c5 : a1 < 1
  ·rw [if_pos c5] at H; have c5b0 : decide (a1 < 1) = true := decide_eq_true c5; clear c5; (first | rw [c5b0] | (simp only [i64_w, i32_w]; rw [c5b0]) | simp only [*, Bool.not_true, Bool.not_false] | skip); have H' := Aside0.mk H; clear H; go_wp2
   repeat (go_quiet (fail); try go_wp2)
   go_meet
   case rel => exact ⟨_, (true), zf, H', ⟨by first | omega | exact Nat.le_refl _⟩, ⟨by repeat (first | (with_reducible first | exact HI0.out | apply IsS98.alloc | apply IsS98.drewN | apply IsS98.drew | apply IsS98.set_1) | exact HI0.out)⟩, ⟨zq HK.out⟩, ⟨by repeat (first | (with_reducible first | exact HB.out | apply below_alloc | apply pw_below_drewN | apply below_drew1 | refine below_set ?_ (IsS98.ge HI0.out)) | exact HB.out)⟩⟩
  ·rw [if_neg c5] at H; have c5b0 : decide (a1 < 1) = false := decide_eq_false c5; clear c5; (first | rw [c5b0] | (simp only [i64_w, i32_w]; rw [c5b0]) | simp only [*, Bool.not_true, Bool.not_false] | skip); have H' := Aside0.mk H; clear H; obtain ⟨ASz6_0, cSz6_0, HGz6, hgz6, HSz6_0⟩ := HI0.out; have hcz6_0 := cellS98_0 HGz6; have hcz6_1 := cellS98_1 HGz6; have hfz6_1 := blk_frozen HGz6 1; clear HGz6 hgz6; go_wp2
   repeat (go_quiet (fail); try go_wp2)
   go_meet
   case rel => exact ⟨_, (((s0_0.length : Int) == 0)), zf, H', ⟨by first | omega | exact Nat.le_refl _⟩, ⟨by repeat (first | (with_reducible first | exact HI0.out | apply IsS98.alloc | apply IsS98.drewN | apply IsS98.drew | apply IsS98.set_1) | exact HI0.out)⟩, ⟨zq HK.out⟩, ⟨by repeat (first | (with_reducible first | exact HB.out | apply below_alloc | apply pw_below_drewN | apply below_drew1 | refine below_set ?_ (IsS98.ge HI0.out)) | exact HB.out)⟩⟩
 case rest =>
  clear HC3
  try clear p2
  try clear c5
  try clear c5b0
  try clear p6
  try clear hcz4
  try clear hcz6
  obtain ⟨kq, x24_2, rfl, HA, HJ2, HI0, HK, HB⟩ := hcut
  cases kq with
  | zero => exact absurd HA.out (by simp [spec_l6Rd_pick.j0])
  | succ kj2 =>
   have H := HA.out; clear HA; simp only [spec_l6Rd_pick.j0] at H
   by_cases c7 : x24_2 = true
   ·subst c7
    have H1 : (some (0, (wrap64 (s0_1 + 1)))) = some (r1, r2) := by rw [if_pos rfl] at H; exact H
    clear H; have H := H1; clear H1; simp only [Option.some.injEq, Prod.mk.injEq] at H; obtain ⟨rfl, rfl⟩ := H; go_wp2
    repeat (go_quiet (fail); try go_wp2)
    go_ret; exact ⟨ze, by repeat (first | (with_reducible first | exact HI0.out | apply IsS98.alloc | apply IsS98.drewN | apply IsS98.drew | apply IsS98.set_1) | exact HI0.out), by repeat (first | (with_reducible first | exact HB.out | apply below_alloc | apply pw_below_drewN | apply below_drew1 | refine below_set ?_ (IsS98.ge HI0.out)) | exact HB.out), zq HK.out⟩
   ·replace c7 := Bool.eq_false_iff.mpr c7; subst c7
    have H1 : (if (wrap64 ((wrap64 (s0_1 + 1)) - 1)) < (s0_0.length : Int) then (if 0 ≤ (wrap64 ((wrap64 (s0_1 + 1)) - 1)) then (if a1 = 0 then (none) else (some (Int.tmod (wrap64 (rd s0_0 (wrap64 ((wrap64 (s0_1 + 1)) - 1)))) a1, (wrap64 (s0_1 + 1))))) else (none)) else (if (s0_0.length : Int) = 0 then (none) else (if 0 ≤ (Int.tmod (wrap64 ((wrap64 (s0_1 + 1)) - 1)) (s0_0.length : Int)) then (if (Int.tmod (wrap64 ((wrap64 (s0_1 + 1)) - 1)) (s0_0.length : Int)) < (s0_0.length : Int) then (if 0 ≤ (Int.tmod (wrap64 ((wrap64 ((wrap64 ((wrap64 (s0_1 + 1)) - 1)) * 7)) + 3)) (s0_0.length : Int)) then (if (Int.tmod (wrap64 ((wrap64 ((wrap64 ((wrap64 (s0_1 + 1)) - 1)) * 7)) + 3)) (s0_0.length : Int)) < (s0_0.length : Int) then (if a1 = 0 then (none) else (some (Int.tmod (Go.bits .xor .i64 (wrap64 ((wrap64 ((wrap64 ((wrap64 ((wrap64 (rd s0_0 (Int.tmod (wrap64 ((wrap64 (s0_1 + 1)) - 1)) (s0_0.length : Int)))) * 131)) + (wrap64 ((wrap64 (rd s0_0 (Int.tmod (wrap64 ((wrap64 ((wrap64 ((wrap64 (s0_1 + 1)) - 1)) * 7)) + 3)) (s0_0.length : Int)))) * 1117)))) + (wrap64 ((wrap64 ((wrap64 (s0_1 + 1)) - 1)) * 29)))) + (wrap64 ((wrap64 (Int.tdiv (wrap64 ((wrap64 (s0_1 + 1)) - 1)) (s0_0.length : Int))) * 53)))) (wrap64 (Int.tdiv (wrap64 ((wrap64 ((wrap64 ((wrap64 ((wrap64 (rd s0_0 (Int.tmod (wrap64 ((wrap64 (s0_1 + 1)) - 1)) (s0_0.length : Int)))) * 131)) + (wrap64 ((wrap64 (rd s0_0 (Int.tmod (wrap64 ((wrap64 ((wrap64 ((wrap64 (s0_1 + 1)) - 1)) * 7)) + 3)) (s0_0.length : Int)))) * 1117)))) + (wrap64 ((wrap64 ((wrap64 (s0_1 + 1)) - 1)) * 29)))) + (wrap64 ((wrap64 (Int.tdiv (wrap64 ((wrap64 (s0_1 + 1)) - 1)) (s0_0.length : Int))) * 53)))) 64))) a1, (wrap64 (s0_1 + 1))))) else (none)) else (none)) else (none)) else (none)))) = some (r1, r2) := by rw [if_neg (show ¬ (false = true) by decide)] at H; exact H
    clear H; have H := H1; clear H1
    by_cases c8 : (wrap64 ((wrap64 (s0_1 + 1)) - 1)) < (s0_0.length : Int)
    ·rw [if_pos c8] at H; have c8b0 : decide ((wrap64 ((wrap64 (s0_1 + 1)) - 1)) < (s0_0.length : Int)) = true := decide_eq_true c8; clear c8; obtain ⟨ji9, hji9⟩ : ∃ j_ : Int, (wrap64 ((wrap64 (s0_1 + 1)) - 1)) = j_ := ⟨_, rfl⟩
     replace H : (if 0 ≤ (ji9) then (if a1 = 0 then (none) else (some (Int.tmod (wrap64 (rd s0_0 (ji9))) a1, (wrap64 (s0_1 + 1))))) else (none)) = some (r1, r2) := by first | (rw [hji9] at H; exact H) | (simp only [hji9] at H ⊢; exact H)
     (try rw [hji9] at c8b0); have hji9w : (IntKind.i64.wrap ((wrap64 (s0_1 + 1)) - 1)) = ji9 := (i64_w _).trans hji9
     by_cases c10 : 0 ≤ (ji9)
     ·rw [if_pos c10] at H; have c10b0 : decide (0 ≤ (ji9)) = true := decide_eq_true c10; clear c10
      by_cases c11 : a1 = 0
      ·rw [if_pos c11] at H; exact absurd H (by simp)
      ·rw [if_neg c11] at H; have c11b0 : (a1 == 0) = false := beq_eq_false_iff_ne.mpr c11; have c11b1 : (a1 != 0) = true := bne_iff_ne.mpr c11; simp only [Option.some.injEq, Prod.mk.injEq] at H; obtain ⟨rfl, rfl⟩ := H; obtain ⟨ASz12_0, cSz12_0, HGz12, hgz12, HSz12_0⟩ := HI0.out; have hcz12_0 := cellS98_0 HGz12; have hcz12_1 := cellS98_1 HGz12; have hfz12_1 := blk_frozen HGz12 1; clear HGz12 hgz12; have p104 : 0 ≤ ((ji9) : Int) := zd; have q104 : (ji9) < (s0_0.length : Int) := zd; obtain ⟨ad104, e104, hx104_0⟩ := Kd.at_int HSz12_0 (ji9) p104 q104; cases e104; replace hx104_0 := pw_cell_below HB.out hx104_0; replace p104 := eq_true p104; replace q104 := eq_true q104; go_wp2
       repeat (go_quiet (fail); try go_wp2)
       go_ret; exact ⟨by first | rfl | (simp [errW_none, errW_some] <;> rfl) | (simp only [← hji9]; first | rfl | (simp [errW_none, errW_some] <;> rfl)) | (simp [*, errW_none, errW_some] <;> rfl), by repeat (first | (with_reducible first | exact HI0.out | apply IsS98.alloc | apply IsS98.drewN | apply IsS98.drew | apply IsS98.set_1) | exact HI0.out), by repeat (first | (with_reducible first | exact HB.out | apply below_alloc | apply pw_below_drewN | apply below_drew1 | refine below_set ?_ (IsS98.ge HI0.out)) | exact HB.out), zq HK.out⟩
     ·rw [if_neg c10] at H; exact absurd H (by simp)
    ·rw [if_neg c8] at H; have c8b0 : decide ((wrap64 ((wrap64 (s0_1 + 1)) - 1)) < (s0_0.length : Int)) = false := decide_eq_false c8; clear c8
     by_cases c13 : (s0_0.length : Int) = 0
     ·rw [if_pos c13] at H; exact absurd H (by simp)
     ·rw [if_neg c13] at H; have c13b0 : ((s0_0.length : Int) == 0) = false := beq_eq_false_iff_ne.mpr c13; have c13b1 : ((s0_0.length : Int) != 0) = true := bne_iff_ne.mpr c13; have c13b2 : ¬ (s0_0 = []) := fun h_ => c13 (by rw [h_]; rfl); obtain ⟨ji14, hji14⟩ : ∃ j_ : Int, (Int.tmod (wrap64 ((wrap64 (s0_1 + 1)) - 1)) (s0_0.length : Int)) = j_ := ⟨_, rfl⟩
      replace H : (if 0 ≤ (ji14) then (if (ji14) < (s0_0.length : Int) then (if 0 ≤ (Int.tmod (wrap64 ((wrap64 ((wrap64 ((wrap64 (s0_1 + 1)) - 1)) * 7)) + 3)) (s0_0.length : Int)) then (if (Int.tmod (wrap64 ((wrap64 ((wrap64 ((wrap64 (s0_1 + 1)) - 1)) * 7)) + 3)) (s0_0.length : Int)) < (s0_0.length : Int) then (if a1 = 0 then (none) else (some (Int.tmod (Go.bits .xor .i64 (wrap64 ((wrap64 ((wrap64 ((wrap64 ((wrap64 (rd s0_0 (ji14))) * 131)) + (wrap64 ((wrap64 (rd s0_0 (Int.tmod (wrap64 ((wrap64 ((wrap64 ((wrap64 (s0_1 + 1)) - 1)) * 7)) + 3)) (s0_0.length : Int)))) * 1117)))) + (wrap64 ((wrap64 ((wrap64 (s0_1 + 1)) - 1)) * 29)))) + (wrap64 ((wrap64 (Int.tdiv (wrap64 ((wrap64 (s0_1 + 1)) - 1)) (s0_0.length : Int))) * 53)))) (wrap64 (Int.tdiv (wrap64 ((wrap64 ((wrap64 ((wrap64 ((wrap64 (rd s0_0 (ji14))) * 131)) + (wrap64 ((wrap64 (rd s0_0 (Int.tmod (wrap64 ((wrap64 ((wrap64 ((wrap64 (s0_1 + 1)) - 1)) * 7)) + 3)) (s0_0.length : Int)))) * 1117)))) + (wrap64 ((wrap64 ((wrap64 (s0_1 + 1)) - 1)) * 29)))) + (wrap64 ((wrap64 (Int.tdiv (wrap64 ((wrap64 (s0_1 + 1)) - 1)) (s0_0.length : Int))) * 53)))) 64))) a1, (wrap64 (s0_1 + 1))))) else (none)) else (none)) else (none)) else (none)) = some (r1, r2) := by first | (rw [hji14] at H; exact H) | (simp only [hji14] at H ⊢; exact H)
      by_cases c15 : 0 ≤ (ji14)
      ·rw [if_pos c15] at H; have c15b0 : decide (0 ≤ (ji14)) = true := decide_eq_true c15; clear c15
       by_cases c16 : (ji14) < (s0_0.length : Int)
       ·rw [if_pos c16] at H; have c16b0 : decide ((ji14) < (s0_0.length : Int)) = true := decide_eq_true c16; clear c16; obtain ⟨ji17, hji17⟩ : ∃ j_ : Int, (Int.tmod (wrap64 ((wrap64 ((wrap64 ((wrap64 (s0_1 + 1)) - 1)) * 7)) + 3)) (s0_0.length : Int)) = j_ := ⟨_, rfl⟩
        replace H : (if 0 ≤ (ji17) then (if (ji17) < (s0_0.length : Int) then (if a1 = 0 then (none) else (some (Int.tmod (Go.bits .xor .i64 (wrap64 ((wrap64 ((wrap64 ((wrap64 ((wrap64 (rd s0_0 (ji14))) * 131)) + (wrap64 ((wrap64 (rd s0_0 (ji17))) * 1117)))) + (wrap64 ((wrap64 ((wrap64 (s0_1 + 1)) - 1)) * 29)))) + (wrap64 ((wrap64 (Int.tdiv (wrap64 ((wrap64 (s0_1 + 1)) - 1)) (s0_0.length : Int))) * 53)))) (wrap64 (Int.tdiv (wrap64 ((wrap64 ((wrap64 ((wrap64 ((wrap64 (rd s0_0 (ji14))) * 131)) + (wrap64 ((wrap64 (rd s0_0 (ji17))) * 1117)))) + (wrap64 ((wrap64 ((wrap64 (s0_1 + 1)) - 1)) * 29)))) + (wrap64 ((wrap64 (Int.tdiv (wrap64 ((wrap64 (s0_1 + 1)) - 1)) (s0_0.length : Int))) * 53)))) 64))) a1, (wrap64 (s0_1 + 1))))) else (none)) else (none)) = some (r1, r2) := by first | (rw [hji17] at H; exact H) | (simp only [hji17] at H ⊢; exact H)
        by_cases c18 : 0 ≤ (ji17)
        ·rw [if_pos c18] at H; have c18b0 : decide (0 ≤ (ji17)) = true := decide_eq_true c18; clear c18
         by_cases c19 : (ji17) < (s0_0.length : Int)
         ·rw [if_pos c19] at H; have c19b0 : decide ((ji17) < (s0_0.length : Int)) = true := decide_eq_true c19; clear c19
          by_cases c20 : a1 = 0
          ·rw [if_pos c20] at H; exact absurd H (by simp)
          ·rw [if_neg c20] at H; have c20b0 : (a1 == 0) = false := beq_eq_false_iff_ne.mpr c20; have c20b1 : (a1 != 0) = true := bne_iff_ne.mpr c20; simp only [Option.some.injEq, Prod.mk.injEq] at H; obtain ⟨rfl, rfl⟩ := H; obtain ⟨ASz21_0, cSz21_0, HGz21, hgz21, HSz21_0⟩ := HI0.out; have hcz21_0 := cellS98_0 HGz21; have hcz21_1 := cellS98_1 HGz21; have hfz21_1 := blk_frozen HGz21 1; clear HGz21 hgz21; have p105 : 0 ≤ ((ji14) : Int) := zd; have q105 : (ji14) < (s0_0.length : Int) := zd; obtain ⟨ad105, e105, hx105_0⟩ := Kd.at_int HSz21_0 (ji14) p105 q105; cases e105; replace hx105_0 := pw_cell_below HB.out hx105_0; replace p105 := eq_true p105; replace q105 := eq_true q105; have p106 : 0 ≤ ((ji17) : Int) := zd; have q106 : (ji17) < (s0_0.length : Int) := zd; obtain ⟨ad106, e106, hx106_0⟩ := Kd.at_int HSz21_0 (ji17) p106 q106; obtain rfl : ad105 = ad106 := (by injection e106); replace hx106_0 := pw_cell_below HB.out hx106_0; replace p106 := eq_true p106; replace q106 := eq_true q106; go_wp2
           repeat (go_quiet (fail); try go_wp2)
           go_ret; exact ⟨by first | rfl | (simp [errW_none, errW_some] <;> rfl) | (simp only [← hji14, ← hji17]; first | rfl | (simp [errW_none, errW_some] <;> rfl)) | (simp [*, errW_none, errW_some] <;> rfl), by repeat (first | (with_reducible first | exact HI0.out | apply IsS98.alloc | apply IsS98.drewN | apply IsS98.drew | apply IsS98.set_1) | exact HI0.out), by repeat (first | (with_reducible first | exact HB.out | apply below_alloc | apply pw_below_drewN | apply below_drew1 | refine below_set ?_ (IsS98.ge HI0.out)) | exact HB.out), zq HK.out⟩
         ·rw [if_neg c19] at H; exact absurd H (by simp)
        ·rw [if_neg c18] at H; exact absurd H (by simp)
       ·rw [if_neg c16] at H; exact absurd H (by simp)
      ·rw [if_neg c15] at H; exact absurd H (by simp)
end Go.Proofs.Ytifgcajpkgamgaa.Q
end
section
namespace Go.Proofs.Ytifgcajpkgamgaa.Q
open Go.RowKit Go.Proofs.YtifgcajpkgamgaaW.PrintWords Go.Proofs.YtifgcajpkgamgaaW.PrintLast Go.Proofs.YtifgcajpkgamgaaW.PrintMore
attribute [local go_sem] max2_int min2_int max_two min_two max_three min_three max_four min_four   
set_option linter.unusedVariables false
set_option linter.unusedSimpArgs false
theorem spec_l6Rd_of.mono : ∀ a0 a1 a2 k, LeO (spec_l6Rd_of.f k a0 a1 a2) (spec_l6Rd_of.f (k + 1) a0 a1 a2) := by
  intro a0 a1 a2 k
  unfold spec_l6Rd_of.f
  repeat' first
      | (with_reducible exact spec_l6Rd_pick.mono _ _ _ _)
      | (with_reducible exact LeO.refl _)
      | (with_reducible exact LeO.none _)
      | (with_reducible refine LeO.ite ?_ ?_)
      | (with_reducible refine LeO.bind ?_ (fun _ => ?_))
      | exact spec_l6Rd_pick.mono _ _ _ _
      | exact LeO.none _
      | refine LeO.ite ?_ ?_
      | refine LeO.bind ?_ (fun _ => ?_)
set_option maxHeartbeats 8000000 in
set_option maxRecDepth 100000 in
theorem spec_l6Rd_of.calls (k : Nat) (g : Nat) (s0_0 : List Int) (s0_1 : Int) (A1 : Option Addr) (c1 : Nat) (l1 : List ByteArray) (r1 : ByteArray) (r2 : Int) (w0 w : World) (hI : IsS98 w0 w g s0_0 s0_1) (hB : Below w0.heap.size w0 w) (hr1 : Kd.C Kd.string w A1 l1.length l1) (hc1 : l1.length ≤ c1) (hf1 : ∀ ad, A1 = some ad → 0 < l1.length → ad.block ≠ g) (h : spec_l6Rd_of.f k s0_0 s0_1 l1 = some (r1, r2)) :
    Calls Try.prog 97 #[.pointer (some ⟨g, 0, none⟩), .slice A1 l1.length c1] w fun e w' => e = .returned (.string r1) ∧ IsS98 w0 w' g s0_0 r2 ∧ Below w0.heap.size w0 w' ∧ KeepBut w w' g none := by
 have HR1 := Aside0.mk hr1; have HC1 := Aside0.mk hc1; clear hr1 hc1; have HI0 := Aside0.mk hI; have HK := z0 (KeepBut.refl w g none); have HL := Aside0.mk hB.size; clear hI; have HW0 := Aside0.mk hB.size; have HB := Aside0.mk hB; clear hB; have H : ((spec_l6Rd_pick.f k s0_0 s0_1 (l1.length : Int)).bind fun bt191 => (if 0 ≤ bt191.1 then (if bt191.1 < (l1.length : Int) then (some (rdOf ByteArray.empty l1 bt191.1, bt191.2)) else (none)) else (none))) = some (r1, r2) := h; clear h; replace H := zi H; obtain ⟨⟨t191, t192⟩, A3, H⟩ := H; (try dsimp only at H)
 by_cases c4 : 0 ≤ t191
 ·rw [if_pos c4] at H; have c4b0 : decide (0 ≤ t191) = true := decide_eq_true c4; clear c4
  by_cases c5 : t191 < (l1.length : Int)
  ·rw [if_pos c5] at H; have c5b0 : decide (t191 < (l1.length : Int)) = true := decide_eq_true c5; clear c5; simp only [Option.some.injEq, Prod.mk.injEq] at H; obtain ⟨rfl, rfl⟩ := H; go_enter Try.func97, Try.ntmps97
   go_wp2_with (first | ((with_reducible refine gate_callee (f := 78) rfl ?_); refine goesL_ (some 9) rfl rfl Try.func78 (by kernel_rfl) rfl #[.pointer (some ⟨g, 0, none⟩), .int .i64 (l1.length : Int)] rfl zo ?_; (with_reducible refine (spec_l6Rd_pick.calls k g s0_0 s0_1 (l1.length : Int) t191 t192 w0 _ ?side1 ?side2 A3.out).mono ?_); (case side1 => repeat (first | (with_reducible first | exact HI0.out | apply IsS98.alloc | apply IsS98.drewN | apply IsS98.drew | apply IsS98.set_1) | exact HI0.out)); (case side2 => repeat (first | (with_reducible first | exact HB.out | apply below_alloc | apply pw_below_drewN | apply below_drew1 | refine below_set ?_ (IsS98.ge HI0.out)) | exact HB.out)); rintro e w6 ⟨rfl, hi, hb, hk⟩; refine zv ?_; replace HK := z0 (KeepBut.trans (zq HK.out) hk (.inl rfl)); replace HB := z0 (hb); replace HI0 := z0 (hi); (try clear hb hk hi); have p193 : 0 ≤ (t191 : Int) := zd; have q193 : t191 < (l1.length : Int) := zd; obtain ⟨ad193, e193, hx193_0⟩ := Kd.at_string HR1.out t191 p193 q193; cases e193; replace hx193_0 := keep_cell HK.out hx193_0 (by first | (rw [add_block]; exact hf1 _ rfl (by omega)) | exact hf1 _ rfl (by omega) | exact hf1 ad193 rfl (by omega)); replace p193 := eq_true p193; replace q193 := eq_true q193))
   go_ret; exact ⟨ze, by repeat (first | (with_reducible first | exact HI0.out | apply IsS98.alloc | apply IsS98.drewN | apply IsS98.drew | apply IsS98.set_1) | exact HI0.out), by repeat (first | (with_reducible first | exact HB.out | apply below_alloc | apply pw_below_drewN | apply below_drew1 | refine below_set ?_ (IsS98.ge HI0.out)) | exact HB.out), zq HK.out⟩
  ·rw [if_neg c5] at H; exact absurd H (by simp)
 ·rw [if_neg c4] at H; exact absurd H (by simp)
end Go.Proofs.Ytifgcajpkgamgaa.Q
end
section
namespace Go.Proofs.Ytifgcajpkgamgaa.Q
open Go.RowKit Go.Proofs.YtifgcajpkgamgaaW.PrintWords Go.Proofs.YtifgcajpkgamgaaW.PrintLast Go.Proofs.YtifgcajpkgamgaaW.PrintMore
attribute [local go_sem] max2_int min2_int max_two min_two max_three min_three max_four min_four   
set_option linter.unusedVariables false
set_option linter.unusedSimpArgs false
theorem spec_l71Key.mono_l : ∀ k, (∀ y0 y1 y2 y3, LeO (spec_l71Key.l0 k y0 y1 y2 y3) (spec_l71Key.l0 (k + 1) y0 y1 y2 y3))
  | 0 => fun _ _ _ _ r h => by simp [spec_l71Key.l0] at h
  | k + 1 => by
    have ih0 := spec_l71Key.mono_l k
    · intro y0 y1 y2 y3
      unfold spec_l71Key.l0
      repeat' first
      | (with_reducible exact ih0 _ _ _ _)
      | (with_reducible exact spec_l6Rd_of.mono _ _ _ _)
      | (with_reducible exact spec_l6Rd_pick.mono _ _ _ _)
      | (with_reducible exact LeO.refl _)
      | (with_reducible exact LeO.none _)
      | (with_reducible refine LeO.ite ?_ ?_)
      | (with_reducible refine LeO.bind ?_ (fun _ => ?_))
      | exact ih0 _ _ _ _
      | exact spec_l6Rd_of.mono _ _ _ _
      | exact spec_l6Rd_pick.mono _ _ _ _
      | exact LeO.none _
      | refine LeO.ite ?_ ?_
      | refine LeO.bind ?_ (fun _ => ?_)
theorem spec_l71Key.mono : ∀ a0 a1 k, LeO (spec_l71Key.f k a0 a1) (spec_l71Key.f (k + 1) a0 a1) := by
  intro a0 a1 k
  have ih0 := spec_l71Key.mono_l k
  unfold spec_l71Key.f
  repeat' first
      | (with_reducible exact ih0 _ _ _ _)
      | (with_reducible exact spec_l6Rd_of.mono _ _ _ _)
      | (with_reducible exact spec_l6Rd_pick.mono _ _ _ _)
      | (with_reducible exact LeO.refl _)
      | (with_reducible exact LeO.none _)
      | (with_reducible refine LeO.ite ?_ ?_)
      | (with_reducible refine LeO.bind ?_ (fun _ => ?_))
      | exact ih0 _ _ _ _
      | exact spec_l6Rd_of.mono _ _ _ _
      | exact spec_l6Rd_pick.mono _ _ _ _
      | exact LeO.none _
      | refine LeO.ite ?_ ?_
      | refine LeO.bind ?_ (fun _ => ?_)
set_option maxHeartbeats 8000000 in
set_option maxRecDepth 100000 in
theorem spec_l71Key.calls (k : Nat) (g : Nat) (s0_0 : List Int) (s0_1 : Int) (r1 : ByteArray) (r2 : Int) (w0 w : World) (hI : IsS98 w0 w g s0_0 s0_1) (hB : Below w0.heap.size w0 w) (h : spec_l71Key.f k s0_0 s0_1 = some (r1, r2)) :
    Calls Try.prog 86 #[.pointer (some ⟨g, 0, none⟩)] w fun e w' => e = .returned (.string r1) ∧ IsS98 w0 w' g s0_0 r2 ∧ Below w0.heap.size w0 w' ∧ KeepBut w w' g none := by
 have HI0 := Aside0.mk hI; have HK := z0 (KeepBut.refl w g none); have HL := Aside0.mk hB.size; clear hI; have HW0 := Aside0.mk hB.size; have HB := Aside0.mk hB; clear hB; have H : ((spec_l6Rd_pick.f k s0_0 s0_1 6).bind fun bt194 => (spec_l71Key.l0 k (⟨#[]⟩ : ByteArray) bt194.1 s0_0 bt194.2)) = some (r1, r2) := h; clear h; replace H := zi H; obtain ⟨⟨t194, t195⟩, A2, H⟩ := H; (try dsimp only at H); have H' := Aside0.mk H; clear H; go_enter Try.func86, Try.ntmps86
 go_wp2_with (first | ((with_reducible refine gate_callee (f := 78) rfl ?_); refine goesL_ (some 6) rfl rfl Try.func78 (by kernel_rfl) rfl #[.pointer (some ⟨g, 0, none⟩), .int .i64 6] rfl zo ?_; (with_reducible refine (spec_l6Rd_pick.calls k g s0_0 s0_1 6 t194 t195 w0 _ ?side1 ?side2 A2.out).mono ?_); (case side1 => repeat (first | (with_reducible first | exact HI0.out | apply IsS98.alloc | apply IsS98.drewN | apply IsS98.drew | apply IsS98.set_1) | exact HI0.out)); (case side2 => repeat (first | (with_reducible first | exact HB.out | apply below_alloc | apply pw_below_drewN | apply below_drew1 | refine below_set ?_ (IsS98.ge HI0.out)) | exact HB.out)); rintro e w3 ⟨rfl, hi, hb, hk⟩; refine zv ?_; replace HK := z0 (KeepBut.trans (zq HK.out) hk (.inl rfl)); replace HB := z0 (hb); replace HI0 := z0 (hi); (try clear hb hk hi)))
 go_loopg [3, 4] k (fun kq v3 v4 w' => ∃ (x3_1 : ByteArray) (x4_1 : Int) (x1001_1 : Int), v3 = .string x3_1 ∧ v4 = .int .i64 x4_1 ∧ Aside0 (spec_l71Key.l0 kq x3_1 x4_1 s0_0 x1001_1 = some (r1, r2)) ∧ Aside0 (kq ≤ k) ∧ Aside0 (IsS98 w0 w' g s0_0 x1001_1) ∧ Aside0 (KeepBut w w' g none) ∧ Aside0 (Below w0.heap.size w0 w'))
 case atStart => exact ⟨((⟨#[]⟩ : ByteArray)), (t194), (t195), zf, zf, H', ⟨Nat.le_refl _⟩, ⟨by repeat (first | (with_reducible first | exact HI0.out | apply IsS98.alloc | apply IsS98.drewN | apply IsS98.drew | apply IsS98.set_1) | exact HI0.out)⟩, ⟨zq HK.out⟩, ⟨by repeat (first | (with_reducible first | exact HB.out | apply below_alloc | apply pw_below_drewN | apply below_drew1 | refine below_set ?_ (IsS98.ge HI0.out)) | exact HB.out)⟩⟩
 case round =>
  clear H'
  try clear p2
  obtain ⟨x3_1, x4_1, x1001_1, rfl, rfl, HA, HK1, HI0, HK, HB⟩ := hrel
  cases gk with
  | zero => exact absurd HA.out (by simp [spec_l71Key.l0])
  | succ k1 =>
   have H := HA.out; clear HA; simp only [spec_l71Key.l0] at H
   by_cases c4 : x4_1 > 0
   ·rw [if_pos c4] at H; have c4b0 : decide (0 < x4_1) = true := decide_eq_true c4; clear c4; obtain ⟨y196, hy196⟩ : ∃ y_ : List ByteArray, y_ = (([(⟨#[97]⟩ : ByteArray), (⟨#[98]⟩ : ByteArray), (⟨#[97]⟩ : ByteArray), (⟨#[99]⟩ : ByteArray), (⟨#[100]⟩ : ByteArray)] : List ByteArray)) := ⟨_, rfl⟩
    replace H : ((spec_l6Rd_of.f k1 s0_0 x1001_1 y196).bind fun bt199 => (if x3_1.size + bt199.1.size ≤ 9223372036854775807 then (spec_l71Key.l0 k1 (x3_1 ++ bt199.1) (wrap64 (x4_1 - 1)) s0_0 bt199.2) else (none))) = some (r1, r2) := by first | (rw [hy196]; with_reducible exact H) | (have H2_ := (Option.bind_some _ _).symm.trans H; rw [hy196]; with_reducible exact H2_) | (have H2_ := (Option.bind_some _ _).symm.trans H; with_reducible exact H2_) | with_reducible exact H | (rw [hy196]; exact H) | exact H
    have Ny196 := Aside0.mk hy196; clear hy196; replace H := zi H; obtain ⟨⟨t199, t200⟩, A5, H⟩ := H; (try dsimp only at H)
    by_cases c6 : x3_1.size + t199.size ≤ 9223372036854775807
    ·rw [if_pos c6] at H; have c6b0 := eq_true c6; have c6b1 : decide (x3_1.size + t199.size ≤ 9223372036854775807) = true := decide_eq_true c6
     try have c6b2 : (9223372036854775807 < x3_1.size + t199.size) = False := eq_false (Nat.not_lt.2 c6)
     have H' := Aside0.mk H; clear H
     go_wp2_with (first | ((with_reducible refine gate_dst (N := 13) rfl ?_); refine Kd.R_lit Kd.string _ 9 ?hg (N := 13) ?hd (xs := ([(⟨#[97]⟩ : ByteArray), (⟨#[98]⟩ : ByteArray), (⟨#[97]⟩ : ByteArray), (⟨#[99]⟩ : ByteArray), (⟨#[100]⟩ : ByteArray)] : List ByteArray)) (inner := [.string (⟨#[97]⟩ : ByteArray), .string (⟨#[98]⟩ : ByteArray), .string (⟨#[97]⟩ : ByteArray), .string (⟨#[99]⟩ : ByteArray), .string (⟨#[100]⟩ : ByteArray)]) (ok := fun _ => True) (okp := fun _ => True) ?hr ?hp (fun _ hk => hk) trivial (Below.refl _ _) (Nat.le_refl _) (by simp) ?_; (case hd => rfl); (case hg => rfl); (case hr => first | (go_simp; done) | (go_simp; rfl)); (case hp => exact (Reps.one (show Kd.M Kd.string _ _ _ (⟨#[97]⟩ : ByteArray) [.string (⟨#[97]⟩ : ByteArray)] from rfl) (Reps.one (show Kd.M Kd.string _ _ _ (⟨#[98]⟩ : ByteArray) [.string (⟨#[98]⟩ : ByteArray)] from rfl) (Reps.one (show Kd.M Kd.string _ _ _ (⟨#[97]⟩ : ByteArray) [.string (⟨#[97]⟩ : ByteArray)] from rfl) (Reps.one (show Kd.M Kd.string _ _ _ (⟨#[99]⟩ : ByteArray) [.string (⟨#[99]⟩ : ByteArray)] from rfl) (Reps.one (show Kd.M Kd.string _ _ _ (⟨#[100]⟩ : ByteArray) [.string (⟨#[100]⟩ : ByteArray)] from rfl) (Reps.none _ _))))))); intro v197 w7 ho8 hb hg_ hnew_; clear hg_ hnew_; (first | rw [← Ny196.out] at ho8 | (simp only [Int.reduceToNat] at ho8; rw [← Ny196.out] at ho8)); have HO198 := z0 (Kd.R_lower ho8 (keep_size (w := w) (g := g) (row := none) (zq HK.out))); replace HK := z0 (KeepBut.trans (zq HK.out) (KeepBut.of_below hb g none) (.inl rfl)); replace HB := z0 (below_step (by repeat (first | (with_reducible first | exact HB.out | apply below_alloc | apply pw_below_drewN | apply below_drew1 | refine below_set ?_ (IsS98.ge HI0.out)) | exact HB.out)) hb); replace HI0 := z0 (IsS98.below (by repeat (first | (with_reducible first | exact HI0.out | apply IsS98.alloc | apply IsS98.drewN | apply IsS98.drew | apply IsS98.set_1) | exact HI0.out)) hb); clear hb ho8; obtain ⟨Ao9, co9, eo9⟩ := Kd.R_slice HO198.out; subst eo9) | ((with_reducible refine gate_callee (f := 97) rfl ?_); refine goesL_ (some 14) rfl rfl Try.func97 (by kernel_rfl) rfl #[.pointer (some ⟨g, 0, none⟩), .slice Ao9 y196.length co9] rfl zo ?_; (with_reducible refine (spec_l6Rd_of.calls k1 g s0_0 x1001_1 _ _ y196 t199 t200 w0 _ ?side1 ?side2 (zC ((Kd.R_reads' HO198.out).2.2)) ((Kd.R_reads' HO198.out).2.1) (far_slice (IsS98.own_ne HI0.out HO198.out (by decide))) A5.out).mono ?_); (case side1 => repeat (first | (with_reducible first | exact HI0.out | apply IsS98.alloc | apply IsS98.drewN | apply IsS98.drew | apply IsS98.set_1) | exact HI0.out)); (case side2 => repeat (first | (with_reducible first | exact HB.out | apply below_alloc | apply pw_below_drewN | apply below_drew1 | refine below_set ?_ (IsS98.ge HI0.out)) | exact HB.out)); rintro e w10 ⟨rfl, hi, hb, hk⟩; refine zv ?_; replace HO198 := z0 (Kd.R_mono (Kd.R_keep (IsS98.apart (show IsS98 w0 _ g s0_0 x1001_1 from by repeat (first | (with_reducible first | exact HI0.out | apply IsS98.alloc | apply IsS98.drewN | apply IsS98.drew | apply IsS98.set_1) | exact HI0.out)) (zr HO198.out) (by decide)) hk (fun _ h => h.2)) (fun _ h => h.1)); replace HK := z0 (KeepBut.trans (zq HK.out) hk (.inl rfl)); replace HB := z0 (hb); replace HI0 := z0 (hi); (try clear hb hk hi)))
     go_roundg k1
     case measure => have := HK1.out; omega
     case rel => exact ⟨(x3_1 ++ t199), (wrap64 (x4_1 - 1)), (t200), zf, zf, H', ⟨by have := HK1.out; omega⟩, ⟨by repeat (first | (with_reducible first | exact HI0.out | apply IsS98.alloc | apply IsS98.drewN | apply IsS98.drew | apply IsS98.set_1) | exact HI0.out)⟩, ⟨zq HK.out⟩, ⟨by repeat (first | (with_reducible first | exact HB.out | apply below_alloc | apply pw_below_drewN | apply below_drew1 | refine below_set ?_ (IsS98.ge HI0.out)) | exact HB.out)⟩⟩
    ·rw [if_neg c6] at H; exact absurd H (by simp)
   ·rw [if_neg c4] at H; have c4b0 : decide (0 < x4_1) = false := decide_eq_false c4; clear c4; simp only [Option.some.injEq, Prod.mk.injEq] at H; obtain ⟨rfl, rfl⟩ := H; go_wp2; go_ret; exact ⟨ze, by repeat (first | (with_reducible first | exact HI0.out | apply IsS98.alloc | apply IsS98.drewN | apply IsS98.drew | apply IsS98.set_1) | exact HI0.out), by repeat (first | (with_reducible first | exact HB.out | apply below_alloc | apply pw_below_drewN | apply below_drew1 | refine below_set ?_ (IsS98.ge HI0.out)) | exact HB.out), zq HK.out⟩
end Go.Proofs.Ytifgcajpkgamgaa.Q
end
section
namespace Go.Proofs.Ytifgcajpkgamgaa.Q
open Go.RowKit Go.Proofs.YtifgcajpkgamgaaW.PrintWords Go.Proofs.YtifgcajpkgamgaaW.PrintLast Go.Proofs.YtifgcajpkgamgaaW.PrintMore
attribute [local go_sem] max2_int min2_int max_two min_two max_three min_three max_four min_four   
set_option linter.unusedVariables false
set_option linter.unusedSimpArgs false
theorem spec_l71Near.mono_l : ∀ k, (∀ y0 y1 y2 y3, LeO (spec_l71Near.j0 k y0 y1 y2 y3) (spec_l71Near.j0 (k + 1) y0 y1 y2 y3))
  | 0 => fun _ _ _ _ r h => by simp [spec_l71Near.j0] at h
  | k + 1 => by
    have ih0 := spec_l71Near.mono_l k
    · intro y0 y1 y2 y3
      unfold spec_l71Near.j0
      repeat' first
      | (with_reducible exact ih0 _ _ _ _)
      | (with_reducible exact spec_l6Rd_of.mono _ _ _ _)
      | (with_reducible exact spec_l6Rd_pick.mono _ _ _ _)
      | (with_reducible exact spec_l71Key.mono _ _ _)
      | (with_reducible exact LeO.refl _)
      | (with_reducible exact LeO.none _)
      | (with_reducible refine LeO.ite ?_ ?_)
      | (with_reducible refine LeO.bind ?_ (fun _ => ?_))
      | exact ih0 _ _ _ _
      | exact spec_l6Rd_of.mono _ _ _ _
      | exact spec_l6Rd_pick.mono _ _ _ _
      | exact spec_l71Key.mono _ _ _
      | exact LeO.none _
      | refine LeO.ite ?_ ?_
      | refine LeO.bind ?_ (fun _ => ?_)
theorem spec_l71Near.mono : ∀ a0 a1 a2 k, LeO (spec_l71Near.f k a0 a1 a2) (spec_l71Near.f (k + 1) a0 a1 a2) := by
  intro a0 a1 a2 k
  have ih0 := spec_l71Near.mono_l k
  unfold spec_l71Near.f
  repeat' first
      | (with_reducible exact ih0 _ _ _ _)
      | (with_reducible exact spec_l6Rd_of.mono _ _ _ _)
      | (with_reducible exact spec_l6Rd_pick.mono _ _ _ _)
      | (with_reducible exact spec_l71Key.mono _ _ _)
      | (with_reducible exact LeO.refl _)
      | (with_reducible exact LeO.none _)
      | (with_reducible refine LeO.ite ?_ ?_)
      | (with_reducible refine LeO.bind ?_ (fun _ => ?_))
      | exact ih0 _ _ _ _
      | exact spec_l6Rd_of.mono _ _ _ _
      | exact spec_l6Rd_pick.mono _ _ _ _
      | exact spec_l71Key.mono _ _ _
      | exact LeO.none _
      | refine LeO.ite ?_ ?_
      | refine LeO.bind ?_ (fun _ => ?_)
set_option maxHeartbeats 8000000 in
set_option maxRecDepth 100000 in
theorem spec_l71Near.calls (k : Nat) (g : Nat) (s0_0 : List Int) (s0_1 : Int) (A1 : Option Addr) (c1 : Nat) (l1 : List ByteArray) (r1 : ByteArray) (r2 : Int) (w0 w : World) (hI : IsS98 w0 w g s0_0 s0_1) (hB : Below w0.heap.size w0 w) (hr1 : Kd.C Kd.string w A1 l1.length l1) (hc1 : l1.length ≤ c1) (hf1 : ∀ ad, A1 = some ad → 0 < l1.length → ad.block ≠ g) (h : spec_l71Near.f k s0_0 s0_1 l1 = some (r1, r2)) :
    Calls Try.prog 66 #[.pointer (some ⟨g, 0, none⟩), .slice A1 l1.length c1] w fun e w' => e = .returned (.string r1) ∧ IsS98 w0 w' g s0_0 r2 ∧ Below w0.heap.size w0 w' ∧ KeepBut w w' g none := by
 have HR1 := Aside0.mk hr1; have HC1 := Aside0.mk hc1; clear hr1 hc1; have HI0 := Aside0.mk hI; have HK := z0 (KeepBut.refl w g none); have HL := Aside0.mk hB.size; clear hI; have HW0 := Aside0.mk hB.size; have HB := Aside0.mk hB; clear hB; have H : (if (l1.length : Int) = 0 then (spec_l71Near.j0 k l1 true s0_0 s0_1) else ((spec_l6Rd_pick.f k s0_0 s0_1 4).bind fun bt201 => (spec_l71Near.j0 k l1 (bt201.1 == 0) s0_0 bt201.2))) = some (r1, r2) := h; clear h; have HC3 := Aside0.mk H; clear H; go_enter Try.func66, Try.ntmps66
 go_upto_region 1 with (fail)
 go_cut [13] (fun v13 wc => ∃ (kq : Nat) (x13_2 : Bool) (x1001_2 : Int), v13 = .bool x13_2 ∧ Aside0 (spec_l71Near.j0 kq l1 x13_2 s0_0 x1001_2 = some (r1, r2)) ∧ Aside0 (kq ≤ k) ∧ Aside0 (IsS98 w0 wc g s0_0 x1001_2) ∧ Aside0 (KeepBut w wc g none) ∧ Aside0 (Below w0.heap.size w0 wc))
 case first =>
  have H := HC3.out; clear HC3
  by_cases c4 : (l1.length : Int) = 0
  ·rw [if_pos c4] at H; have c4b0 : ((l1.length : Int) == 0) = true := beq_iff_eq.mpr c4; have c4b1 : ((l1.length : Int) != 0) = false := bne_eq_false_iff_eq.mpr c4; clear c4; (first | rw [c4b0] | (simp only [i64_w, i32_w]; rw [c4b0]) | simp only [*, Bool.not_true, Bool.not_false] | skip); have H' := Aside0.mk H; clear H; go_wp2; go_meet
   case rel => exact ⟨_, (true), (s0_1), zf, H', ⟨by first | omega | exact Nat.le_refl _⟩, ⟨by repeat (first | (with_reducible first | exact HI0.out | apply IsS98.alloc | apply IsS98.drewN | apply IsS98.drew | apply IsS98.set_1) | exact HI0.out)⟩, ⟨zq HK.out⟩, ⟨by repeat (first | (with_reducible first | exact HB.out | apply below_alloc | apply pw_below_drewN | apply below_drew1 | refine below_set ?_ (IsS98.ge HI0.out)) | exact HB.out)⟩⟩
  ·rw [if_neg c4] at H; have c4b0 : ((l1.length : Int) == 0) = false := beq_eq_false_iff_ne.mpr c4; have c4b1 : ((l1.length : Int) != 0) = true := bne_iff_ne.mpr c4; have c4b2 : ¬ (l1 = []) := fun h_ => c4 (by rw [h_]; rfl); (first | rw [c4b0] | (simp only [i64_w, i32_w]; rw [c4b0]) | simp only [*, Bool.not_true, Bool.not_false] | skip); replace H := zi H; obtain ⟨⟨t201, t202⟩, A5, H⟩ := H; (try dsimp only at H); have H' := Aside0.mk H; clear H
   go_wp2_with (first | (go_at_call 78; (with_reducible refine (spec_l6Rd_pick.calls k g s0_0 s0_1 4 t201 t202 w0 _ ?side1 ?side2 A5.out).mono ?_); (case side1 => repeat (first | (with_reducible first | exact HI0.out | apply IsS98.alloc | apply IsS98.drewN | apply IsS98.drew | apply IsS98.set_1) | exact HI0.out)); (case side2 => repeat (first | (with_reducible first | exact HB.out | apply below_alloc | apply pw_below_drewN | apply below_drew1 | refine below_set ?_ (IsS98.ge HI0.out)) | exact HB.out)); rintro e w6 ⟨rfl, hi, hb, hk⟩; replace HK := z0 (KeepBut.trans (zq HK.out) hk (.inl rfl)); replace HB := z0 (hb); replace HI0 := z0 (hi); (try clear hb hk hi)))
   go_meet
   case rel => exact ⟨_, ((t201 == 0)), (t202), zf, H', ⟨by first | omega | exact Nat.le_refl _⟩, ⟨by repeat (first | (with_reducible first | exact HI0.out | apply IsS98.alloc | apply IsS98.drewN | apply IsS98.drew | apply IsS98.set_1) | exact HI0.out)⟩, ⟨zq HK.out⟩, ⟨by repeat (first | (with_reducible first | exact HB.out | apply below_alloc | apply pw_below_drewN | apply below_drew1 | refine below_set ?_ (IsS98.ge HI0.out)) | exact HB.out)⟩⟩
 case rest =>
  clear HC3
  try clear c1
  try clear p2
  try clear c4
  try clear c4b0
  try clear c4b1
  try clear c4b2
  try clear c6
  obtain ⟨kq, x13_2, x1001_2, rfl, HA, HJ2, HI0, HK, HB⟩ := hcut
  cases kq with
  | zero => exact absurd HA.out (by simp [spec_l71Near.j0])
  | succ kj2 =>
   have H := HA.out; clear HA; simp only [spec_l71Near.j0] at H
   by_cases c7 : x13_2 = true
   ·subst c7
    have H1 : ((spec_l71Key.f kj2 s0_0 x1001_2).bind fun bt203 => (some (bt203.1, bt203.2))) = some (r1, r2) := by rw [if_pos rfl] at H; exact H
    clear H; have H := H1; clear H1; replace H := zi H; obtain ⟨⟨t203, t204⟩, A8, H⟩ := H; (try dsimp only at H); simp only [Option.some.injEq, Prod.mk.injEq] at H; obtain ⟨rfl, rfl⟩ := H
    go_wp2_with (first | ((with_reducible refine gate_callee (f := 86) rfl ?_); refine goesL_ (some 15) rfl rfl Try.func86 (by kernel_rfl) rfl #[.pointer (some ⟨g, 0, none⟩)] rfl zo ?_; (with_reducible refine (spec_l71Key.calls kj2 g s0_0 x1001_2 t203 t204 w0 _ ?side1 ?side2 A8.out).mono ?_); (case side1 => repeat (first | (with_reducible first | exact HI0.out | apply IsS98.alloc | apply IsS98.drewN | apply IsS98.drew | apply IsS98.set_1) | exact HI0.out)); (case side2 => repeat (first | (with_reducible first | exact HB.out | apply below_alloc | apply pw_below_drewN | apply below_drew1 | refine below_set ?_ (IsS98.ge HI0.out)) | exact HB.out)); rintro e w9 ⟨rfl, hi, hb, hk⟩; refine zv ?_; replace HK := z0 (KeepBut.trans (zq HK.out) hk (.inl rfl)); replace HB := z0 (hb); replace HI0 := z0 (hi); (try clear hb hk hi)))
    go_ret; exact ⟨ze, by repeat (first | (with_reducible first | exact HI0.out | apply IsS98.alloc | apply IsS98.drewN | apply IsS98.drew | apply IsS98.set_1) | exact HI0.out), by repeat (first | (with_reducible first | exact HB.out | apply below_alloc | apply pw_below_drewN | apply below_drew1 | refine below_set ?_ (IsS98.ge HI0.out)) | exact HB.out), zq HK.out⟩
   ·replace c7 := Bool.eq_false_iff.mpr c7; subst c7
    have H1 : ((spec_l6Rd_pick.f kj2 s0_0 x1001_2 (l1.length : Int)).bind fun bt205 => (if 0 ≤ bt205.1 then (if bt205.1 < (l1.length : Int) then ((spec_l6Rd_pick.f kj2 s0_0 bt205.2 4).bind fun bt208 => (if bt208.1 = 0 then ((spec_l6Rd_pick.f kj2 s0_0 bt208.2 (wrap64 (((rdOf ByteArray.empty l1 bt205.1).size : Int) + 1))).bind fun bt210 => (if 0 ≤ bt210.1 then (if bt210.1 ≤ ((rdOf ByteArray.empty l1 bt205.1).size : Int) then (some ((rdOf ByteArray.empty l1 bt205.1).extract 0 (bt210.1 : Int).toNat, bt210.2)) else (none)) else (none))) else (if bt208.1 = 1 then (if ((rdOf ByteArray.empty l1 bt205.1).size : Int) < 5 then ((spec_l6Rd_of.f kj2 s0_0 bt208.2 (([(⟨#[97]⟩ : ByteArray), (⟨#[98]⟩ : ByteArray), (⟨#[100]⟩ : ByteArray)] : List ByteArray))).bind fun bt215 => (if (rdOf ByteArray.empty l1 bt205.1).size + bt215.1.size ≤ 9223372036854775807 then (some ((rdOf ByteArray.empty l1 bt205.1) ++ bt215.1, bt215.2)) else (none))) else (some (rdOf ByteArray.empty l1 bt205.1, bt208.2))) else (some (rdOf ByteArray.empty l1 bt205.1, bt208.2))))) else (none)) else (none))) = some (r1, r2) := by rw [if_neg (show ¬ (false = true) by decide)] at H; exact H
    clear H; have H := H1; clear H1; replace H := zi H; obtain ⟨⟨t205, t206⟩, A10, H⟩ := H; (try dsimp only at H)
    by_cases c11 : 0 ≤ t205
    ·rw [if_pos c11] at H; have c11b0 : decide (0 ≤ t205) = true := decide_eq_true c11; clear c11
     by_cases c12 : t205 < (l1.length : Int)
     ·rw [if_pos c12] at H; have c12b0 : decide (t205 < (l1.length : Int)) = true := decide_eq_true c12; clear c12; replace H := zi H; obtain ⟨⟨t208, t209⟩, A13, H⟩ := H; (try dsimp only at H)
      go_upto_if 25 with (first | ((with_reducible refine gate_callee (f := 78) rfl ?_); refine goesL_ (some 20) rfl rfl Try.func78 (by kernel_rfl) rfl #[.pointer (some ⟨g, 0, none⟩), .int .i64 (l1.length : Int)] rfl zo ?_; (with_reducible refine (spec_l6Rd_pick.calls kj2 g s0_0 x1001_2 (l1.length : Int) t205 t206 w0 _ ?side1 ?side2 A10.out).mono ?_); (case side1 => repeat (first | (with_reducible first | exact HI0.out | apply IsS98.alloc | apply IsS98.drewN | apply IsS98.drew | apply IsS98.set_1) | exact HI0.out)); (case side2 => repeat (first | (with_reducible first | exact HB.out | apply below_alloc | apply pw_below_drewN | apply below_drew1 | refine below_set ?_ (IsS98.ge HI0.out)) | exact HB.out)); rintro e w14 ⟨rfl, hi, hb, hk⟩; refine zv ?_; replace HK := z0 (KeepBut.trans (zq HK.out) hk (.inl rfl)); replace HB := z0 (hb); replace HI0 := z0 (hi); (try clear hb hk hi); have p207 : 0 ≤ (t205 : Int) := zd; have q207 : t205 < (l1.length : Int) := zd; obtain ⟨ad207, e207, hx207_0⟩ := Kd.at_string HR1.out t205 p207 q207; cases e207; replace hx207_0 := keep_cell HK.out hx207_0 (by first | (rw [add_block]; exact hf1 _ rfl (by omega)) | exact hf1 _ rfl (by omega) | exact hf1 ad207 rfl (by omega)); replace p207 := eq_true p207; replace q207 := eq_true q207) | ((with_reducible refine gate_callee (f := 78) rfl ?_); refine goesL_ (some 24) rfl rfl Try.func78 (by kernel_rfl) rfl #[.pointer (some ⟨g, 0, none⟩), .int .i64 4] rfl zo ?_; (with_reducible refine (spec_l6Rd_pick.calls kj2 g s0_0 t206 4 t208 t209 w0 _ ?side1 ?side2 A13.out).mono ?_); (case side1 => repeat (first | (with_reducible first | exact HI0.out | apply IsS98.alloc | apply IsS98.drewN | apply IsS98.drew | apply IsS98.set_1) | exact HI0.out)); (case side2 => repeat (first | (with_reducible first | exact HB.out | apply below_alloc | apply pw_below_drewN | apply below_drew1 | refine below_set ?_ (IsS98.ge HI0.out)) | exact HB.out)); rintro e w15 ⟨rfl, hi, hb, hk⟩; refine zv ?_; replace HK := z0 (KeepBut.trans (zq HK.out) hk (.inl rfl)); replace HB := z0 (hb); replace HI0 := z0 (hi); (try clear hb hk hi)))
      by_cases c16 : t208 = 0
      ·rw [if_pos c16] at H; have c16b0 : (t208 == 0) = true := beq_iff_eq.mpr c16; have c16b1 : (t208 != 0) = false := bne_eq_false_iff_eq.mpr c16; clear c16; (first | rw [c16b0] | (simp only [i64_w, i32_w]; rw [c16b0]) | simp only [*, Bool.not_true, Bool.not_false] | skip); replace H := zi H; obtain ⟨⟨t210, t211⟩, A17, H⟩ := H; (try dsimp only at H)
       by_cases c18 : 0 ≤ t210
       ·rw [if_pos c18] at H; have c18b0 := eq_true c18; have c18b1 : decide (0 ≤ t210) = true := decide_eq_true c18; clear c18
        by_cases c19 : t210 ≤ ((rdOf ByteArray.empty l1 t205).size : Int)
        ·rw [if_pos c19] at H; have c19b0 := eq_true c19; have c19b1 : decide (t210 ≤ ((rdOf ByteArray.empty l1 t205).size : Int)) = true := decide_eq_true c19; clear c19; simp only [Option.some.injEq, Prod.mk.injEq] at H; obtain ⟨rfl, rfl⟩ := H
         go_wp2_with (first | ((with_reducible refine gate_callee (f := 78) rfl ?_); refine goesL_ (some 32) rfl rfl Try.func78 (by kernel_rfl) rfl #[.pointer (some ⟨g, 0, none⟩), .int .i64 (wrap64 (((rdOf ByteArray.empty l1 t205).size : Int) + 1))] rfl zo ?_; (with_reducible refine (spec_l6Rd_pick.calls kj2 g s0_0 t209 (wrap64 (((rdOf ByteArray.empty l1 t205).size : Int) + 1)) t210 t211 w0 _ ?side1 ?side2 A17.out).mono ?_); (case side1 => repeat (first | (with_reducible first | exact HI0.out | apply IsS98.alloc | apply IsS98.drewN | apply IsS98.drew | apply IsS98.set_1) | exact HI0.out)); (case side2 => repeat (first | (with_reducible first | exact HB.out | apply below_alloc | apply pw_below_drewN | apply below_drew1 | refine below_set ?_ (IsS98.ge HI0.out)) | exact HB.out)); rintro e w20 ⟨rfl, hi, hb, hk⟩; refine zv ?_; replace HK := z0 (KeepBut.trans (zq HK.out) hk (.inl rfl)); replace HB := z0 (hb); replace HI0 := z0 (hi); (try clear hb hk hi)))
         go_ret; exact ⟨ze, by repeat (first | (with_reducible first | exact HI0.out | apply IsS98.alloc | apply IsS98.drewN | apply IsS98.drew | apply IsS98.set_1) | exact HI0.out), by repeat (first | (with_reducible first | exact HB.out | apply below_alloc | apply pw_below_drewN | apply below_drew1 | refine below_set ?_ (IsS98.ge HI0.out)) | exact HB.out), zq HK.out⟩
        ·rw [if_neg c19] at H; exact absurd H (by simp)
       ·rw [if_neg c18] at H; exact absurd H (by simp)
      ·rw [if_neg c16] at H; have c16b0 : (t208 == 0) = false := beq_eq_false_iff_ne.mpr c16; have c16b1 : (t208 != 0) = true := bne_iff_ne.mpr c16; (first | rw [c16b0] | (simp only [i64_w, i32_w]; rw [c16b0]) | simp only [*, Bool.not_true, Bool.not_false] | skip)
       by_cases c21 : t208 = 1
       ·rw [if_pos c21] at H; have c21b0 : (t208 == 1) = true := beq_iff_eq.mpr c21; have c21b1 : (t208 != 1) = false := bne_eq_false_iff_eq.mpr c21; clear c21
        by_cases c22 : ((rdOf ByteArray.empty l1 t205).size : Int) < 5
        ·rw [if_pos c22] at H; have c22b0 : decide (((rdOf ByteArray.empty l1 t205).size : Int) < 5) = true := decide_eq_true c22; have c22b1 : decide ((rdOf ByteArray.empty l1 t205).size < 5) = true := decide_eq_true (by omega); clear c22; obtain ⟨y212, hy212⟩ : ∃ y_ : List ByteArray, y_ = (([(⟨#[97]⟩ : ByteArray), (⟨#[98]⟩ : ByteArray), (⟨#[100]⟩ : ByteArray)] : List ByteArray)) := ⟨_, rfl⟩
         replace H : ((spec_l6Rd_of.f kj2 s0_0 t209 y212).bind fun bt215 => (if (rdOf ByteArray.empty l1 t205).size + bt215.1.size ≤ 9223372036854775807 then (some ((rdOf ByteArray.empty l1 t205) ++ bt215.1, bt215.2)) else (none))) = some (r1, r2) := by first | (rw [hy212]; with_reducible exact H) | (have H2_ := (Option.bind_some _ _).symm.trans H; rw [hy212]; with_reducible exact H2_) | (have H2_ := (Option.bind_some _ _).symm.trans H; with_reducible exact H2_) | with_reducible exact H | (rw [hy212]; exact H) | exact H
         have Ny212 := Aside0.mk hy212; clear hy212; replace H := zi H; obtain ⟨⟨t215, t216⟩, A23, H⟩ := H; (try dsimp only at H)
         by_cases c24 : (rdOf ByteArray.empty l1 t205).size + t215.size ≤ 9223372036854775807
         ·rw [if_pos c24] at H; have c24b0 := eq_true c24; have c24b1 : decide ((rdOf ByteArray.empty l1 t205).size + t215.size ≤ 9223372036854775807) = true := decide_eq_true c24
          try have c24b2 : (9223372036854775807 < (rdOf ByteArray.empty l1 t205).size + t215.size) = False := eq_false (Nat.not_lt.2 c24)
          simp only [Option.some.injEq, Prod.mk.injEq] at H; obtain ⟨rfl, rfl⟩ := H
          go_wp2_with (first | ((with_reducible refine gate_dst (N := 41) rfl ?_); refine Kd.R_lit Kd.string _ 9 ?hg (N := 41) ?hd (xs := ([(⟨#[97]⟩ : ByteArray), (⟨#[98]⟩ : ByteArray), (⟨#[100]⟩ : ByteArray)] : List ByteArray)) (inner := [.string (⟨#[97]⟩ : ByteArray), .string (⟨#[98]⟩ : ByteArray), .string (⟨#[100]⟩ : ByteArray)]) (ok := fun _ => True) (okp := fun _ => True) ?hr ?hp (fun _ hk => hk) trivial (Below.refl _ _) (Nat.le_refl _) (by simp) ?_; (case hd => rfl); (case hg => rfl); (case hr => first | (go_simp; done) | (go_simp; rfl)); (case hp => exact (Reps.one (show Kd.M Kd.string _ _ _ (⟨#[97]⟩ : ByteArray) [.string (⟨#[97]⟩ : ByteArray)] from rfl) (Reps.one (show Kd.M Kd.string _ _ _ (⟨#[98]⟩ : ByteArray) [.string (⟨#[98]⟩ : ByteArray)] from rfl) (Reps.one (show Kd.M Kd.string _ _ _ (⟨#[100]⟩ : ByteArray) [.string (⟨#[100]⟩ : ByteArray)] from rfl) (Reps.none _ _))))); intro v213 w25 ho26 hb hg_ hnew_; clear hg_ hnew_; (first | rw [← Ny212.out] at ho26 | (simp only [Int.reduceToNat] at ho26; rw [← Ny212.out] at ho26)); have HO214 := z0 (Kd.R_lower ho26 (keep_size (w := w) (g := g) (row := none) (zq HK.out))); replace HK := z0 (KeepBut.trans (zq HK.out) (KeepBut.of_below hb g none) (.inl rfl)); replace HB := z0 (below_step (by repeat (first | (with_reducible first | exact HB.out | apply below_alloc | apply pw_below_drewN | apply below_drew1 | refine below_set ?_ (IsS98.ge HI0.out)) | exact HB.out)) hb); replace HI0 := z0 (IsS98.below (by repeat (first | (with_reducible first | exact HI0.out | apply IsS98.alloc | apply IsS98.drewN | apply IsS98.drew | apply IsS98.set_1) | exact HI0.out)) hb); clear hb ho26; obtain ⟨Ao27, co27, eo27⟩ := Kd.R_slice HO214.out; subst eo27) | ((with_reducible refine gate_callee (f := 97) rfl ?_); refine goesL_ (some 42) rfl rfl Try.func97 (by kernel_rfl) rfl #[.pointer (some ⟨g, 0, none⟩), .slice Ao27 y212.length co27] rfl zo ?_; (with_reducible refine (spec_l6Rd_of.calls kj2 g s0_0 t209 _ _ y212 t215 t216 w0 _ ?side1 ?side2 (zC ((Kd.R_reads' HO214.out).2.2)) ((Kd.R_reads' HO214.out).2.1) (far_slice (IsS98.own_ne HI0.out HO214.out (by decide))) A23.out).mono ?_); (case side1 => repeat (first | (with_reducible first | exact HI0.out | apply IsS98.alloc | apply IsS98.drewN | apply IsS98.drew | apply IsS98.set_1) | exact HI0.out)); (case side2 => repeat (first | (with_reducible first | exact HB.out | apply below_alloc | apply pw_below_drewN | apply below_drew1 | refine below_set ?_ (IsS98.ge HI0.out)) | exact HB.out)); rintro e w28 ⟨rfl, hi, hb, hk⟩; refine zv ?_; replace HO214 := z0 (Kd.R_mono (Kd.R_keep (IsS98.apart (show IsS98 w0 _ g s0_0 t209 from by repeat (first | (with_reducible first | exact HI0.out | apply IsS98.alloc | apply IsS98.drewN | apply IsS98.drew | apply IsS98.set_1) | exact HI0.out)) (zr HO214.out) (by decide)) hk (fun _ h => h.2)) (fun _ h => h.1)); replace HK := z0 (KeepBut.trans (zq HK.out) hk (.inl rfl)); replace HB := z0 (hb); replace HI0 := z0 (hi); (try clear hb hk hi)))
          go_ret; exact ⟨ze, by repeat (first | (with_reducible first | exact HI0.out | apply IsS98.alloc | apply IsS98.drewN | apply IsS98.drew | apply IsS98.set_1) | exact HI0.out), by repeat (first | (with_reducible first | exact HB.out | apply below_alloc | apply pw_below_drewN | apply below_drew1 | refine below_set ?_ (IsS98.ge HI0.out)) | exact HB.out), zq HK.out⟩
         ·rw [if_neg c24] at H; exact absurd H (by simp)
        ·rw [if_neg c22] at H; have c22b0 : decide (((rdOf ByteArray.empty l1 t205).size : Int) < 5) = false := decide_eq_false c22; have c22b1 : decide ((rdOf ByteArray.empty l1 t205).size < 5) = false := decide_eq_false (by omega); clear c22; simp only [Option.some.injEq, Prod.mk.injEq] at H; obtain ⟨rfl, rfl⟩ := H; go_wp2; go_ret; exact ⟨ze, by repeat (first | (with_reducible first | exact HI0.out | apply IsS98.alloc | apply IsS98.drewN | apply IsS98.drew | apply IsS98.set_1) | exact HI0.out), by repeat (first | (with_reducible first | exact HB.out | apply below_alloc | apply pw_below_drewN | apply below_drew1 | refine below_set ?_ (IsS98.ge HI0.out)) | exact HB.out), zq HK.out⟩
       ·rw [if_neg c21] at H; have c21b0 : (t208 == 1) = false := beq_eq_false_iff_ne.mpr c21; have c21b1 : (t208 != 1) = true := bne_iff_ne.mpr c21; simp only [Option.some.injEq, Prod.mk.injEq] at H; obtain ⟨rfl, rfl⟩ := H; go_wp2; go_ret; exact ⟨ze, by repeat (first | (with_reducible first | exact HI0.out | apply IsS98.alloc | apply IsS98.drewN | apply IsS98.drew | apply IsS98.set_1) | exact HI0.out), by repeat (first | (with_reducible first | exact HB.out | apply below_alloc | apply pw_below_drewN | apply below_drew1 | refine below_set ?_ (IsS98.ge HI0.out)) | exact HB.out), zq HK.out⟩
     ·rw [if_neg c12] at H; exact absurd H (by simp)
    ·rw [if_neg c11] at H; exact absurd H (by simp)
end Go.Proofs.Ytifgcajpkgamgaa.Q
end
section
namespace Go.Proofs.Ytifgcajpkgamgaa.Q
open Go.RowKit Go.Proofs.YtifgcajpkgamgaaW.PrintWords Go.Proofs.YtifgcajpkgamgaaW.PrintLast Go.Proofs.YtifgcajpkgamgaaW.PrintMore
attribute [local go_sem] max2_int min2_int max_two min_two max_three min_three max_four min_four   
set_option linter.unusedVariables false
set_option linter.unusedSimpArgs false
theorem spec_l2Put.mono_l : ∀ k, (∀ y0 y1 y2 y3 y4, LeO (spec_l2Put.l0 k y0 y1 y2 y3 y4) (spec_l2Put.l0 (k + 1) y0 y1 y2 y3 y4))
  | 0 => fun _ _ _ _ _ r h => by simp [spec_l2Put.l0] at h
  | k + 1 => by
    have ih0 := spec_l2Put.mono_l k
    · intro y0 y1 y2 y3 y4
      unfold spec_l2Put.l0
      repeat' first
      | (with_reducible exact ih0 _ _ _ _ _)
      | (with_reducible exact LeO.refl _)
      | (with_reducible exact LeO.none _)
      | (with_reducible refine LeO.ite ?_ ?_)
      | (with_reducible refine LeO.bind ?_ (fun _ => ?_))
      | exact ih0 _ _ _ _ _
      | exact LeO.none _
      | refine LeO.ite ?_ ?_
      | refine LeO.bind ?_ (fun _ => ?_)
theorem spec_l2Put.mono : ∀ a0 a1 k, LeO (spec_l2Put.f k a0 a1) (spec_l2Put.f (k + 1) a0 a1) := by
  intro a0 a1 k
  have ih0 := spec_l2Put.mono_l k
  unfold spec_l2Put.f
  repeat' first
      | (with_reducible exact ih0 _ _ _ _ _)
      | (with_reducible exact LeO.refl _)
      | (with_reducible exact LeO.none _)
      | (with_reducible refine LeO.ite ?_ ?_)
      | (with_reducible refine LeO.bind ?_ (fun _ => ?_))
      | exact ih0 _ _ _ _ _
      | exact LeO.none _
      | refine LeO.ite ?_ ?_
      | refine LeO.bind ?_ (fun _ => ?_)
set_option maxHeartbeats 8000000 in
set_option maxRecDepth 100000 in
theorem spec_l2Put.calls (k : Nat) (P0_ : Nat → Prop) (u9000_ : Value) (l0 : List ByteArray) (a1 : ByteArray) (r : List ByteArray) (w0 w : World) (hB : Below w0.heap.size w0 w) (ho0 : Kd.R Kd.string 9 w w0.heap.size P0_ u9000_ l0) (h : spec_l2Put.f k l0 a1 = some r) :
    Calls Try.prog 111 #[u9000_, .string a1] w fun e w' => ∃ v0_ : Value, e = .returned (v0_) ∧ Kd.R Kd.string 9 w' w0.heap.size (fun k_ => (P0_ k_ ∨ w.heap.size ≤ k_)) v0_ r ∧ Below w0.heap.size w0 w' ∧ Kept w w' (fun k_ => P0_ k_) := by
 have HO0 := z0 (show Kd.R Kd.string 9 w w0.heap.size (fun k_ => (P0_ k_ ∨ w.heap.size ≤ k_)) u9000_ l0 from Kd.R_mono ho0 (fun k_ hk => (.inl hk))); have HK := z0 (Kept.refl w (fun k_ => P0_ k_)); have HW0 := Aside0.mk hB.size; have HB := Aside0.mk hB; clear hB; have H : (spec_l2Put.l0 k l0 a1 (([] : List ByteArray)) false 0) = some r := h; clear h; obtain ⟨y217, hy217⟩ : ∃ y_ : List ByteArray, y_ = (([] : List ByteArray)) := ⟨_, rfl⟩
 replace H : (spec_l2Put.l0 k l0 a1 y217 false 0) = some r := by first | (rw [hy217]; with_reducible exact H) | (have H2_ := (Option.bind_some _ _).symm.trans H; rw [hy217]; with_reducible exact H2_) | (have H2_ := (Option.bind_some _ _).symm.trans H; with_reducible exact H2_) | with_reducible exact H | (rw [hy217]; exact H) | exact H
 have Ny217 := Aside0.mk hy217; clear hy217; have H' := Aside0.mk H; clear H; go_enter Try.func111, Try.ntmps111
 go_wp2_with (first | ((with_reducible refine gate_dst (N := 8) rfl ?_); refine Kd.R_lit Kd.string _ 9 ?hg (N := 8) ?hd (xs := ([] : List ByteArray)) (inner := []) (ok := fun _ => True) (okp := fun _ => True) ?hr ?hp (fun _ hk => hk) trivial (Below.refl _ _) (Nat.le_refl _) (by simp) ?_; (case hd => rfl); (case hg => rfl); (case hr => first | (go_simp; done) | (go_simp; rfl)); (case hp => exact (Reps.none _ _)); intro v218 w3 ho4 hb hg_ hnew_; clear hg_ hnew_; (first | rw [← Ny217.out] at ho4 | (simp only [Int.reduceToNat] at ho4; rw [← Ny217.out] at ho4)); have HO219 := z0 (Kd.R_lower (Kd.R_new' (Kd.R_newM (M := fun k_ => (P0_ k_ ∨ w.heap.size ≤ k_)) ho4 (by first | exact HK.out.1 | exact (show Kept w _ (fun k_ => P0_ k_) from zk HK.out).1) (fun k_ h_ => .inr h_)) (Kd.R_lt (zr HO0.out))) (below_size (zb HB.out))); replace HO0 := z0 (Kd.R_elder' (zr HO0.out) (Kd.R_base ho4) hb); replace HK := z0 (Kept.below (zk HK.out) hb); replace HB := zH HB hb; clear hb ho4))
 go_loopg [5, 6, 7] k (fun kq v5 v6 v7 w' => ∃ (x5_1 : List ByteArray) (x6_1 : Bool) (x7_1 : Int), v6 = .bool x6_1 ∧ v7 = .int .i64 x7_1 ∧ Aside0 (spec_l2Put.l0 kq l0 a1 x5_1 x6_1 x7_1 = some r) ∧ Aside0 (kq ≤ k) ∧ Aside0 (Kd.R Kd.string 9 w' w0.heap.size (fun k_ => (P0_ k_ ∨ w.heap.size ≤ k_) ∧ some k_ ≠ (v5 : Value).ownBlock) u9000_ l0) ∧ Aside0 (Kd.R Kd.string 9 w' w0.heap.size (fun k_ => (P0_ k_ ∨ w.heap.size ≤ k_) ∧ some k_ ≠ (u9000_ : Value).ownBlock) v5 x5_1) ∧ Aside0 (Kept w w' (fun k_ => P0_ k_)) ∧ Aside0 (Below w0.heap.size w0 w'))
 case atStart => exact ⟨(y217), (false), (0), zf, zf, H', ⟨Nat.le_refl _⟩, ⟨zr HO0.out⟩, ⟨Kd.R_mono (zr HO219.out) (fun _ hk => ⟨hk.1.1, hk.2⟩)⟩, ⟨zk HK.out⟩, ⟨zb HB.out⟩⟩
 case round =>
  clear H'
  try clear c1
  try clear p2
  obtain ⟨x5_1, x6_1, x7_1, rfl, rfl, HA, HK1, HO_0, HO_5, HK, HB⟩ := hrel
  cases gk with
  | zero => exact absurd HA.out (by simp [spec_l2Put.l0])
  | succ k1 =>
   have H := HA.out; clear HA; simp only [spec_l2Put.l0] at H
   by_cases c5 : x7_1 < (l0.length : Int)
   ·rw [if_pos c5] at H; have c5b0 : decide (x7_1 < (l0.length : Int)) = true := decide_eq_true c5; clear c5
    by_cases c6 : 0 ≤ x7_1
    ·rw [if_pos c6] at H; have c6b0 : decide (0 ≤ x7_1) = true := decide_eq_true c6; clear c6
     by_cases c7 : (rdOf ByteArray.empty l0 x7_1).toList = a1.toList
     ·rw [if_pos c7] at H; have c7b0 : ((rdOf ByteArray.empty l0 x7_1).toList == a1.toList) = true := beq_iff_eq.mpr c7; have c7b1 : ((rdOf ByteArray.empty l0 x7_1).toList != a1.toList) = false := bne_eq_false_iff_eq.mpr c7; clear c7; obtain rfl := Option.some.inj H; obtain ⟨Ao8, co8, eo8⟩ := Kd.R_slice HO_0.out; subst eo8; have p223 : 0 ≤ (x7_1 : Int) := zd; have q223 : x7_1 < (l0.length : Int) := zd; obtain ⟨ad223, e223, hx223_0⟩ := Kd.at_string (Kd.R_reads' HO_0.out).2.2 x7_1 p223 q223; cases e223; replace p223 := eq_true p223; replace q223 := eq_true q223; go_wp2; go_ret; exact ⟨_, ze, Kd.R_mono (zr HO_0.out) (fun _ hk => hk.1), zb HB.out, zk HK.out⟩
     ·rw [if_neg c7] at H; have c7b0 : ((rdOf ByteArray.empty l0 x7_1).toList == a1.toList) = false := beq_eq_false_iff_ne.mpr c7; have c7b1 : ((rdOf ByteArray.empty l0 x7_1).toList != a1.toList) = true := bne_iff_ne.mpr c7
      by_cases c9 : x6_1 = true
      ·subst c9
       have H1 : (if x5_1.length < 8796093022208 then (spec_l2Put.l0 k1 l0 a1 (x5_1 ++ [rdOf ByteArray.empty l0 x7_1]) true (wrap64 (x7_1 + 1))) else (none)) = some r := by rw [if_pos rfl] at H; exact H
       clear H; have H := H1; clear H1
       by_cases c10 : x5_1.length < 8796093022208
       ·rw [if_pos c10] at H; have LMc10 := Aside0.mk c10; clear c10; obtain ⟨y225, hy225⟩ : ∃ y_ : List ByteArray, y_ = (x5_1 ++ [rdOf ByteArray.empty l0 x7_1]) := ⟨_, rfl⟩
        replace H : (spec_l2Put.l0 k1 l0 a1 y225 true (wrap64 (x7_1 + 1))) = some r := by first | (rw [hy225]; with_reducible exact H) | (have H2_ := (Option.bind_some _ _).symm.trans H; rw [hy225]; with_reducible exact H2_) | (have H2_ := (Option.bind_some _ _).symm.trans H; with_reducible exact H2_) | with_reducible exact H | (rw [hy225]; exact H) | exact H
        have Ny225 := Aside0.mk hy225; clear hy225; have H' := Aside0.mk H; clear H; obtain ⟨Ao11, co11, eo11⟩ := Kd.R_slice HO_0.out; subst eo11; have p223 : 0 ≤ (x7_1 : Int) := zd; have q223 : x7_1 < (l0.length : Int) := zd; obtain ⟨ad223, e223, hx223_0⟩ := Kd.at_string (Kd.R_reads' HO_0.out).2.2 x7_1 p223 q223; cases e223; replace p223 := eq_true p223; replace q223 := eq_true q223; have p224 : 0 ≤ (x7_1 : Int) := zd; have q224 : x7_1 < (l0.length : Int) := zd; obtain ⟨ad224, e224, hx224_0⟩ := Kd.at_string (Kd.R_reads' HO_0.out).2.2 x7_1 p224 q224; obtain rfl : ad223 = ad224 := (by injection e224); replace p224 := eq_true p224; replace q224 := eq_true q224
        go_wp2_with (first | ((with_reducible refine gate_builtin (b := .append) (xs := #[.tmp 36, .tmp 41]) rfl ?_); at_builtin; refine Kd.R_append Kd.string (w0 := w0) w0.heap.size rfl (.tmp 36) (.tmp 41) 23 9 (.string ⟨#[]⟩) 16 rfl Try.underlying23 info9 rfl (by decide) (by omega) u5 x5_1 (rdOf ByteArray.empty l0 x7_1) [.string (rdOf ByteArray.empty l0 x7_1)] (fun k_ => (P0_ k_ ∨ w.heap.size ≤ k_) ∧ some k_ ≠ (.slice (some ad223) l0.length co11 : Value).ownBlock) (fun _ => False) rfl rfl ?aP (fun _ hk => hk.elim) ?aF ?aO ?aB ?aS ?aL ?_; (case aP => exact rfl); (case aB => exact (zb HB.out)); (case aF => exact (fun k_ hk => ⟨(.inr (Nat.le_trans (by first | exact HK.out.1 | exact (show Kept w _ (fun k_ => P0_ k_) from zk HK.out).1) hk)), Kd.fresh' (Kd.R_lt (zr HO_0.out)) k_ hk⟩)); (case aO => exact (zr HO_5.out)); (case aS => exact (below_size (zb HB.out))); (case aL => have := LMc10.out; omega); intro v226 w12 ho hb hg hat; rw [← Ny225.out] at ho; replace HO_0 := z0 (Kd.R_after (ok := (fun k_ => (P0_ k_ ∨ w.heap.size ≤ k_))) (zr HO_0.out) hg hat); replace HB := z0 (hb); replace HK := z0 (Kept.of_grown (S := (fun k_ => P0_ k_)) hg (zk HK.out) (fun k_ e_ => (HO_5.out.1 k_ e_).1)); have HO227 := z0 (ho); clear HO_5; clear ho hb hg hat))
        go_roundg k1
        case measure => have := HK1.out; omega
        case rel => exact ⟨(y225), (true), (wrap64 (x7_1 + 1)), zf, zf, H', ⟨by have := HK1.out; omega⟩, ⟨zr HO_0.out⟩, ⟨zr HO227.out⟩, ⟨zk HK.out⟩, ⟨zb HB.out⟩⟩
       ·rw [if_neg c10] at H; exact absurd H (by simp)
      ·replace c9 := Bool.eq_false_iff.mpr c9; subst c9
       have H1 : (if (Op.bytesLess a1.toList ((rdOf ByteArray.empty l0 x7_1).toList)) = true then (if x5_1.length < 8796093022208 then ((some (x5_1 ++ [a1] : List ByteArray)).bind fun y229 => (if y229.length < 8796093022208 then (spec_l2Put.l0 k1 l0 a1 (y229 ++ [rdOf ByteArray.empty l0 x7_1]) true (wrap64 (x7_1 + 1))) else (none))) else (none)) else (if x5_1.length < 8796093022208 then (spec_l2Put.l0 k1 l0 a1 (x5_1 ++ [rdOf ByteArray.empty l0 x7_1]) false (wrap64 (x7_1 + 1))) else (none))) = some r := by rw [if_neg (show ¬ (false = true) by decide)] at H; exact H
       clear H; have H := H1; clear H1
       by_cases c13 : (Op.bytesLess a1.toList ((rdOf ByteArray.empty l0 x7_1).toList)) = true
       ·rw [if_pos c13] at H; have c13b0 : (Op.bytesLess a1.toList ((rdOf ByteArray.empty l0 x7_1).toList)) = true := c13; clear c13
        by_cases c14 : x5_1.length < 8796093022208
        ·rw [if_pos c14] at H; have LMc14 := Aside0.mk c14; clear c14; obtain ⟨y229, hy229⟩ : ∃ y_ : List ByteArray, y_ = (x5_1 ++ [a1]) := ⟨_, rfl⟩
         replace H : (if y229.length < 8796093022208 then (spec_l2Put.l0 k1 l0 a1 (y229 ++ [rdOf ByteArray.empty l0 x7_1]) true (wrap64 (x7_1 + 1))) else (none)) = some r := by first | (rw [hy229]; with_reducible exact H) | (have H2_ := (Option.bind_some _ _).symm.trans H; rw [hy229]; with_reducible exact H2_) | (have H2_ := (Option.bind_some _ _).symm.trans H; with_reducible exact H2_) | with_reducible exact H | (rw [hy229]; exact H) | exact H
         have Ny229 := Aside0.mk hy229; clear hy229
         by_cases c15 : y229.length < 8796093022208
         ·rw [if_pos c15] at H; have LMc15 := Aside0.mk c15; clear c15; obtain ⟨y233, hy233⟩ : ∃ y_ : List ByteArray, y_ = (y229 ++ [rdOf ByteArray.empty l0 x7_1]) := ⟨_, rfl⟩
          replace H : (spec_l2Put.l0 k1 l0 a1 y233 true (wrap64 (x7_1 + 1))) = some r := by first | (rw [hy233]; with_reducible exact H) | (have H2_ := (Option.bind_some _ _).symm.trans H; rw [hy233]; with_reducible exact H2_) | (have H2_ := (Option.bind_some _ _).symm.trans H; with_reducible exact H2_) | with_reducible exact H | (rw [hy233]; exact H) | exact H
          have Ny233 := Aside0.mk hy233; clear hy233; have H' := Aside0.mk H; clear H; obtain ⟨Ao16, co16, eo16⟩ := Kd.R_slice HO_0.out; subst eo16; have p223 : 0 ≤ (x7_1 : Int) := zd; have q223 : x7_1 < (l0.length : Int) := zd; obtain ⟨ad223, e223, hx223_0⟩ := Kd.at_string (Kd.R_reads' HO_0.out).2.2 x7_1 p223 q223; cases e223; replace p223 := eq_true p223; replace q223 := eq_true q223; have p228 : 0 ≤ (x7_1 : Int) := zd; have q228 : x7_1 < (l0.length : Int) := zd; obtain ⟨ad228, e228, hx228_0⟩ := Kd.at_string (Kd.R_reads' HO_0.out).2.2 x7_1 p228 q228; obtain rfl : ad223 = ad228 := (by injection e228); replace p228 := eq_true p228; replace q228 := eq_true q228
          go_wp2_with (first | ((with_reducible refine gate_builtin (b := .append) (xs := #[.tmp 32, .tmp 34]) rfl ?_); at_builtin; refine Kd.R_append Kd.string (w0 := w0) w0.heap.size rfl (.tmp 32) (.tmp 34) 23 9 (.string ⟨#[]⟩) 16 rfl Try.underlying23 info9 rfl (by decide) (by omega) u5 x5_1 a1 [.string a1] (fun k_ => (P0_ k_ ∨ w.heap.size ≤ k_) ∧ some k_ ≠ (.slice (some ad223) l0.length co16 : Value).ownBlock) (fun _ => False) rfl rfl ?aP (fun _ hk => hk.elim) ?aF ?aO ?aB ?aS ?aL ?_; (case aP => exact rfl); (case aB => exact (zb HB.out)); (case aF => exact (fun k_ hk => ⟨(.inr (Nat.le_trans (by first | exact HK.out.1 | exact (show Kept w _ (fun k_ => P0_ k_) from zk HK.out).1) hk)), Kd.fresh' (Kd.R_lt (zr HO_0.out)) k_ hk⟩)); (case aO => exact (zr HO_5.out)); (case aS => exact (below_size (zb HB.out))); (case aL => have := LMc14.out; omega); intro v230 w17 ho hb hg hat; rw [← Ny229.out] at ho; replace HO_0 := z0 (Kd.R_after (ok := (fun k_ => (P0_ k_ ∨ w.heap.size ≤ k_))) (zr HO_0.out) hg hat); replace HB := z0 (hb); replace HK := z0 (Kept.of_grown (S := (fun k_ => P0_ k_)) hg (zk HK.out) (fun k_ e_ => (HO_5.out.1 k_ e_).1)); have HO231 := z0 (ho); clear HO_5; clear ho hb hg hat; have p232 : 0 ≤ (x7_1 : Int) := zd; have q232 : x7_1 < (l0.length : Int) := zd; obtain ⟨ad232, e232, hx232_0⟩ := Kd.at_string (Kd.R_reads' HO_0.out).2.2 x7_1 p232 q232; obtain rfl : ad223 = ad232 := (by injection e232); replace p232 := eq_true p232; replace q232 := eq_true q232) | ((with_reducible refine gate_builtin (b := .append) (xs := #[.tmp 36, .tmp 41]) rfl ?_); at_builtin; refine Kd.R_append Kd.string (w0 := w0) w0.heap.size rfl (.tmp 36) (.tmp 41) 23 9 (.string ⟨#[]⟩) 16 rfl Try.underlying23 info9 rfl (by decide) (by omega) v230 y229 (rdOf ByteArray.empty l0 x7_1) [.string (rdOf ByteArray.empty l0 x7_1)] (fun k_ => (P0_ k_ ∨ w.heap.size ≤ k_) ∧ some k_ ≠ (.slice (some ad223) l0.length co16 : Value).ownBlock) (fun _ => False) rfl rfl ?aP (fun _ hk => hk.elim) ?aF ?aO ?aB ?aS ?aL ?_; (case aP => exact rfl); (case aB => exact (zb HB.out)); (case aF => exact (fun k_ hk => ⟨(.inr (Nat.le_trans (by first | exact HK.out.1 | exact (show Kept w _ (fun k_ => P0_ k_) from zk HK.out).1) hk)), Kd.fresh' (Kd.R_lt (zr HO_0.out)) k_ hk⟩)); (case aO => exact (zr HO231.out)); (case aS => exact (below_size (zb HB.out))); (case aL => have := LMc15.out; omega); intro v234 w18 ho hb hg hat; rw [← Ny233.out] at ho; replace HO_0 := z0 (Kd.R_after (ok := (fun k_ => (P0_ k_ ∨ w.heap.size ≤ k_))) (zr HO_0.out) hg hat); replace HB := z0 (hb); replace HK := z0 (Kept.of_grown (S := (fun k_ => P0_ k_)) hg (zk HK.out) (fun k_ e_ => (HO231.out.1 k_ e_).1)); have HO235 := z0 (ho); clear HO231; clear ho hb hg hat))
          go_roundg k1
          case measure => have := HK1.out; omega
          case rel => exact ⟨(y233), (true), (wrap64 (x7_1 + 1)), zf, zf, H', ⟨by have := HK1.out; omega⟩, ⟨zr HO_0.out⟩, ⟨zr HO235.out⟩, ⟨zk HK.out⟩, ⟨zb HB.out⟩⟩
         ·rw [if_neg c15] at H; exact absurd H (by simp)
        ·rw [if_neg c14] at H; exact absurd H (by simp)
       ·rw [if_neg c13] at H
        have c13b0 : (Op.bytesLess a1.toList ((rdOf ByteArray.empty l0 x7_1).toList)) = false := by simpa using c13
        clear c13
        by_cases c19 : x5_1.length < 8796093022208
        ·rw [if_pos c19] at H; have LMc19 := Aside0.mk c19; clear c19; obtain ⟨y237, hy237⟩ : ∃ y_ : List ByteArray, y_ = (x5_1 ++ [rdOf ByteArray.empty l0 x7_1]) := ⟨_, rfl⟩
         replace H : (spec_l2Put.l0 k1 l0 a1 y237 false (wrap64 (x7_1 + 1))) = some r := by first | (rw [hy237]; with_reducible exact H) | (have H2_ := (Option.bind_some _ _).symm.trans H; rw [hy237]; with_reducible exact H2_) | (have H2_ := (Option.bind_some _ _).symm.trans H; with_reducible exact H2_) | with_reducible exact H | (rw [hy237]; exact H) | exact H
         have Ny237 := Aside0.mk hy237; clear hy237; have H' := Aside0.mk H; clear H; obtain ⟨Ao20, co20, eo20⟩ := Kd.R_slice HO_0.out; subst eo20; have p223 : 0 ≤ (x7_1 : Int) := zd; have q223 : x7_1 < (l0.length : Int) := zd; obtain ⟨ad223, e223, hx223_0⟩ := Kd.at_string (Kd.R_reads' HO_0.out).2.2 x7_1 p223 q223; cases e223; replace p223 := eq_true p223; replace q223 := eq_true q223; have p228 : 0 ≤ (x7_1 : Int) := zd; have q228 : x7_1 < (l0.length : Int) := zd; obtain ⟨ad228, e228, hx228_0⟩ := Kd.at_string (Kd.R_reads' HO_0.out).2.2 x7_1 p228 q228; obtain rfl : ad223 = ad228 := (by injection e228); replace p228 := eq_true p228; replace q228 := eq_true q228; have p236 : 0 ≤ (x7_1 : Int) := zd; have q236 : x7_1 < (l0.length : Int) := zd; obtain ⟨ad236, e236, hx236_0⟩ := Kd.at_string (Kd.R_reads' HO_0.out).2.2 x7_1 p236 q236; obtain rfl : ad223 = ad236 := (by injection e236); replace p236 := eq_true p236; replace q236 := eq_true q236
         go_wp2_with (first | ((with_reducible refine gate_builtin (b := .append) (xs := #[.tmp 36, .tmp 41]) rfl ?_); at_builtin; refine Kd.R_append Kd.string (w0 := w0) w0.heap.size rfl (.tmp 36) (.tmp 41) 23 9 (.string ⟨#[]⟩) 16 rfl Try.underlying23 info9 rfl (by decide) (by omega) u5 x5_1 (rdOf ByteArray.empty l0 x7_1) [.string (rdOf ByteArray.empty l0 x7_1)] (fun k_ => (P0_ k_ ∨ w.heap.size ≤ k_) ∧ some k_ ≠ (.slice (some ad223) l0.length co20 : Value).ownBlock) (fun _ => False) rfl rfl ?aP (fun _ hk => hk.elim) ?aF ?aO ?aB ?aS ?aL ?_; (case aP => exact rfl); (case aB => exact (zb HB.out)); (case aF => exact (fun k_ hk => ⟨(.inr (Nat.le_trans (by first | exact HK.out.1 | exact (show Kept w _ (fun k_ => P0_ k_) from zk HK.out).1) hk)), Kd.fresh' (Kd.R_lt (zr HO_0.out)) k_ hk⟩)); (case aO => exact (zr HO_5.out)); (case aS => exact (below_size (zb HB.out))); (case aL => have := LMc19.out; omega); intro v238 w21 ho hb hg hat; rw [← Ny237.out] at ho; replace HO_0 := z0 (Kd.R_after (ok := (fun k_ => (P0_ k_ ∨ w.heap.size ≤ k_))) (zr HO_0.out) hg hat); replace HB := z0 (hb); replace HK := z0 (Kept.of_grown (S := (fun k_ => P0_ k_)) hg (zk HK.out) (fun k_ e_ => (HO_5.out.1 k_ e_).1)); have HO239 := z0 (ho); clear HO_5; clear ho hb hg hat))
         go_roundg k1
         case measure => have := HK1.out; omega
         case rel => exact ⟨(y237), (false), (wrap64 (x7_1 + 1)), zf, zf, H', ⟨by have := HK1.out; omega⟩, ⟨zr HO_0.out⟩, ⟨zr HO239.out⟩, ⟨zk HK.out⟩, ⟨zb HB.out⟩⟩
        ·rw [if_neg c19] at H; exact absurd H (by simp)
    ·rw [if_neg c6] at H; exact absurd H (by simp)
   ·rw [if_neg c5] at H; have c5b0 : decide (x7_1 < (l0.length : Int)) = false := decide_eq_false c5; clear c5
    by_cases c22 : x6_1 = true
    ·subst c22
     have H1 : (some x5_1) = some r := by rw [if_pos rfl] at H; exact H
     clear H; have H := H1; clear H1; obtain rfl := Option.some.inj H; obtain ⟨Ao23, co23, eo23⟩ := Kd.R_slice HO_0.out; subst eo23; go_wp2; go_ret; exact ⟨_, ze, Kd.R_mono (zr HO_5.out) (fun _ hk => hk.1), zb HB.out, zk HK.out⟩
    ·replace c22 := Bool.eq_false_iff.mpr c22; subst c22
     have H1 : (if x5_1.length < 8796093022208 then (some (x5_1 ++ [a1])) else (none)) = some r := by rw [if_neg (show ¬ (false = true) by decide)] at H; exact H
     clear H; have H := H1; clear H1
     by_cases c24 : x5_1.length < 8796093022208
     ·rw [if_pos c24] at H; have LMc24 := Aside0.mk c24; clear c24; obtain ⟨y220, hy220⟩ : ∃ y_ : List ByteArray, y_ = (x5_1 ++ [a1]) := ⟨_, rfl⟩
      replace H : (some y220) = some r := by first | (rw [hy220]; with_reducible exact H) | (have H2_ := (Option.bind_some _ _).symm.trans H; rw [hy220]; with_reducible exact H2_) | (have H2_ := (Option.bind_some _ _).symm.trans H; with_reducible exact H2_) | with_reducible exact H | (rw [hy220]; exact H) | exact H
      have Ny220 := Aside0.mk hy220; clear hy220; obtain rfl := Option.some.inj H; obtain ⟨Ao25, co25, eo25⟩ := Kd.R_slice HO_0.out; subst eo25
      go_wp2_with (first | ((with_reducible refine gate_builtin (b := .append) (xs := #[.tmp 45, .tmp 47]) rfl ?_); at_builtin; refine Kd.R_append Kd.string (w0 := w0) w0.heap.size rfl (.tmp 45) (.tmp 47) 23 9 (.string ⟨#[]⟩) 16 rfl Try.underlying23 info9 rfl (by decide) (by omega) u5 x5_1 a1 [.string a1] (fun k_ => (P0_ k_ ∨ w.heap.size ≤ k_) ∧ some k_ ≠ (.slice Ao25 l0.length co25 : Value).ownBlock) (fun _ => False) rfl rfl ?aP (fun _ hk => hk.elim) ?aF ?aO ?aB ?aS ?aL ?_; (case aP => exact rfl); (case aB => exact (zb HB.out)); (case aF => exact (fun k_ hk => ⟨(.inr (Nat.le_trans (by first | exact HK.out.1 | exact (show Kept w _ (fun k_ => P0_ k_) from zk HK.out).1) hk)), Kd.fresh' (Kd.R_lt (zr HO_0.out)) k_ hk⟩)); (case aO => exact (zr HO_5.out)); (case aS => exact (below_size (zb HB.out))); (case aL => have := LMc24.out; omega); intro v221 w26 ho hb hg hat; rw [← Ny220.out] at ho; replace HO_0 := z0 (Kd.R_after (ok := (fun k_ => (P0_ k_ ∨ w.heap.size ≤ k_))) (zr HO_0.out) hg hat); replace HB := z0 (hb); replace HK := z0 (Kept.of_grown (S := (fun k_ => P0_ k_)) hg (zk HK.out) (fun k_ e_ => (HO_5.out.1 k_ e_).1)); have HO222 := z0 (ho); clear HO_5; clear ho hb hg hat))
      go_ret; exact ⟨_, ze, Kd.R_mono (zr HO222.out) (fun _ hk => hk.1), zb HB.out, zk HK.out⟩
     ·rw [if_neg c24] at H; exact absurd H (by simp)
end Go.Proofs.Ytifgcajpkgamgaa.Q
end
section
namespace Go.Proofs.Ytifgcajpkgamgaa.Q
open Go.RowKit Go.Proofs.YtifgcajpkgamgaaW.PrintWords Go.Proofs.YtifgcajpkgamgaaW.PrintLast Go.Proofs.YtifgcajpkgamgaaW.PrintMore
attribute [local go_sem] max2_int min2_int max_two min_two max_three min_three max_four min_four   
set_option linter.unusedVariables false
set_option linter.unusedSimpArgs false
theorem spec_l71Keys.mono_l : ∀ k, (∀ y0 y1 y2 y3, LeO (spec_l71Keys.l0 k y0 y1 y2 y3) (spec_l71Keys.l0 (k + 1) y0 y1 y2 y3))
  | 0 => fun _ _ _ _ r h => by simp [spec_l71Keys.l0] at h
  | k + 1 => by
    have ih0 := spec_l71Keys.mono_l k
    · intro y0 y1 y2 y3
      unfold spec_l71Keys.l0
      repeat' first
      | (with_reducible exact ih0 _ _ _ _)
      | (with_reducible exact spec_l2Put.mono _ _ _)
      | (with_reducible exact spec_l6Rd_pick.mono _ _ _ _)
      | (with_reducible exact spec_l71Near.mono _ _ _ _)
      | (with_reducible exact LeO.refl _)
      | (with_reducible exact LeO.none _)
      | (with_reducible refine LeO.ite ?_ ?_)
      | (with_reducible refine LeO.bind ?_ (fun _ => ?_))
      | exact ih0 _ _ _ _
      | exact spec_l2Put.mono _ _ _
      | exact spec_l6Rd_pick.mono _ _ _ _
      | exact spec_l71Near.mono _ _ _ _
      | exact LeO.none _
      | refine LeO.ite ?_ ?_
      | refine LeO.bind ?_ (fun _ => ?_)
theorem spec_l71Keys.mono : ∀ a0 a1 a2 k, LeO (spec_l71Keys.f k a0 a1 a2) (spec_l71Keys.f (k + 1) a0 a1 a2) := by
  intro a0 a1 a2 k
  have ih0 := spec_l71Keys.mono_l k
  unfold spec_l71Keys.f
  repeat' first
      | (with_reducible exact ih0 _ _ _ _)
      | (with_reducible exact spec_l2Put.mono _ _ _)
      | (with_reducible exact spec_l6Rd_pick.mono _ _ _ _)
      | (with_reducible exact spec_l71Near.mono _ _ _ _)
      | (with_reducible exact LeO.refl _)
      | (with_reducible exact LeO.none _)
      | (with_reducible refine LeO.ite ?_ ?_)
      | (with_reducible refine LeO.bind ?_ (fun _ => ?_))
      | exact ih0 _ _ _ _
      | exact spec_l2Put.mono _ _ _
      | exact spec_l6Rd_pick.mono _ _ _ _
      | exact spec_l71Near.mono _ _ _ _
      | exact LeO.none _
      | refine LeO.ite ?_ ?_
      | refine LeO.bind ?_ (fun _ => ?_)
set_option maxHeartbeats 8000000 in
set_option maxRecDepth 100000 in
theorem spec_l71Keys.calls (k : Nat) (g : Nat) (s0_0 : List Int) (s0_1 : Int) (a1 : Int) (r1 : List ByteArray) (r2 : Int) (w0 w : World) (hI : IsS98 w0 w g s0_0 s0_1) (hB : Below w0.heap.size w0 w) (h : spec_l71Keys.f k s0_0 s0_1 a1 = some (r1, r2)) :
    Calls Try.prog 77 #[.pointer (some ⟨g, 0, none⟩), .int .i64 a1] w fun e w' => ∃ v0_ : Value, e = .returned (v0_) ∧ Kd.R Kd.string 9 w' w.heap.size (fun _ => True) v0_ r1 ∧ IsS98 w0 w' g s0_0 r2 ∧ Below w0.heap.size w0 w' ∧ KeepBut w w' g none := by
 have HI0 := Aside0.mk hI; have HK := z0 (KeepBut.refl w g none); have HL := Aside0.mk hB.size; clear hI; have HW0 := Aside0.mk hB.size; have HB := Aside0.mk hB; clear hB; have H : ((spec_l6Rd_pick.f k s0_0 s0_1 (wrap64 (a1 + 1))).bind fun bt243 => (spec_l71Keys.l0 k (([] : List ByteArray)) bt243.1 s0_0 bt243.2)) = some (r1, r2) := h; clear h; obtain ⟨y240, hy240⟩ : ∃ y_ : List ByteArray, y_ = (([] : List ByteArray)) := ⟨_, rfl⟩
 replace H : ((spec_l6Rd_pick.f k s0_0 s0_1 (wrap64 (a1 + 1))).bind fun bt243 => (spec_l71Keys.l0 k y240 bt243.1 s0_0 bt243.2)) = some (r1, r2) := by first | (rw [hy240]; with_reducible exact H) | (have H2_ := (Option.bind_some _ _).symm.trans H; rw [hy240]; with_reducible exact H2_) | (have H2_ := (Option.bind_some _ _).symm.trans H; with_reducible exact H2_) | with_reducible exact H | (rw [hy240]; exact H) | exact H
 have Ny240 := Aside0.mk hy240; clear hy240; replace H := zi H; obtain ⟨⟨t243, t244⟩, A3, H⟩ := H; (try dsimp only at H); have H' := Aside0.mk H; clear H; go_enter Try.func77, Try.ntmps77
 go_wp2_with (first | ((with_reducible refine gate_dst (N := 7) rfl ?_); refine Kd.R_lit Kd.string _ 9 ?hg (N := 7) ?hd (xs := ([] : List ByteArray)) (inner := []) (ok := fun _ => True) (okp := fun _ => True) ?hr ?hp (fun _ hk => hk) trivial (Below.refl _ _) (Nat.le_refl _) (by simp) ?_; (case hd => rfl); (case hg => rfl); (case hr => first | (go_simp; done) | (go_simp; rfl)); (case hp => exact (Reps.none _ _)); intro v241 w4 ho5 hb hg_ hnew_; clear hg_ hnew_; (first | rw [← Ny240.out] at ho5 | (simp only [Int.reduceToNat] at ho5; rw [← Ny240.out] at ho5)); have HO242 := z0 (Kd.R_lower ho5 (keep_size (w := w) (g := g) (row := none) (zq HK.out))); replace HK := z0 (KeepBut.trans (zq HK.out) (KeepBut.of_below hb g none) (.inl rfl)); replace HB := z0 (below_step (by repeat (first | (with_reducible first | exact HB.out | apply below_alloc | apply pw_below_drewN | apply below_drew1 | refine below_set ?_ (IsS98.ge HI0.out)) | exact HB.out)) hb); replace HI0 := z0 (IsS98.below (by repeat (first | (with_reducible first | exact HI0.out | apply IsS98.alloc | apply IsS98.drewN | apply IsS98.drew | apply IsS98.set_1) | exact HI0.out)) hb); clear hb ho5) | ((with_reducible refine gate_callee (f := 78) rfl ?_); refine goesL_ (some 11) rfl rfl Try.func78 (by kernel_rfl) rfl #[.pointer (some ⟨g, 0, none⟩), .int .i64 (wrap64 (a1 + 1))] rfl zo ?_; (with_reducible refine (spec_l6Rd_pick.calls k g s0_0 s0_1 (wrap64 (a1 + 1)) t243 t244 w0 _ ?side1 ?side2 A3.out).mono ?_); (case side1 => repeat (first | (with_reducible first | exact HI0.out | apply IsS98.alloc | apply IsS98.drewN | apply IsS98.drew | apply IsS98.set_1) | exact HI0.out)); (case side2 => repeat (first | (with_reducible first | exact HB.out | apply below_alloc | apply pw_below_drewN | apply below_drew1 | refine below_set ?_ (IsS98.ge HI0.out)) | exact HB.out)); rintro e w6 ⟨rfl, hi, hb, hk⟩; refine zv ?_; replace HO242 := z0 (Kd.R_mono (Kd.R_keep (IsS98.apart (show IsS98 w0 _ g s0_0 s0_1 from by repeat (first | (with_reducible first | exact HI0.out | apply IsS98.alloc | apply IsS98.drewN | apply IsS98.drew | apply IsS98.set_1) | exact HI0.out)) (zr HO242.out) (by decide)) hk (fun _ h => h.2)) (fun _ h => h.1)); replace HK := z0 (KeepBut.trans (zq HK.out) hk (.inl rfl)); replace HB := z0 (hb); replace HI0 := z0 (hi); (try clear hb hk hi)))
 go_loopg [5, 6] k (fun kq v5 v6 w' => ∃ (x5_1 : List ByteArray) (x6_1 : Int) (x1001_1 : Int), v6 = .int .i64 x6_1 ∧ Aside0 (spec_l71Keys.l0 kq x5_1 x6_1 s0_0 x1001_1 = some (r1, r2)) ∧ Aside0 (kq ≤ k) ∧ Aside0 (Kd.R Kd.string 9 w' w.heap.size (fun _ => True) v5 x5_1) ∧ Aside0 (IsS98 w0 w' g s0_0 x1001_1) ∧ Aside0 (KeepBut w w' g none) ∧ Aside0 (Below w0.heap.size w0 w'))
 case atStart => exact ⟨(y240), (t243), (t244), zf, H', ⟨Nat.le_refl _⟩, ⟨zr HO242.out⟩, ⟨by repeat (first | (with_reducible first | exact HI0.out | apply IsS98.alloc | apply IsS98.drewN | apply IsS98.drew | apply IsS98.set_1) | exact HI0.out)⟩, ⟨zq HK.out⟩, ⟨by repeat (first | (with_reducible first | exact HB.out | apply below_alloc | apply pw_below_drewN | apply below_drew1 | refine below_set ?_ (IsS98.ge HI0.out)) | exact HB.out)⟩⟩
 case round =>
  clear H'
  try clear p2
  try clear p6
  obtain ⟨x5_1, x6_1, x1001_1, rfl, HA, HK1, HO_5, HI0, HK, HB⟩ := hrel
  cases gk with
  | zero => exact absurd HA.out (by simp [spec_l71Keys.l0])
  | succ k1 =>
   have H := HA.out; clear HA; simp only [spec_l71Keys.l0] at H
   by_cases c7 : x6_1 > 0
   ·rw [if_pos c7] at H; have c7b0 : decide (0 < x6_1) = true := decide_eq_true c7; clear c7; replace H := zi H; obtain ⟨⟨t245, t246⟩, A8, H⟩ := H; (try dsimp only at H); replace H := zi H; obtain ⟨t247, A9, H⟩ := H; have H' := Aside0.mk H; clear H; obtain ⟨Ao10, co10, eo10⟩ := Kd.R_slice HO_5.out; subst eo10
    go_wp2_with (first | ((with_reducible refine gate_callee (f := 66) rfl ?_); refine goesL_ (some 19) rfl rfl Try.func66 (by kernel_rfl) rfl #[.pointer (some ⟨g, 0, none⟩), .slice Ao10 x5_1.length co10] rfl zo ?_; (with_reducible refine (spec_l71Near.calls k1 g s0_0 x1001_1 _ _ x5_1 t245 t246 w0 _ ?side1 ?side2 (zC ((Kd.R_reads' HO_5.out).2.2)) ((Kd.R_reads' HO_5.out).2.1) (far_slice (IsS98.own_ne HI0.out HO_5.out (by decide))) A8.out).mono ?_); (case side1 => repeat (first | (with_reducible first | exact HI0.out | apply IsS98.alloc | apply IsS98.drewN | apply IsS98.drew | apply IsS98.set_1) | exact HI0.out)); (case side2 => repeat (first | (with_reducible first | exact HB.out | apply below_alloc | apply pw_below_drewN | apply below_drew1 | refine below_set ?_ (IsS98.ge HI0.out)) | exact HB.out)); rintro e w11 ⟨rfl, hi, hb, hk⟩; refine zv ?_; replace HO_5 := z0 (Kd.R_mono (Kd.R_keep (IsS98.apart (show IsS98 w0 _ g s0_0 x1001_1 from by repeat (first | (with_reducible first | exact HI0.out | apply IsS98.alloc | apply IsS98.drewN | apply IsS98.drew | apply IsS98.set_1) | exact HI0.out)) (zr HO_5.out) (by decide)) hk (fun _ h => h.2)) (fun _ h => h.1)); replace HK := z0 (KeepBut.trans (zq HK.out) hk (.inl rfl)); replace HB := z0 (hb); replace HI0 := z0 (hi); (try clear hb hk hi)) | ((with_reducible refine gate_callee (f := 111) rfl ?_); refine goesL_ (some 20) rfl rfl Try.func111 (by kernel_rfl) rfl #[.slice Ao10 x5_1.length co10, .string t245] rfl zo ?_; (with_reducible refine (spec_l2Put.calls k1 (fun k_ => some k_ = (.slice Ao10 x5_1.length co10 : Value).ownBlock) (.slice Ao10 x5_1.length co10) x5_1 t245 t247 w0 _ ?side1 (Kd.R_lower (Kd.R_tight rfl HO_5.out) HL.out) A9.out).mono ?_); (case side1 => repeat (first | (with_reducible first | exact HB.out | apply below_alloc | apply pw_below_drewN | apply below_drew1 | refine below_set ?_ (IsS98.ge HI0.out)) | exact HB.out)); rintro e w12 ⟨v248, rfl, ho0, hb, hkp⟩; refine zv ?_; replace HI0 := z0 (IsS98.kept (by repeat (first | (with_reducible first | exact HI0.out | apply IsS98.alloc | apply IsS98.drewN | apply IsS98.drew | apply IsS98.set_1) | exact HI0.out)) hkp (fun hs_ => (fun e_ => (IsS98.own_ne HI0.out HO_5.out (by decide)) e_) hs_)); have HO249 := z0 (Kd.R_mono (ok' := fun k_ => True) (Kd.R_raise (d := Kd.string) (b := w0.heap.size) (b' := w.heap.size) (fun _ _ _ _ h_ => h_) ho0 (fun k_ e_ => Or.elim (ho0.1 k_ e_) (fun hs_ => (fun e_ => Kd.R_base HO_5.out k_ e_.symm) hs_) (fun hn_ => Nat.le_trans (keep_size (w := w) (g := g) (row := none) (zq HK.out)) hn_))) (fun k_ hk_ => trivial)); replace HK := z0 (Kept.keepG (zq HK.out) hkp (fun k_ hs_ => (fun e_ => .inr (Kd.R_base HO_5.out k_ e_.symm)) hs_)); replace HB := z0 (hb); clear HO_5; (try clear hb); (try clear hkp); (try clear ho0)))
    go_roundg k1
    case measure => have := HK1.out; omega
    case rel => exact ⟨(t247), (wrap64 (x6_1 - 1)), (t246), zf, H', ⟨by have := HK1.out; omega⟩, ⟨zr HO249.out⟩, ⟨by repeat (first | (with_reducible first | exact HI0.out | apply IsS98.alloc | apply IsS98.drewN | apply IsS98.drew | apply IsS98.set_1) | exact HI0.out)⟩, ⟨zq HK.out⟩, ⟨by repeat (first | (with_reducible first | exact HB.out | apply below_alloc | apply pw_below_drewN | apply below_drew1 | refine below_set ?_ (IsS98.ge HI0.out)) | exact HB.out)⟩⟩
   ·rw [if_neg c7] at H; have c7b0 : decide (0 < x6_1) = false := decide_eq_false c7; clear c7; simp only [Option.some.injEq, Prod.mk.injEq] at H; obtain ⟨rfl, rfl⟩ := H; go_wp2; go_ret; exact ⟨_, ze, zr HO_5.out, by repeat (first | (with_reducible first | exact HI0.out | apply IsS98.alloc | apply IsS98.drewN | apply IsS98.drew | apply IsS98.set_1) | exact HI0.out), by repeat (first | (with_reducible first | exact HB.out | apply below_alloc | apply pw_below_drewN | apply below_drew1 | refine below_set ?_ (IsS98.ge HI0.out)) | exact HB.out), zq HK.out⟩
end Go.Proofs.Ytifgcajpkgamgaa.Q
end
section
namespace Go.Proofs.Ytifgcajpkgamgaa.Q
open Go.RowKit Go.Proofs.YtifgcajpkgamgaaW.PrintWords Go.Proofs.YtifgcajpkgamgaaW.PrintLast Go.Proofs.YtifgcajpkgamgaaW.PrintMore
attribute [local go_sem] max2_int min2_int max_two min_two max_three min_three max_four min_four   
set_option linter.unusedVariables false
set_option linter.unusedSimpArgs false
theorem spec_l6Many.mono_l : ∀ k, (∀ y0 y1 y2, LeO (spec_l6Many.l0 k y0 y1 y2) (spec_l6Many.l0 (k + 1) y0 y1 y2))
  | 0 => fun _ _ _ r h => by simp [spec_l6Many.l0] at h
  | k + 1 => by
    have ih0 := spec_l6Many.mono_l k
    · intro y0 y1 y2
      unfold spec_l6Many.l0
      repeat' first
      | (with_reducible exact ih0 _ _ _)
      | (with_reducible exact LeO.refl _)
      | (with_reducible exact LeO.none _)
      | (with_reducible refine LeO.ite ?_ ?_)
      | (with_reducible refine LeO.bind ?_ (fun _ => ?_))
      | exact ih0 _ _ _
      | exact LeO.none _
      | refine LeO.ite ?_ ?_
      | refine LeO.bind ?_ (fun _ => ?_)
theorem spec_l6Many.mono : ∀ a0 a1 k, LeO (spec_l6Many.f k a0 a1) (spec_l6Many.f (k + 1) a0 a1) := by
  intro a0 a1 k
  have ih0 := spec_l6Many.mono_l k
  unfold spec_l6Many.f
  repeat' first
      | (with_reducible exact ih0 _ _ _)
      | (with_reducible exact LeO.refl _)
      | (with_reducible exact LeO.none _)
      | (with_reducible refine LeO.ite ?_ ?_)
      | (with_reducible refine LeO.bind ?_ (fun _ => ?_))
      | exact ih0 _ _ _
      | exact LeO.none _
      | refine LeO.ite ?_ ?_
      | refine LeO.bind ?_ (fun _ => ?_)
set_option maxHeartbeats 8000000 in
set_option maxRecDepth 100000 in
theorem spec_l6Many.calls (k : Nat) (a0 : ByteArray) (a1 : Int) (r : ByteArray) (w : World) (h : spec_l6Many.f k a0 a1 = some r) :
    Calls Try.prog 112 #[.string a0, .int .i64 a1] w fun e w' => e = .returned (.string r) ∧ Drawn0 w w' := by
 have H : (spec_l6Many.l0 k a0 a1 (⟨#[]⟩ : ByteArray)) = some r := h; clear h; have H' := Aside0.mk H; clear H; go_enter Try.func112, Try.ntmps112; go_wp2
 go_loopg [0, 1, 5] k (fun kq v0 v1 v5 w' => ∃ (x0_1 : ByteArray) (x1_1 : Int) (x5_1 : ByteArray), v0 = .string x0_1 ∧ v1 = .int .i64 x1_1 ∧ v5 = .string x5_1 ∧ Aside0 (spec_l6Many.l0 kq x0_1 x1_1 x5_1 = some r) ∧ Aside0 (kq ≤ k) ∧ Drawn0 w w')
 case atStart => exact ⟨(a0), (a1), ((⟨#[]⟩ : ByteArray)), zf, zf, zf, H', ⟨Nat.le_refl _⟩, by repeat (first | exact Drawn0.refl _ | apply Drawn0.step)⟩
 case round =>
  clear H'
  try clear c1
  try clear p2
  obtain ⟨x0_1, x1_1, x5_1, rfl, rfl, rfl, HA, HK1, ⟨m1, rfl⟩⟩ := hrel
  cases gk with
  | zero => exact absurd HA.out (by simp [spec_l6Many.l0])
  | succ k1 =>
   have H := HA.out; clear HA; simp only [spec_l6Many.l0] at H
   by_cases c3 : x1_1 > 0
   ·rw [if_pos c3] at H; have c3b0 : decide (0 < x1_1) = true := decide_eq_true c3; clear c3
    by_cases c4 : (Int.tmod x1_1 2) = 1
    ·rw [if_pos c4] at H; have c4b0 : ((Int.tmod x1_1 2) == 1) = true := beq_iff_eq.mpr c4; have c4b1 : ((Int.tmod x1_1 2) != 1) = false := bne_eq_false_iff_eq.mpr c4; clear c4
     by_cases c5 : x5_1.size + x0_1.size ≤ 9223372036854775807
     ·rw [if_pos c5] at H; have c5b0 := eq_true c5; have c5b1 : decide (x5_1.size + x0_1.size ≤ 9223372036854775807) = true := decide_eq_true c5
      try have c5b2 : (9223372036854775807 < x5_1.size + x0_1.size) = False := eq_false (Nat.not_lt.2 c5)
      by_cases c6 : x0_1.size + x0_1.size ≤ 9223372036854775807
      ·rw [if_pos c6] at H; have c6b0 := eq_true c6; have c6b1 : decide (x0_1.size + x0_1.size ≤ 9223372036854775807) = true := decide_eq_true c6
       try have c6b2 : (9223372036854775807 < x0_1.size + x0_1.size) = False := eq_false (Nat.not_lt.2 c6)
       have H' := Aside0.mk H; clear H; go_wp2; go_roundg k1
       case measure => have := HK1.out; omega
       case rel => exact ⟨(x0_1 ++ x0_1), (wrap64 (Int.tdiv x1_1 2)), (x5_1 ++ x0_1), zf, zf, zf, H', ⟨by have := HK1.out; omega⟩, by repeat (first | exact Drawn0.refl _ | apply Drawn0.step)⟩
      ·rw [if_neg c6] at H; exact absurd H (by simp)
     ·rw [if_neg c5] at H; exact absurd H (by simp)
    ·rw [if_neg c4] at H; have c4b0 : ((Int.tmod x1_1 2) == 1) = false := beq_eq_false_iff_ne.mpr c4; have c4b1 : ((Int.tmod x1_1 2) != 1) = true := bne_iff_ne.mpr c4
     by_cases c7 : x0_1.size + x0_1.size ≤ 9223372036854775807
     ·rw [if_pos c7] at H; have c7b0 := eq_true c7; have c7b1 : decide (x0_1.size + x0_1.size ≤ 9223372036854775807) = true := decide_eq_true c7
      try have c7b2 : (9223372036854775807 < x0_1.size + x0_1.size) = False := eq_false (Nat.not_lt.2 c7)
      have H' := Aside0.mk H; clear H; go_wp2; go_roundg k1
      case measure => have := HK1.out; omega
      case rel => exact ⟨(x0_1 ++ x0_1), (wrap64 (Int.tdiv x1_1 2)), (x5_1), zf, zf, zf, H', ⟨by have := HK1.out; omega⟩, by repeat (first | exact Drawn0.refl _ | apply Drawn0.step)⟩
     ·rw [if_neg c7] at H; exact absurd H (by simp)
   ·rw [if_neg c3] at H; have c3b0 : decide (0 < x1_1) = false := decide_eq_false c3; clear c3; obtain rfl := Option.some.inj H; go_wp2; go_ret; exact ⟨zf, by repeat (first | exact Drawn0.refl _ | apply Drawn0.step)⟩
end Go.Proofs.Ytifgcajpkgamgaa.Q
end
section
namespace Go.Proofs.Ytifgcajpkgamgaa.Q
open Go.RowKit Go.Proofs.YtifgcajpkgamgaaW.PrintWords Go.Proofs.YtifgcajpkgamgaaW.PrintLast Go.Proofs.YtifgcajpkgamgaaW.PrintMore
attribute [local go_sem] max2_int min2_int max_two min_two max_three min_three max_four min_four   
set_option linter.unusedVariables false
set_option linter.unusedSimpArgs false
theorem spec_l71Mess.mono_l : ∀ k, (∀ y0 y1 y2 y3, LeO (spec_l71Mess.l0 k y0 y1 y2 y3) (spec_l71Mess.l0 (k + 1) y0 y1 y2 y3))
  | 0 => fun _ _ _ _ r h => by simp [spec_l71Mess.l0] at h
  | k + 1 => by
    have ih0 := spec_l71Mess.mono_l k
    · intro y0 y1 y2 y3
      unfold spec_l71Mess.l0
      repeat' first
      | (with_reducible exact ih0 _ _ _ _)
      | (with_reducible exact spec_l2Put.mono _ _ _)
      | (with_reducible exact spec_l6Many.mono _ _ _)
      | (with_reducible exact spec_l6Rd_pick.mono _ _ _ _)
      | (with_reducible exact spec_l71Keys.mono _ _ _ _)
      | (with_reducible exact LeO.refl _)
      | (with_reducible exact LeO.none _)
      | (with_reducible refine LeO.ite ?_ ?_)
      | (with_reducible refine LeO.bind ?_ (fun _ => ?_))
      | exact ih0 _ _ _ _
      | exact spec_l2Put.mono _ _ _
      | exact spec_l6Many.mono _ _ _
      | exact spec_l6Rd_pick.mono _ _ _ _
      | exact spec_l71Keys.mono _ _ _ _
      | exact LeO.none _
      | refine LeO.ite ?_ ?_
      | refine LeO.bind ?_ (fun _ => ?_)
theorem spec_l71Mess.mono : ∀ a0 a1 k, LeO (spec_l71Mess.f k a0 a1) (spec_l71Mess.f (k + 1) a0 a1) := by
  intro a0 a1 k
  have ih0 := spec_l71Mess.mono_l k
  unfold spec_l71Mess.f
  repeat' first
      | (with_reducible exact ih0 _ _ _ _)
      | (with_reducible exact spec_l2Put.mono _ _ _)
      | (with_reducible exact spec_l6Many.mono _ _ _)
      | (with_reducible exact spec_l6Rd_pick.mono _ _ _ _)
      | (with_reducible exact spec_l71Keys.mono _ _ _ _)
      | (with_reducible exact LeO.refl _)
      | (with_reducible exact LeO.none _)
      | (with_reducible refine LeO.ite ?_ ?_)
      | (with_reducible refine LeO.bind ?_ (fun _ => ?_))
      | exact ih0 _ _ _ _
      | exact spec_l2Put.mono _ _ _
      | exact spec_l6Many.mono _ _ _
      | exact spec_l6Rd_pick.mono _ _ _ _
      | exact spec_l71Keys.mono _ _ _ _
      | exact LeO.none _
      | refine LeO.ite ?_ ?_
      | refine LeO.bind ?_ (fun _ => ?_)
def spec_l71Mess.T13 : Bool × List (List Nat × List Nat) := (true, [([], []), ([], []), ([], []), ([2], [2]), ([1, 3], [1, 3]), ([4], [4]), ([5], [5]), ([], []), ([], []), ([8], [8]), ([7, 9], [7, 9]), ([10], [10]), ([6, 11], [6, 11]), ([0, 12], [0, 12]), ([13, 13, 0, 1, 2, 3, 4, 5, 6, 7, 8, 9, 10, 11, 12, 13], [0, 13])])
def spec_l71Mess.B13 : List Nat := [0, 0, 0, 4, 14, 30, 62, 0, 0, 256, 896, 1920, 4094, 8191, 16383]
theorem spec_l71Mess.tab13 : rtab .any (opsOf Try.f79 13) = spec_l71Mess.T13 := by kernel_rfl
theorem spec_l71Mess.bits13 : waitsOk spec_l71Mess.T13.2 spec_l71Mess.B13 = true := by kernel_rfl
set_option maxHeartbeats 8000000 in
set_option maxRecDepth 100000 in
theorem spec_l71Mess.calls (k : Nat) (g : Nat) (s0_0 : List Int) (s0_1 : Int) (r1 : List ByteArray) (r2 : Int) (w0 w : World) (hI : IsS98 w0 w g s0_0 s0_1) (hB : Below w0.heap.size w0 w) (h : spec_l71Mess.f k s0_0 s0_1 = some (r1, r2)) :
    Calls Try.prog 79 #[.pointer (some ⟨g, 0, none⟩)] w fun e w' => ∃ v0_ : Value, e = .returned (v0_) ∧ Kd.R Kd.string 9 w' w.heap.size (fun _ => True) v0_ r1 ∧ IsS98 w0 w' g s0_0 r2 ∧ Below w0.heap.size w0 w' ∧ KeepBut w w' g none := by
 have HI0 := Aside0.mk hI; have HK := z0 (KeepBut.refl w g none); have HL := Aside0.mk hB.size; clear hI; have HW0 := Aside0.mk hB.size; have HB := Aside0.mk hB; clear hB; have H : ((spec_l71Keys.f k s0_0 s0_1 8).bind fun bt526 => ((spec_l6Rd_pick.f k s0_0 bt526.2 5).bind fun bt530 => (if bt530.1 = 0 then (if bt526.1.length < 8796093022208 then (some ((bt526.1 ++ [(⟨#[97]⟩ : ByteArray)]), bt530.2)) else (none)) else (if bt530.1 = 1 then ((some (([(⟨#[120]⟩ : ByteArray), (⟨#[101]⟩ : ByteArray)] : List ByteArray) : List ByteArray)).bind fun y535 => (if bt526.1.length + y535.length < 8796093022208 then (some ((bt526.1 ++ y535), bt530.2)) else (none))) else (if bt530.1 = 2 then ((spec_l6Rd_pick.f k s0_0 bt530.2 2).bind fun bt541 => ((spec_l6Many.f k (⟨#[100]⟩ : ByteArray) (wrap64 (5 + bt541.1))).bind fun t543 => (if bt526.1.length < 8796093022208 then (some ((bt526.1 ++ [t543]), bt541.2)) else (none)))) else (if bt530.1 = 3 then (spec_l71Mess.l0 k bt526.1 0 s0_0 bt530.2) else (some (bt526.1, bt530.2)))))))) = some (r1, r2) := h; clear h; replace H := zi H; obtain ⟨⟨t526, t529⟩, A2, H⟩ := H; (try dsimp only at H); replace H := zi H; obtain ⟨⟨t530, t531⟩, A3, H⟩ := H; (try dsimp only at H); go_enter Try.func79, Try.ntmps79
 go_upto_if 9 with (first | ((with_reducible refine gate_callee (f := 77) rfl ?_); refine goesL_ (some 6) rfl rfl Try.func77 (by kernel_rfl) rfl #[.pointer (some ⟨g, 0, none⟩), .int .i64 8] rfl zo ?_; (with_reducible refine (spec_l71Keys.calls k g s0_0 s0_1 8 t526 t529 w0 _ ?side1 ?side2 A2.out).mono ?_); (case side1 => repeat (first | (with_reducible first | exact HI0.out | apply IsS98.alloc | apply IsS98.drewN | apply IsS98.drew | apply IsS98.set_1) | exact HI0.out)); (case side2 => repeat (first | (with_reducible first | exact HB.out | apply below_alloc | apply pw_below_drewN | apply below_drew1 | refine below_set ?_ (IsS98.ge HI0.out)) | exact HB.out)); rintro e w4 ⟨v527, rfl, ho0, hi, hb, hk⟩; refine zv ?_; have HO528 := z0 (Kd.R_lower ho0 (keep_size (w := w) (g := g) (row := none) (zq HK.out))); replace HK := z0 (KeepBut.trans (zq HK.out) hk (.inl rfl)); replace HB := z0 (hb); replace HI0 := z0 (hi); (try clear hb hk hi ho0)) | ((with_reducible refine gate_callee (f := 78) rfl ?_); refine goesL_ (some 8) rfl rfl Try.func78 (by kernel_rfl) rfl #[.pointer (some ⟨g, 0, none⟩), .int .i64 5] rfl zo ?_; (with_reducible refine (spec_l6Rd_pick.calls k g s0_0 t529 5 t530 t531 w0 _ ?side1 ?side2 A3.out).mono ?_); (case side1 => repeat (first | (with_reducible first | exact HI0.out | apply IsS98.alloc | apply IsS98.drewN | apply IsS98.drew | apply IsS98.set_1) | exact HI0.out)); (case side2 => repeat (first | (with_reducible first | exact HB.out | apply below_alloc | apply pw_below_drewN | apply below_drew1 | refine below_set ?_ (IsS98.ge HI0.out)) | exact HB.out)); rintro e w5 ⟨rfl, hi, hb, hk⟩; refine zv ?_; replace HO528 := z0 (Kd.R_mono (Kd.R_keep (IsS98.apart (show IsS98 w0 _ g s0_0 t529 from by repeat (first | (with_reducible first | exact HI0.out | apply IsS98.alloc | apply IsS98.drewN | apply IsS98.drew | apply IsS98.set_1) | exact HI0.out)) (zr HO528.out) (by decide)) hk (fun _ h => h.2)) (fun _ h => h.1)); replace HK := z0 (KeepBut.trans (zq HK.out) hk (.inl rfl)); replace HB := z0 (hb); replace HI0 := z0 (hi); (try clear hb hk hi)))
 by_cases c6 : t530 = 0
 ·rw [if_pos c6] at H; have c6b0 : (t530 == 0) = true := beq_iff_eq.mpr c6; have c6b1 : (t530 != 0) = false := bne_eq_false_iff_eq.mpr c6; clear c6; (first | rw [c6b0] | (simp only [i64_w, i32_w]; rw [c6b0]) | simp only [*, Bool.not_true, Bool.not_false] | skip)
  by_cases c7 : t526.length < 8796093022208
  ·rw [if_pos c7] at H; have LMc7 := Aside0.mk c7; clear c7; obtain ⟨y532, hy532⟩ : ∃ y_ : List ByteArray, y_ = (t526 ++ [(⟨#[97]⟩ : ByteArray)]) := ⟨_, rfl⟩
   replace H : (some (y532, t531)) = some (r1, r2) := by first | (rw [hy532]; with_reducible exact H) | (have H2_ := (Option.bind_some _ _).symm.trans H; rw [hy532]; with_reducible exact H2_) | (have H2_ := (Option.bind_some _ _).symm.trans H; with_reducible exact H2_) | with_reducible exact H | (rw [hy532]; exact H) | exact H
   have Ny532 := Aside0.mk hy532; clear hy532; simp only [Option.some.injEq, Prod.mk.injEq] at H; obtain ⟨rfl, rfl⟩ := H
   go_wp2_with (first | ((with_reducible refine gate_builtin (b := .append) (xs := #[.tmp 11, .tmp 12]) rfl ?_); at_builtin; refine Kd.R_append Kd.string w.heap.size rfl (.tmp 11) (.tmp 12) 23 9 (.string ⟨#[]⟩) 16 rfl Try.underlying23 info9 rfl (by decide) (by omega) v527 t526 (⟨#[97]⟩ : ByteArray) [.string (⟨#[97]⟩ : ByteArray)] (fun _ => True) (fun _ => False) rfl rfl ?aP (fun _ hk => hk.elim) ?aF ?aO (Below.refl _ _) ?aS ?aL ?_; (case aP => exact rfl); (case aF => exact (fun _ _ => trivial)); (case aO => exact (zr HO528.out)); (case aS => exact (keep_size (w := w) (g := g) (row := none) (zq HK.out))); (case aL => have := LMc7.out; omega); intro v533 w8 ho hb hg hat; rw [← Ny532.out] at ho; replace HB := z0 (below_weaken (by repeat (first | (with_reducible first | exact HB.out | apply below_alloc | apply pw_below_drewN | apply below_drew1 | refine below_set ?_ (IsS98.ge HI0.out)) | exact HB.out)) HL.out hb); replace HI0 := z0 (IsS98.grown (by repeat (first | (with_reducible first | exact HI0.out | apply IsS98.alloc | apply IsS98.drewN | apply IsS98.drew | apply IsS98.set_1) | exact HI0.out)) hg (IsS98.own_ne HI0.out HO528.out (by decide))); replace HK := z0 (KeepBut.trans (zq HK.out) (KeepBut.of_grown hg g) (Kd.R_base2 HO528.out)); have HO534 := z0 (ho); clear HO528; clear ho hb hg hat))
   go_ret; exact ⟨_, ze, zr HO534.out, by repeat (first | (with_reducible first | exact HI0.out | apply IsS98.alloc | apply IsS98.drewN | apply IsS98.drew | apply IsS98.set_1) | exact HI0.out), by repeat (first | (with_reducible first | exact HB.out | apply below_alloc | apply pw_below_drewN | apply below_drew1 | refine below_set ?_ (IsS98.ge HI0.out)) | exact HB.out), zq HK.out⟩
  ·rw [if_neg c7] at H; exact absurd H (by simp)
 ·rw [if_neg c6] at H; have c6b0 : (t530 == 0) = false := beq_eq_false_iff_ne.mpr c6; have c6b1 : (t530 != 0) = true := bne_iff_ne.mpr c6; (first | rw [c6b0] | (simp only [i64_w, i32_w]; rw [c6b0]) | simp only [*, Bool.not_true, Bool.not_false] | skip)
  by_cases c9 : t530 = 1
  ·rw [if_pos c9] at H; have c9b0 : (t530 == 1) = true := beq_iff_eq.mpr c9; have c9b1 : (t530 != 1) = false := bne_eq_false_iff_eq.mpr c9; clear c9; obtain ⟨y535, hy535⟩ : ∃ y_ : List ByteArray, y_ = (([(⟨#[120]⟩ : ByteArray), (⟨#[101]⟩ : ByteArray)] : List ByteArray)) := ⟨_, rfl⟩
   replace H : (if t526.length + y535.length < 8796093022208 then (some ((t526 ++ y535), t531)) else (none)) = some (r1, r2) := by first | (rw [hy535]; with_reducible exact H) | (have H2_ := (Option.bind_some _ _).symm.trans H; rw [hy535]; with_reducible exact H2_) | (have H2_ := (Option.bind_some _ _).symm.trans H; with_reducible exact H2_) | with_reducible exact H | (rw [hy535]; exact H) | exact H
   have Ny535 := Aside0.mk hy535; clear hy535
   by_cases c10 : t526.length + y535.length < 8796093022208
   ·rw [if_pos c10] at H; have LMc10 := Aside0.mk c10; clear c10; obtain ⟨y538, hy538⟩ : ∃ y_ : List ByteArray, y_ = (t526 ++ y535) := ⟨_, rfl⟩
    replace H : (some (y538, t531)) = some (r1, r2) := by first | (rw [hy538]; with_reducible exact H) | (have H2_ := (Option.bind_some _ _).symm.trans H; rw [hy538]; with_reducible exact H2_) | (have H2_ := (Option.bind_some _ _).symm.trans H; with_reducible exact H2_) | with_reducible exact H | (rw [hy538]; exact H) | exact H
    have Ny538 := Aside0.mk hy538; clear hy538; simp only [Option.some.injEq, Prod.mk.injEq] at H; obtain ⟨rfl, rfl⟩ := H
    go_wp2_with (first | ((with_reducible refine gate_dst (N := 17) rfl ?_); refine Kd.R_lit Kd.string _ 9 ?hg (N := 17) ?hd (xs := ([(⟨#[120]⟩ : ByteArray), (⟨#[101]⟩ : ByteArray)] : List ByteArray)) (inner := [.string (⟨#[120]⟩ : ByteArray), .string (⟨#[101]⟩ : ByteArray)]) (ok := fun _ => True) (okp := fun _ => True) ?hr ?hp (fun _ hk => hk) trivial (Below.refl _ _) (Nat.le_refl _) (by simp) ?_; (case hd => rfl); (case hg => rfl); (case hr => first | (go_simp; done) | (go_simp; rfl)); (case hp => exact (Reps.one (show Kd.M Kd.string _ _ _ (⟨#[120]⟩ : ByteArray) [.string (⟨#[120]⟩ : ByteArray)] from rfl) (Reps.one (show Kd.M Kd.string _ _ _ (⟨#[101]⟩ : ByteArray) [.string (⟨#[101]⟩ : ByteArray)] from rfl) (Reps.none _ _)))); intro v536 w11 ho12 hb hg_ hnew_; clear hg_ hnew_; (first | rw [← Ny535.out] at ho12 | (simp only [Int.reduceToNat] at ho12; rw [← Ny535.out] at ho12)); have HO537 := z0 (Kd.R_lower (Kd.R_new' ho12 (Kd.R_lt (zr HO528.out))) (keep_size (w := w) (g := g) (row := none) (zq HK.out))); replace HO528 := z0 (Kd.R_elder' (zr HO528.out) (Kd.R_base ho12) hb); replace HK := z0 (KeepBut.trans (zq HK.out) (KeepBut.of_below hb g none) (.inl rfl)); replace HB := z0 (below_step (by repeat (first | (with_reducible first | exact HB.out | apply below_alloc | apply pw_below_drewN | apply below_drew1 | refine below_set ?_ (IsS98.ge HI0.out)) | exact HB.out)) hb); replace HI0 := z0 (IsS98.below (by repeat (first | (with_reducible first | exact HI0.out | apply IsS98.alloc | apply IsS98.drewN | apply IsS98.drew | apply IsS98.set_1) | exact HI0.out)) hb); clear hb ho12; obtain ⟨Ao14, co14, eo14⟩ := Kd.R_slice HO537.out; subst eo14) | ((with_reducible refine gate_builtin (b := .append) (xs := #[.tmp 16, .tmp 17]) rfl ?_); at_builtin; refine Kd.R_append_rows Kd.string w.heap.size rfl (.tmp 16) (.tmp 17) 23 9 (.string ⟨#[]⟩) 16 rfl Try.underlying23 info9 rfl (by decide) (by omega) v527 t526 y535 _ _ _ (fun k_ => some k_ ≠ (.slice Ao14 y535.length co14 : Value).ownBlock) (fun _ => False) rfl rfl ?aO ?aR (fun _ _ h => h) (fun _ h => h.elim) ?aF (Below.refl _ _) ?aS ?aL ?_; (case aR => repeat (first | exact (Kd.R_reads' HO537.out).2.2 | (with_reducible refine Kd.C_alloc ?_ _) | (with_reducible refine Kd.C_drewN ?_ _) | (with_reducible refine Kd.C_drew ?_))); (case aF => exact (fun k_ hk => Kd.fresh' (Kd.R_lt (zr HO537.out)) k_ hk)); (case aO => exact (Kd.R_mono (zr HO528.out) (fun _ hk => hk.2))); (case aS => exact (keep_size (w := w) (g := g) (row := none) (zq HK.out))); (case aL => have := LMc10.out; omega); intro v539 w13 ho hb hg hat; rw [← Ny538.out] at ho; replace HO537 := z0 (Kd.R_after (ok := (fun _ => True)) (zr HO537.out) hg hat); replace HB := z0 (below_weaken (by repeat (first | (with_reducible first | exact HB.out | apply below_alloc | apply pw_below_drewN | apply below_drew1 | refine below_set ?_ (IsS98.ge HI0.out)) | exact HB.out)) HL.out hb); replace HI0 := z0 (IsS98.grown (by repeat (first | (with_reducible first | exact HI0.out | apply IsS98.alloc | apply IsS98.drewN | apply IsS98.drew | apply IsS98.set_1) | exact HI0.out)) hg (IsS98.own_ne HI0.out HO528.out (by decide))); replace HK := z0 (KeepBut.trans (zq HK.out) (KeepBut.of_grown hg g) (Kd.R_base2 HO528.out)); have HO540 := z0 (ho); clear HO528; clear ho hb hg hat))
    go_ret; exact ⟨_, ze, Kd.R_mono (zr HO540.out) (fun _ hk => trivial), by repeat (first | (with_reducible first | exact HI0.out | apply IsS98.alloc | apply IsS98.drewN | apply IsS98.drew | apply IsS98.set_1) | exact HI0.out), by repeat (first | (with_reducible first | exact HB.out | apply below_alloc | apply pw_below_drewN | apply below_drew1 | refine below_set ?_ (IsS98.ge HI0.out)) | exact HB.out), zq HK.out⟩
   ·rw [if_neg c10] at H; exact absurd H (by simp)
  ·rw [if_neg c9] at H; have c9b0 : (t530 == 1) = false := beq_eq_false_iff_ne.mpr c9; have c9b1 : (t530 != 1) = true := bne_iff_ne.mpr c9
   by_cases c15 : t530 = 2
   ·rw [if_pos c15] at H; have c15b0 : (t530 == 2) = true := beq_iff_eq.mpr c15; have c15b1 : (t530 != 2) = false := bne_eq_false_iff_eq.mpr c15; clear c15; replace H := zi H; obtain ⟨⟨t541, t542⟩, A16, H⟩ := H; (try dsimp only at H); replace H := zi H; obtain ⟨t543, A17, H⟩ := H
    by_cases c18 : t526.length < 8796093022208
    ·rw [if_pos c18] at H; have LMc18 := Aside0.mk c18; clear c18; obtain ⟨y544, hy544⟩ : ∃ y_ : List ByteArray, y_ = (t526 ++ [t543]) := ⟨_, rfl⟩
     replace H : (some (y544, t542)) = some (r1, r2) := by first | (rw [hy544]; with_reducible exact H) | (have H2_ := (Option.bind_some _ _).symm.trans H; rw [hy544]; with_reducible exact H2_) | (have H2_ := (Option.bind_some _ _).symm.trans H; with_reducible exact H2_) | with_reducible exact H | (rw [hy544]; exact H) | exact H
     have Ny544 := Aside0.mk hy544; clear hy544; simp only [Option.some.injEq, Prod.mk.injEq] at H; obtain ⟨rfl, rfl⟩ := H
     go_wp2_with (first | ((with_reducible refine gate_callee (f := 78) rfl ?_); refine goesL_ (some 23) rfl rfl Try.func78 (by kernel_rfl) rfl #[.pointer (some ⟨g, 0, none⟩), .int .i64 2] rfl zo ?_; (with_reducible refine (spec_l6Rd_pick.calls k g s0_0 t531 2 t541 t542 w0 _ ?side1 ?side2 A16.out).mono ?_); (case side1 => repeat (first | (with_reducible first | exact HI0.out | apply IsS98.alloc | apply IsS98.drewN | apply IsS98.drew | apply IsS98.set_1) | exact HI0.out)); (case side2 => repeat (first | (with_reducible first | exact HB.out | apply below_alloc | apply pw_below_drewN | apply below_drew1 | refine below_set ?_ (IsS98.ge HI0.out)) | exact HB.out)); rintro e w19 ⟨rfl, hi, hb, hk⟩; refine zv ?_; replace HO528 := z0 (Kd.R_mono (Kd.R_keep (IsS98.apart (show IsS98 w0 _ g s0_0 t531 from by repeat (first | (with_reducible first | exact HI0.out | apply IsS98.alloc | apply IsS98.drewN | apply IsS98.drew | apply IsS98.set_1) | exact HI0.out)) (zr HO528.out) (by decide)) hk (fun _ h => h.2)) (fun _ h => h.1)); replace HK := z0 (KeepBut.trans (zq HK.out) hk (.inl rfl)); replace HB := z0 (hb); replace HI0 := z0 (hi); (try clear hb hk hi)) | ((with_reducible refine gate_callee (f := 112) rfl ?_); refine goesL_ (some 25) rfl rfl Try.func112 (by kernel_rfl) rfl #[.string (⟨#[100]⟩ : ByteArray), .int .i64 (wrap64 (5 + t541))] rfl (by (try simp only [List.map_toArray, List.map_cons, List.map_nil]); first | done | rfl | (simp only [List.length_drop, List.length_take]; rfl)) ?_; (with_reducible refine (spec_l6Many.calls k (⟨#[100]⟩ : ByteArray) (wrap64 (5 + t541)) t543 _ A17.out).mono ?_); rintro e w' ⟨rfl, ⟨nd, rfl⟩⟩; refine ⟨_, rfl, ?_⟩) | ((with_reducible refine gate_builtin (b := .append) (xs := #[.tmp 21, .tmp 26]) rfl ?_); at_builtin; refine Kd.R_append Kd.string w.heap.size rfl (.tmp 21) (.tmp 26) 23 9 (.string ⟨#[]⟩) 16 rfl Try.underlying23 info9 rfl (by decide) (by omega) v527 t526 t543 [.string t543] (fun _ => True) (fun _ => False) rfl rfl ?aP (fun _ hk => hk.elim) ?aF ?aO (Below.refl _ _) ?aS ?aL ?_; (case aP => exact rfl); (case aF => exact (fun _ _ => trivial)); (case aO => exact (zr HO528.out)); (case aS => exact (keep_size (w := w) (g := g) (row := none) (zq HK.out))); (case aL => have := LMc18.out; omega); intro v545 w20 ho hb hg hat; rw [← Ny544.out] at ho; replace HB := z0 (below_weaken (by repeat (first | (with_reducible first | exact HB.out | apply below_alloc | apply pw_below_drewN | apply below_drew1 | refine below_set ?_ (IsS98.ge HI0.out)) | exact HB.out)) HL.out hb); replace HI0 := z0 (IsS98.grown (by repeat (first | (with_reducible first | exact HI0.out | apply IsS98.alloc | apply IsS98.drewN | apply IsS98.drew | apply IsS98.set_1) | exact HI0.out)) hg (IsS98.own_ne HI0.out HO528.out (by decide))); replace HK := z0 (KeepBut.trans (zq HK.out) (KeepBut.of_grown hg g) (Kd.R_base2 HO528.out)); have HO546 := z0 (ho); clear HO528; clear ho hb hg hat))
     go_ret; exact ⟨_, ze, zr HO546.out, by repeat (first | (with_reducible first | exact HI0.out | apply IsS98.alloc | apply IsS98.drewN | apply IsS98.drew | apply IsS98.set_1) | exact HI0.out), by repeat (first | (with_reducible first | exact HB.out | apply below_alloc | apply pw_below_drewN | apply below_drew1 | refine below_set ?_ (IsS98.ge HI0.out)) | exact HB.out), zq HK.out⟩
    ·rw [if_neg c18] at H; exact absurd H (by simp)
   ·rw [if_neg c15] at H; have c15b0 : (t530 == 2) = false := beq_eq_false_iff_ne.mpr c15; have c15b1 : (t530 != 2) = true := bne_iff_ne.mpr c15
    by_cases c21 : t530 = 3
    ·rw [if_pos c21] at H; have c21b0 : (t530 == 3) = true := beq_iff_eq.mpr c21; have c21b1 : (t530 != 3) = false := bne_eq_false_iff_eq.mpr c21; clear c21; have H' := Aside0.mk H; clear H; go_wp2
     go_loopg [3, 4] k (fun kq v3 v4 w' => ∃ (x3_1 : List ByteArray) (x4_1 : Int), v4 = .int .i64 x4_1 ∧ Aside0 (spec_l71Mess.l0 kq x3_1 x4_1 s0_0 t531 = some (r1, r2)) ∧ Aside0 (kq ≤ k) ∧ Aside0 (Kd.R Kd.string 9 w' w.heap.size (fun _ => True) v3 x3_1) ∧ Aside0 (IsS98 w0 w' g s0_0 t531) ∧ Aside0 (KeepBut w w' g none) ∧ Aside0 (Below w0.heap.size w0 w'))
     case atStart => exact ⟨(t526), (0), zf, H', ⟨Nat.le_refl _⟩, ⟨zr HO528.out⟩, ⟨by repeat (first | (with_reducible first | exact HI0.out | apply IsS98.alloc | apply IsS98.drewN | apply IsS98.drew | apply IsS98.set_1) | exact HI0.out)⟩, ⟨zq HK.out⟩, ⟨by repeat (first | (with_reducible first | exact HB.out | apply below_alloc | apply pw_below_drewN | apply below_drew1 | refine below_set ?_ (IsS98.ge HI0.out)) | exact HB.out)⟩⟩
     case round =>
      clear H'
      try clear c1
      try clear c2
      try clear p2
      try clear c6
      try clear c6b0
      try clear c6b1
      try clear p6
      try clear c7
      try clear c9
      try clear c9b0
      try clear c9b1
      try clear c10
      try clear c11
      try clear c15
      try clear c15b0
      try clear c15b1
      try clear c18
      try clear c21
      try clear c21b0
      try clear c21b1
      obtain ⟨x3_1, x4_1, rfl, HA, HK1, HO_3, HI0, HK, HB⟩ := hrel
      cases gk with
      | zero => exact absurd HA.out (by simp [spec_l71Mess.l0])
      | succ k1 =>
       have H := HA.out; clear HA; simp only [spec_l71Mess.l0] at H
       by_cases c22 : x4_1 < 30
       ·rw [if_pos c22] at H; have c22b0 : decide (x4_1 < 30) = true := decide_eq_true c22; clear c22; obtain ⟨y547, hy547⟩ : ∃ y_ : List ByteArray, y_ = (([(⟨#[]⟩ : ByteArray), (⟨#[97]⟩ : ByteArray), (⟨#[98]⟩ : ByteArray), (⟨#[99]⟩ : ByteArray), (⟨#[100]⟩ : ByteArray)] : List ByteArray)) := ⟨_, rfl⟩
        replace H : (if 0 ≤ (Int.tmod x4_1 5) then (if (Int.tmod x4_1 5) < (y547.length : Int) then (if 1 + (rdOf ByteArray.empty y547 (Int.tmod x4_1 5)).size ≤ 9223372036854775807 then ((some (([(⟨#[]⟩ : ByteArray), (⟨#[97]⟩ : ByteArray), (⟨#[98]⟩ : ByteArray), (⟨#[99]⟩ : ByteArray), (⟨#[100]⟩ : ByteArray), (⟨#[100, 97]⟩ : ByteArray)] : List ByteArray) : List ByteArray)).bind fun y551 => (if 0 ≤ (wrap64 (Int.tdiv x4_1 5)) then (if (wrap64 (Int.tdiv x4_1 5)) < (y551.length : Int) then (if ((⟨#[100]⟩ : ByteArray) ++ (rdOf ByteArray.empty y547 (Int.tmod x4_1 5))).size + (rdOf ByteArray.empty y551 (wrap64 (Int.tdiv x4_1 5))).size ≤ 9223372036854775807 then ((spec_l2Put.f k1 x3_1 (((⟨#[100]⟩ : ByteArray) ++ (rdOf ByteArray.empty y547 (Int.tmod x4_1 5))) ++ (rdOf ByteArray.empty y551 (wrap64 (Int.tdiv x4_1 5))))).bind fun t555 => (spec_l71Mess.l0 k1 t555 (wrap64 (x4_1 + 1)) s0_0 t531)) else (none)) else (none)) else (none))) else (none)) else (none)) else (none)) = some (r1, r2) := by first | (rw [hy547]; with_reducible exact H) | (have H2_ := (Option.bind_some _ _).symm.trans H; rw [hy547]; with_reducible exact H2_) | (have H2_ := (Option.bind_some _ _).symm.trans H; with_reducible exact H2_) | with_reducible exact H | (rw [hy547]; exact H) | exact H
        have Ny547 := Aside0.mk hy547; clear hy547; obtain ⟨ji23, hji23⟩ : ∃ j_ : Int, (Int.tmod x4_1 5) = j_ := ⟨_, rfl⟩
        replace H : (if 0 ≤ (ji23) then (if (ji23) < (y547.length : Int) then (if 1 + (rdOf ByteArray.empty y547 (ji23)).size ≤ 9223372036854775807 then ((some (([(⟨#[]⟩ : ByteArray), (⟨#[97]⟩ : ByteArray), (⟨#[98]⟩ : ByteArray), (⟨#[99]⟩ : ByteArray), (⟨#[100]⟩ : ByteArray), (⟨#[100, 97]⟩ : ByteArray)] : List ByteArray) : List ByteArray)).bind fun y551 => (if 0 ≤ (wrap64 (Int.tdiv x4_1 5)) then (if (wrap64 (Int.tdiv x4_1 5)) < (y551.length : Int) then (if ((⟨#[100]⟩ : ByteArray) ++ (rdOf ByteArray.empty y547 (ji23))).size + (rdOf ByteArray.empty y551 (wrap64 (Int.tdiv x4_1 5))).size ≤ 9223372036854775807 then ((spec_l2Put.f k1 x3_1 (((⟨#[100]⟩ : ByteArray) ++ (rdOf ByteArray.empty y547 (ji23))) ++ (rdOf ByteArray.empty y551 (wrap64 (Int.tdiv x4_1 5))))).bind fun t555 => (spec_l71Mess.l0 k1 t555 (wrap64 (x4_1 + 1)) s0_0 t531)) else (none)) else (none)) else (none))) else (none)) else (none)) else (none)) = some (r1, r2) := by first | (rw [hji23] at H; exact H) | (simp only [hji23] at H ⊢; exact H)
        by_cases c24 : 0 ≤ (ji23)
        ·rw [if_pos c24] at H; have c24b0 : decide (0 ≤ (ji23)) = true := decide_eq_true c24; clear c24
         by_cases c25 : (ji23) < (y547.length : Int)
         ·rw [if_pos c25] at H; have c25b0 : decide ((ji23) < (y547.length : Int)) = true := decide_eq_true c25; clear c25
          by_cases c26 : 1 + (rdOf ByteArray.empty y547 (ji23)).size ≤ 9223372036854775807
          ·rw [if_pos c26] at H; have c26b0 := eq_true c26; have c26b1 : decide (1 + (rdOf ByteArray.empty y547 (ji23)).size ≤ 9223372036854775807) = true := decide_eq_true c26
           try have c26b2 : (9223372036854775807 < 1 + (rdOf ByteArray.empty y547 (ji23)).size) = False := eq_false (Nat.not_lt.2 c26)
           obtain ⟨y551, hy551⟩ : ∃ y_ : List ByteArray, y_ = (([(⟨#[]⟩ : ByteArray), (⟨#[97]⟩ : ByteArray), (⟨#[98]⟩ : ByteArray), (⟨#[99]⟩ : ByteArray), (⟨#[100]⟩ : ByteArray), (⟨#[100, 97]⟩ : ByteArray)] : List ByteArray)) := ⟨_, rfl⟩
           replace H : (if 0 ≤ (wrap64 (Int.tdiv x4_1 5)) then (if (wrap64 (Int.tdiv x4_1 5)) < (y551.length : Int) then (if ((⟨#[100]⟩ : ByteArray) ++ (rdOf ByteArray.empty y547 (ji23))).size + (rdOf ByteArray.empty y551 (wrap64 (Int.tdiv x4_1 5))).size ≤ 9223372036854775807 then ((spec_l2Put.f k1 x3_1 (((⟨#[100]⟩ : ByteArray) ++ (rdOf ByteArray.empty y547 (ji23))) ++ (rdOf ByteArray.empty y551 (wrap64 (Int.tdiv x4_1 5))))).bind fun t555 => (spec_l71Mess.l0 k1 t555 (wrap64 (x4_1 + 1)) s0_0 t531)) else (none)) else (none)) else (none)) = some (r1, r2) := by first | (rw [hy551]; with_reducible exact H) | (have H2_ := (Option.bind_some _ _).symm.trans H; rw [hy551]; with_reducible exact H2_) | (have H2_ := (Option.bind_some _ _).symm.trans H; with_reducible exact H2_) | with_reducible exact H | (rw [hy551]; exact H) | exact H
           have Ny551 := Aside0.mk hy551; clear hy551; obtain ⟨ji27, hji27⟩ : ∃ j_ : Int, (wrap64 (Int.tdiv x4_1 5)) = j_ := ⟨_, rfl⟩
           replace H : (if 0 ≤ (ji27) then (if (ji27) < (y551.length : Int) then (if ((⟨#[100]⟩ : ByteArray) ++ (rdOf ByteArray.empty y547 (ji23))).size + (rdOf ByteArray.empty y551 (ji27)).size ≤ 9223372036854775807 then ((spec_l2Put.f k1 x3_1 (((⟨#[100]⟩ : ByteArray) ++ (rdOf ByteArray.empty y547 (ji23))) ++ (rdOf ByteArray.empty y551 (ji27)))).bind fun t555 => (spec_l71Mess.l0 k1 t555 (wrap64 (x4_1 + 1)) s0_0 t531)) else (none)) else (none)) else (none)) = some (r1, r2) := by first | (rw [hji27] at H; exact H) | (simp only [hji27] at H ⊢; exact H)
           have hji27w : (IntKind.i64.wrap (Int.tdiv x4_1 5)) = ji27 := (i64_w _).trans hji27
           by_cases c28 : 0 ≤ (ji27)
           ·rw [if_pos c28] at H; have c28b0 : decide (0 ≤ (ji27)) = true := decide_eq_true c28; clear c28
            by_cases c29 : (ji27) < (y551.length : Int)
            ·rw [if_pos c29] at H; have c29b0 : decide ((ji27) < (y551.length : Int)) = true := decide_eq_true c29; clear c29
             by_cases c30 : ((⟨#[100]⟩ : ByteArray) ++ (rdOf ByteArray.empty y547 (ji23))).size + (rdOf ByteArray.empty y551 (ji27)).size ≤ 9223372036854775807
             ·rw [if_pos c30] at H; have c30b0 := eq_true c30; have c30b1 : decide (((⟨#[100]⟩ : ByteArray) ++ (rdOf ByteArray.empty y547 (ji23))).size + (rdOf ByteArray.empty y551 (ji27)).size ≤ 9223372036854775807) = true := decide_eq_true c30
              try have c30b2 : (9223372036854775807 < ((⟨#[100]⟩ : ByteArray) ++ (rdOf ByteArray.empty y547 (ji23))).size + (rdOf ByteArray.empty y551 (ji27)).size) = False := eq_false (Nat.not_lt.2 c30)
              (try (have c30b3 := c30b2; rw [ByteArray.size_append] at c30b3; try simp only [show ∀ b_ : UInt8, (⟨#[b_]⟩ : ByteArray).size = 1 from fun _ => rfl] at c30b3)); replace H := zi H; obtain ⟨t555, A31, H⟩ := H; have H' := Aside0.mk H; clear H; obtain ⟨Ao32, co32, eo32⟩ := Kd.R_slice HO_3.out; subst eo32
              try go_wp2
              have pi550 : (0 ≤ ((ji23) : Int)) = True := eq_true (zd); have qi550 : ((ji23) < (y547.length : Int)) = True := eq_true (zd); have pi554 : (0 ≤ ((ji27) : Int)) = True := eq_true (zd); have qi554 : ((ji27) < (y551.length : Int)) = True := eq_true (zd); replace HO_3 := z0 (Kd.R_drew HO_3.out); replace HI0 := z0 (IsS98.drew HI0.out); replace HK := z0 (keep_drew HK.out); replace HB := z0 (below_drew1 HB.out); refine start_ (n := 15) (S := fun w' => True) (ds := []) (fb 15 0) (by kernel_rfl) rfl rfl trivial (fun hHeld => ?_); refine with_tabW spec_l71Mess.tab13 spec_l71Mess.bits13 (fun HT_ HW_ => ?_); generalize wr.drew = w33 at HO_3 HI0 HK HB hHeld ⊢; refine pure_ (i := 0) (N := some 34) (v := ?_) (a' := ?_) (fb 15 1) rfl rfl (any_of HT_.out (by kernel_rfl)) (fun _ _ _ h => h) (Or.inl ⟨by rfl, ?_⟩) ?_ ?_; rotate_left
              ·intro w'
               go_simp
               with_reducible rfl
              rotate_left
              ·simp only [Act.put, List.setIfInBounds_toArray, List.set_cons_zero, List.set_cons_succ, i64_w, i32_w]
               rfl
              refine pure_ (i := 2) (N := some 36) (v := ?_) (a' := ?_) (fb 15 5) rfl rfl (any_of HT_.out (by kernel_rfl)) (fun _ _ _ h => h) (Or.inl ⟨by rfl, ?_⟩) ?_ ?_; rotate_left
              ·intro w'
               go_simp
               with_reducible rfl
              rotate_left
              ·simp only [Act.put, List.setIfInBounds_toArray, List.set_cons_zero, List.set_cons_succ, i64_w, i32_w]
               rfl
              refine pure_ (i := 3) (N := some 37) (v := ?_) (a' := ?_) (fb 15 13) rfl rfl (any_of HT_.out (by kernel_rfl)) (fun _ _ _ h => h) (Or.inl ⟨by rfl, ?_⟩) ?_ ?_; rotate_left
              ·intro w'
               go_simp
               with_reducible rfl
              rotate_left
              ·simp only [Act.put, List.setIfInBounds_toArray, List.set_cons_zero, List.set_cons_succ, i64_w, i32_w]
               rfl
              refine pure_ (i := 8) (N := some 42) (v := ?_) (a' := ?_) (fb 15 269) rfl rfl (any_of HT_.out (by kernel_rfl)) (fun _ _ _ h => h) (Or.inl ⟨by rfl, ?_⟩) ?_ ?_; rotate_left
              ·intro w'
               go_simp
               with_reducible rfl
              rotate_left
              ·simp only [Act.put, List.setIfInBounds_toArray, List.set_cons_zero, List.set_cons_succ, i64_w, i32_w]
               rfl
              refine pure_ (i := 9) (N := some 43) (v := ?_) (a' := ?_) (fb 15 781) rfl rfl (any_of HT_.out (by kernel_rfl)) (fun _ _ _ h => h) (Or.inl ⟨by rfl, ?_⟩) ?_ ?_; rotate_left
              ·intro w'
               go_simp
               with_reducible rfl
              rotate_left
              ·simp only [Act.put, List.setIfInBounds_toArray, List.set_cons_zero, List.set_cons_succ, i64_w, i32_w]
               rfl
              refine join_ (σ := Value × Addr × Value × Addr) 3 (fb 15 4095) (fun s_ => [(35, s_.1), (39, .string (rdOf ByteArray.empty y547 (ji23))), (41, s_.2.2.1), (45, .string (rdOf ByteArray.empty y551 (ji27))), (38, .pointer (some (s_.2.1.add ((ji23)).toNat))), (40, .string ((⟨#[100]⟩ : ByteArray) ++ (rdOf ByteArray.empty y547 (ji23)))), (44, .pointer (some (s_.2.2.2.add ((ji27)).toNat)))]) (fun s_ w' => (Kd.R Kd.string 9 w' w.heap.size (fun k_ => some k_ ≠ (s_.2.2.1 : Value).ownBlock ∧ some k_ ≠ (.slice Ao32 x3_1.length co32 : Value).ownBlock) s_.1 y547) ∧ (Kd.R Kd.string 9 w' w.heap.size (fun k_ => some k_ ≠ (s_.1 : Value).ownBlock ∧ some k_ ≠ (.slice Ao32 x3_1.length co32 : Value).ownBlock) s_.2.2.1 y551) ∧ (Kd.R Kd.string 9 w' w.heap.size (fun k_ => some k_ ≠ (s_.1 : Value).ownBlock ∧ some k_ ≠ (s_.2.2.1 : Value).ownBlock) (.slice Ao32 x3_1.length co32) x3_1) ∧ (∃ c_, (s_.1 : Value) = .slice (some s_.2.1) y547.length c_) ∧ (∃ c_, (s_.2.2.1 : Value) = .slice (some s_.2.2.2) y551.length c_) ∧ (IsS98 w0 w' g s0_0 t531) ∧ (KeepBut w w' g none) ∧ (Below w0.heap.size w0 w')) ?_ ?_; rotate_left
              ·intro hJ1_5_7_11; refine join_ (σ := Value × Addr × Value × Addr) 4 (fb 15 2047) (fun s_ => [(35, s_.1), (39, .string (rdOf ByteArray.empty y547 (ji23))), (41, s_.2.2.1), (38, .pointer (some (s_.2.1.add ((ji23)).toNat))), (40, .string ((⟨#[100]⟩ : ByteArray) ++ (rdOf ByteArray.empty y547 (ji23)))), (44, .pointer (some (s_.2.2.2.add ((ji27)).toNat)))]) (fun s_ w' => (Kd.R Kd.string 9 w' w.heap.size (fun k_ => some k_ ≠ (s_.2.2.1 : Value).ownBlock ∧ some k_ ≠ (.slice Ao32 x3_1.length co32 : Value).ownBlock) s_.1 y547) ∧ (Kd.R Kd.string 9 w' w.heap.size (fun k_ => some k_ ≠ (s_.1 : Value).ownBlock ∧ some k_ ≠ (.slice Ao32 x3_1.length co32 : Value).ownBlock) s_.2.2.1 y551) ∧ (Kd.R Kd.string 9 w' w.heap.size (fun k_ => some k_ ≠ (s_.1 : Value).ownBlock ∧ some k_ ≠ (s_.2.2.1 : Value).ownBlock) (.slice Ao32 x3_1.length co32) x3_1) ∧ (∃ c_, (s_.1 : Value) = .slice (some s_.2.1) y547.length c_) ∧ (∃ c_, (s_.2.2.1 : Value) = .slice (some s_.2.2.2) y551.length c_) ∧ (IsS98 w0 w' g s0_0 t531) ∧ (KeepBut w w' g none) ∧ (Below w0.heap.size w0 w')) ?_ ?_; rotate_left
               ·intro hJ1_5_7; refine join_ (σ := Value × Addr × Value × Addr) 5 (fb 15 3999) (fun s_ => [(35, s_.1), (41, s_.2.2.1), (45, .string (rdOf ByteArray.empty y551 (ji27))), (38, .pointer (some (s_.2.1.add ((ji23)).toNat))), (44, .pointer (some (s_.2.2.2.add ((ji27)).toNat)))]) (fun s_ w' => (Kd.R Kd.string 9 w' w.heap.size (fun k_ => some k_ ≠ (s_.2.2.1 : Value).ownBlock ∧ some k_ ≠ (.slice Ao32 x3_1.length co32 : Value).ownBlock) s_.1 y547) ∧ (Kd.R Kd.string 9 w' w.heap.size (fun k_ => some k_ ≠ (s_.1 : Value).ownBlock ∧ some k_ ≠ (.slice Ao32 x3_1.length co32 : Value).ownBlock) s_.2.2.1 y551) ∧ (Kd.R Kd.string 9 w' w.heap.size (fun k_ => some k_ ≠ (s_.1 : Value).ownBlock ∧ some k_ ≠ (s_.2.2.1 : Value).ownBlock) (.slice Ao32 x3_1.length co32) x3_1) ∧ (∃ c_, (s_.1 : Value) = .slice (some s_.2.1) y547.length c_) ∧ (∃ c_, (s_.2.2.1 : Value) = .slice (some s_.2.2.2) y551.length c_) ∧ (IsS98 w0 w' g s0_0 t531) ∧ (KeepBut w w' g none) ∧ (Below w0.heap.size w0 w')) ?_ ?_; rotate_left
                ·intro hJ1_7_11; refine join_ (σ := Value × Addr) 6 (fb 15 895) (fun s_ => [(35, s_.1), (39, .string (rdOf ByteArray.empty y547 (ji23))), (38, .pointer (some (s_.2.add ((ji23)).toNat))), (40, .string ((⟨#[100]⟩ : ByteArray) ++ (rdOf ByteArray.empty y547 (ji23))))]) (fun s_ w' => (Kd.R Kd.string 9 w' w.heap.size (fun k_ => some k_ ≠ (.slice Ao32 x3_1.length co32 : Value).ownBlock) s_.1 y547) ∧ (Kd.R Kd.string 9 w' w.heap.size (fun k_ => some k_ ≠ (s_.1 : Value).ownBlock) (.slice Ao32 x3_1.length co32) x3_1) ∧ (∃ c_, (s_.1 : Value) = .slice (some s_.2) y547.length c_) ∧ (IsS98 w0 w' g s0_0 t531) ∧ (KeepBut w w' g none) ∧ (Below w0.heap.size w0 w')) ?_ ?_; rotate_left
                 ·intro hJ1_5; refine join_ (σ := Value × Addr × Value × Addr) 6 (fb 15 1951) (fun s_ => [(35, s_.1), (41, s_.2.2.1), (38, .pointer (some (s_.2.1.add ((ji23)).toNat))), (44, .pointer (some (s_.2.2.2.add ((ji27)).toNat)))]) (fun s_ w' => (Kd.R Kd.string 9 w' w.heap.size (fun k_ => some k_ ≠ (s_.2.2.1 : Value).ownBlock ∧ some k_ ≠ (.slice Ao32 x3_1.length co32 : Value).ownBlock) s_.1 y547) ∧ (Kd.R Kd.string 9 w' w.heap.size (fun k_ => some k_ ≠ (s_.1 : Value).ownBlock ∧ some k_ ≠ (.slice Ao32 x3_1.length co32 : Value).ownBlock) s_.2.2.1 y551) ∧ (Kd.R Kd.string 9 w' w.heap.size (fun k_ => some k_ ≠ (s_.1 : Value).ownBlock ∧ some k_ ≠ (s_.2.2.1 : Value).ownBlock) (.slice Ao32 x3_1.length co32) x3_1) ∧ (∃ c_, (s_.1 : Value) = .slice (some s_.2.1) y547.length c_) ∧ (∃ c_, (s_.2.2.1 : Value) = .slice (some s_.2.2.2) y551.length c_) ∧ (IsS98 w0 w' g s0_0 t531) ∧ (KeepBut w w' g none) ∧ (Below w0.heap.size w0 w')) ?_ ?_; rotate_left
                  ·intro hJ1_7; refine join_ (σ := Value × Addr) 7 (fb 15 3981) (fun s_ => [(41, s_.1), (45, .string (rdOf ByteArray.empty y551 (ji27))), (44, .pointer (some (s_.2.add ((ji27)).toNat)))]) (fun s_ w' => (Kd.R Kd.string 9 w' w.heap.size (fun k_ => some k_ ≠ (.slice Ao32 x3_1.length co32 : Value).ownBlock) s_.1 y551) ∧ (Kd.R Kd.string 9 w' w.heap.size (fun k_ => some k_ ≠ (s_.1 : Value).ownBlock) (.slice Ao32 x3_1.length co32) x3_1) ∧ (∃ c_, (s_.1 : Value) = .slice (some s_.2) y551.length c_) ∧ (IsS98 w0 w' g s0_0 t531) ∧ (KeepBut w w' g none) ∧ (Below w0.heap.size w0 w')) ?_ ?_; rotate_left
                   ·intro hJ7_11; refine join_ (σ := Value × Addr) 8 (fb 15 799) (fun s_ => [(35, s_.1), (38, .pointer (some (s_.2.add ((ji23)).toNat)))]) (fun s_ w' => (Kd.R Kd.string 9 w' w.heap.size (fun k_ => some k_ ≠ (.slice Ao32 x3_1.length co32 : Value).ownBlock) s_.1 y547) ∧ (Kd.R Kd.string 9 w' w.heap.size (fun k_ => some k_ ≠ (s_.1 : Value).ownBlock) (.slice Ao32 x3_1.length co32) x3_1) ∧ (∃ c_, (s_.1 : Value) = .slice (some s_.2) y547.length c_) ∧ (IsS98 w0 w' g s0_0 t531) ∧ (KeepBut w w' g none) ∧ (Below w0.heap.size w0 w')) ?_ ?_; rotate_left
                    ·intro hJ1; refine join_ (σ := Value × Addr) 8 (fb 15 1933) (fun s_ => [(41, s_.1), (44, .pointer (some (s_.2.add ((ji27)).toNat)))]) (fun s_ w' => (Kd.R Kd.string 9 w' w.heap.size (fun k_ => some k_ ≠ (.slice Ao32 x3_1.length co32 : Value).ownBlock) s_.1 y551) ∧ (Kd.R Kd.string 9 w' w.heap.size (fun k_ => some k_ ≠ (s_.1 : Value).ownBlock) (.slice Ao32 x3_1.length co32) x3_1) ∧ (∃ c_, (s_.1 : Value) = .slice (some s_.2) y551.length c_) ∧ (IsS98 w0 w' g s0_0 t531) ∧ (KeepBut w w' g none) ∧ (Below w0.heap.size w0 w')) ?_ ?_; rotate_left
                     ·intro hJ7; refine two_ (i := 1) (j := 7) (Ni := some 35) (Nj := some 41) (fb 15 783) (fb 15 909) rfl rfl rfl rfl (two_of HT_.out (by kernel_rfl)) (by decide) (by decide) (fun K hK => ?_) (fun K hK => ?_)
                      ·skip
                       refine Kd.R_lit_step Kd.string _ 9 ?hg (N := 35) ?hd (xs := ([(⟨#[]⟩ : ByteArray), (⟨#[97]⟩ : ByteArray), (⟨#[98]⟩ : ByteArray), (⟨#[99]⟩ : ByteArray), (⟨#[100]⟩ : ByteArray)] : List ByteArray)) (inner := [.string (⟨#[]⟩ : ByteArray), .string (⟨#[97]⟩ : ByteArray), .string (⟨#[98]⟩ : ByteArray), .string (⟨#[99]⟩ : ByteArray), .string (⟨#[100]⟩ : ByteArray)]) (ok := fun _ => True) (okp := fun _ => True) ?hr ?hp (fun _ hk => hk) trivial (Below.refl _ _) (Nat.le_refl _) (by simp) ?_; (case hd => rfl); (case hg => rfl); (case hr => first | (go_simp; done) | (go_simp; rfl)); (case hp => exact (Reps.one (show Kd.M Kd.string _ _ _ (⟨#[]⟩ : ByteArray) [.string (⟨#[]⟩ : ByteArray)] from rfl) (Reps.one (show Kd.M Kd.string _ _ _ (⟨#[97]⟩ : ByteArray) [.string (⟨#[97]⟩ : ByteArray)] from rfl) (Reps.one (show Kd.M Kd.string _ _ _ (⟨#[98]⟩ : ByteArray) [.string (⟨#[98]⟩ : ByteArray)] from rfl) (Reps.one (show Kd.M Kd.string _ _ _ (⟨#[99]⟩ : ByteArray) [.string (⟨#[99]⟩ : ByteArray)] from rfl) (Reps.one (show Kd.M Kd.string _ _ _ (⟨#[100]⟩ : ByteArray) [.string (⟨#[100]⟩ : ByteArray)] from rfl) (Reps.none _ _))))))); intro v548 w34 ho35 hb hg_ hnew_; clear hg_ hnew_; (first | rw [← Ny547.out] at ho35 | (simp only [Int.reduceToNat] at ho35; rw [← Ny547.out] at ho35)); have HO549 := z0 (Kd.R_lower (Kd.R_new' ho35 (Kd.R_lt (zr HO_3.out))) (keep_size (w := w) (g := g) (row := none) (zq HK.out))); replace HO_3 := z0 (Kd.R_elder' (zr HO_3.out) (Kd.R_base ho35) hb); replace HK := z0 (KeepBut.trans (zq HK.out) (KeepBut.of_below hb g none) (.inl rfl)); replace HB := z0 (below_step (by repeat (first | (with_reducible first | exact HB.out | apply below_alloc | apply pw_below_drewN | apply below_drew1 | refine below_set ?_ (IsS98.ge HI0.out)) | exact HB.out)) hb); replace HI0 := z0 (IsS98.below (by repeat (first | (with_reducible first | exact HI0.out | apply IsS98.alloc | apply IsS98.drewN | apply IsS98.drew | apply IsS98.set_1) | exact HI0.out)) hb); clear hb ho35; obtain ⟨Ao36, co36, eo36⟩ := Kd.R_slice HO549.out; subst eo36; obtain ⟨ado36, fo36, _⟩ := Kd.at_string (Kd.R_reads' HO549.out).2.2 0 (by decide) (by rw [Ny547.out]; simp)
                       cases fo36
                       refine hK.out _ _ trivial (fun hHeld => ?_); clear hK K; refine norm_ (a' := ?_) ?_ ?_; rotate_left
                       ·show Act.put _ (some 35) _ = _
                        simp only [Act.put, List.setIfInBounds_toArray, List.set_cons_zero, List.set_cons_succ, i64_w, i32_w]
                        rfl
                       refine pure_ (i := 4) (N := some 38) (v := ?_) (a' := ?_) (fb 15 799) rfl rfl (any_of HT_.out (by kernel_rfl)) (fun _ _ _ h => h) (Or.inl ⟨by rfl, ?_⟩) ?_ ?_; rotate_left
                       ·intro w'
                        go_simp
                        with_reducible rfl
                       rotate_left
                       ·simp only [Act.put, List.setIfInBounds_toArray, List.set_cons_zero, List.set_cons_succ, i64_w, i32_w]
                        rfl
                       exact norm_ (by first | (simp only [putAll, Act.put, List.setIfInBounds_toArray, List.set_cons_zero, List.set_cons_succ]; done) | (simp only [putAll, Act.put, List.setIfInBounds_toArray, List.set_cons_zero, List.set_cons_succ]; rfl)) (hJ1 (.slice (some ado36) y547.length co36, ado36) _ ⟨(Kd.R_mono (zr HO549.out) (fun _ hk => hk.2)), (Kd.R_mono (zr HO_3.out) (fun _ hk => hk.2)), ⟨_, rfl⟩, (by repeat (first | (with_reducible first | exact HI0.out | apply IsS98.alloc | apply IsS98.drewN | apply IsS98.drew | apply IsS98.set_1) | exact HI0.out)), (zq HK.out), (by repeat (first | (with_reducible first | exact HB.out | apply below_alloc | apply pw_below_drewN | apply below_drew1 | refine below_set ?_ (IsS98.ge HI0.out)) | exact HB.out))⟩)
                      ·skip
                       refine Kd.R_lit_step Kd.string _ 9 ?hg (N := 41) ?hd (xs := ([(⟨#[]⟩ : ByteArray), (⟨#[97]⟩ : ByteArray), (⟨#[98]⟩ : ByteArray), (⟨#[99]⟩ : ByteArray), (⟨#[100]⟩ : ByteArray), (⟨#[100, 97]⟩ : ByteArray)] : List ByteArray)) (inner := [.string (⟨#[]⟩ : ByteArray), .string (⟨#[97]⟩ : ByteArray), .string (⟨#[98]⟩ : ByteArray), .string (⟨#[99]⟩ : ByteArray), .string (⟨#[100]⟩ : ByteArray), .string (⟨#[100, 97]⟩ : ByteArray)]) (ok := fun _ => True) (okp := fun _ => True) ?hr ?hp (fun _ hk => hk) trivial (Below.refl _ _) (Nat.le_refl _) (by simp) ?_; (case hd => rfl); (case hg => rfl); (case hr => first | (go_simp; done) | (go_simp; rfl)); (case hp => exact (Reps.one (show Kd.M Kd.string _ _ _ (⟨#[]⟩ : ByteArray) [.string (⟨#[]⟩ : ByteArray)] from rfl) (Reps.one (show Kd.M Kd.string _ _ _ (⟨#[97]⟩ : ByteArray) [.string (⟨#[97]⟩ : ByteArray)] from rfl) (Reps.one (show Kd.M Kd.string _ _ _ (⟨#[98]⟩ : ByteArray) [.string (⟨#[98]⟩ : ByteArray)] from rfl) (Reps.one (show Kd.M Kd.string _ _ _ (⟨#[99]⟩ : ByteArray) [.string (⟨#[99]⟩ : ByteArray)] from rfl) (Reps.one (show Kd.M Kd.string _ _ _ (⟨#[100]⟩ : ByteArray) [.string (⟨#[100]⟩ : ByteArray)] from rfl) (Reps.one (show Kd.M Kd.string _ _ _ (⟨#[100, 97]⟩ : ByteArray) [.string (⟨#[100, 97]⟩ : ByteArray)] from rfl) (Reps.none _ _)))))))); intro v552 w34 ho35 hb hg_ hnew_; clear hg_ hnew_; (first | rw [← Ny551.out] at ho35 | (simp only [Int.reduceToNat] at ho35; rw [← Ny551.out] at ho35)); have HO553 := z0 (Kd.R_lower (Kd.R_new' ho35 (Kd.R_lt (zr HO_3.out))) (keep_size (w := w) (g := g) (row := none) (zq HK.out))); replace HO_3 := z0 (Kd.R_elder' (zr HO_3.out) (Kd.R_base ho35) hb); replace HK := z0 (KeepBut.trans (zq HK.out) (KeepBut.of_below hb g none) (.inl rfl)); replace HB := z0 (below_step (by repeat (first | (with_reducible first | exact HB.out | apply below_alloc | apply pw_below_drewN | apply below_drew1 | refine below_set ?_ (IsS98.ge HI0.out)) | exact HB.out)) hb); replace HI0 := z0 (IsS98.below (by repeat (first | (with_reducible first | exact HI0.out | apply IsS98.alloc | apply IsS98.drewN | apply IsS98.drew | apply IsS98.set_1) | exact HI0.out)) hb); clear hb ho35; obtain ⟨Ao36, co36, eo36⟩ := Kd.R_slice HO553.out; subst eo36; obtain ⟨ado36, fo36, _⟩ := Kd.at_string (Kd.R_reads' HO553.out).2.2 0 (by decide) (by rw [Ny551.out]; simp)
                       cases fo36
                       refine hK.out _ _ trivial (fun hHeld => ?_); clear hK K; refine norm_ (a' := ?_) ?_ ?_; rotate_left
                       ·show Act.put _ (some 41) _ = _
                        simp only [Act.put, List.setIfInBounds_toArray, List.set_cons_zero, List.set_cons_succ, i64_w, i32_w]
                        rfl
                       refine pure_ (i := 10) (N := some 44) (v := ?_) (a' := ?_) (fb 15 1933) rfl rfl (any_of HT_.out (by kernel_rfl)) (fun _ _ _ h => h) (Or.inl ⟨by rfl, ?_⟩) ?_ ?_; rotate_left
                       ·intro w'
                        go_simp
                        with_reducible rfl
                       rotate_left
                       ·simp only [Act.put, List.setIfInBounds_toArray, List.set_cons_zero, List.set_cons_succ, i64_w, i32_w]
                        rfl
                       exact norm_ (by first | (simp only [putAll, Act.put, List.setIfInBounds_toArray, List.set_cons_zero, List.set_cons_succ]; done) | (simp only [putAll, Act.put, List.setIfInBounds_toArray, List.set_cons_zero, List.set_cons_succ]; rfl)) (hJ7 (.slice (some ado36) y551.length co36, ado36) _ ⟨(Kd.R_mono (zr HO553.out) (fun _ hk => hk.2)), (Kd.R_mono (zr HO_3.out) (fun _ hk => hk.2)), ⟨_, rfl⟩, (by repeat (first | (with_reducible first | exact HI0.out | apply IsS98.alloc | apply IsS98.drewN | apply IsS98.drew | apply IsS98.set_1) | exact HI0.out)), (zq HK.out), (by repeat (first | (with_reducible first | exact HB.out | apply below_alloc | apply pw_below_drewN | apply below_drew1 | refine below_set ?_ (IsS98.ge HI0.out)) | exact HB.out))⟩)
                     ·skip
                      rintro ⟨v552, adz_v552⟩ w37 ⟨h0_, h1_, h2_, h3_, h4_, h5_⟩; have n0_ : Aside0 (Kd.R Kd.string 9 w37 w.heap.size (fun k_ => some k_ ≠ (.slice Ao32 x3_1.length co32 : Value).ownBlock) v552 y551) := ⟨h0_⟩; have n1_ : Aside0 (Kd.R Kd.string 9 w37 w.heap.size (fun k_ => some k_ ≠ (v552 : Value).ownBlock) (.slice Ao32 x3_1.length co32) x3_1) := ⟨h1_⟩; have n2_ : Aside0 (∃ c_, (v552 : Value) = .slice (some adz_v552) y551.length c_) := ⟨h2_⟩; have n3_ : Aside0 (IsS98 w0 w37 g s0_0 t531) := ⟨h3_⟩; have n4_ : Aside0 (KeepBut w w37 g none) := ⟨h4_⟩; have n5_ : Aside0 (Below w0.heap.size w0 w37) := ⟨h5_⟩; clear HO_3; clear HI0; clear HK; clear HB; clear h0_ h1_ h2_ h3_ h4_ h5_; have HO553 := n0_; have HO_3 := n1_; have HA_HO553 := n2_; have HI0 := n3_; have HK := n4_; have HB := n5_; clear n0_ n1_ n2_ n3_ n4_ n5_; have hHeld := trivial; obtain ⟨co38, eo38⟩ := HA_HO553.out; clear HA_HO553; subst eo38; refine norm_ (a' := ?_) ?_ ?_; rotate_left
                      ·simp only [putAll, Act.put, List.setIfInBounds_toArray, List.set_cons_zero, List.set_cons_succ]
                       rfl
                      refine two_ (i := 1) (j := 11) (Ni := some 35) (Nj := some 45) (fb 15 1935) (fb 15 3981) rfl rfl rfl rfl (two_of HT_.out (by kernel_rfl)) (by decide) (by decide) (fun K hK => ?_) (fun K hK => ?_)
                      ·skip
                       refine Kd.R_lit_step Kd.string _ 9 ?hg (N := 35) ?hd (xs := ([(⟨#[]⟩ : ByteArray), (⟨#[97]⟩ : ByteArray), (⟨#[98]⟩ : ByteArray), (⟨#[99]⟩ : ByteArray), (⟨#[100]⟩ : ByteArray)] : List ByteArray)) (inner := [.string (⟨#[]⟩ : ByteArray), .string (⟨#[97]⟩ : ByteArray), .string (⟨#[98]⟩ : ByteArray), .string (⟨#[99]⟩ : ByteArray), .string (⟨#[100]⟩ : ByteArray)]) (ok := fun _ => True) (okp := fun _ => True) ?hr ?hp (fun _ hk => hk) trivial (Below.refl _ _) (Nat.le_refl _) (by simp) ?_; (case hd => rfl); (case hg => rfl); (case hr => first | (go_simp; done) | (go_simp; rfl)); (case hp => exact (Reps.one (show Kd.M Kd.string _ _ _ (⟨#[]⟩ : ByteArray) [.string (⟨#[]⟩ : ByteArray)] from rfl) (Reps.one (show Kd.M Kd.string _ _ _ (⟨#[97]⟩ : ByteArray) [.string (⟨#[97]⟩ : ByteArray)] from rfl) (Reps.one (show Kd.M Kd.string _ _ _ (⟨#[98]⟩ : ByteArray) [.string (⟨#[98]⟩ : ByteArray)] from rfl) (Reps.one (show Kd.M Kd.string _ _ _ (⟨#[99]⟩ : ByteArray) [.string (⟨#[99]⟩ : ByteArray)] from rfl) (Reps.one (show Kd.M Kd.string _ _ _ (⟨#[100]⟩ : ByteArray) [.string (⟨#[100]⟩ : ByteArray)] from rfl) (Reps.none _ _))))))); intro v548 w39 ho40 hb hg_ hnew_; clear hg_ hnew_; (first | rw [← Ny547.out] at ho40 | (simp only [Int.reduceToNat] at ho40; rw [← Ny547.out] at ho40)); have HO549 := z0 (Kd.R_lower (Kd.R_new' (Kd.R_new' ho40 (Kd.R_lt (zr HO_3.out))) (Kd.R_lt (zr HO553.out))) (keep_size (w := w) (g := g) (row := none) (zq HK.out))); replace HO_3 := z0 (Kd.R_elder' (zr HO_3.out) (Kd.R_base ho40) hb); replace HO553 := z0 (Kd.R_elder' (zr HO553.out) (Kd.R_base ho40) hb); replace HK := z0 (KeepBut.trans (zq HK.out) (KeepBut.of_below hb g none) (.inl rfl)); replace HB := z0 (below_step (by repeat (first | (with_reducible first | exact HB.out | apply below_alloc | apply pw_below_drewN | apply below_drew1 | refine below_set ?_ (IsS98.ge HI0.out)) | exact HB.out)) hb); replace HI0 := z0 (IsS98.below (by repeat (first | (with_reducible first | exact HI0.out | apply IsS98.alloc | apply IsS98.drewN | apply IsS98.drew | apply IsS98.set_1) | exact HI0.out)) hb); clear hb ho40; obtain ⟨Ao41, co41, eo41⟩ := Kd.R_slice HO549.out; subst eo41; obtain ⟨ado41, fo41, _⟩ := Kd.at_string (Kd.R_reads' HO549.out).2.2 0 (by decide) (by rw [Ny547.out]; simp)
                       cases fo41
                       refine hK.out _ _ trivial (fun hHeld => ?_); clear hK K; refine norm_ (a' := ?_) ?_ ?_; rotate_left
                       ·show Act.put _ (some 35) _ = _
                        simp only [Act.put, List.setIfInBounds_toArray, List.set_cons_zero, List.set_cons_succ, i64_w, i32_w]
                        rfl
                       refine pure_ (i := 4) (N := some 38) (v := ?_) (a' := ?_) (fb 15 1951) rfl rfl (any_of HT_.out (by kernel_rfl)) (fun _ _ _ h => h) (Or.inl ⟨by rfl, ?_⟩) ?_ ?_; rotate_left
                       ·intro w'
                        go_simp
                        with_reducible rfl
                       rotate_left
                       ·simp only [Act.put, List.setIfInBounds_toArray, List.set_cons_zero, List.set_cons_succ, i64_w, i32_w]
                        rfl
                       exact norm_ (by first | (simp only [putAll, Act.put, List.setIfInBounds_toArray, List.set_cons_zero, List.set_cons_succ]; done) | (simp only [putAll, Act.put, List.setIfInBounds_toArray, List.set_cons_zero, List.set_cons_succ]; rfl)) (hJ1_7 (.slice (some ado41) y547.length co41, ado41, .slice (some adz_v552) y551.length co38, adz_v552) _ ⟨(Kd.R_mono (zr HO549.out) (fun _ hk => ⟨hk.2, hk.1.2⟩)), (Kd.R_mono (zr HO553.out) (fun _ hk => ⟨hk.2, hk.1⟩)), (Kd.R_mono (zr HO_3.out) (fun _ hk => ⟨hk.2, hk.1⟩)), ⟨_, rfl⟩, ⟨_, rfl⟩, (by repeat (first | (with_reducible first | exact HI0.out | apply IsS98.alloc | apply IsS98.drewN | apply IsS98.drew | apply IsS98.set_1) | exact HI0.out)), (zq HK.out), (by repeat (first | (with_reducible first | exact HB.out | apply below_alloc | apply pw_below_drewN | apply below_drew1 | refine below_set ?_ (IsS98.ge HI0.out)) | exact HB.out))⟩)
                      ·skip
                       (have p554 : 0 ≤ ((ji27) : Int) := zd; have q554 : (ji27) < (y551.length : Int) := zd; obtain ⟨ad554, e554, hx554_0⟩ := Kd.at_string (Kd.R_reads' HO553.out).2.2 (ji27) p554 q554; obtain rfl : adz_v552 = ad554 := (by injection e554)); refine value_ (w1 := ?_) (v := ?_) (by rfl) rfl ?_ ?_; rotate_left 2
                       ·go_simp
                        constructor
                        ·rfl
                        ·rfl
                       clear hx554_0; refine hK.out _ _ trivial (fun hHeld => ?_); clear hK K; refine norm_ (a' := ?_) ?_ ?_; rotate_left
                       ·show Act.put _ (some 45) _ = _
                        simp only [Act.put, List.setIfInBounds_toArray, List.set_cons_zero, List.set_cons_succ, i64_w, i32_w]
                        rfl
                       exact norm_ (by first | (simp only [putAll, Act.put, List.setIfInBounds_toArray, List.set_cons_zero, List.set_cons_succ]; done) | (simp only [putAll, Act.put, List.setIfInBounds_toArray, List.set_cons_zero, List.set_cons_succ]; rfl)) (hJ7_11 (.slice (some adz_v552) y551.length co38, adz_v552) _ ⟨(zr HO553.out), (zr HO_3.out), ⟨_, rfl⟩, (by repeat (first | (with_reducible first | exact HI0.out | apply IsS98.alloc | apply IsS98.drewN | apply IsS98.drew | apply IsS98.set_1) | exact HI0.out)), (zq HK.out), (by repeat (first | (with_reducible first | exact HB.out | apply below_alloc | apply pw_below_drewN | apply below_drew1 | refine below_set ?_ (IsS98.ge HI0.out)) | exact HB.out))⟩)
                    ·skip
                     rintro ⟨v548, adz_v548⟩ w37 ⟨h0_, h1_, h2_, h3_, h4_, h5_⟩; have n0_ : Aside0 (Kd.R Kd.string 9 w37 w.heap.size (fun k_ => some k_ ≠ (.slice Ao32 x3_1.length co32 : Value).ownBlock) v548 y547) := ⟨h0_⟩; have n1_ : Aside0 (Kd.R Kd.string 9 w37 w.heap.size (fun k_ => some k_ ≠ (v548 : Value).ownBlock) (.slice Ao32 x3_1.length co32) x3_1) := ⟨h1_⟩; have n2_ : Aside0 (∃ c_, (v548 : Value) = .slice (some adz_v548) y547.length c_) := ⟨h2_⟩; have n3_ : Aside0 (IsS98 w0 w37 g s0_0 t531) := ⟨h3_⟩; have n4_ : Aside0 (KeepBut w w37 g none) := ⟨h4_⟩; have n5_ : Aside0 (Below w0.heap.size w0 w37) := ⟨h5_⟩; clear HO_3; clear HI0; clear HK; clear HB; clear h0_ h1_ h2_ h3_ h4_ h5_; have HO549 := n0_; have HO_3 := n1_; have HA_HO549 := n2_; have HI0 := n3_; have HK := n4_; have HB := n5_; clear n0_ n1_ n2_ n3_ n4_ n5_; have hHeld := trivial; obtain ⟨co38, eo38⟩ := HA_HO549.out; clear HA_HO549; subst eo38; refine norm_ (a' := ?_) ?_ ?_; rotate_left
                     ·simp only [putAll, Act.put, List.setIfInBounds_toArray, List.set_cons_zero, List.set_cons_succ]
                      rfl
                     refine two_ (i := 5) (j := 7) (Ni := some 39) (Nj := some 41) (fb 15 831) (fb 15 927) rfl rfl rfl rfl (two_of HT_.out (by kernel_rfl)) (by decide) (by decide) (fun K hK => ?_) (fun K hK => ?_)
                     ·skip
                      (have p550 : 0 ≤ ((ji23) : Int) := zd; have q550 : (ji23) < (y547.length : Int) := zd; obtain ⟨ad550, e550, hx550_0⟩ := Kd.at_string (Kd.R_reads' HO549.out).2.2 (ji23) p550 q550; obtain rfl : adz_v548 = ad550 := (by injection e550)); refine value_ (w1 := ?_) (v := ?_) (by rfl) rfl ?_ ?_; rotate_left 2
                      ·go_simp
                       constructor
                       ·rfl
                       ·rfl
                      clear hx550_0; refine hK.out _ _ trivial (fun hHeld => ?_); clear hK K; refine norm_ (a' := ?_) ?_ ?_; rotate_left
                      ·show Act.put _ (some 39) _ = _
                       simp only [Act.put, List.setIfInBounds_toArray, List.set_cons_zero, List.set_cons_succ, i64_w, i32_w]
                       rfl
                      refine pure_ (i := 6) (N := some 40) (v := ?_) (a' := ?_) (fb 15 895) rfl rfl (any_of HT_.out (by kernel_rfl)) (fun _ _ _ h => h) (Or.inl ⟨by rfl, ?_⟩) ?_ ?_; rotate_left
                      ·intro w'
                       go_simp
                       with_reducible rfl
                      rotate_left
                      ·simp only [Act.put, List.setIfInBounds_toArray, List.set_cons_zero, List.set_cons_succ, i64_w, i32_w]
                       rfl
                      exact norm_ (by first | (simp only [putAll, Act.put, List.setIfInBounds_toArray, List.set_cons_zero, List.set_cons_succ]; done) | (simp only [putAll, Act.put, List.setIfInBounds_toArray, List.set_cons_zero, List.set_cons_succ]; rfl)) (hJ1_5 (.slice (some adz_v548) y547.length co38, adz_v548) _ ⟨(zr HO549.out), (zr HO_3.out), ⟨_, rfl⟩, (by repeat (first | (with_reducible first | exact HI0.out | apply IsS98.alloc | apply IsS98.drewN | apply IsS98.drew | apply IsS98.set_1) | exact HI0.out)), (zq HK.out), (by repeat (first | (with_reducible first | exact HB.out | apply below_alloc | apply pw_below_drewN | apply below_drew1 | refine below_set ?_ (IsS98.ge HI0.out)) | exact HB.out))⟩)
                     ·skip
                      refine Kd.R_lit_step Kd.string _ 9 ?hg (N := 41) ?hd (xs := ([(⟨#[]⟩ : ByteArray), (⟨#[97]⟩ : ByteArray), (⟨#[98]⟩ : ByteArray), (⟨#[99]⟩ : ByteArray), (⟨#[100]⟩ : ByteArray), (⟨#[100, 97]⟩ : ByteArray)] : List ByteArray)) (inner := [.string (⟨#[]⟩ : ByteArray), .string (⟨#[97]⟩ : ByteArray), .string (⟨#[98]⟩ : ByteArray), .string (⟨#[99]⟩ : ByteArray), .string (⟨#[100]⟩ : ByteArray), .string (⟨#[100, 97]⟩ : ByteArray)]) (ok := fun _ => True) (okp := fun _ => True) ?hr ?hp (fun _ hk => hk) trivial (Below.refl _ _) (Nat.le_refl _) (by simp) ?_; (case hd => rfl); (case hg => rfl); (case hr => first | (go_simp; done) | (go_simp; rfl)); (case hp => exact (Reps.one (show Kd.M Kd.string _ _ _ (⟨#[]⟩ : ByteArray) [.string (⟨#[]⟩ : ByteArray)] from rfl) (Reps.one (show Kd.M Kd.string _ _ _ (⟨#[97]⟩ : ByteArray) [.string (⟨#[97]⟩ : ByteArray)] from rfl) (Reps.one (show Kd.M Kd.string _ _ _ (⟨#[98]⟩ : ByteArray) [.string (⟨#[98]⟩ : ByteArray)] from rfl) (Reps.one (show Kd.M Kd.string _ _ _ (⟨#[99]⟩ : ByteArray) [.string (⟨#[99]⟩ : ByteArray)] from rfl) (Reps.one (show Kd.M Kd.string _ _ _ (⟨#[100]⟩ : ByteArray) [.string (⟨#[100]⟩ : ByteArray)] from rfl) (Reps.one (show Kd.M Kd.string _ _ _ (⟨#[100, 97]⟩ : ByteArray) [.string (⟨#[100, 97]⟩ : ByteArray)] from rfl) (Reps.none _ _)))))))); intro v552 w39 ho40 hb hg_ hnew_; clear hg_ hnew_; (first | rw [← Ny551.out] at ho40 | (simp only [Int.reduceToNat] at ho40; rw [← Ny551.out] at ho40)); have HO553 := z0 (Kd.R_lower (Kd.R_new' (Kd.R_new' ho40 (Kd.R_lt (zr HO_3.out))) (Kd.R_lt (zr HO549.out))) (keep_size (w := w) (g := g) (row := none) (zq HK.out))); replace HO_3 := z0 (Kd.R_elder' (zr HO_3.out) (Kd.R_base ho40) hb); replace HO549 := z0 (Kd.R_elder' (zr HO549.out) (Kd.R_base ho40) hb); replace HK := z0 (KeepBut.trans (zq HK.out) (KeepBut.of_below hb g none) (.inl rfl)); replace HB := z0 (below_step (by repeat (first | (with_reducible first | exact HB.out | apply below_alloc | apply pw_below_drewN | apply below_drew1 | refine below_set ?_ (IsS98.ge HI0.out)) | exact HB.out)) hb); replace HI0 := z0 (IsS98.below (by repeat (first | (with_reducible first | exact HI0.out | apply IsS98.alloc | apply IsS98.drewN | apply IsS98.drew | apply IsS98.set_1) | exact HI0.out)) hb); clear hb ho40; obtain ⟨Ao41, co41, eo41⟩ := Kd.R_slice HO553.out; subst eo41; obtain ⟨ado41, fo41, _⟩ := Kd.at_string (Kd.R_reads' HO553.out).2.2 0 (by decide) (by rw [Ny551.out]; simp)
                      cases fo41
                      refine hK.out _ _ trivial (fun hHeld => ?_); clear hK K; refine norm_ (a' := ?_) ?_ ?_; rotate_left
                      ·show Act.put _ (some 41) _ = _
                       simp only [Act.put, List.setIfInBounds_toArray, List.set_cons_zero, List.set_cons_succ, i64_w, i32_w]
                       rfl
                      refine pure_ (i := 10) (N := some 44) (v := ?_) (a' := ?_) (fb 15 1951) rfl rfl (any_of HT_.out (by kernel_rfl)) (fun _ _ _ h => h) (Or.inl ⟨by rfl, ?_⟩) ?_ ?_; rotate_left
                      ·intro w'
                       go_simp
                       with_reducible rfl
                      rotate_left
                      ·simp only [Act.put, List.setIfInBounds_toArray, List.set_cons_zero, List.set_cons_succ, i64_w, i32_w]
                       rfl
                      exact norm_ (by first | (simp only [putAll, Act.put, List.setIfInBounds_toArray, List.set_cons_zero, List.set_cons_succ]; done) | (simp only [putAll, Act.put, List.setIfInBounds_toArray, List.set_cons_zero, List.set_cons_succ]; rfl)) (hJ1_7 (.slice (some adz_v548) y547.length co38, adz_v548, .slice (some ado41) y551.length co41, ado41) _ ⟨(Kd.R_mono (zr HO549.out) (fun _ hk => ⟨hk.2, hk.1⟩)), (Kd.R_mono (zr HO553.out) (fun _ hk => ⟨hk.2, hk.1.2⟩)), (zr HO_3.out), ⟨_, rfl⟩, ⟨_, rfl⟩, (by repeat (first | (with_reducible first | exact HI0.out | apply IsS98.alloc | apply IsS98.drewN | apply IsS98.drew | apply IsS98.set_1) | exact HI0.out)), (zq HK.out), (by repeat (first | (with_reducible first | exact HB.out | apply below_alloc | apply pw_below_drewN | apply below_drew1 | refine below_set ?_ (IsS98.ge HI0.out)) | exact HB.out))⟩)
                   ·skip
                    rintro ⟨v552, adz_v552⟩ w37 ⟨h0_, h1_, h2_, h3_, h4_, h5_⟩; have n0_ : Aside0 (Kd.R Kd.string 9 w37 w.heap.size (fun k_ => some k_ ≠ (.slice Ao32 x3_1.length co32 : Value).ownBlock) v552 y551) := ⟨h0_⟩; have n1_ : Aside0 (Kd.R Kd.string 9 w37 w.heap.size (fun k_ => some k_ ≠ (v552 : Value).ownBlock) (.slice Ao32 x3_1.length co32) x3_1) := ⟨h1_⟩; have n2_ : Aside0 (∃ c_, (v552 : Value) = .slice (some adz_v552) y551.length c_) := ⟨h2_⟩; have n3_ : Aside0 (IsS98 w0 w37 g s0_0 t531) := ⟨h3_⟩; have n4_ : Aside0 (KeepBut w w37 g none) := ⟨h4_⟩; have n5_ : Aside0 (Below w0.heap.size w0 w37) := ⟨h5_⟩; clear HO_3; clear HI0; clear HK; clear HB; clear h0_ h1_ h2_ h3_ h4_ h5_; have HO553 := n0_; have HO_3 := n1_; have HA_HO553 := n2_; have HI0 := n3_; have HK := n4_; have HB := n5_; clear n0_ n1_ n2_ n3_ n4_ n5_; have hHeld := trivial; obtain ⟨co38, eo38⟩ := HA_HO553.out; clear HA_HO553; subst eo38; refine norm_ (a' := ?_) ?_ ?_; rotate_left
                    ·simp only [putAll, Act.put, List.setIfInBounds_toArray, List.set_cons_zero, List.set_cons_succ]
                     rfl
                    refine one_ (i := 1) (N := some 35) (fb 15 3983) rfl rfl (one_of HT_.out (by kernel_rfl)) (by decide) (fun K hK => ?_); refine Kd.R_lit_step Kd.string _ 9 ?hg (N := 35) ?hd (xs := ([(⟨#[]⟩ : ByteArray), (⟨#[97]⟩ : ByteArray), (⟨#[98]⟩ : ByteArray), (⟨#[99]⟩ : ByteArray), (⟨#[100]⟩ : ByteArray)] : List ByteArray)) (inner := [.string (⟨#[]⟩ : ByteArray), .string (⟨#[97]⟩ : ByteArray), .string (⟨#[98]⟩ : ByteArray), .string (⟨#[99]⟩ : ByteArray), .string (⟨#[100]⟩ : ByteArray)]) (ok := fun _ => True) (okp := fun _ => True) ?hr ?hp (fun _ hk => hk) trivial (Below.refl _ _) (Nat.le_refl _) (by simp) ?_; (case hd => rfl); (case hg => rfl); (case hr => first | (go_simp; done) | (go_simp; rfl)); (case hp => exact (Reps.one (show Kd.M Kd.string _ _ _ (⟨#[]⟩ : ByteArray) [.string (⟨#[]⟩ : ByteArray)] from rfl) (Reps.one (show Kd.M Kd.string _ _ _ (⟨#[97]⟩ : ByteArray) [.string (⟨#[97]⟩ : ByteArray)] from rfl) (Reps.one (show Kd.M Kd.string _ _ _ (⟨#[98]⟩ : ByteArray) [.string (⟨#[98]⟩ : ByteArray)] from rfl) (Reps.one (show Kd.M Kd.string _ _ _ (⟨#[99]⟩ : ByteArray) [.string (⟨#[99]⟩ : ByteArray)] from rfl) (Reps.one (show Kd.M Kd.string _ _ _ (⟨#[100]⟩ : ByteArray) [.string (⟨#[100]⟩ : ByteArray)] from rfl) (Reps.none _ _))))))); intro v548 w39 ho40 hb hg_ hnew_; clear hg_ hnew_; (first | rw [← Ny547.out] at ho40 | (simp only [Int.reduceToNat] at ho40; rw [← Ny547.out] at ho40)); have HO549 := z0 (Kd.R_lower (Kd.R_new' (Kd.R_new' ho40 (Kd.R_lt (zr HO_3.out))) (Kd.R_lt (zr HO553.out))) (keep_size (w := w) (g := g) (row := none) (zq HK.out))); replace HO_3 := z0 (Kd.R_elder' (zr HO_3.out) (Kd.R_base ho40) hb); replace HO553 := z0 (Kd.R_elder' (zr HO553.out) (Kd.R_base ho40) hb); replace HK := z0 (KeepBut.trans (zq HK.out) (KeepBut.of_below hb g none) (.inl rfl)); replace HB := z0 (below_step (by repeat (first | (with_reducible first | exact HB.out | apply below_alloc | apply pw_below_drewN | apply below_drew1 | refine below_set ?_ (IsS98.ge HI0.out)) | exact HB.out)) hb); replace HI0 := z0 (IsS98.below (by repeat (first | (with_reducible first | exact HI0.out | apply IsS98.alloc | apply IsS98.drewN | apply IsS98.drew | apply IsS98.set_1) | exact HI0.out)) hb); clear hb ho40; obtain ⟨Ao41, co41, eo41⟩ := Kd.R_slice HO549.out; subst eo41; obtain ⟨ado41, fo41, _⟩ := Kd.at_string (Kd.R_reads' HO549.out).2.2 0 (by decide) (by rw [Ny547.out]; simp)
                    cases fo41
                    refine hK.out _ _ trivial (fun hHeld => ?_); clear hK K; refine norm_ (a' := ?_) ?_ ?_; rotate_left
                    ·show Act.put _ (some 35) _ = _
                     simp only [Act.put, List.setIfInBounds_toArray, List.set_cons_zero, List.set_cons_succ, i64_w, i32_w]
                     rfl
                    refine pure_ (i := 4) (N := some 38) (v := ?_) (a' := ?_) (fb 15 3999) rfl rfl (any_of HT_.out (by kernel_rfl)) (fun _ _ _ h => h) (Or.inl ⟨by rfl, ?_⟩) ?_ ?_; rotate_left
                    ·intro w'
                     go_simp
                     with_reducible rfl
                    rotate_left
                    ·simp only [Act.put, List.setIfInBounds_toArray, List.set_cons_zero, List.set_cons_succ, i64_w, i32_w]
                     rfl
                    exact norm_ (by first | (simp only [putAll, Act.put, List.setIfInBounds_toArray, List.set_cons_zero, List.set_cons_succ]; done) | (simp only [putAll, Act.put, List.setIfInBounds_toArray, List.set_cons_zero, List.set_cons_succ]; rfl)) (hJ1_7_11 (.slice (some ado41) y547.length co41, ado41, .slice (some adz_v552) y551.length co38, adz_v552) _ ⟨(Kd.R_mono (zr HO549.out) (fun _ hk => ⟨hk.2, hk.1.2⟩)), (Kd.R_mono (zr HO553.out) (fun _ hk => ⟨hk.2, hk.1⟩)), (Kd.R_mono (zr HO_3.out) (fun _ hk => ⟨hk.2, hk.1⟩)), ⟨_, rfl⟩, ⟨_, rfl⟩, (by repeat (first | (with_reducible first | exact HI0.out | apply IsS98.alloc | apply IsS98.drewN | apply IsS98.drew | apply IsS98.set_1) | exact HI0.out)), (zq HK.out), (by repeat (first | (with_reducible first | exact HB.out | apply below_alloc | apply pw_below_drewN | apply below_drew1 | refine below_set ?_ (IsS98.ge HI0.out)) | exact HB.out))⟩)
                  ·skip
                   rintro ⟨v548, adz_v548, v552, adz_v552⟩ w40 ⟨h0_, h1_, h2_, h3_, h4_, h5_, h6_, h7_⟩; have n0_ : Aside0 (Kd.R Kd.string 9 w40 w.heap.size (fun k_ => some k_ ≠ (v552 : Value).ownBlock ∧ some k_ ≠ (.slice Ao32 x3_1.length co32 : Value).ownBlock) v548 y547) := ⟨h0_⟩; have n1_ : Aside0 (Kd.R Kd.string 9 w40 w.heap.size (fun k_ => some k_ ≠ (v548 : Value).ownBlock ∧ some k_ ≠ (.slice Ao32 x3_1.length co32 : Value).ownBlock) v552 y551) := ⟨h1_⟩; have n2_ : Aside0 (Kd.R Kd.string 9 w40 w.heap.size (fun k_ => some k_ ≠ (v548 : Value).ownBlock ∧ some k_ ≠ (v552 : Value).ownBlock) (.slice Ao32 x3_1.length co32) x3_1) := ⟨h2_⟩; have n3_ : Aside0 (∃ c_, (v548 : Value) = .slice (some adz_v548) y547.length c_) := ⟨h3_⟩; have n4_ : Aside0 (∃ c_, (v552 : Value) = .slice (some adz_v552) y551.length c_) := ⟨h4_⟩; have n5_ : Aside0 (IsS98 w0 w40 g s0_0 t531) := ⟨h5_⟩; have n6_ : Aside0 (KeepBut w w40 g none) := ⟨h6_⟩; have n7_ : Aside0 (Below w0.heap.size w0 w40) := ⟨h7_⟩; clear HO_3; clear HI0; clear HK; clear HB; clear h0_ h1_ h2_ h3_ h4_ h5_ h6_ h7_; have HO549 := n0_; have HO553 := n1_; have HO_3 := n2_; have HA_HO549 := n3_; have HA_HO553 := n4_; have HI0 := n5_; have HK := n6_; have HB := n7_; clear n0_ n1_ n2_ n3_ n4_ n5_ n6_ n7_; have hHeld := trivial; obtain ⟨co41, eo41⟩ := HA_HO549.out; clear HA_HO549; subst eo41; obtain ⟨co42, eo42⟩ := HA_HO553.out; clear HA_HO553; subst eo42; refine norm_ (a' := ?_) ?_ ?_; rotate_left
                   ·simp only [putAll, Act.put, List.setIfInBounds_toArray, List.set_cons_zero, List.set_cons_succ]
                    rfl
                   refine two_ (i := 5) (j := 11) (Ni := some 39) (Nj := some 45) (fb 15 1983) (fb 15 3999) rfl rfl rfl rfl (two_of HT_.out (by kernel_rfl)) (by decide) (by decide) (fun K hK => ?_) (fun K hK => ?_)
                   ·skip
                    (have p550 : 0 ≤ ((ji23) : Int) := zd; have q550 : (ji23) < (y547.length : Int) := zd; obtain ⟨ad550, e550, hx550_0⟩ := Kd.at_string (Kd.R_reads' HO549.out).2.2 (ji23) p550 q550; obtain rfl : adz_v548 = ad550 := (by injection e550)); refine value_ (w1 := ?_) (v := ?_) (by rfl) rfl ?_ ?_; rotate_left 2
                    ·go_simp
                     constructor
                     ·rfl
                     ·rfl
                    clear hx550_0; refine hK.out _ _ trivial (fun hHeld => ?_); clear hK K; refine norm_ (a' := ?_) ?_ ?_; rotate_left
                    ·show Act.put _ (some 39) _ = _
                     simp only [Act.put, List.setIfInBounds_toArray, List.set_cons_zero, List.set_cons_succ, i64_w, i32_w]
                     rfl
                    refine pure_ (i := 6) (N := some 40) (v := ?_) (a' := ?_) (fb 15 2047) rfl rfl (any_of HT_.out (by kernel_rfl)) (fun _ _ _ h => h) (Or.inl ⟨by rfl, ?_⟩) ?_ ?_; rotate_left
                    ·intro w'
                     go_simp
                     with_reducible rfl
                    rotate_left
                    ·simp only [Act.put, List.setIfInBounds_toArray, List.set_cons_zero, List.set_cons_succ, i64_w, i32_w]
                     rfl
                    exact norm_ (by first | (simp only [putAll, Act.put, List.setIfInBounds_toArray, List.set_cons_zero, List.set_cons_succ]; done) | (simp only [putAll, Act.put, List.setIfInBounds_toArray, List.set_cons_zero, List.set_cons_succ]; rfl)) (hJ1_5_7 (.slice (some adz_v548) y547.length co41, adz_v548, .slice (some adz_v552) y551.length co42, adz_v552) _ ⟨(zr HO549.out), (zr HO553.out), (zr HO_3.out), ⟨_, rfl⟩, ⟨_, rfl⟩, (by repeat (first | (with_reducible first | exact HI0.out | apply IsS98.alloc | apply IsS98.drewN | apply IsS98.drew | apply IsS98.set_1) | exact HI0.out)), (zq HK.out), (by repeat (first | (with_reducible first | exact HB.out | apply below_alloc | apply pw_below_drewN | apply below_drew1 | refine below_set ?_ (IsS98.ge HI0.out)) | exact HB.out))⟩)
                   ·skip
                    (have p554 : 0 ≤ ((ji27) : Int) := zd; have q554 : (ji27) < (y551.length : Int) := zd; obtain ⟨ad554, e554, hx554_0⟩ := Kd.at_string (Kd.R_reads' HO553.out).2.2 (ji27) p554 q554; obtain rfl : adz_v552 = ad554 := (by injection e554)); refine value_ (w1 := ?_) (v := ?_) (by rfl) rfl ?_ ?_; rotate_left 2
                    ·go_simp
                     constructor
                     ·rfl
                     ·rfl
                    clear hx554_0; refine hK.out _ _ trivial (fun hHeld => ?_); clear hK K; refine norm_ (a' := ?_) ?_ ?_; rotate_left
                    ·show Act.put _ (some 45) _ = _
                     simp only [Act.put, List.setIfInBounds_toArray, List.set_cons_zero, List.set_cons_succ, i64_w, i32_w]
                     rfl
                    exact norm_ (by first | (simp only [putAll, Act.put, List.setIfInBounds_toArray, List.set_cons_zero, List.set_cons_succ]; done) | (simp only [putAll, Act.put, List.setIfInBounds_toArray, List.set_cons_zero, List.set_cons_succ]; rfl)) (hJ1_7_11 (.slice (some adz_v548) y547.length co41, adz_v548, .slice (some adz_v552) y551.length co42, adz_v552) _ ⟨(zr HO549.out), (zr HO553.out), (zr HO_3.out), ⟨_, rfl⟩, ⟨_, rfl⟩, (by repeat (first | (with_reducible first | exact HI0.out | apply IsS98.alloc | apply IsS98.drewN | apply IsS98.drew | apply IsS98.set_1) | exact HI0.out)), (zq HK.out), (by repeat (first | (with_reducible first | exact HB.out | apply below_alloc | apply pw_below_drewN | apply below_drew1 | refine below_set ?_ (IsS98.ge HI0.out)) | exact HB.out))⟩)
                 ·skip
                  rintro ⟨v548, adz_v548⟩ w37 ⟨h0_, h1_, h2_, h3_, h4_, h5_⟩; have n0_ : Aside0 (Kd.R Kd.string 9 w37 w.heap.size (fun k_ => some k_ ≠ (.slice Ao32 x3_1.length co32 : Value).ownBlock) v548 y547) := ⟨h0_⟩; have n1_ : Aside0 (Kd.R Kd.string 9 w37 w.heap.size (fun k_ => some k_ ≠ (v548 : Value).ownBlock) (.slice Ao32 x3_1.length co32) x3_1) := ⟨h1_⟩; have n2_ : Aside0 (∃ c_, (v548 : Value) = .slice (some adz_v548) y547.length c_) := ⟨h2_⟩; have n3_ : Aside0 (IsS98 w0 w37 g s0_0 t531) := ⟨h3_⟩; have n4_ : Aside0 (KeepBut w w37 g none) := ⟨h4_⟩; have n5_ : Aside0 (Below w0.heap.size w0 w37) := ⟨h5_⟩; clear HO_3; clear HI0; clear HK; clear HB; clear h0_ h1_ h2_ h3_ h4_ h5_; have HO549 := n0_; have HO_3 := n1_; have HA_HO549 := n2_; have HI0 := n3_; have HK := n4_; have HB := n5_; clear n0_ n1_ n2_ n3_ n4_ n5_; have hHeld := trivial; obtain ⟨co38, eo38⟩ := HA_HO549.out; clear HA_HO549; subst eo38; refine norm_ (a' := ?_) ?_ ?_; rotate_left
                  ·simp only [putAll, Act.put, List.setIfInBounds_toArray, List.set_cons_zero, List.set_cons_succ]
                   rfl
                  refine one_ (i := 7) (N := some 41) (fb 15 1023) rfl rfl (one_of HT_.out (by kernel_rfl)) (by decide) (fun K hK => ?_); refine Kd.R_lit_step Kd.string _ 9 ?hg (N := 41) ?hd (xs := ([(⟨#[]⟩ : ByteArray), (⟨#[97]⟩ : ByteArray), (⟨#[98]⟩ : ByteArray), (⟨#[99]⟩ : ByteArray), (⟨#[100]⟩ : ByteArray), (⟨#[100, 97]⟩ : ByteArray)] : List ByteArray)) (inner := [.string (⟨#[]⟩ : ByteArray), .string (⟨#[97]⟩ : ByteArray), .string (⟨#[98]⟩ : ByteArray), .string (⟨#[99]⟩ : ByteArray), .string (⟨#[100]⟩ : ByteArray), .string (⟨#[100, 97]⟩ : ByteArray)]) (ok := fun _ => True) (okp := fun _ => True) ?hr ?hp (fun _ hk => hk) trivial (Below.refl _ _) (Nat.le_refl _) (by simp) ?_; (case hd => rfl); (case hg => rfl); (case hr => first | (go_simp; done) | (go_simp; rfl)); (case hp => exact (Reps.one (show Kd.M Kd.string _ _ _ (⟨#[]⟩ : ByteArray) [.string (⟨#[]⟩ : ByteArray)] from rfl) (Reps.one (show Kd.M Kd.string _ _ _ (⟨#[97]⟩ : ByteArray) [.string (⟨#[97]⟩ : ByteArray)] from rfl) (Reps.one (show Kd.M Kd.string _ _ _ (⟨#[98]⟩ : ByteArray) [.string (⟨#[98]⟩ : ByteArray)] from rfl) (Reps.one (show Kd.M Kd.string _ _ _ (⟨#[99]⟩ : ByteArray) [.string (⟨#[99]⟩ : ByteArray)] from rfl) (Reps.one (show Kd.M Kd.string _ _ _ (⟨#[100]⟩ : ByteArray) [.string (⟨#[100]⟩ : ByteArray)] from rfl) (Reps.one (show Kd.M Kd.string _ _ _ (⟨#[100, 97]⟩ : ByteArray) [.string (⟨#[100, 97]⟩ : ByteArray)] from rfl) (Reps.none _ _)))))))); intro v552 w39 ho40 hb hg_ hnew_; clear hg_ hnew_; (first | rw [← Ny551.out] at ho40 | (simp only [Int.reduceToNat] at ho40; rw [← Ny551.out] at ho40)); have HO553 := z0 (Kd.R_lower (Kd.R_new' (Kd.R_new' ho40 (Kd.R_lt (zr HO_3.out))) (Kd.R_lt (zr HO549.out))) (keep_size (w := w) (g := g) (row := none) (zq HK.out))); replace HO_3 := z0 (Kd.R_elder' (zr HO_3.out) (Kd.R_base ho40) hb); replace HO549 := z0 (Kd.R_elder' (zr HO549.out) (Kd.R_base ho40) hb); replace HK := z0 (KeepBut.trans (zq HK.out) (KeepBut.of_below hb g none) (.inl rfl)); replace HB := z0 (below_step (by repeat (first | (with_reducible first | exact HB.out | apply below_alloc | apply pw_below_drewN | apply below_drew1 | refine below_set ?_ (IsS98.ge HI0.out)) | exact HB.out)) hb); replace HI0 := z0 (IsS98.below (by repeat (first | (with_reducible first | exact HI0.out | apply IsS98.alloc | apply IsS98.drewN | apply IsS98.drew | apply IsS98.set_1) | exact HI0.out)) hb); clear hb ho40; obtain ⟨Ao41, co41, eo41⟩ := Kd.R_slice HO553.out; subst eo41; obtain ⟨ado41, fo41, _⟩ := Kd.at_string (Kd.R_reads' HO553.out).2.2 0 (by decide) (by rw [Ny551.out]; simp)
                  cases fo41
                  refine hK.out _ _ trivial (fun hHeld => ?_); clear hK K; refine norm_ (a' := ?_) ?_ ?_; rotate_left
                  ·show Act.put _ (some 41) _ = _
                   simp only [Act.put, List.setIfInBounds_toArray, List.set_cons_zero, List.set_cons_succ, i64_w, i32_w]
                   rfl
                  refine pure_ (i := 10) (N := some 44) (v := ?_) (a' := ?_) (fb 15 2047) rfl rfl (any_of HT_.out (by kernel_rfl)) (fun _ _ _ h => h) (Or.inl ⟨by rfl, ?_⟩) ?_ ?_; rotate_left
                  ·intro w'
                   go_simp
                   with_reducible rfl
                  rotate_left
                  ·simp only [Act.put, List.setIfInBounds_toArray, List.set_cons_zero, List.set_cons_succ, i64_w, i32_w]
                   rfl
                  exact norm_ (by first | (simp only [putAll, Act.put, List.setIfInBounds_toArray, List.set_cons_zero, List.set_cons_succ]; done) | (simp only [putAll, Act.put, List.setIfInBounds_toArray, List.set_cons_zero, List.set_cons_succ]; rfl)) (hJ1_5_7 (.slice (some adz_v548) y547.length co38, adz_v548, .slice (some ado41) y551.length co41, ado41) _ ⟨(Kd.R_mono (zr HO549.out) (fun _ hk => ⟨hk.2, hk.1⟩)), (Kd.R_mono (zr HO553.out) (fun _ hk => ⟨hk.2, hk.1.2⟩)), (zr HO_3.out), ⟨_, rfl⟩, ⟨_, rfl⟩, (by repeat (first | (with_reducible first | exact HI0.out | apply IsS98.alloc | apply IsS98.drewN | apply IsS98.drew | apply IsS98.set_1) | exact HI0.out)), (zq HK.out), (by repeat (first | (with_reducible first | exact HB.out | apply below_alloc | apply pw_below_drewN | apply below_drew1 | refine below_set ?_ (IsS98.ge HI0.out)) | exact HB.out))⟩)
                ·skip
                 rintro ⟨v548, adz_v548, v552, adz_v552⟩ w40 ⟨h0_, h1_, h2_, h3_, h4_, h5_, h6_, h7_⟩; have n0_ : Aside0 (Kd.R Kd.string 9 w40 w.heap.size (fun k_ => some k_ ≠ (v552 : Value).ownBlock ∧ some k_ ≠ (.slice Ao32 x3_1.length co32 : Value).ownBlock) v548 y547) := ⟨h0_⟩; have n1_ : Aside0 (Kd.R Kd.string 9 w40 w.heap.size (fun k_ => some k_ ≠ (v548 : Value).ownBlock ∧ some k_ ≠ (.slice Ao32 x3_1.length co32 : Value).ownBlock) v552 y551) := ⟨h1_⟩; have n2_ : Aside0 (Kd.R Kd.string 9 w40 w.heap.size (fun k_ => some k_ ≠ (v548 : Value).ownBlock ∧ some k_ ≠ (v552 : Value).ownBlock) (.slice Ao32 x3_1.length co32) x3_1) := ⟨h2_⟩; have n3_ : Aside0 (∃ c_, (v548 : Value) = .slice (some adz_v548) y547.length c_) := ⟨h3_⟩; have n4_ : Aside0 (∃ c_, (v552 : Value) = .slice (some adz_v552) y551.length c_) := ⟨h4_⟩; have n5_ : Aside0 (IsS98 w0 w40 g s0_0 t531) := ⟨h5_⟩; have n6_ : Aside0 (KeepBut w w40 g none) := ⟨h6_⟩; have n7_ : Aside0 (Below w0.heap.size w0 w40) := ⟨h7_⟩; clear HO_3; clear HI0; clear HK; clear HB; clear h0_ h1_ h2_ h3_ h4_ h5_ h6_ h7_; have HO549 := n0_; have HO553 := n1_; have HO_3 := n2_; have HA_HO549 := n3_; have HA_HO553 := n4_; have HI0 := n5_; have HK := n6_; have HB := n7_; clear n0_ n1_ n2_ n3_ n4_ n5_ n6_ n7_; have hHeld := trivial; obtain ⟨co41, eo41⟩ := HA_HO549.out; clear HA_HO549; subst eo41; obtain ⟨co42, eo42⟩ := HA_HO553.out; clear HA_HO553; subst eo42; refine norm_ (a' := ?_) ?_ ?_; rotate_left
                 ·simp only [putAll, Act.put, List.setIfInBounds_toArray, List.set_cons_zero, List.set_cons_succ]
                  rfl
                 refine one_ (i := 5) (N := some 39) (fb 15 4031) rfl rfl (one_of HT_.out (by kernel_rfl)) (by decide) (fun K hK => ?_); (have p550 : 0 ≤ ((ji23) : Int) := zd; have q550 : (ji23) < (y547.length : Int) := zd; obtain ⟨ad550, e550, hx550_0⟩ := Kd.at_string (Kd.R_reads' HO549.out).2.2 (ji23) p550 q550; obtain rfl : adz_v548 = ad550 := (by injection e550)); refine value_ (w1 := ?_) (v := ?_) (by rfl) rfl ?_ ?_; rotate_left 2
                 ·go_simp
                  constructor
                  ·rfl
                  ·rfl
                 clear hx550_0; refine hK.out _ _ trivial (fun hHeld => ?_); clear hK K; refine norm_ (a' := ?_) ?_ ?_; rotate_left
                 ·show Act.put _ (some 39) _ = _
                  simp only [Act.put, List.setIfInBounds_toArray, List.set_cons_zero, List.set_cons_succ, i64_w, i32_w]
                  rfl
                 refine pure_ (i := 6) (N := some 40) (v := ?_) (a' := ?_) (fb 15 4095) rfl rfl (any_of HT_.out (by kernel_rfl)) (fun _ _ _ h => h) (Or.inl ⟨by rfl, ?_⟩) ?_ ?_; rotate_left
                 ·intro w'
                  go_simp
                  with_reducible rfl
                 rotate_left
                 ·simp only [Act.put, List.setIfInBounds_toArray, List.set_cons_zero, List.set_cons_succ, i64_w, i32_w]
                  rfl
                 exact norm_ (by first | (simp only [putAll, Act.put, List.setIfInBounds_toArray, List.set_cons_zero, List.set_cons_succ]; done) | (simp only [putAll, Act.put, List.setIfInBounds_toArray, List.set_cons_zero, List.set_cons_succ]; rfl)) (hJ1_5_7_11 (.slice (some adz_v548) y547.length co41, adz_v548, .slice (some adz_v552) y551.length co42, adz_v552) _ ⟨(zr HO549.out), (zr HO553.out), (zr HO_3.out), ⟨_, rfl⟩, ⟨_, rfl⟩, (by repeat (first | (with_reducible first | exact HI0.out | apply IsS98.alloc | apply IsS98.drewN | apply IsS98.drew | apply IsS98.set_1) | exact HI0.out)), (zq HK.out), (by repeat (first | (with_reducible first | exact HB.out | apply below_alloc | apply pw_below_drewN | apply below_drew1 | refine below_set ?_ (IsS98.ge HI0.out)) | exact HB.out))⟩)
               ·skip
                rintro ⟨v548, adz_v548, v552, adz_v552⟩ w40 ⟨h0_, h1_, h2_, h3_, h4_, h5_, h6_, h7_⟩; have n0_ : Aside0 (Kd.R Kd.string 9 w40 w.heap.size (fun k_ => some k_ ≠ (v552 : Value).ownBlock ∧ some k_ ≠ (.slice Ao32 x3_1.length co32 : Value).ownBlock) v548 y547) := ⟨h0_⟩; have n1_ : Aside0 (Kd.R Kd.string 9 w40 w.heap.size (fun k_ => some k_ ≠ (v548 : Value).ownBlock ∧ some k_ ≠ (.slice Ao32 x3_1.length co32 : Value).ownBlock) v552 y551) := ⟨h1_⟩; have n2_ : Aside0 (Kd.R Kd.string 9 w40 w.heap.size (fun k_ => some k_ ≠ (v548 : Value).ownBlock ∧ some k_ ≠ (v552 : Value).ownBlock) (.slice Ao32 x3_1.length co32) x3_1) := ⟨h2_⟩; have n3_ : Aside0 (∃ c_, (v548 : Value) = .slice (some adz_v548) y547.length c_) := ⟨h3_⟩; have n4_ : Aside0 (∃ c_, (v552 : Value) = .slice (some adz_v552) y551.length c_) := ⟨h4_⟩; have n5_ : Aside0 (IsS98 w0 w40 g s0_0 t531) := ⟨h5_⟩; have n6_ : Aside0 (KeepBut w w40 g none) := ⟨h6_⟩; have n7_ : Aside0 (Below w0.heap.size w0 w40) := ⟨h7_⟩; clear HO_3; clear HI0; clear HK; clear HB; clear h0_ h1_ h2_ h3_ h4_ h5_ h6_ h7_; have HO549 := n0_; have HO553 := n1_; have HO_3 := n2_; have HA_HO549 := n3_; have HA_HO553 := n4_; have HI0 := n5_; have HK := n6_; have HB := n7_; clear n0_ n1_ n2_ n3_ n4_ n5_ n6_ n7_; have hHeld := trivial; obtain ⟨co41, eo41⟩ := HA_HO549.out; clear HA_HO549; subst eo41; obtain ⟨co42, eo42⟩ := HA_HO553.out; clear HA_HO553; subst eo42; refine norm_ (a' := ?_) ?_ ?_; rotate_left
                ·simp only [putAll, Act.put, List.setIfInBounds_toArray, List.set_cons_zero, List.set_cons_succ]
                 rfl
                refine one_ (i := 11) (N := some 45) (fb 15 4095) rfl rfl (one_of HT_.out (by kernel_rfl)) (by decide) (fun K hK => ?_); (have p554 : 0 ≤ ((ji27) : Int) := zd; have q554 : (ji27) < (y551.length : Int) := zd; obtain ⟨ad554, e554, hx554_0⟩ := Kd.at_string (Kd.R_reads' HO553.out).2.2 (ji27) p554 q554; obtain rfl : adz_v552 = ad554 := (by injection e554)); refine value_ (w1 := ?_) (v := ?_) (by rfl) rfl ?_ ?_; rotate_left 2
                ·go_simp
                 constructor
                 ·rfl
                 ·rfl
                clear hx554_0; refine hK.out _ _ trivial (fun hHeld => ?_); clear hK K; refine norm_ (a' := ?_) ?_ ?_; rotate_left
                ·show Act.put _ (some 45) _ = _
                 simp only [Act.put, List.setIfInBounds_toArray, List.set_cons_zero, List.set_cons_succ, i64_w, i32_w]
                 rfl
                exact norm_ (by first | (simp only [putAll, Act.put, List.setIfInBounds_toArray, List.set_cons_zero, List.set_cons_succ]; done) | (simp only [putAll, Act.put, List.setIfInBounds_toArray, List.set_cons_zero, List.set_cons_succ]; rfl)) (hJ1_5_7_11 (.slice (some adz_v548) y547.length co41, adz_v548, .slice (some adz_v552) y551.length co42, adz_v552) _ ⟨(zr HO549.out), (zr HO553.out), (zr HO_3.out), ⟨_, rfl⟩, ⟨_, rfl⟩, (by repeat (first | (with_reducible first | exact HI0.out | apply IsS98.alloc | apply IsS98.drewN | apply IsS98.drew | apply IsS98.set_1) | exact HI0.out)), (zq HK.out), (by repeat (first | (with_reducible first | exact HB.out | apply below_alloc | apply pw_below_drewN | apply below_drew1 | refine below_set ?_ (IsS98.ge HI0.out)) | exact HB.out))⟩)
              rintro ⟨v548, adz_v548, v552, adz_v552⟩ w40 ⟨h0_, h1_, h2_, h3_, h4_, h5_, h6_, h7_⟩; have n0_ : Aside0 (Kd.R Kd.string 9 w40 w.heap.size (fun k_ => some k_ ≠ (v552 : Value).ownBlock ∧ some k_ ≠ (.slice Ao32 x3_1.length co32 : Value).ownBlock) v548 y547) := ⟨h0_⟩; have n1_ : Aside0 (Kd.R Kd.string 9 w40 w.heap.size (fun k_ => some k_ ≠ (v548 : Value).ownBlock ∧ some k_ ≠ (.slice Ao32 x3_1.length co32 : Value).ownBlock) v552 y551) := ⟨h1_⟩; have n2_ : Aside0 (Kd.R Kd.string 9 w40 w.heap.size (fun k_ => some k_ ≠ (v548 : Value).ownBlock ∧ some k_ ≠ (v552 : Value).ownBlock) (.slice Ao32 x3_1.length co32) x3_1) := ⟨h2_⟩; have n3_ : Aside0 (∃ c_, (v548 : Value) = .slice (some adz_v548) y547.length c_) := ⟨h3_⟩; have n4_ : Aside0 (∃ c_, (v552 : Value) = .slice (some adz_v552) y551.length c_) := ⟨h4_⟩; have n5_ : Aside0 (IsS98 w0 w40 g s0_0 t531) := ⟨h5_⟩; have n6_ : Aside0 (KeepBut w w40 g none) := ⟨h6_⟩; have n7_ : Aside0 (Below w0.heap.size w0 w40) := ⟨h7_⟩; clear HO_3; clear HI0; clear HK; clear HB; clear h0_ h1_ h2_ h3_ h4_ h5_ h6_ h7_; have HO549 := n0_; have HO553 := n1_; have HO_3 := n2_; have HA_HO549 := n3_; have HA_HO553 := n4_; have HI0 := n5_; have HK := n6_; have HB := n7_; clear n0_ n1_ n2_ n3_ n4_ n5_ n6_ n7_; have hHeld := trivial; obtain ⟨co41, eo41⟩ := HA_HO549.out; clear HA_HO549; subst eo41; obtain ⟨co42, eo42⟩ := HA_HO553.out; clear HA_HO553; subst eo42; refine norm_ (a' := ?_) ?_ ?_; rotate_left
              ·simp only [putAll, Act.put, List.setIfInBounds_toArray, List.set_cons_zero, List.set_cons_succ]
               rfl
              refine pure_ (i := 12) (N := some 46) (v := ?_) (a' := ?_) (fb 15 8191) rfl rfl (any_of HT_.out (by kernel_rfl)) (fun _ _ _ h => h) (Or.inl ⟨by rfl, ?_⟩) ?_ ?_; rotate_left
              ·intro w'
               go_simp
               with_reducible rfl
              rotate_left
              ·simp only [Act.put, List.setIfInBounds_toArray, List.set_cons_zero, List.set_cons_succ, i64_w, i32_w]
               rfl
              refine one_ (i := 13) (N := some 47) (fb 15 16383) rfl rfl (one_of HT_.out (by kernel_rfl)) (by decide) (fun K hK => ?_); refine goes_ Try.func111 (by kernel_rfl) rfl #[.slice Ao32 x3_1.length co32, .string (((⟨#[100]⟩ : ByteArray) ++ (rdOf ByteArray.empty y547 (ji23))) ++ (rdOf ByteArray.empty y551 (ji27)))] (by rfl) rfl rfl (by (try simp only [List.map_toArray, List.map_cons, List.map_nil]); first | done | (simp only [hji23, hji27]; rfl) | rfl | (simp only [List.length_drop, List.length_take]; rfl)) ?_
              with_reducible refine (spec_l2Put.calls k1 (fun k_ => some k_ = (.slice Ao32 x3_1.length co32 : Value).ownBlock) (.slice Ao32 x3_1.length co32) x3_1 (((⟨#[100]⟩ : ByteArray) ++ (rdOf ByteArray.empty y547 (ji23))) ++ (rdOf ByteArray.empty y551 (ji27))) t555 w0 _ ?side1 ?side2 A31.out).mono ?_
              (case side1 => repeat (first | (with_reducible first | exact HB.out | apply below_alloc | apply pw_below_drewN | apply below_drew1 | refine below_set ?_ (IsS98.ge HI0.out)) | exact HB.out)); (case side2 => exact Kd.R_lower (Kd.R_tight rfl HO_3.out) HL.out); rintro e w43 ⟨v556, rfl, ho0, hb, hkp⟩; refine ⟨_, rfl, ?_⟩; replace HI0 := z0 (IsS98.kept (by repeat (first | (with_reducible first | exact HI0.out | apply IsS98.alloc | apply IsS98.drewN | apply IsS98.drew | apply IsS98.set_1) | exact HI0.out)) hkp (fun hs_ => (fun e_ => (IsS98.own_ne HI0.out HO_3.out (by decide)) e_) hs_)); have HO557 := z0 (Kd.R_mono (ok' := fun k_ => some k_ ≠ (.slice (some adz_v548) y547.length co41 : Value).ownBlock ∧ some k_ ≠ (.slice (some adz_v552) y551.length co42 : Value).ownBlock) (Kd.R_raise (d := Kd.string) (b := w0.heap.size) (b' := w.heap.size) (fun _ _ _ _ h_ => h_) ho0 (fun k_ e_ => Or.elim (ho0.1 k_ e_) (fun hs_ => (fun e_ => Kd.R_base HO_3.out k_ e_.symm) hs_) (fun hn_ => Nat.le_trans (keep_size (w := w) (g := g) (row := none) (zq HK.out)) hn_))) (fun k_ hk_ => ⟨Or.elim hk_ (fun hs_ => fun e_ => (((HO549.out).1 k_ e_.symm).2) hs_) (fun hn_ => (Kd.fresh' (Kd.R_lt (zr HO549.out)) k_ hn_)), Or.elim hk_ (fun hs_ => fun e_ => (((HO553.out).1 k_ e_.symm).2) hs_) (fun hn_ => (Kd.fresh' (Kd.R_lt (zr HO553.out)) k_ hn_))⟩)); replace HO549 := z0 (Kd.R_mono (ok' := fun k_ => some k_ ≠ (.slice (some adz_v552) y551.length co42 : Value).ownBlock ∧ some k_ ≠ (v556 : Value).ownBlock) (Kd.R_keptB (HO549.out) hkp (fun k_ hk_ hs_ => (hk_.2) hs_)) (fun k_ hk_ => ⟨hk_.1.1, fun e_ => Or.elim (ho0.1 k_ e_.symm) (fun hs_ => hk_.2.1 hs_) (fun hn_ => Nat.not_le.2 hk_.2.2 hn_)⟩)); replace HO553 := z0 (Kd.R_mono (ok' := fun k_ => some k_ ≠ (.slice (some adz_v548) y547.length co41 : Value).ownBlock ∧ some k_ ≠ (v556 : Value).ownBlock) (Kd.R_keptB (HO553.out) hkp (fun k_ hk_ hs_ => (hk_.2) hs_)) (fun k_ hk_ => ⟨hk_.1.1, fun e_ => Or.elim (ho0.1 k_ e_.symm) (fun hs_ => hk_.2.1 hs_) (fun hn_ => Nat.not_le.2 hk_.2.2 hn_)⟩)); replace HK := z0 (Kept.keepG (zq HK.out) hkp (fun k_ hs_ => (fun e_ => .inr (Kd.R_base HO_3.out k_ e_.symm)) hs_)); replace HB := z0 (hb); clear HO_3; (try clear hb); (try clear hkp); (try clear ho0); refine hK.out _ _ trivial (fun hHeld => ?_); clear hK K; refine norm_ (a' := ?_) ?_ ?_; rotate_left
              ·show Act.put _ (some 47) _ = _
               simp only [Act.put, List.setIfInBounds_toArray, List.set_cons_zero, List.set_cons_succ, i64_w, i32_w]
               rfl
              refine pure_ (i := 14) (N := some 3) (v := ?_) (a' := ?_) (fb 15 32767) rfl rfl (any_of HT_.out (by kernel_rfl)) (fun _ _ _ h => h) (Or.inl ⟨by rfl, ?_⟩) ?_ ?_; rotate_left
              ·intro w'
               go_simp
               with_reducible rfl
              rotate_left
              ·simp only [Act.put, List.setIfInBounds_toArray, List.set_cons_zero, List.set_cons_succ, i64_w, i32_w]
               rfl
              refine done_ (done_of HT_.out (by kernel_rfl)) ?_
              try go_wp2
              go_roundg k1
              case measure => have := HK1.out; omega
              case rel => exact ⟨(t555), (wrap64 (x4_1 + 1)), zf, H', ⟨by have := HK1.out; omega⟩, ⟨Kd.R_mono (zr HO557.out) (fun _ hk => trivial)⟩, ⟨by repeat (first | (with_reducible first | exact HI0.out | apply IsS98.alloc | apply IsS98.drewN | apply IsS98.drew | apply IsS98.set_1) | exact HI0.out)⟩, ⟨zq HK.out⟩, ⟨by repeat (first | (with_reducible first | exact HB.out | apply below_alloc | apply pw_below_drewN | apply below_drew1 | refine below_set ?_ (IsS98.ge HI0.out)) | exact HB.out)⟩⟩
             ·rw [if_neg c30] at H; exact absurd H (by simp)
            ·rw [if_neg c29] at H; exact absurd H (by simp)
           ·rw [if_neg c28] at H; exact absurd H (by simp)
          ·rw [if_neg c26] at H; exact absurd H (by simp)
         ·rw [if_neg c25] at H; exact absurd H (by simp)
        ·rw [if_neg c24] at H; exact absurd H (by simp)
       ·rw [if_neg c22] at H; have c22b0 : decide (x4_1 < 30) = false := decide_eq_false c22; clear c22; simp only [Option.some.injEq, Prod.mk.injEq] at H; obtain ⟨rfl, rfl⟩ := H; go_wp2; go_ret; exact ⟨_, ze, zr HO_3.out, by repeat (first | (with_reducible first | exact HI0.out | apply IsS98.alloc | apply IsS98.drewN | apply IsS98.drew | apply IsS98.set_1) | exact HI0.out), by repeat (first | (with_reducible first | exact HB.out | apply below_alloc | apply pw_below_drewN | apply below_drew1 | refine below_set ?_ (IsS98.ge HI0.out)) | exact HB.out), zq HK.out⟩
    ·rw [if_neg c21] at H; have c21b0 : (t530 == 3) = false := beq_eq_false_iff_ne.mpr c21; have c21b1 : (t530 != 3) = true := bne_iff_ne.mpr c21; simp only [Option.some.injEq, Prod.mk.injEq] at H; obtain ⟨rfl, rfl⟩ := H; go_wp2; go_ret; exact ⟨_, ze, zr HO528.out, by repeat (first | (with_reducible first | exact HI0.out | apply IsS98.alloc | apply IsS98.drewN | apply IsS98.drew | apply IsS98.set_1) | exact HI0.out), by repeat (first | (with_reducible first | exact HB.out | apply below_alloc | apply pw_below_drewN | apply below_drew1 | refine below_set ?_ (IsS98.ge HI0.out)) | exact HB.out), zq HK.out⟩
end Go.Proofs.Ytifgcajpkgamgaa.Q
end
