/- What the laws of the set SM need: the kit's printed words, the printed functions with their proofs, and plain facts on them. -/
import Derived.Deep.RegionLaw
import Derived.Deep.DeepMust
import Derived.Test.YtifgcajpkgamgaaBSMc
section
namespace Go.Proofs.Ytifgcajpkgamgaa.Hand
open Go Go.RowKit Go.Proofs.Ytifgcajpkgamgaa.Q Go.Proofs.YtifgcajpkgamgaaW.PrintWords Go.Proofs.YtifgcajpkgamgaaW.PrintLast Go.Proofs.YtifgcajpkgamgaaW.PrintMore
attribute [local go_sem] max2_int min2_int max_two min_two max_three min_three max_four min_four
set_option linter.unusedVariables false
set_option linter.unusedSimpArgs false
theorem label_range {a : ByteArray} {d r : Int} (h : impl_label.f a d = some r) : 0 ≤ r ∧ r ≤ 255 := by
 unfold impl_label.f at h
 split at h
 ·injection h with h; omega
 ·split at h
  ·split at h
   ·injection h with h
    have := bt_range a d
    omega
   ·cases h
  ·cases h
def SvPost (w : World) (r : ByteArray × ByteArray × ByteArray × List ByteArray × Int) (e : Ending) (w' : World) : Prop :=
 ∃ v3_ : Value, e = .returned (.agg #[.string r.1, .string r.2.1, .string r.2.2.1, v3_, .int .i64 r.2.2.2.2]) ∧ Kd.R Kd.string 9 w' w.heap.size (fun _ => True) v3_ r.2.2.2.1 ∧ Below w.heap.size w w'
set_option maxHeartbeats 8000000 in
set_option maxRecDepth 100000 in
theorem sieveOf (k : Nat) (A0 : Option Addr) (c0 : Nat) (l0 : List ByteArray) (a1 : Int) (r : ByteArray × ByteArray × ByteArray × List ByteArray × Int) (w : World) (hr0 : Kd.C Kd.string w A0 l0.length l0) (hc0 : l0.length ≤ c0) (h : impl_sieveOf.f k l0 a1 = some r) :
  Calls Try.prog 75 #[.slice A0 l0.length c0, .int .i64 a1] w (SvPost w r) := by
 have HS := Aside0.mk (Sv.start w a1 hr0 hc0)
 have H' := Aside0.mk (show impl_sieveOf.l0 k (⟨#[]⟩ : ByteArray) (⟨#[]⟩ : ByteArray) (⟨#[]⟩ : ByteArray) [] [⟨l0, 0⟩] a1 0 = some r from h)
 clear hr0 hc0 h
 go_enter Try.func75, Try.ntmps75
 go_wp2
 go_loopg [9, 10] k (fun kq v9 v10 wr => ∃ (a b c : ByteArray) (R : List ByteArray) (Q : List S108) (i : Int) (vR : Value), v10 = .int .i64 i ∧ Aside0 (impl_sieveOf.l0 kq a b c R Q a1 i = some r) ∧ Aside0 (kq ≤ k) ∧ Aside0 (Sv w wr v9 vR (three a b c) R Q a1))
 case atStart => exact ⟨_, _, _, _, _, 0, _, rfl, H', ⟨Nat.le_refl _⟩, ⟨HS.out.congr (fun j hj => match j, hj with | 0, _ => rfl | 1, _ => rfl | 2, _ => rfl)⟩⟩
 case round =>
  clear H' HS
  obtain ⟨a, b, c, R, Q, i, vR, rfl, HA, HK1, HS⟩ := hrel
  cases gk with
  | zero => exact absurd HA.out (by simp [impl_sieveOf.l0])
  | succ k1 =>
   have H := HA.out
   clear HA
   simp only [impl_sieveOf.l0] at H
   obtain ⟨Aq, cq, hvq⟩ := HS.out.slice
   subst hvq
   by_cases c5 : i < (Q.length : Int)
   ·rw [if_pos c5] at H
    obtain ⟨c6, H⟩ := zn H
    obtain ⟨ad, A1, c1, hA, x0, x1, hl1, hC⟩ := HS.out.at i c6 c5
    subst hA
    have HC := Aside0.mk (And.intro hl1 hC)
    clear hl1 hC
    have H' := Aside0.mk H
    clear H
    have t5 : decide (i < (Q.length : Int)) = true := decide_eq_true c5
    replace c5 := eq_true c5
    replace c6 := eq_true c6
    generalize (rd_T108 Q i).f0 = rest at H' HC x0
    generalize (rd_T108 Q i).f1 = depth at H' x1
    go_wp2
    go_quiet (fail)
    go_wp2
    clear x0 x1 t5 c5 c6
    go_loopg [9, 11, 13] k1 (fun kq v9 v11 v13 wr => ∃ (a b c : ByteArray) (R : List ByteArray) (Q : List S108) (vR : Value) (rest : List ByteArray) (A1 : Option Addr) (c1 : Nat) (mark : Int), v11 = .slice A1 rest.length c1 ∧ v13 = .int .u8 mark ∧ Aside0 (impl_sieveOf.l1 kq a b c R Q a1 i rest depth mark = some r) ∧ Aside0 (kq ≤ k1) ∧ Aside0 (Sv w wr v9 vR (three a b c) R Q a1) ∧ Aside0 (rest.length ≤ c1 ∧ Kd.string.C w A1 rest.length rest) ∧ Aside0 (0 ≤ mark ∧ mark ≤ 255))
    case atStart => exact ⟨a, b, c, R, Q, vR, rest, A1, c1, 49, rfl, rfl, H', ⟨Nat.le_refl _⟩, ⟨HS.out.drewN _⟩, HC, ⟨by omega⟩⟩
    case round =>
     clear H' HS HC
     obtain ⟨a, b, c, R, Q, vR, rest, A1, c1, mark, rfl, rfl, HA, HK2, HS, HC, HM⟩ := hrel
     cases gk with
     | zero => exact absurd HA.out (by simp [impl_sieveOf.l1])
     | succ k2 =>
      have H := HA.out
      clear HA
      simp only [impl_sieveOf.l1] at H
      obtain ⟨Aq, cq, hvq⟩ := HS.out.slice
      subst hvq
      by_cases c7 : (rest.length : Int) > 0
      ·rw [if_pos c7] at H
       have H' := Aside0.mk H
       clear H
       have t7 : decide ((rest.length : Int) > 0) = true := decide_eq_true c7
       have t7' : decide (0 < rest.length) = true := decide_eq_true (by omega)
       have C7 := Aside0.mk c7
       clear c7
       go_upto_block 4 with (fail)
       go_cut [14] (fun v14 wc => ∃ (kq : Nat) (n : Int), v14 = .int .i64 n ∧ Aside0 (impl_sieveOf.l3 kq a b c R Q a1 i rest depth mark n = some r) ∧ Aside0 (kq ≤ k2) ∧ Aside0 (Sv w wc (.slice Aq Q.length cq) vR (three a b c) R Q a1))
       case first =>
        go_wp2
        go_loopg [14] k2 (fun kq v14 wr => ∃ (n : Int), v14 = .int .i64 n ∧ Aside0 (impl_sieveOf.l2 kq a b c R Q a1 i rest depth mark n = some r) ∧ Aside0 (kq ≤ k2) ∧ Aside0 (Sv w wr (.slice Aq Q.length cq) vR (three a b c) R Q a1))
        case atStart => exact ⟨1, rfl, H', ⟨Nat.le_refl _⟩, HS⟩
        case round =>
         clear H' HS
         obtain ⟨n, rfl, HA, HK3, HS⟩ := hrel
         cases gk with
         | zero => exact absurd HA.out (by simp [impl_sieveOf.l2])
         | succ k3 =>
          have H := HA.out
          clear HA
          simp only [impl_sieveOf.l2] at H
          by_cases c8 : n < (rest.length : Int)
          ·rw [if_pos c8] at H
           obtain ⟨c9, H⟩ := zn H
           obtain ⟨x, hx, H⟩ := Option.bind_eq_some_iff.1 H
           obtain ⟨y, hy, H⟩ := Option.bind_eq_some_iff.1 H
           obtain ⟨ad1, hA, x0⟩ := HS.out.key HC.out.2 n c9 c8
           subst hA
           obtain ⟨ad2, hA, y0⟩ := HS.out.key HC.out.2 0 (Int.le_refl 0) (by omega)
           obtain rfl : ad1 = ad2 := by injection hA
           clear hA
           have HX := Aside0.mk hx
           have HY := Aside0.mk hy
           clear hx hy
           have t8 : decide (n < (rest.length : Int)) = true := decide_eq_true c8
           have t9 : (0 < rest.length) = True := eq_true (by omega)
           rw [show ((0 : Int)).toNat = 0 from rfl, Addr.add_zero'] at y0
           replace c8 := eq_true c8
           replace c9 := eq_true c9
           by_cases cq' : x = y
           ·rw [if_pos cq'] at H
            have H' := Aside0.mk H
            clear H
            have t10 : ((x : Int) == y) = true := beq_iff_eq.2 cq'
            clear cq'
            go_wp2
            go_quiet (first | (go_at_call 103; (with_reducible refine (impl_label.calls _ _ x _ HX.out).mono ?_); rintro e w' ⟨rfl, ⟨nd, rfl⟩⟩; (first | exact ⟨rfl, _, World.drewN_drewN _ _ _⟩ | exact ⟨rfl, _, Eq.trans (World.drewN_drewN _ _ _) (congrArg (World.drewN _) (Nat.add_assoc _ _ _))⟩)) | (go_at_call 103; (with_reducible refine (impl_label.calls _ _ y _ HY.out).mono ?_); rintro e w' ⟨rfl, ⟨nd, rfl⟩⟩; (first | exact ⟨rfl, _, World.drewN_drewN _ _ _⟩ | exact ⟨rfl, _, Eq.trans (World.drewN_drewN _ _ _) (congrArg (World.drewN _) (Nat.add_assoc _ _ _))⟩)))
            go_wp2
            go_roundg k3
            case measure => omega
            case rel => exact ⟨_, rfl, H', ⟨by have := HK3.out; omega⟩, ⟨HS.out.drewN _⟩⟩
           ·rw [if_neg cq'] at H
            have H' := Aside0.mk H
            clear H
            have t10 : ((x : Int) == y) = false := beq_eq_false_iff_ne.2 cq'
            clear cq'
            go_wp2
            go_quiet (first | (go_at_call 103; (with_reducible refine (impl_label.calls _ _ x _ HX.out).mono ?_); rintro e w' ⟨rfl, ⟨nd, rfl⟩⟩; (first | exact ⟨rfl, _, World.drewN_drewN _ _ _⟩ | exact ⟨rfl, _, Eq.trans (World.drewN_drewN _ _ _) (congrArg (World.drewN _) (Nat.add_assoc _ _ _))⟩)) | (go_at_call 103; (with_reducible refine (impl_label.calls _ _ y _ HY.out).mono ?_); rintro e w' ⟨rfl, ⟨nd, rfl⟩⟩; (first | exact ⟨rfl, _, World.drewN_drewN _ _ _⟩ | exact ⟨rfl, _, Eq.trans (World.drewN_drewN _ _ _) (congrArg (World.drewN _) (Nat.add_assoc _ _ _))⟩)))
            go_wp2
            go_meet
            case rel => exact ⟨_, n, rfl, H', ⟨by have := HK3.out; omega⟩, ⟨HS.out.drewN _⟩⟩
          ·rw [if_neg c8] at H
           have H' := Aside0.mk H
           clear H
           have t8 : decide (n < (rest.length : Int)) = false := decide_eq_false c8
           clear c8
           go_wp2
           go_quiet (fail)
           go_wp2
           go_meet
           case rel => exact ⟨_, n, rfl, H', ⟨by have := HK3.out; omega⟩, ⟨HS.out.drewN _⟩⟩
       case rest =>
        clear H' HS
        obtain ⟨kq, n, rfl, HA, HK3, HS⟩ := hcut
        cases kq with
        | zero => exact absurd HA.out (by simp [impl_sieveOf.l3])
        | succ k3 =>
         have H := HA.out
         clear HA
         simp only [impl_sieveOf.l3] at H
         obtain ⟨g, H⟩ := zn H
         obtain ⟨x, hx, H⟩ := Option.bind_eq_some_iff.1 H
         have HXR := Aside0.mk (label_range hx)
         have HX := Aside0.mk hx
         clear hx
         obtain ⟨ad1, hA, y0⟩ := HS.out.key HC.out.2 0 (Int.le_refl 0) (by have := C7.out; omega)
         subst hA
         rw [show ((0 : Int)).toNat = 0 from rfl, Addr.add_zero'] at y0
         have t9 : (0 < rest.length) = True := eq_true (by have := C7.out; omega)
         obtain ⟨i9, hi9, _, hsz9, _⟩ := info_parts info9
         have hcutF := cut_from (P := Try.prog) 23 9 .i64 Try.underlying23 hi9 1 hsz9 (some ad1) rest.length c1 n g.2.2.2.1 g.2.2.2.2.1
         have hcutT := cut_to (P := Try.prog) 23 9 .i64 Try.underlying23 hi9 (some ad1) rest.length c1 n g.2.2.2.1 g.2.2.2.2.1 HC.out.1
         have hCF := Kd.C_drop (m := n.toNat) (c := c1) HC.out.2 (by omega) HC.out.1
         have hCT := Kd.C_take (m := n.toNat) HC.out.2 (by omega)
         obtain ⟨dr, hdr⟩ : ∃ dr, dr = rest.drop n.toNat := ⟨_, rfl⟩
         obtain ⟨tk, htk⟩ : ∃ tk, tk = rest.take n.toNat := ⟨_, rfl⟩
         have hdl : rest.length - n.toNat = dr.length := by rw [hdr, List.length_drop]
         have htl : n.toNat = tk.length := by rw [htk, List.length_take]; omega
         have hc1' := HC.out.1
         obtain ⟨Af, hAf⟩ : ∃ Af, Af = (if c1 = n.toNat then (some ad1 : Option Addr) else (some ad1 : Option Addr).map (·.add (n.toNat * 1))) := ⟨_, rfl⟩
         obtain ⟨cf, hcf⟩ : ∃ cf, cf = c1 - n.toNat := ⟨_, rfl⟩
         have hcle : dr.length ≤ cf := by omega
         have htc : tk.length ≤ c1 := by omega
         rw [← hdr] at H hCF
         rw [← htk] at H hCT
         rw [← hAf, ← hcf, hdl] at hcutF
         replace hCF : Kd.string.C w Af dr.length dr := by rw [hAf]; exact hCF
         rw [htl] at hcutT
         have HCF := Aside0.mk (And.intro hcle hCF)
         have HCT := Aside0.mk (And.intro htc hCT)
         have G := Aside0.mk g
         have HT := Aside0.mk htl
         clear g hi9 hsz9 hCF hCT hdr htk hdl htl hAf hcf hcle htc hc1'
         by_cases c8 : n > 1
         ·rw [if_pos c8] at H
          have H' := Aside0.mk H
          clear H
          have t8 : decide (n > 1) = true := decide_eq_true c8
          clear c8
          go_wp2_with (first | (go_at_call 103; (with_reducible refine (impl_label.calls _ _ x _ HX.out).mono ?_); rintro e w' ⟨rfl, ⟨nd, rfl⟩⟩; replace HS := Aside0.mk (HS.out.drewN nd)) | (go_at_call 109; (with_reducible refine (Sv.bL HS.out x HXR.out G.out.1).mono ?_); rintro e w5 ⟨rfl, HS1⟩; clear HS; have HS := HS1; clear HS1) | (go_at_call 109; (with_reducible refine (Sv.bF HS.out mark HM.out G.out.2.2.1).mono ?_); rintro e w6 ⟨rfl, HS1⟩; clear HS; have HS := HS1; clear HS1) | (go_at_call 109; (with_reducible refine (Sv.bM HS.out 49 (by omega) G.out.2.1).mono ?_); rintro e w7 ⟨rfl, HS1⟩; clear HS; have HS := HS1; clear HS1) | ((with_reducible refine gate_builtin (b := .append) (xs := #[.tmp 71, .tmp 78]) rfl ?_); at_builtin; go_must (refine Kd.R_append (kq w) (w0 := w) w.heap.size rfl (.tmp 71) (.tmp 78) 109 108 (.agg #[(.slice none 0 0), (.int .i64 0)]) 32 rfl Try.underlying109 info108 rfl (show 0 < 2 by decide) (by omega) (.slice Aq Q.length cq) Q (⟨tk, wrap64 (depth + 1)⟩ : S108) [.slice (some ad1) tk.length c1, .int .i64 (wrap64 (depth + 1))] (fun _ => True) (fun _ => False) rfl rfl (k108_mk w ⟨tk, wrap64 (depth + 1)⟩ HCT.out.1 HCT.out.2) (fun _ h => h.elim) (fun _ _ => trivial) (Kd.R_mono HS.out.rQ (fun _ _ => trivial)) HS.out.below HS.out.below.size (by have := G.out.2.2.2.2.2.2.2.2.1; omega) ?_); intro v8 w8 hown8 hbel8 hgrow8 hat8; have HS1 := Aside0.mk (HS.out.pushQ hgrow8 hbel8 hown8); clear HS hown8 hbel8 hgrow8 hat8; have HS := HS1; clear HS1))
          go_roundg k3
          case measure => have := HK3.out; omega
          case rel => exact ⟨_, _, _, _, _, _, dr, Af, cf, 48, rfl, rfl, H', ⟨by have := HK2.out; have := HK3.out; omega⟩, HS, HCF, ⟨by omega⟩⟩
         ·rw [if_neg c8] at H
          have H' := Aside0.mk H
          clear H
          have t8 : decide (n > 1) = false := decide_eq_false c8
          clear c8
          go_upto_region 20 with (first | (go_at_call 103; (with_reducible refine (impl_label.calls _ _ x _ HX.out).mono ?_); rintro e w' ⟨rfl, ⟨nd, rfl⟩⟩; replace HS := Aside0.mk (HS.out.drewN nd)) | (go_at_call 109; (with_reducible refine (Sv.bL HS.out x HXR.out G.out.1).mono ?_); rintro e w5 ⟨rfl, HS1⟩; clear HS; have HS := HS1; clear HS1) | (go_at_call 109; (with_reducible refine (Sv.bF HS.out mark HM.out G.out.2.2.1).mono ?_); rintro e w6 ⟨rfl, HS1⟩; clear HS; have HS := HS1; clear HS1) | (go_at_call 109; (with_reducible refine (Sv.bM HS.out 48 (by omega) G.out.2.1).mono ?_); rintro e w7 ⟨rfl, HS1⟩; clear HS; have HS := HS1; clear HS1))
          clear y0
          obtain ⟨ad2, hA, y0⟩ := HS.out.key HC.out.2 0 (Int.le_refl 0) (by have := C7.out; omega)
          obtain rfl : ad1 = ad2 := by injection hA
          clear hA
          rw [show ((0 : Int)).toNat = 0 from rfl, Addr.add_zero'] at y0
          generalize rdOf ByteArray.empty rest 0 = s at y0 H'
          have LO := Aside0.mk (show 0 ≤ mn (wrap64 (depth + 1)) (s.size : Int) ∧ mn (wrap64 (depth + 1)) (s.size : Int) ≤ (s.size : Int) by
           have h1 := G.out.2.2.2.2.2.1
           have h2 := G.out.2.2.2.2.2.2.1
           have h3 : wrap64 (depth + 1) = depth + 1 := by unfold wrap64; omega
           rw [h3]
           unfold mn
           split <;> omega)
          obtain ⟨ji, hji⟩ : ∃ j_ : Int, mn (wrap64 (depth + 1)) (s.size : Int) = j_ := ⟨_, rfl⟩
          rw [hji] at LO H'
          have hji_ : (if (s.size : Int) < (wrap64 (depth + 1)) then (s.size : Int) else (wrap64 (depth + 1))) = ji := hji
          clear hji
          have hwr : IntKind.i64.wrap (depth + 1) = wrap64 (depth + 1) := i64_w _
          have p1 := eq_true LO.out.1
          have p2 := eq_true LO.out.2
          have p3 : decide (0 ≤ ji) = true := decide_eq_true LO.out.1
          have p4 : decide (ji ≤ (s.size : Int)) = true := decide_eq_true LO.out.2
          go_wp2
          go_quiet (fail)
          go_wp2
          replace HS := Aside0.mk (HS.out.drewN nq)
          generalize w7.drewN nq = w8 at HS ⊢
          clear y0 p1 p2 p3 p4 hji_ hwr LO
          generalize s.extract ji.toNat s.size = tl at H' ⊢
          have LO := Aside0.mk (show 0 ≤ mn a1 (tl.size : Int) ∧ mn a1 (tl.size : Int) ≤ (tl.size : Int) by
           have h1 := G.out.2.2.2.2.2.2.2.1
           unfold mn
           split <;> omega)
          obtain ⟨jh, hjh⟩ : ∃ j_ : Int, mn a1 (tl.size : Int) = j_ := ⟨_, rfl⟩
          rw [hjh] at LO H'
          have hjh_ : (if (tl.size : Int) < a1 then (tl.size : Int) else a1) = jh := hjh
          clear hjh
          have p1 := eq_true LO.out.1
          have p2 := eq_true LO.out.2
          have p3 : decide (0 ≤ jh) = true := decide_eq_true LO.out.1
          have p4 : decide (jh ≤ (tl.size : Int)) = true := decide_eq_true LO.out.2
          obtain ⟨b0, f0⟩ := HS.out.boxc
          have hlt : (w.heap.size + 1 + 1 + 1 + 1 < w8.heap.size) = True := eq_true (blk_lt HS.out.box)
          go_region_law ((refine Kd.R_append_step Kd.string (w0 := w) (W := w8.drew) w.heap.size (by first | rfl | simp [Region.wanted]) (.tmp 93) (.tmp 100) 23 9 (.string ⟨#[]⟩) 16 (by rfl) Try.underlying23 info9 (by rfl) (by decide) (by omega) vR R (tl.extract 0 jh.toNat) [.string (tl.extract 0 jh.toNat)] (fun _ => True) (fun _ => False) (by first | rfl | simp [Act.eval, Act.put]) (by first | rfl | (simp [Act.eval, Act.put]; done)) (by rfl) (fun _ h => h.elim) (fun _ _ => trivial) (Kd.R_mono HS.out.drew.rR (fun _ _ => trivial)) HS.out.drew.below HS.out.drew.below.size (by have := G.out.2.2.2.2.2.2.2.2.2; omega) ?_; intro v9 w9 hown9 hbel9 hgrow9 hat9; obtain ⟨ao9, cap9, rfl⟩ := Kd.R_slice hown9; obtain ⟨b9, f9⟩ := HS.out.drew.boxg hgrow9; have HS9 := Aside0.mk (HS.out.drew.pushR hgrow9 hbel9 hown9); rw [show (R ++ [tl.extract 0 jh.toNat]).length = R.length + 1 from List.length_append] at HS9; clear hown9 hbel9 hgrow9 hat9))
          all_goals
           clear b0 f0 b9 f9 p1 p2 p3 p4 hjh_ hlt HS
           go_wp2
           go_roundg k3
           case measure => have := HK3.out; omega
           case rel => exact ⟨_, _, _, _, _, _, dr, Af, cf, 48, rfl, rfl, H', ⟨by have := HK2.out; have := HK3.out; omega⟩, HS9, HCF, ⟨by omega⟩⟩
      ·rw [if_neg c7] at H
       have H' := Aside0.mk H
       clear H
       have t7 : decide ((rest.length : Int) > 0) = false := decide_eq_false c7
       have t7' : decide (0 < rest.length) = false := decide_eq_false (by omega)
       clear c7
       go_wp2
       go_roundg k2
       case measure => have := HK2.out; omega
       case rel => exact ⟨a, b, c, R, Q, _, vR, rfl, H', ⟨by have := HK1.out; have := HK2.out; omega⟩, HS⟩
   ·rw [if_neg c5] at H
    have t5 : decide (i < (Q.length : Int)) = false := decide_eq_false c5
    clear c5
    obtain rfl := Option.some.inj H
    clear H
    replace HS := Aside0.mk HS.out.sw
    go_upto_region 24 with (first | (go_at_call 110; (with_reducible refine (Sw.sL HS.out).mono ?_); rintro e w5 ⟨rfl, HS1⟩; clear HS; have HS := HS1; clear HS1) | (go_at_call 110; (with_reducible refine (Sw.sM HS.out).mono ?_); rintro e w6 ⟨rfl, HS1⟩; clear HS; have HS := HS1; clear HS1) | (go_at_call 110; (with_reducible refine (Sw.sF HS.out).mono ?_); rintro e w7 ⟨rfl, HS1⟩; clear HS; have HS := HS1; clear HS1; have b0 := blk_cell (show w7.heap[w.heap.size + 1 + 1 + 1 + 1]? = some (.cells _ 25 (0, 0)) from HS.out.2.2.1) 0; have b1 := blk_cell (show w7.heap[w.heap.size + 1 + 1 + 1 + 1]? = some (.cells _ 25 (0, 0)) from HS.out.2.2.1) 1; have b2 := blk_cell (show w7.heap[w.heap.size + 1 + 1 + 1 + 1]? = some (.cells _ 25 (0, 0)) from HS.out.2.2.1) 2; have f0 := blk_frozen (show w7.heap[w.heap.size + 1 + 1 + 1 + 1]? = some (.cells _ 25 (0, 0)) from HS.out.2.2.1) 0; have f1 := blk_frozen (show w7.heap[w.heap.size + 1 + 1 + 1 + 1]? = some (.cells _ 25 (0, 0)) from HS.out.2.2.1) 1; have f2 := blk_frozen (show w7.heap[w.heap.size + 1 + 1 + 1 + 1]? = some (.cells _ 25 (0, 0)) from HS.out.2.2.1) 2))
    obtain ⟨Av, cv, hv⟩ := Kd.R_slice HS.out.2.2.2
    subst hv
    replace HS := fin1 (a := a) (b := b) (c := c) HS.out
    clear b0 b1 b2 f0 f1 f2
    generalize (((w7.setCell ⟨w.heap.size + 1 + 1 + 1 + 1, 0, none⟩ (.string a)).setCell ⟨w.heap.size + 1 + 1 + 1 + 1, 1, none⟩ (.string b)).setCell ⟨w.heap.size + 1 + 1 + 1 + 1, 2, none⟩ (.string c)) = w8 at HS ⊢
    have z0 := blk_cell HS.out.2.2.1 0
    have z1 := blk_cell HS.out.2.2.1 1
    have z2 := blk_cell HS.out.2.2.1 2
    have z3 := blk_cell HS.out.2.2.1 3
    have z4 := blk_cell HS.out.2.2.1 4
    have g0 := blk_frozen (show w8.heap[w.heap.size]? = some (.cells _ 25 (0, 0)) from HS.out.2.1) 0
    have g1 := blk_frozen (show w8.heap[w.heap.size]? = some (.cells _ 25 (0, 0)) from HS.out.2.1) 1
    have g2 := blk_frozen (show w8.heap[w.heap.size]? = some (.cells _ 25 (0, 0)) from HS.out.2.1) 2
    have g3 := blk_frozen (show w8.heap[w.heap.size]? = some (.cells _ 25 (0, 0)) from HS.out.2.1) 3
    have g4 := blk_frozen (show w8.heap[w.heap.size]? = some (.cells _ 25 (0, 0)) from HS.out.2.1) 4
    have y0 := blk_cell (show w8.heap[w.heap.size]? = some (.cells _ 25 (0, 0)) from HS.out.2.1) 0
    have y1 := blk_cell (show w8.heap[w.heap.size]? = some (.cells _ 25 (0, 0)) from HS.out.2.1) 1
    have y2 := blk_cell (show w8.heap[w.heap.size]? = some (.cells _ 25 (0, 0)) from HS.out.2.1) 2
    have y3 := blk_cell (show w8.heap[w.heap.size]? = some (.cells _ 25 (0, 0)) from HS.out.2.1) 3
    have y4 := blk_cell (show w8.heap[w.heap.size]? = some (.cells _ 25 (0, 0)) from HS.out.2.1) 4
    have hu25 := Try.underlying25
    go_wp2
    have HZ := fin2 HS.out
    clear z0 z1 z2 z3 z4 g0 g1 g2 g3 g4 y0 y1 y2 y3 y4 HS
    refine bodyPost_ret (results_cell_row rfl _ _ w.heap.size 25 #[.string a, .string b, .string c, .slice Av R.length cv, .int .i64 a1] (0, 0) _ rfl HZ.out.2.1 Try.underlying25 rfl (by kernel_rfl)) rfl ?_
    exact ⟨_, rfl, HZ.out.2.2, HZ.out.1⟩
end Go.Proofs.Ytifgcajpkgamgaa.Hand
end
section
namespace Go.Proofs.Ytifgcajpkgamgaa.Q
open Go.RowKit Go.Proofs.YtifgcajpkgamgaaW.PrintWords Go.Proofs.YtifgcajpkgamgaaW.PrintLast Go.Proofs.YtifgcajpkgamgaaW.PrintMore
attribute [local go_sem] max2_int min2_int max_two min_two max_three min_three max_four min_four   
set_option linter.unusedVariables false
set_option linter.unusedSimpArgs false
set_option maxHeartbeats 8000000
set_option maxRecDepth 100000
theorem impl_sieveOf.mono_l : ∀ k, (∀ y0 y1 y2 y3 y4 y5 y6, LeO (impl_sieveOf.l0 k y0 y1 y2 y3 y4 y5 y6) (impl_sieveOf.l0 (k + 1) y0 y1 y2 y3 y4 y5 y6)) ∧ (∀ y0 y1 y2 y3 y4 y5 y6 y7 y8 y9, LeO (impl_sieveOf.l1 k y0 y1 y2 y3 y4 y5 y6 y7 y8 y9) (impl_sieveOf.l1 (k + 1) y0 y1 y2 y3 y4 y5 y6 y7 y8 y9)) ∧ (∀ y0 y1 y2 y3 y4 y5 y6 y7 y8 y9 y10, LeO (impl_sieveOf.l2 k y0 y1 y2 y3 y4 y5 y6 y7 y8 y9 y10) (impl_sieveOf.l2 (k + 1) y0 y1 y2 y3 y4 y5 y6 y7 y8 y9 y10)) ∧ (∀ y0 y1 y2 y3 y4 y5 y6 y7 y8 y9 y10, LeO (impl_sieveOf.l3 k y0 y1 y2 y3 y4 y5 y6 y7 y8 y9 y10) (impl_sieveOf.l3 (k + 1) y0 y1 y2 y3 y4 y5 y6 y7 y8 y9 y10))
  | 0 => ⟨fun _ _ _ _ _ _ _ r h => by simp [impl_sieveOf.l0] at h, fun _ _ _ _ _ _ _ _ _ _ r h => by simp [impl_sieveOf.l1] at h, fun _ _ _ _ _ _ _ _ _ _ _ r h => by simp [impl_sieveOf.l2] at h, fun _ _ _ _ _ _ _ _ _ _ _ r h => by simp [impl_sieveOf.l3] at h⟩
  | k + 1 => by
    obtain ⟨ih0, ih1, ih2, ih3⟩ := impl_sieveOf.mono_l k
    refine ⟨?_, ?_, ?_, ?_⟩
    · intro y0 y1 y2 y3 y4 y5 y6
      unfold impl_sieveOf.l0
      repeat' first | (with_reducible first | apply ih0 | apply ih1 | apply ih2 | apply ih3 | exact LeO.refl _ | exact LeO.none _ | refine LeO.ite ?_ ?_ | refine LeO.bind ?_ (fun _ => ?_)) | exact LeO.none _ | refine LeO.ite ?_ ?_ | refine LeO.bind ?_ (fun _ => ?_)
    · intro y0 y1 y2 y3 y4 y5 y6 y7 y8 y9
      unfold impl_sieveOf.l1
      repeat' first | (with_reducible first | apply ih0 | apply ih1 | apply ih2 | apply ih3 | exact LeO.refl _ | exact LeO.none _ | refine LeO.ite ?_ ?_ | refine LeO.bind ?_ (fun _ => ?_)) | exact LeO.none _ | refine LeO.ite ?_ ?_ | refine LeO.bind ?_ (fun _ => ?_)
    · intro y0 y1 y2 y3 y4 y5 y6 y7 y8 y9 y10
      unfold impl_sieveOf.l2
      repeat' first | (with_reducible first | apply ih0 | apply ih1 | apply ih2 | apply ih3 | exact LeO.refl _ | exact LeO.none _ | refine LeO.ite ?_ ?_ | refine LeO.bind ?_ (fun _ => ?_)) | exact LeO.none _ | refine LeO.ite ?_ ?_ | refine LeO.bind ?_ (fun _ => ?_)
    · intro y0 y1 y2 y3 y4 y5 y6 y7 y8 y9 y10
      unfold impl_sieveOf.l3
      repeat' first | (with_reducible first | apply ih0 | apply ih1 | apply ih2 | apply ih3 | exact LeO.refl _ | exact LeO.none _ | refine LeO.ite ?_ ?_ | refine LeO.bind ?_ (fun _ => ?_)) | exact LeO.none _ | refine LeO.ite ?_ ?_ | refine LeO.bind ?_ (fun _ => ?_)
theorem impl_sieveOf.mono : ∀ a0 a1 k, LeO (impl_sieveOf.f k a0 a1) (impl_sieveOf.f (k + 1) a0 a1) := by
  intro a0 a1 k
  obtain ⟨ih0, ih1, ih2, ih3⟩ := impl_sieveOf.mono_l k
  unfold impl_sieveOf.f
  repeat' first | (with_reducible first | apply ih0 | apply ih1 | apply ih2 | apply ih3 | exact LeO.refl _ | exact LeO.none _ | refine LeO.ite ?_ ?_ | refine LeO.bind ?_ (fun _ => ?_)) | exact LeO.none _ | refine LeO.ite ?_ ?_ | refine LeO.bind ?_ (fun _ => ?_)
theorem impl_sieveOf.calls (k : Nat) (A0 : Option Addr) (c0 : Nat) (l0 : List ByteArray) (a1 : Int) (r1 : ByteArray) (r2 : ByteArray) (r3 : ByteArray) (r4 : List ByteArray) (r5 : Int) (w : World) (hr0 : Kd.C Kd.string w A0 l0.length l0) (hc0 : l0.length ≤ c0) (h : impl_sieveOf.f k l0 a1 = some (r1, r2, r3, r4, r5)) :
    Calls Try.prog 75 #[.slice A0 l0.length c0, .int .i64 a1] w fun e w' => ∃ v3_ : Value, e = .returned (.agg #[.string r1, .string r2, .string r3, v3_, .int .i64 r5]) ∧ Kd.R Kd.string 9 w' w.heap.size (fun _ => True) v3_ r4 ∧ Below w.heap.size w w' :=
  (Hand.sieveOf k A0 c0 l0 a1 (r1, r2, r3, r4, r5) w hr0 hc0 h).mono fun e w' h => h
theorem impl_SieveOf.mono : ∀ a0 a1 k, LeO (impl_SieveOf.f k a0 a1) (impl_SieveOf.f (k + 1) a0 a1) := by
  intro a0 a1 k
  unfold impl_SieveOf.f
  repeat' first | (with_reducible first | apply impl_KeysOk.mono | apply impl_sieveOf.mono | exact LeO.refl _ | exact LeO.none _ | refine LeO.ite ?_ ?_ | refine LeO.bind ?_ (fun _ => ?_)) | exact LeO.none _ | refine LeO.ite ?_ ?_ | refine LeO.bind ?_ (fun _ => ?_)
theorem impl_SieveOf.calls (k : Nat) (A0 : Option Addr) (c0 : Nat) (l0 : List ByteArray) (a1 : Int) (r1 r2 r3 : ByteArray) (r4 : List ByteArray) (r5 : Int) (r6 : Bool) (w : World) (hr0 : Kd.C Kd.string w A0 l0.length l0) (hc0 : l0.length ≤ c0) (h : impl_SieveOf.f k l0 a1 = some (r1, r2, r3, r4, r5, r6)) :
    Calls Try.prog 30 #[.slice A0 l0.length c0, .int .i64 a1] w fun e w' => ∃ v3_ : Value, e = .returned (.tuple #[.agg #[.string r1, .string r2, .string r3, v3_, .int .i64 r5], .bool r6]) ∧ Kd.R Kd.string 9 w' w.heap.size (fun _ => True) v3_ r4 ∧ Below w.heap.size w w' := by
 have hu25 := Try.underlying25; have HR0 := z0 hr0; have HC0 := z0 hc0; clear hr0 hc0; have HB := z0 (Below.refl w.heap.size w); have H : ((impl_KeysOk.f k l0).bind fun t321 => (if t321 = true then ((impl_isKeep.f a1).bind fun t322 => (if t322 = true then ((impl_sieveOf.f k l0 a1).bind fun bt323 => (some (bt323.1, bt323.2.1, bt323.2.2.1, bt323.2.2.2.1, bt323.2.2.2.2, true))) else (some ((⟨#[]⟩ : ByteArray), (⟨#[]⟩ : ByteArray), (⟨#[]⟩ : ByteArray), ([] : List ByteArray), 0, false)))) else (some ((⟨#[]⟩ : ByteArray), (⟨#[]⟩ : ByteArray), (⟨#[]⟩ : ByteArray), ([] : List ByteArray), 0, false)))) = some (r1, r2, r3, r4, r5, r6) := h; clear h; replace H := zi H; obtain ⟨t321, A3, H⟩ := H
 by_cases c4 : t321 = true
 ·subst c4
  have H1 : ((impl_isKeep.f a1).bind fun t322 => (if t322 = true then ((impl_sieveOf.f k l0 a1).bind fun bt323 => (some (bt323.1, bt323.2.1, bt323.2.2.1, bt323.2.2.2.1, bt323.2.2.2.2, true))) else (some ((⟨#[]⟩ : ByteArray), (⟨#[]⟩ : ByteArray), (⟨#[]⟩ : ByteArray), ([] : List ByteArray), 0, false)))) = some (r1, r2, r3, r4, r5, r6) := by rw [if_pos rfl] at H; exact H
  clear H; have H := H1; clear H1; replace H := zi H; obtain ⟨t322, A5, H⟩ := H
  by_cases c6 : t322 = true
  ·subst c6
   have H1 : ((impl_sieveOf.f k l0 a1).bind fun bt323 => (some (bt323.1, bt323.2.1, bt323.2.2.1, bt323.2.2.2.1, bt323.2.2.2.2, true))) = some (r1, r2, r3, r4, r5, r6) := by rw [if_pos rfl] at H; exact H
   clear H; have H := H1; clear H1; replace H := zi H; obtain ⟨⟨t323, t324, t325, t326, t329⟩, A7, H⟩ := H; (try dsimp only at H); simp only [Option.some.injEq, Prod.mk.injEq] at H; obtain ⟨rfl, rfl, rfl, rfl, rfl, rfl⟩ := H; go_enter Try.func30, Try.ntmps30
   go_wp2_with (first | ((with_reducible refine gd 4 ?_); refine zbx 25 #[.string ⟨#[]⟩, .string ⟨#[]⟩, .string ⟨#[]⟩, .slice none 0 0, .int .i64 0] ?_; intro gb320 hg w8 hbox hb; have BK320 := z0 (hbox); have GE320 := zG hg HB; replace HB := zH HB hb; clear hb hbox hg) | ((with_reducible refine gc 73 ?_); refine zL (some 7) Try.func73 #[.slice A0 l0.length c0] ?_; (with_reducible refine (impl_KeysOk.calls k _ _ l0 true _ ?side1 ?side2 A3.out).mono ?_); (case side1 => repeat (first | exact (Kd.C_below HR0.out HB.out) | (with_reducible refine Kd.C_alloc ?_ _) | (with_reducible refine Kd.C_drewN ?_ _) | (with_reducible refine Kd.C_drew ?_))); (case side2 => exact HC0.out); rintro e w' ⟨rfl, ⟨nd, rfl⟩⟩; refine ⟨_, rfl, ?_⟩; (try (rw [drewN_self w8]; generalize hq_ : World.drewN w8 _ = w8; have n0_ : Aside0 (w8.heap[gb320]? = some (.cells #[.string ⟨#[]⟩, .string ⟨#[]⟩, .string ⟨#[]⟩, .slice none 0 0, .int .i64 0] 25 (0, 0))) := ⟨by rw [← hq_]; exact (zl BK320.out)⟩; have n1_ : Aside0 (Below w.heap.size w w8) := ⟨by rw [← hq_]; exact (zb HB.out)⟩; clear BK320 HB hq_; have BK320 := n0_; have HB := n1_; clear n0_ n1_))) | (go_at_call 74; (with_reducible refine (impl_isKeep.calls a1 true _ A5.out).mono ?_); rintro e w' ⟨rfl, ⟨nd, rfl⟩⟩; (try (rw [drewN_self w8]; generalize hq_ : World.drewN w8 _ = w8; have n0_ : Aside0 (w8.heap[gb320]? = some (.cells #[.string ⟨#[]⟩, .string ⟨#[]⟩, .string ⟨#[]⟩, .slice none 0 0, .int .i64 0] 25 (0, 0))) := ⟨by rw [← hq_]; exact (zl BK320.out)⟩; have n1_ : Aside0 (Below w.heap.size w w8) := ⟨by rw [← hq_]; exact (zb HB.out)⟩; clear BK320 HB hq_; have BK320 := n0_; have HB := n1_; clear n0_ n1_))) | ((with_reducible refine gc 75 ?_); refine zL (some 17) Try.func75 #[.slice A0 l0.length c0, .int .i64 a1] ?_; (with_reducible refine (impl_sieveOf.calls k _ _ l0 a1 t323 t324 t325 t326 t329 _ (zC (Kd.C_below HR0.out HB.out)) HC0.out A7.out).mono ?_); rintro e w9 ⟨v327, rfl, ho0, hb⟩; refine zv ?_; have HO328 := z0 (Kd.R_lower ho0 (below_size (zb HB.out))); replace BK320 := zK BK320 hb; replace HB := zH HB hb; (try clear hb ho0); have hcz10 := zc5 BK320.out; obtain ⟨Ao11, co11, eo11⟩ := Kd.R_slice HO328.out; subst eo11))
   refine bodyPost_ret (results_ct rfl _ _ gb320 25 #[.string t323, .string t324, .string t325, .slice Ao11 t326.length co11, .int .i64 t329] (0, 0) _ rfl (zp BK320.out) Try.underlying25 rfl (by kernel_rfl)) rfl ?_; exact ⟨_, ze, Kd.R_mono (zt HO328.out BK320.out) (fun _ hk => trivial), zb HB.out⟩
  ·replace c6 := Bool.eq_false_iff.mpr c6; subst c6
   have H1 : (some ((⟨#[]⟩ : ByteArray), (⟨#[]⟩ : ByteArray), (⟨#[]⟩ : ByteArray), ([] : List ByteArray), 0, false)) = some (r1, r2, r3, r4, r5, r6) := by rw [if_neg (show ¬ (false = true) by decide)] at H; exact H
   clear H; have H := H1; clear H1; simp only [Option.some.injEq, Prod.mk.injEq] at H; obtain ⟨rfl, rfl, rfl, rfl, rfl, rfl⟩ := H; go_enter Try.func30, Try.ntmps30
   go_wp2_with (first | ((with_reducible refine gd 4 ?_); refine zbx 25 #[.string ⟨#[]⟩, .string ⟨#[]⟩, .string ⟨#[]⟩, .slice none 0 0, .int .i64 0] ?_; intro gb320 hg w12 hbox hb; have BK320 := z0 (hbox); have GE320 := zG hg HB; replace HB := zH HB hb; clear hb hbox hg) | ((with_reducible refine gc 73 ?_); refine zL (some 7) Try.func73 #[.slice A0 l0.length c0] ?_; (with_reducible refine (impl_KeysOk.calls k _ _ l0 true _ ?side1 ?side2 A3.out).mono ?_); (case side1 => repeat (first | exact (Kd.C_below HR0.out HB.out) | (with_reducible refine Kd.C_alloc ?_ _) | (with_reducible refine Kd.C_drewN ?_ _) | (with_reducible refine Kd.C_drew ?_))); (case side2 => exact HC0.out); rintro e w' ⟨rfl, ⟨nd, rfl⟩⟩; refine ⟨_, rfl, ?_⟩; (try (rw [drewN_self w12]; generalize hq_ : World.drewN w12 _ = w12; have n0_ : Aside0 (w12.heap[gb320]? = some (.cells #[.string ⟨#[]⟩, .string ⟨#[]⟩, .string ⟨#[]⟩, .slice none 0 0, .int .i64 0] 25 (0, 0))) := ⟨by rw [← hq_]; exact (zl BK320.out)⟩; have n1_ : Aside0 (Below w.heap.size w w12) := ⟨by rw [← hq_]; exact (zb HB.out)⟩; clear BK320 HB hq_; have BK320 := n0_; have HB := n1_; clear n0_ n1_))) | (go_at_call 74; (with_reducible refine (impl_isKeep.calls a1 false _ A5.out).mono ?_); rintro e w' ⟨rfl, ⟨nd, rfl⟩⟩; (try (rw [drewN_self w12]; generalize hq_ : World.drewN w12 _ = w12; have n0_ : Aside0 (w12.heap[gb320]? = some (.cells #[.string ⟨#[]⟩, .string ⟨#[]⟩, .string ⟨#[]⟩, .slice none 0 0, .int .i64 0] 25 (0, 0))) := ⟨by rw [← hq_]; exact (zl BK320.out)⟩; have n1_ : Aside0 (Below w.heap.size w w12) := ⟨by rw [← hq_]; exact (zb HB.out)⟩; clear BK320 HB hq_; have BK320 := n0_; have HB := n1_; clear n0_ n1_)); have hcz13 := zc5 BK320.out))
   refine bodyPost_ret (results_ct rfl _ _ gb320 25 #[.string ⟨#[]⟩, .string ⟨#[]⟩, .string ⟨#[]⟩, .slice none 0 0, .int .i64 0] (0, 0) _ rfl (zp BK320.out) Try.underlying25 rfl (by kernel_rfl)) rfl ?_; exact ⟨_, ze, by first | exact Kd.R_nil _ _ _ _ _ | exact Kd.N_nil _ _ _ _ _ | exact Kd.V_nil _ _ _ _ _ | exact Kd.Q_nil _ _ _ _ _ | exact Kd.S_nil _ _ _ _ _, zb HB.out⟩
 ·replace c4 := Bool.eq_false_iff.mpr c4; subst c4
  have H1 : (some ((⟨#[]⟩ : ByteArray), (⟨#[]⟩ : ByteArray), (⟨#[]⟩ : ByteArray), ([] : List ByteArray), 0, false)) = some (r1, r2, r3, r4, r5, r6) := by rw [if_neg (show ¬ (false = true) by decide)] at H; exact H
  clear H; have H := H1; clear H1; simp only [Option.some.injEq, Prod.mk.injEq] at H; obtain ⟨rfl, rfl, rfl, rfl, rfl, rfl⟩ := H; go_enter Try.func30, Try.ntmps30
  go_wp2_with (first | ((with_reducible refine gd 4 ?_); refine zbx 25 #[.string ⟨#[]⟩, .string ⟨#[]⟩, .string ⟨#[]⟩, .slice none 0 0, .int .i64 0] ?_; intro gb320 hg w14 hbox hb; have BK320 := z0 (hbox); have GE320 := zG hg HB; replace HB := zH HB hb; clear hb hbox hg) | ((with_reducible refine gc 73 ?_); refine zL (some 7) Try.func73 #[.slice A0 l0.length c0] ?_; (with_reducible refine (impl_KeysOk.calls k _ _ l0 false _ ?side1 ?side2 A3.out).mono ?_); (case side1 => repeat (first | exact (Kd.C_below HR0.out HB.out) | (with_reducible refine Kd.C_alloc ?_ _) | (with_reducible refine Kd.C_drewN ?_ _) | (with_reducible refine Kd.C_drew ?_))); (case side2 => exact HC0.out); rintro e w' ⟨rfl, ⟨nd, rfl⟩⟩; refine ⟨_, rfl, ?_⟩; (try (rw [drewN_self w14]; generalize hq_ : World.drewN w14 _ = w14; have n0_ : Aside0 (w14.heap[gb320]? = some (.cells #[.string ⟨#[]⟩, .string ⟨#[]⟩, .string ⟨#[]⟩, .slice none 0 0, .int .i64 0] 25 (0, 0))) := ⟨by rw [← hq_]; exact (zl BK320.out)⟩; have n1_ : Aside0 (Below w.heap.size w w14) := ⟨by rw [← hq_]; exact (zb HB.out)⟩; clear BK320 HB hq_; have BK320 := n0_; have HB := n1_; clear n0_ n1_)); have hcz15 := zc5 BK320.out))
  refine bodyPost_ret (results_ct rfl _ _ gb320 25 #[.string ⟨#[]⟩, .string ⟨#[]⟩, .string ⟨#[]⟩, .slice none 0 0, .int .i64 0] (0, 0) _ rfl (zp BK320.out) Try.underlying25 rfl (by kernel_rfl)) rfl ?_; exact ⟨_, ze, by first | exact Kd.R_nil _ _ _ _ _ | exact Kd.N_nil _ _ _ _ _ | exact Kd.V_nil _ _ _ _ _ | exact Kd.Q_nil _ _ _ _ _ | exact Kd.S_nil _ _ _ _ _, zb HB.out⟩
theorem impl_texts.mono_l : ∀ k, (∀ y0 y1 y2 y3, LeO (impl_texts.l0 k y0 y1 y2 y3) (impl_texts.l0 (k + 1) y0 y1 y2 y3))
  | 0 => fun _ _ _ _ r h => by simp [impl_texts.l0] at h
  | k + 1 => by
    have ih0 := impl_texts.mono_l k
    · intro y0 y1 y2 y3
      unfold impl_texts.l0
      repeat' first | (with_reducible first | apply ih0 | exact LeO.refl _ | exact LeO.none _ | refine LeO.ite ?_ ?_ | refine LeO.bind ?_ (fun _ => ?_)) | exact LeO.none _ | refine LeO.ite ?_ ?_ | refine LeO.bind ?_ (fun _ => ?_)
theorem impl_texts.mono : ∀ a0 k, LeO (impl_texts.f k a0) (impl_texts.f (k + 1) a0) := by
  intro a0 k
  have ih0 := impl_texts.mono_l k
  unfold impl_texts.f
  repeat' first | (with_reducible first | apply ih0 | exact LeO.refl _ | exact LeO.none _ | refine LeO.ite ?_ ?_ | refine LeO.bind ?_ (fun _ => ?_)) | exact LeO.none _ | refine LeO.ite ?_ ?_ | refine LeO.bind ?_ (fun _ => ?_)
theorem impl_texts.calls (k : Nat) (A0 : Option Addr) (c0 : Nat) (l0 : List (S93)) (r : List ByteArray) (w : World) (hr0 : Kd.C k93 w A0 l0.length l0) (hc0 : l0.length ≤ c0) (h : impl_texts.f k l0 = some r) :
    Calls Try.prog 90 #[.slice A0 l0.length c0] w fun e w' => ∃ v0_ : Value, e = .returned (v0_) ∧ Kd.R Kd.string 9 w' w.heap.size (fun _ => True) v0_ r ∧ Below w.heap.size w w' := by
 have hu93 := Try.underlying93; have HR0 := z0 hr0; have HC0 := z0 hc0; clear hr0 hc0; have HB := z0 (Below.refl w.heap.size w); have H : (impl_texts.l0 k ([] : List ByteArray) l0 (l0.length : Int) 0) = some r := h; clear h; have H' := z0 H; clear H; go_enter Try.func90, Try.ntmps90; go_wp2
 go_loopg [3, 8] k (fun kq v3 v8 w' => ∃ (x3_1 : List ByteArray) (x8_1 : Int), v8 = .int .i64 x8_1 ∧ Aside0 (impl_texts.l0 kq x3_1 l0 (l0.length : Int) x8_1 = some r) ∧ Aside0 (kq ≤ k) ∧ Aside0 (Kd.R Kd.string 9 w' w.heap.size (fun _ => True) v3 x3_1) ∧ Aside0 (Below w.heap.size w w'))
 case atStart => exact ⟨(([] : List ByteArray)), (0), zf, H', ⟨Nat.le_refl _⟩, ⟨by first | exact Kd.R_nil _ _ _ _ _ | exact Kd.N_nil _ _ _ _ _ | exact Kd.V_nil _ _ _ _ _ | exact Kd.Q_nil _ _ _ _ _ | exact Kd.S_nil _ _ _ _ _⟩, ⟨zb HB.out⟩⟩
 case round =>
  clear H'; obtain ⟨x3_1, x8_1, rfl, HA, HK1, HO_3, HB⟩ := hrel
  cases gk with
  | zero => exact absurd HA.out (by simp [impl_texts.l0])
  | succ k1 =>
   have H := HA.out; clear HA; simp only [impl_texts.l0] at H
   by_cases c2 : x8_1 < (l0.length : Int)
   ·rw [if_pos c2] at H; have c2b0 := decide_eq_true c2; clear c2; replace H := zn H; obtain ⟨c3, H⟩ := H; have c3b0 := decide_eq_true c3; clear c3; replace H := zn H; obtain ⟨c4, H⟩ := H; have c4b0 := decide_eq_true c4; clear c4; replace H := zn H; obtain ⟨c5, H⟩ := H; have LMc5 := z0 c5; clear c5; obtain ⟨y332, hy332⟩ : ∃ y_ : List ByteArray, y_ = (x3_1 ++ [(rd_T93 l0 x8_1).f0]) := ⟨_, rfl⟩; replace H : (impl_texts.l0 k1 y332 l0 (l0.length : Int) (wrap64 (x8_1 + 1))) = some r := zH2 hy332 H; have Ny332 := z0 hy332; clear hy332; have H' := z0 H; clear H; have p330 : 0 ≤ (x8_1 : Int) := zd; have q330 : x8_1 < (l0.length : Int) := zd; obtain ⟨ad330, e330, hx330_0, hx330_1⟩ := at_T93 HR0.out x8_1 p330 q330; cases e330; replace hx330_0 := (HB.out.cell (World.block_lt_of_cell? w _ hx330_0)).trans hx330_0; replace hx330_1 := (HB.out.cell (World.block_lt_of_cell? w _ hx330_1)).trans hx330_1; replace p330 := eq_true p330; replace q330 := eq_true q330
    go_wp2_with (first | ((with_reducible refine gd 5 ?_); refine zbx 93 #[.string ⟨#[]⟩, .bool false] ?_; intro gb331 hg w6 hbox hb; replace HO_3 := zA HO_3 hb; have BK331 := z0 (hbox); have GE331 := zG hg HB; replace HB := zH HB hb; clear hb hbox hg; have hcz7 := zc2 BK331.out) | ((with_reducible refine gate_builtin (b := .append) (xs := #[.tmp 12, .tmp 15]) rfl ?_); at_builtin; refine Kd.R_append Kd.string (w0 := w) w.heap.size rfl (.tmp 12) (.tmp 15) 23 9 (.string ⟨#[]⟩) 16 rfl Try.underlying23 info9 rfl (by decide) (by omega) u3 x3_1 ((rd_T93 l0 x8_1).f0) [.string ((rd_T93 l0 x8_1).f0)] (fun _ => True) (fun _ => False) rfl (by first | (go_simp; done) | (go_simp; rfl)) ?aP (fun _ hk => hk.elim) ?aF ?aO ?aB ?aS ?aL ?_; (case aP => exact rfl); (case aB => exact (zb HB.out)); (case aF => exact (fun _ _ => trivial)); (case aO => exact (Kd.R_mono (zt HO_3.out BK331.out) (fun _ hk => trivial))); (case aS => exact (below_size (zb HB.out))); (case aL => have := LMc5.out; omega); intro v333 w8 ho hb hg hat; rw [← Ny332.out] at ho; replace BK331 := z0 (blk_grown (zpc BK331.out #[.string ((rd_T93 l0 x8_1).f0), .bool ((rd_T93 l0 x8_1).f1)]) hg (Kd.R_ne HO_3.out BK331.out (by decide))); replace HB := z0 (hb); have HO334 := z0 (ho); clear HO_3; clear ho hb hg hat))
    go_roundg k1
    case measure => have := HK1.out; omega
    case rel => exact ⟨(y332), (wrap64 (x8_1 + 1)), zf, H', ⟨by have := HK1.out; omega⟩, ⟨zr HO334.out⟩, ⟨zb HB.out⟩⟩
   ·rw [if_neg c2] at H; have c2b0 := decide_eq_false c2; clear c2; obtain rfl := Option.some.inj H; go_wp2; go_ret; exact ⟨_, ze, zr HO_3.out, zb HB.out⟩
theorem impl_BitsOk.mono_l : ∀ k, (∀ y0 y1 y2, LeO (impl_BitsOk.l0 k y0 y1 y2) (impl_BitsOk.l0 (k + 1) y0 y1 y2))
  | 0 => fun _ _ _ r h => by simp [impl_BitsOk.l0] at h
  | k + 1 => by
    have ih0 := impl_BitsOk.mono_l k
    · intro y0 y1 y2
      unfold impl_BitsOk.l0
      repeat' first | (with_reducible first | apply ih0 | exact LeO.refl _ | exact LeO.none _ | refine LeO.ite ?_ ?_ | refine LeO.bind ?_ (fun _ => ?_)) | exact LeO.none _ | refine LeO.ite ?_ ?_ | refine LeO.bind ?_ (fun _ => ?_)
theorem impl_BitsOk.mono : ∀ a0 k, LeO (impl_BitsOk.f k a0) (impl_BitsOk.f (k + 1) a0) := by
  intro a0 k
  have ih0 := impl_BitsOk.mono_l k
  unfold impl_BitsOk.f
  repeat' first | (with_reducible first | apply ih0 | exact LeO.refl _ | exact LeO.none _ | refine LeO.ite ?_ ?_ | refine LeO.bind ?_ (fun _ => ?_)) | exact LeO.none _ | refine LeO.ite ?_ ?_ | refine LeO.bind ?_ (fun _ => ?_)
theorem impl_BitsOk.calls (k : Nat) (a0 : ByteArray) (r : Bool) (w : World) (h : impl_BitsOk.f k a0 = some r) :
    Calls Try.prog 98 #[.string a0] w fun e w' => e = .returned (.bool r) ∧ Drawn0 w w' := by
 have H : (impl_BitsOk.l0 k a0 (a0.size : Int) 0) = some r := h; clear h; have H' := z0 H; clear H; go_enter Try.func98, Try.ntmps98; go_wp2
 go_loopg [6] k (fun kq v6 w' => ∃ (x6_1 : Int), v6 = .int .i64 x6_1 ∧ Aside0 (impl_BitsOk.l0 kq a0 (a0.size : Int) x6_1 = some r) ∧ Aside0 (kq ≤ k) ∧ Drawn0 w w')
 case atStart => exact ⟨(0), zf, H', ⟨Nat.le_refl _⟩, by repeat (first | exact Drawn0.refl _ | apply Drawn0.step)⟩
 case round =>
  clear H'; obtain ⟨x6_1, rfl, HA, HK1, ⟨m1, rfl⟩⟩ := hrel
  cases gk with
  | zero => exact absurd HA.out (by simp [impl_BitsOk.l0])
  | succ k1 =>
   have H := HA.out; clear HA; simp only [impl_BitsOk.l0] at H
   by_cases c2 : x6_1 < (a0.size : Int)
   ·rw [if_pos c2] at H; have c2b0 := decide_eq_true c2; clear c2; replace H := zn H; obtain ⟨c3, H⟩ := H; have c3b0 := decide_eq_true c3; clear c3; replace H := zn H; obtain ⟨c4, H⟩ := H; have c4b0 := decide_eq_true c4; clear c4
    by_cases c6 : (bt a0 x6_1) = 48
    ·rw [if_pos c6] at H; have c6b0 : ((bt a0 x6_1) == 48) = true := beq_iff_eq.mpr c6; have c6b1 : ((bt a0 x6_1) != 48) = false := bne_eq_false_iff_eq.mpr c6; clear c6; have H' := z0 H; clear H; have p5 : 0 ≤ (x6_1 : Int) := zd; have q5 : x6_1 < (a0.size : Int) := zd; have hx5 := bt_at a0 x6_1; replace p5 := eq_true p5; replace q5 := eq_true q5; go_wp2; go_roundg k1
     case measure => have := HK1.out; omega
     case rel => exact ⟨(wrap64 (x6_1 + 1)), zf, H', ⟨by have := HK1.out; omega⟩, by repeat (first | exact Drawn0.refl _ | apply Drawn0.step)⟩
    ·rw [if_neg c6] at H; have c6b0 : ((bt a0 x6_1) == 48) = false := beq_eq_false_iff_ne.mpr c6; have c6b1 : ((bt a0 x6_1) != 48) = true := bne_iff_ne.mpr c6
     by_cases c8 : (bt a0 x6_1) = 49
     ·rw [if_pos c8] at H; have c8b0 : ((bt a0 x6_1) == 49) = true := beq_iff_eq.mpr c8; have c8b1 : ((bt a0 x6_1) != 49) = false := bne_eq_false_iff_eq.mpr c8; clear c8; have H' := z0 H; clear H; have p5 : 0 ≤ (x6_1 : Int) := zd; have q5 : x6_1 < (a0.size : Int) := zd; have hx5 := bt_at a0 x6_1; replace p5 := eq_true p5; replace q5 := eq_true q5; have p7 : 0 ≤ (x6_1 : Int) := zd; have q7 : x6_1 < (a0.size : Int) := zd; have hx7 := bt_at a0 x6_1; replace p7 := eq_true p7; replace q7 := eq_true q7; go_wp2; go_roundg k1
      case measure => have := HK1.out; omega
      case rel => exact ⟨(wrap64 (x6_1 + 1)), zf, H', ⟨by have := HK1.out; omega⟩, by repeat (first | exact Drawn0.refl _ | apply Drawn0.step)⟩
     ·rw [if_neg c8] at H; have c8b0 : ((bt a0 x6_1) == 49) = false := beq_eq_false_iff_ne.mpr c8; have c8b1 : ((bt a0 x6_1) != 49) = true := bne_iff_ne.mpr c8; obtain rfl := Option.some.inj H; have p5 : 0 ≤ (x6_1 : Int) := zd; have q5 : x6_1 < (a0.size : Int) := zd; have hx5 := bt_at a0 x6_1; replace p5 := eq_true p5; replace q5 := eq_true q5; have p7 : 0 ≤ (x6_1 : Int) := zd; have q7 : x6_1 < (a0.size : Int) := zd; have hx7 := bt_at a0 x6_1; replace p7 := eq_true p7; replace q7 := eq_true q7; go_wp2; go_ret; exact ⟨zf, by repeat (first | exact Drawn0.refl _ | apply Drawn0.step)⟩
   ·rw [if_neg c2] at H; have c2b0 := decide_eq_false c2; clear c2; obtain rfl := Option.some.inj H; go_wp2; go_ret; exact ⟨zf, by repeat (first | exact Drawn0.refl _ | apply Drawn0.step)⟩
theorem strings_Count.calls (a0 a1 : ByteArray) (r : Int) (w : World) (h : strings_Count.f a0 a1 = some r) :
    Calls Try.prog 100 #[.string a0, .string a1] w fun e w' => e = .returned (.int .i64 r) ∧ Drawn0 w w' := by
 unfold strings_Count.f at h
 by_cases hs : a1.size = 1
 ·rw [if_pos hs] at h; obtain rfl := Option.some.inj h
  obtain ⟨c, rfl⟩ : ∃ c, a1 = ⟨#[c]⟩ := by
    obtain ⟨⟨l⟩⟩ := a1
    match l, hs with
    | [c], _ => exact ⟨c, rfl⟩
  exact (Try.strings_Count_one a0 c w).mono fun e w' ⟨he, hw⟩ => ⟨he, ⟨⟨0, hw⟩⟩⟩
 ·rw [if_neg hs] at h
  cases h
theorem impl_one.mono_l : ∀ k, (∀ y0 y1 y2 y3, LeO (impl_one.l0 k y0 y1 y2 y3) (impl_one.l0 (k + 1) y0 y1 y2 y3))
  | 0 => fun _ _ _ _ r h => by simp [impl_one.l0] at h
  | k + 1 => by
    have ih0 := impl_one.mono_l k
    · intro y0 y1 y2 y3
      unfold impl_one.l0
      repeat' first | (with_reducible first | apply ih0 | exact LeO.refl _ | exact LeO.none _ | refine LeO.ite ?_ ?_ | refine LeO.bind ?_ (fun _ => ?_)) | exact LeO.none _ | refine LeO.ite ?_ ?_ | refine LeO.bind ?_ (fun _ => ?_)
theorem impl_one.mono : ∀ a0 a1 k, LeO (impl_one.f k a0 a1) (impl_one.f (k + 1) a0 a1) := by
  intro a0 a1 k
  have ih0 := impl_one.mono_l k
  unfold impl_one.f
  repeat' first | (with_reducible first | apply ih0 | exact LeO.refl _ | exact LeO.none _ | refine LeO.ite ?_ ?_ | refine LeO.bind ?_ (fun _ => ?_)) | exact LeO.none _ | refine LeO.ite ?_ ?_ | refine LeO.bind ?_ (fun _ => ?_)
theorem impl_one.calls (k : Nat) (a0 : ByteArray) (a1 r : Int) (w : World) (h : impl_one.f k a0 a1 = some r) :
    Calls Try.prog 125 #[.string a0, .int .i64 a1] w fun e w' => e = .returned (.int .i64 r) ∧ Drawn0 w w' := by
 have H : (impl_one.l0 k a0 a1 (a0.size : Int) 0) = some r := h; clear h; have H' := z0 H; clear H; go_enter Try.func125, Try.ntmps125; go_wp2
 go_loopg [1, 8] k (fun kq v1 v8 w' => ∃ (x1_1 : Int) (x8_1 : Int), v1 = .int .i64 x1_1 ∧ v8 = .int .i64 x8_1 ∧ Aside0 (impl_one.l0 kq a0 x1_1 (a0.size : Int) x8_1 = some r) ∧ Aside0 (kq ≤ k) ∧ Drawn0 w w')
 case atStart => exact ⟨(a1), (0), zf, zf, H', ⟨Nat.le_refl _⟩, by repeat (first | exact Drawn0.refl _ | apply Drawn0.step)⟩
 case round =>
  clear H'
  try clear c1
  try clear p2
  obtain ⟨x1_1, x8_1, rfl, rfl, HA, HK1, ⟨m1, rfl⟩⟩ := hrel
  cases gk with
  | zero => exact absurd HA.out (by simp [impl_one.l0])
  | succ k1 =>
   have H := HA.out; clear HA; simp only [impl_one.l0] at H
   by_cases c3 : x8_1 < (a0.size : Int)
   ·rw [if_pos c3] at H; have c3b0 := decide_eq_true c3; clear c3; replace H := zn H; obtain ⟨c4, H⟩ := H; have c4b0 := decide_eq_true c4; clear c4; replace H := zn H; obtain ⟨c5, H⟩ := H; have c5b0 := decide_eq_true c5; clear c5
    by_cases c7 : (bt a0 x8_1) = 49
    ·rw [if_pos c7] at H; have c7b0 : ((bt a0 x8_1) == 49) = true := beq_iff_eq.mpr c7; have c7b1 : ((bt a0 x8_1) != 49) = false := bne_eq_false_iff_eq.mpr c7; clear c7
     by_cases c8 : x1_1 = 0
     ·rw [if_pos c8] at H; have c8b0 : (x1_1 == 0) = true := beq_iff_eq.mpr c8; have c8b1 : (x1_1 != 0) = false := bne_eq_false_iff_eq.mpr c8; clear c8; obtain rfl := Option.some.inj H; have p6 : 0 ≤ (x8_1 : Int) := zd; have q6 : x8_1 < (a0.size : Int) := zd; have hx6 := bt_at a0 x8_1; replace p6 := eq_true p6; replace q6 := eq_true q6; go_wp2; go_ret; exact ⟨zf, by repeat (first | exact Drawn0.refl _ | apply Drawn0.step)⟩
     ·rw [if_neg c8] at H; have c8b0 : (x1_1 == 0) = false := beq_eq_false_iff_ne.mpr c8; have c8b1 : (x1_1 != 0) = true := bne_iff_ne.mpr c8; have H' := z0 H; clear H; have p6 : 0 ≤ (x8_1 : Int) := zd; have q6 : x8_1 < (a0.size : Int) := zd; have hx6 := bt_at a0 x8_1; replace p6 := eq_true p6; replace q6 := eq_true q6; go_wp2; go_roundg k1
      case measure => have := HK1.out; omega
      case rel => exact ⟨(wrap64 (x1_1 - 1)), (wrap64 (x8_1 + 1)), zf, zf, H', ⟨by have := HK1.out; omega⟩, by repeat (first | exact Drawn0.refl _ | apply Drawn0.step)⟩
    ·rw [if_neg c7] at H; have c7b0 : ((bt a0 x8_1) == 49) = false := beq_eq_false_iff_ne.mpr c7; have c7b1 : ((bt a0 x8_1) != 49) = true := bne_iff_ne.mpr c7; have H' := z0 H; clear H; have p6 : 0 ≤ (x8_1 : Int) := zd; have q6 : x8_1 < (a0.size : Int) := zd; have hx6 := bt_at a0 x8_1; replace p6 := eq_true p6; replace q6 := eq_true q6; go_wp2; go_roundg k1
     case measure => have := HK1.out; omega
     case rel => exact ⟨(x1_1), (wrap64 (x8_1 + 1)), zf, zf, H', ⟨by have := HK1.out; omega⟩, by repeat (first | exact Drawn0.refl _ | apply Drawn0.step)⟩
   ·rw [if_neg c3] at H; have c3b0 := decide_eq_false c3; clear c3; obtain rfl := Option.some.inj H; go_wp2; go_ret; exact ⟨zf, by repeat (first | exact Drawn0.refl _ | apply Drawn0.step)⟩
theorem impl_Sieve_branches.mono_l : ∀ k, (∀ y0 y1 y2 y3 y4 y5 y6, LeO (impl_Sieve_branches.l0 k y0 y1 y2 y3 y4 y5 y6) (impl_Sieve_branches.l0 (k + 1) y0 y1 y2 y3 y4 y5 y6))
  | 0 => fun _ _ _ _ _ _ _ r h => by simp [impl_Sieve_branches.l0] at h
  | k + 1 => by
    have ih0 := impl_Sieve_branches.mono_l k
    · intro y0 y1 y2 y3 y4 y5 y6
      unfold impl_Sieve_branches.l0
      repeat' first | (with_reducible first | apply ih0 | apply impl_one.mono | exact LeO.refl _ | exact LeO.none _ | refine LeO.ite ?_ ?_ | refine LeO.bind ?_ (fun _ => ?_)) | exact LeO.none _ | refine LeO.ite ?_ ?_ | refine LeO.bind ?_ (fun _ => ?_)
theorem impl_Sieve_branches.mono : ∀ a0 a1 a2 a3 a4 a5 k, LeO (impl_Sieve_branches.f k a0 a1 a2 a3 a4 a5) (impl_Sieve_branches.f (k + 1) a0 a1 a2 a3 a4 a5) := by
  intro a0 a1 a2 a3 a4 a5 k
  have ih0 := impl_Sieve_branches.mono_l k
  unfold impl_Sieve_branches.f
  repeat' first | (with_reducible first | apply ih0 | apply impl_one.mono | exact LeO.refl _ | exact LeO.none _ | refine LeO.ite ?_ ?_ | refine LeO.bind ?_ (fun _ => ?_)) | exact LeO.none _ | refine LeO.ite ?_ ?_ | refine LeO.bind ?_ (fun _ => ?_)
theorem impl_Sieve_branches.calls (k : Nat) (a0_0 a0_1 a0_2 : ByteArray) (A0_3 : Option Addr) (c0_3 : Nat) (l0_3 : List ByteArray) (a0_4 a1 r1 r2 : Int) (w : World) (hr0_3 : Kd.C Kd.string w A0_3 l0_3.length l0_3) (hc0_3 : l0_3.length ≤ c0_3) (h : impl_Sieve_branches.f k a0_0 a0_1 a0_2 l0_3 a0_4 a1 = some (r1, r2)) :
    Calls Try.prog 102 #[.agg #[.string a0_0, .string a0_1, .string a0_2, .slice A0_3 l0_3.length c0_3, .int .i64 a0_4], .int .i64 a1] w fun e w' => e = .returned (.tuple #[.int .i64 r1, .int .i64 r2]) ∧ Below w.heap.size w w' := by
 have hu25 := Try.underlying25; have HR0_3 := z0 hr0_3; have HC0_3 := z0 hc0_3; clear hr0_3 hc0_3; have HB := z0 (Below.refl w.heap.size w); have H : ((impl_one.f k a0_2 a1).bind fun t338 => (if t338 < 0 then (some (0, 0)) else (impl_Sieve_branches.l0 k t338 (wrap64 (t338 + 1)) a0_0 a0_1 a0_2 l0_3 a0_4))) = some (r1, r2) := h; clear h; replace H := zi H; obtain ⟨t338, A3, H⟩ := H; go_enter Try.func102, Try.ntmps102
 go_upto_if 13 with (first | ((with_reducible refine gd 2 ?_); refine zbx 25 #[.string a0_0, .string a0_1, .string a0_2, .slice A0_3 l0_3.length c0_3, .int .i64 a0_4] ?_; intro gb337 hg w4 hbox hb; have BK337 := z0 (hbox); have GE337 := zG hg HB; replace HB := zH HB hb; clear hb hbox hg; have hcz5 := zc5 BK337.out) | ((with_reducible refine gc 125 ?_); refine zL (some 11) Try.func125 #[.string a0_2, .int .i64 a1] ?_; (with_reducible refine (impl_one.calls k a0_2 a1 t338 _ A3.out).mono ?_); rintro e w' ⟨rfl, ⟨nd, rfl⟩⟩; refine ⟨_, rfl, ?_⟩))
 by_cases c6 : t338 < 0
 ·rw [if_pos c6] at H; have c6b0 := decide_eq_true c6; clear c6; (first | rw [c6b0] | (simp only [i64_w, i32_w]; rw [c6b0]) | simp only [*, Bool.not_true, Bool.not_false] | skip); simp only [Option.some.injEq, Prod.mk.injEq] at H; obtain ⟨rfl, rfl⟩ := H; go_wp2
  go_ret2
  exact ⟨ze, zb HB.out⟩
 ·rw [if_neg c6] at H; have c6b0 := decide_eq_false c6; clear c6; (first | rw [c6b0] | (simp only [i64_w, i32_w]; rw [c6b0]) | simp only [*, Bool.not_true, Bool.not_false] | skip); have H' := z0 H; clear H; go_wp2
  go_loopg [7] k (fun kq v7 w' => ∃ (x7_1 : Int), v7 = .int .i64 x7_1 ∧ Aside0 (impl_Sieve_branches.l0 kq t338 x7_1 a0_0 a0_1 a0_2 l0_3 a0_4 = some (r1, r2)) ∧ Aside0 (kq ≤ k) ∧ Aside0 (w'.heap[gb337]? = some (.cells #[.string a0_0, .string a0_1, .string a0_2, (.slice A0_3 l0_3.length c0_3), .int .i64 a0_4] 25 (0, 0))) ∧ Aside0 (Below w.heap.size w w'))
  case atStart => exact ⟨(wrap64 (t338 + 1)), zf, H', ⟨Nat.le_refl _⟩, ⟨zl BK337.out⟩, ⟨zb HB.out⟩⟩
  case round =>
   clear H'
   try clear c1
   try clear p2
   try clear c6
   try clear c6b0
   try clear p6
   try clear hcz5
   obtain ⟨x7_1, rfl, HA, HK1, BK337, HB⟩ := hrel
   cases gk with
   | zero => exact absurd HA.out (by simp [impl_Sieve_branches.l0])
   | succ k1 =>
    have H := HA.out; clear HA; simp only [impl_Sieve_branches.l0] at H
    by_cases c7 : x7_1 < (a0_2.size : Int)
    ·rw [if_pos c7] at H; have c7b0 := decide_eq_true c7; clear c7; replace H := zn H; obtain ⟨c8, H⟩ := H; have c8b0 := decide_eq_true c8; clear c8
     by_cases c10 : (bt a0_2 x7_1) = 48
     ·rw [if_pos c10] at H; have c10b0 : ((bt a0_2 x7_1) == 48) = true := beq_iff_eq.mpr c10; have c10b1 : ((bt a0_2 x7_1) != 48) = false := bne_eq_false_iff_eq.mpr c10; clear c10; have H' := z0 H; clear H; have hcz11 := zc5 BK337.out; have p9 : 0 ≤ (x7_1 : Int) := zd; have q9 : x7_1 < (a0_2.size : Int) := zd; have hx9 := bt_at a0_2 x7_1; replace p9 := eq_true p9; replace q9 := eq_true q9; go_wp2; go_roundg k1
      case measure => have := HK1.out; omega
      case rel => exact ⟨(wrap64 (x7_1 + 1)), zf, H', ⟨by have := HK1.out; omega⟩, ⟨zl BK337.out⟩, ⟨zb HB.out⟩⟩
     ·rw [if_neg c10] at H; have c10b0 : ((bt a0_2 x7_1) == 48) = false := beq_eq_false_iff_ne.mpr c10; have c10b1 : ((bt a0_2 x7_1) != 48) = true := bne_iff_ne.mpr c10; simp only [Option.some.injEq, Prod.mk.injEq] at H; obtain ⟨rfl, rfl⟩ := H; have hcz12 := zc5 BK337.out; have p9 : 0 ≤ (x7_1 : Int) := zd; have q9 : x7_1 < (a0_2.size : Int) := zd; have hx9 := bt_at a0_2 x7_1; replace p9 := eq_true p9; replace q9 := eq_true q9; go_wp2
      go_ret2
      exact ⟨ze, zb HB.out⟩
    ·rw [if_neg c7] at H; have c7b0 := decide_eq_false c7; clear c7; simp only [Option.some.injEq, Prod.mk.injEq] at H; obtain ⟨rfl, rfl⟩ := H; have hcz13 := zc5 BK337.out; go_wp2
     go_ret2
     exact ⟨ze, zb HB.out⟩
theorem impl_Sieve_node.calls (a0_0 a0_1 a0_2 : ByteArray) (A0_3 : Option Addr) (c0_3 : Nat) (l0_3 : List ByteArray) (a0_4 a1 r : Int) (w : World) (hr0_3 : Kd.C Kd.string w A0_3 l0_3.length l0_3) (hc0_3 : l0_3.length ≤ c0_3) (h : impl_Sieve_node.f a0_0 a0_1 a0_2 l0_3 a0_4 a1 = some r) :
    Calls Try.prog 104 #[.agg #[.string a0_0, .string a0_1, .string a0_2, .slice A0_3 l0_3.length c0_3, .int .i64 a0_4], .int .i64 a1] w fun e w' => e = .returned (.int .i64 r) ∧ Below w.heap.size w w' := by
 have hu25 := Try.underlying25; have HR0_3 := z0 hr0_3; have HC0_3 := z0 hc0_3; clear hr0_3 hc0_3; have HB := z0 (Below.refl w.heap.size w); have H : (if 0 ≤ (wrap64 (a1 + 1)) then (if (wrap64 (a1 + 1)) ≤ (a0_1.size : Int) then ((strings_Count.f (a0_1.extract 0 ((wrap64 (a1 + 1)) : Int).toNat) (⟨#[49]⟩ : ByteArray)).bind fun t340 => (some t340)) else (none)) else (none)) = some r := h; clear h; obtain ⟨ji3, hji3⟩ : ∃ j_ : Int, (wrap64 (a1 + 1)) = j_ := ⟨_, rfl⟩
 replace H : (if 0 ≤ (ji3) then (if (ji3) ≤ (a0_1.size : Int) then ((strings_Count.f (a0_1.extract 0 ((ji3) : Int).toNat) (⟨#[49]⟩ : ByteArray)).bind fun t340 => (some t340)) else (none)) else (none)) = some r := by first | (rw [hji3] at H; exact H) | (simp only [hji3] at H ⊢; exact H)
 have hji3w : (IntKind.i64.wrap (a1 + 1)) = ji3 := (i64_w _).trans hji3; replace H := zn H; obtain ⟨c4, H⟩ := H; have c4b0 := eq_true c4; have c4b1 := decide_eq_true c4; clear c4; replace H := zn H; obtain ⟨c5, H⟩ := H; have c5b0 := eq_true c5; have c5b1 := decide_eq_true c5; clear c5; replace H := zi H; obtain ⟨t340, A6, H⟩ := H; obtain rfl := Option.some.inj H; go_enter Try.func104, Try.ntmps104
 go_wp2_with (first | ((with_reducible refine gd 2 ?_); refine zbx 25 #[.string a0_0, .string a0_1, .string a0_2, .slice A0_3 l0_3.length c0_3, .int .i64 a0_4] ?_; intro gb339 hg w7 hbox hb; have BK339 := z0 (hbox); have GE339 := zG hg HB; replace HB := zH HB hb; clear hb hbox hg; have hcz8 := zc5 BK339.out) | ((with_reducible refine gc 100 ?_); refine goesL_ (some 10) rfl rfl Try.func100 (by kernel_rfl) rfl #[.string (a0_1.extract 0 ((ji3) : Int).toNat), .string ⟨#[49]⟩] rfl (by (try simp only [List.map_toArray, List.map_cons, List.map_nil]); first | done | (simp only [hji3]; rfl) | rfl | (simp only [List.length_drop, List.length_take]; rfl)) ?_; (with_reducible refine (strings_Count.calls (a0_1.extract 0 ((ji3) : Int).toNat) (⟨#[49]⟩ : ByteArray) t340 _ A6.out).mono ?_); rintro e w' ⟨rfl, ⟨nd, rfl⟩⟩; refine ⟨_, rfl, ?_⟩))
 go_ret; exact ⟨by first | rfl | (simp [errW_none, errW_some] <;> rfl) | (simp only [← hji3]; first | rfl | (simp [errW_none, errW_some] <;> rfl)) | (simp [*, errW_none, errW_some] <;> rfl), zb HB.out⟩
theorem impl_Sieve_rest.calls (a0_0 a0_1 a0_2 : ByteArray) (A0_3 : Option Addr) (c0_3 : Nat) (l0_3 : List ByteArray) (a0_4 a1 : Int) (r : ByteArray) (w : World) (hr0_3 : Kd.C Kd.string w A0_3 l0_3.length l0_3) (hc0_3 : l0_3.length ≤ c0_3) (h : impl_Sieve_rest.f a0_0 a0_1 a0_2 l0_3 a0_4 a1 = some r) :
    Calls Try.prog 106 #[.agg #[.string a0_0, .string a0_1, .string a0_2, .slice A0_3 l0_3.length c0_3, .int .i64 a0_4], .int .i64 a1] w fun e w' => e = .returned (.string r) ∧ Below w.heap.size w w' := by
 have hu25 := Try.underlying25; have HR0_3 := z0 hr0_3; have HC0_3 := z0 hc0_3; clear hr0_3 hc0_3; have HB := z0 (Below.refl w.heap.size w); have H : (if 0 ≤ a1 then (if a1 ≤ (a0_1.size : Int) then ((strings_Count.f (a0_1.extract 0 (a1 : Int).toNat) (⟨#[48]⟩ : ByteArray)).bind fun t342 => (if 0 ≤ t342 then (if t342 < (l0_3.length : Int) then (some (rdOf ByteArray.empty l0_3 t342)) else (none)) else (none))) else (none)) else (none)) = some r := h; clear h; replace H := zn H; obtain ⟨c3, H⟩ := H; have c3b0 := eq_true c3; have c3b1 := decide_eq_true c3; clear c3; replace H := zn H; obtain ⟨c4, H⟩ := H; have c4b0 := eq_true c4; have c4b1 := decide_eq_true c4; clear c4; replace H := zi H; obtain ⟨t342, A5, H⟩ := H; replace H := zn H; obtain ⟨c6, H⟩ := H; have c6b0 := decide_eq_true c6; clear c6; replace H := zn H; obtain ⟨c7, H⟩ := H; have c7b0 := decide_eq_true c7; clear c7; obtain rfl := Option.some.inj H; go_enter Try.func106, Try.ntmps106
 go_wp2_with (first | ((with_reducible refine gd 2 ?_); refine zbx 25 #[.string a0_0, .string a0_1, .string a0_2, .slice A0_3 l0_3.length c0_3, .int .i64 a0_4] ?_; intro gb341 hg w8 hbox hb; have BK341 := z0 (hbox); have GE341 := zG hg HB; replace HB := zH HB hb; clear hb hbox hg; have hcz9 := zc5 BK341.out) | (go_at_call 100; (with_reducible refine (strings_Count.calls (a0_1.extract 0 (a1 : Int).toNat) (⟨#[48]⟩ : ByteArray) t342 _ A5.out).mono ?_); rintro e w' ⟨rfl, ⟨nd, rfl⟩⟩; (try exact zdd); have p343 : 0 ≤ (t342 : Int) := zd; have q343 : t342 < (l0_3.length : Int) := zd; obtain ⟨ad343, e343, hx343_0⟩ := Kd.at_string HR0_3.out t342 p343 q343; cases e343; replace hx343_0 := (HB.out.cell (World.block_lt_of_cell? w _ hx343_0)).trans hx343_0; replace p343 := eq_true p343; replace q343 := eq_true q343))
 repeat (go_quiet (first | ((with_reducible refine gd 2 ?_); refine zbx 25 #[.string a0_0, .string a0_1, .string a0_2, .slice A0_3 l0_3.length c0_3, .int .i64 a0_4] ?_; intro gb341 hg w8 hbox hb; have BK341 := z0 (hbox); have GE341 := zG hg HB; replace HB := zH HB hb; clear hb hbox hg; have hcz9 := zc5 BK341.out) | (go_at_call 100; (with_reducible refine (strings_Count.calls (a0_1.extract 0 (a1 : Int).toNat) (⟨#[48]⟩ : ByteArray) t342 _ A5.out).mono ?_); rintro e w' ⟨rfl, ⟨nd, rfl⟩⟩; (try exact zdd); have p343 : 0 ≤ (t342 : Int) := zd; have q343 : t342 < (l0_3.length : Int) := zd; obtain ⟨ad343, e343, hx343_0⟩ := Kd.at_string HR0_3.out t342 p343 q343; cases e343; replace hx343_0 := (HB.out.cell (World.block_lt_of_cell? w _ hx343_0)).trans hx343_0; replace p343 := eq_true p343; replace q343 := eq_true q343)); try go_wp2_with (first | ((with_reducible refine gd 2 ?_); refine zbx 25 #[.string a0_0, .string a0_1, .string a0_2, .slice A0_3 l0_3.length c0_3, .int .i64 a0_4] ?_; intro gb341 hg w8 hbox hb; have BK341 := z0 (hbox); have GE341 := zG hg HB; replace HB := zH HB hb; clear hb hbox hg; have hcz9 := zc5 BK341.out) | (go_at_call 100; (with_reducible refine (strings_Count.calls (a0_1.extract 0 (a1 : Int).toNat) (⟨#[48]⟩ : ByteArray) t342 _ A5.out).mono ?_); rintro e w' ⟨rfl, ⟨nd, rfl⟩⟩; (try exact zdd); have p343 : 0 ≤ (t342 : Int) := zd; have q343 : t342 < (l0_3.length : Int) := zd; obtain ⟨ad343, e343, hx343_0⟩ := Kd.at_string HR0_3.out t342 p343 q343; cases e343; replace hx343_0 := (HB.out.cell (World.block_lt_of_cell? w _ hx343_0)).trans hx343_0; replace p343 := eq_true p343; replace q343 := eq_true q343)))
 go_ret; exact ⟨ze, zb HB.out⟩
def impl_Sieve_complete.T1 : Bool × List (List Nat × List Nat) := (true, [([], []), ([0], [0]), ([], []), ([1, 2], [1, 2]), ([3], [3]), ([4], [4]), ([5], [5]), ([5], [5]), ([6, 7, 5, 5], [5, 6, 7]), ([8, 5], [5, 8]), ([5], [5]), ([10, 5], [5, 10]), ([9, 11, 5], [5, 9, 11]), ([5, 12], [5, 12]), ([13, 8, 0, 1, 2, 3, 4, 5, 6, 7, 8, 9, 10, 11, 12, 13], [13])])
def impl_Sieve_complete.B1 : List Nat := [0, 1, 0, 7, 15, 31, 63, 63, 255, 511, 63, 1087, 4095, 8191, 16383]
theorem impl_Sieve_complete.tab1 : rtab .any (opsOf Try.f105 1) = impl_Sieve_complete.T1 := by kernel_rfl
theorem impl_Sieve_complete.bits1 : waitsOk impl_Sieve_complete.T1.2 impl_Sieve_complete.B1 = true := by kernel_rfl
theorem impl_Sieve_complete.calls (a0_0 a0_1 a0_2 : ByteArray) (A0_3 : Option Addr) (c0_3 : Nat) (l0_3 : List ByteArray) (a0_4 a1 : Int) (r : Bool) (w : World) (hr0_3 : Kd.C Kd.string w A0_3 l0_3.length l0_3) (hc0_3 : l0_3.length ≤ c0_3) (h : impl_Sieve_complete.f a0_0 a0_1 a0_2 l0_3 a0_4 a1 = some r) :
    Calls Try.prog 105 #[.agg #[.string a0_0, .string a0_1, .string a0_2, .slice A0_3 l0_3.length c0_3, .int .i64 a0_4], .int .i64 a1] w fun e w' => e = .returned (.bool r) ∧ Below w.heap.size w w' := by
 have hu25 := Try.underlying25; have HR0_3 := z0 hr0_3; have HC0_3 := z0 hc0_3; clear hr0_3 hc0_3; have HB := z0 (Below.refl w.heap.size w); have H : (if 0 ≤ a1 then (if a1 < (a0_0.size : Int) then (if (bt a0_0 a1) = 45 then (some true) else ((impl_Sieve_rest.f a0_0 a0_1 a0_2 l0_3 a0_4 a1).bind fun t345 => (some (decide ((t345.size : Int) < a0_4))))) else (none)) else (none)) = some r := h; clear h; replace H := zn H; obtain ⟨c3, H⟩ := H; have c3b0 := decide_eq_true c3; clear c3; replace H := zn H; obtain ⟨c4, H⟩ := H; have c4b0 := decide_eq_true c4; clear c4
 by_cases c6 : (bt a0_0 a1) = 45
 ·rw [if_pos c6] at H; have c6b0 : ((bt a0_0 a1) == 45) = true := beq_iff_eq.mpr c6; have c6b1 : ((bt a0_0 a1) != 45) = false := bne_eq_false_iff_eq.mpr c6; clear c6; obtain rfl := Option.some.inj H; go_enter Try.func105, Try.ntmps105
  try go_wp2_with (first | ((with_reducible refine gd 2 ?_); (try (refine gate_guard (by rfl) ?_; dsimp only)); refine zbx 25 #[.string a0_0, .string a0_1, .string a0_2, .slice A0_3 l0_3.length c0_3, .int .i64 a0_4] ?_; intro gb344 hg w7 hbox hb; have BK344 := z0 (hbox); have GE344 := zG hg HB; replace HB := zH HB hb; clear hb hbox hg))
  replace BK344 := z0 (blk_drew BK344.out); replace HB := z0 (below_drew1 HB.out); have p5 : 0 ≤ (a1 : Int) := zd; have q5 : a1 < (a0_0.size : Int) := zd; have hx5 := bt_at a0_0 a1; replace p5 := eq_true p5; replace q5 := eq_true q5; refine start_ (n := 15) (S := fun w' => w'.cell? ⟨gb344, 0, none⟩ = some (.string a0_0) ∧ w'.cell? ⟨gb344, 1, none⟩ = some (.string a0_1) ∧ w'.cell? ⟨gb344, 2, none⟩ = some (.string a0_2) ∧ w'.cell? ⟨gb344, 3, none⟩ = some (.slice A0_3 l0_3.length c0_3) ∧ w'.cell? ⟨gb344, 4, none⟩ = some (.int .i64 a0_4)) (ds := []) (fb 15 0) (by kernel_rfl) rfl rfl (zb5 BK344.out) (fun hHeld => ?_); refine with_tabW impl_Sieve_complete.tab1 impl_Sieve_complete.bits1 (fun HT_ HW_ => ?_); generalize w7.drew = w8 at BK344 HB hHeld ⊢; refine zu 0 1 ?_; refine zu 2 5 ?_; refine zx 1 7 hHeld ?_; refine zx 3 15 hHeld ?_; refine zu 4 31 ?_; refine zu 5 63 ?_; refine zw 6 127 ?_; refine zw 7 255 ?_; refine zw 8 511 ?_; refine zw 9 1023 ?_; refine zw 10 2047 ?_; refine zw 11 4095 ?_; refine zw 12 8191 ?_; refine zu 13 16383 ?_; refine zu 14 32767 ?_; refine done_ (done_of HT_.out (by kernel_rfl)) ?_
  try go_wp2
  go_ret; exact ⟨ze, zb HB.out⟩
 ·rw [if_neg c6] at H; have c6b0 : ((bt a0_0 a1) == 45) = false := beq_eq_false_iff_ne.mpr c6; have c6b1 : ((bt a0_0 a1) != 45) = true := bne_iff_ne.mpr c6; replace H := zi H; obtain ⟨t345, A9, H⟩ := H; obtain rfl := Option.some.inj H; go_enter Try.func105, Try.ntmps105
  try go_wp2_with (first | ((with_reducible refine gd 2 ?_); (try (refine gate_guard (by rfl) ?_; dsimp only)); refine zbx 25 #[.string a0_0, .string a0_1, .string a0_2, .slice A0_3 l0_3.length c0_3, .int .i64 a0_4] ?_; intro gb344 hg w10 hbox hb; have BK344 := z0 (hbox); have GE344 := zG hg HB; replace HB := zH HB hb; clear hb hbox hg))
  replace BK344 := z0 (blk_drew BK344.out); replace HB := z0 (below_drew1 HB.out); have p5 : 0 ≤ (a1 : Int) := zd; have q5 : a1 < (a0_0.size : Int) := zd; have hx5 := bt_at a0_0 a1; replace p5 := eq_true p5; replace q5 := eq_true q5; refine start_ (n := 15) (S := fun w' => w'.cell? ⟨gb344, 0, none⟩ = some (.string a0_0) ∧ w'.cell? ⟨gb344, 1, none⟩ = some (.string a0_1) ∧ w'.cell? ⟨gb344, 2, none⟩ = some (.string a0_2) ∧ w'.cell? ⟨gb344, 3, none⟩ = some (.slice A0_3 l0_3.length c0_3) ∧ w'.cell? ⟨gb344, 4, none⟩ = some (.int .i64 a0_4)) (ds := []) (fb 15 0) (by kernel_rfl) rfl rfl (zb5 BK344.out) (fun hHeld => ?_); refine with_tabW impl_Sieve_complete.tab1 impl_Sieve_complete.bits1 (fun HT_ HW_ => ?_); generalize w10.drew = w11 at BK344 HB hHeld ⊢; refine zu 0 1 ?_; refine zu 2 5 ?_; refine zx 1 7 hHeld ?_; refine zx 3 15 hHeld ?_; refine zu 4 31 ?_; refine zu 5 63 ?_; refine zu 7 191 ?_; refine zu 10 1215 ?_; refine zx 6 1279 hHeld ?_; refine zx 11 3327 hHeld ?_; refine zone 8 3583 (fun K hK => ?_); refine zG2 Try.func106 #[.agg #[.string a0_0, .string a0_1, .string a0_2, .slice A0_3 l0_3.length c0_3, .int .i64 a0_4], .int .i64 a1] ?_
  with_reducible refine (impl_Sieve_rest.calls a0_0 a0_1 a0_2 _ _ l0_3 a0_4 a1 t345 _ ?side1 ?side2 A9.out).mono ?_
  (case side1 => repeat (first | exact (Kd.C_below HR0_3.out HB.out) | (with_reducible refine Kd.C_alloc ?_ _) | (with_reducible refine Kd.C_drewN ?_ _) | (with_reducible refine Kd.C_drew ?_))); (case side2 => exact HC0_3.out); rintro e w12 ⟨rfl, hb⟩; refine ⟨_, rfl, ?_⟩; replace BK344 := zK BK344 hb; replace HB := zH HB hb; (try clear hb); refine hK.out _ _ (zb5 BK344.out) (fun hHeld => ?_); clear hK K; refine znm ?_; refine zu 9 4095 ?_; refine zu 12 8191 ?_; refine zu 13 16383 ?_; refine zu 14 32767 ?_; refine done_ (done_of HT_.out (by kernel_rfl)) ?_
  try go_wp2
  go_ret; exact ⟨ze, zb HB.out⟩
theorem impl_Sieve_parts.mono_l : ∀ k, (∀ y0 y1 y2 y3 y4 y5 y6 y7, LeO (impl_Sieve_parts.f k y0 y1 y2 y3 y4 y5 y6 y7) (impl_Sieve_parts.f (k + 1) y0 y1 y2 y3 y4 y5 y6 y7)) ∧ (∀ y0 y1 y2 y3 y4 y5 y6 y7 y8, LeO (impl_Sieve_parts.l0 k y0 y1 y2 y3 y4 y5 y6 y7 y8) (impl_Sieve_parts.l0 (k + 1) y0 y1 y2 y3 y4 y5 y6 y7 y8)) ∧ (∀ y0 y1 y2 y3 y4 y5 y6 y7 y8 y9, LeO (impl_Sieve_parts.j1 k y0 y1 y2 y3 y4 y5 y6 y7 y8 y9) (impl_Sieve_parts.j1 (k + 1) y0 y1 y2 y3 y4 y5 y6 y7 y8 y9)) ∧ (∀ y0 y1 y2 y3 y4 y5 y6 y7 y8 y9 y10, LeO (impl_Sieve_parts.j2 k y0 y1 y2 y3 y4 y5 y6 y7 y8 y9 y10) (impl_Sieve_parts.j2 (k + 1) y0 y1 y2 y3 y4 y5 y6 y7 y8 y9 y10))
  | 0 => ⟨fun _ _ _ _ _ _ _ _ r h => by simp [impl_Sieve_parts.f] at h, fun _ _ _ _ _ _ _ _ _ r h => by simp [impl_Sieve_parts.l0] at h, fun _ _ _ _ _ _ _ _ _ _ r h => by simp [impl_Sieve_parts.j1] at h, fun _ _ _ _ _ _ _ _ _ _ _ r h => by simp [impl_Sieve_parts.j2] at h⟩
  | k + 1 => by
    obtain ⟨ih0, ih1, ih2, ih3⟩ := impl_Sieve_parts.mono_l k
    refine ⟨?_, ?_, ?_, ?_⟩
    · intro y0 y1 y2 y3 y4 y5 y6 y7
      unfold impl_Sieve_parts.f
      repeat' first | (with_reducible first | apply ih0 | apply ih1 | apply ih2 | apply ih3 | apply impl_Sieve_branches.mono | exact LeO.refl _ | exact LeO.none _ | refine LeO.ite ?_ ?_ | refine LeO.bind ?_ (fun _ => ?_)) | exact LeO.none _ | refine LeO.ite ?_ ?_ | refine LeO.bind ?_ (fun _ => ?_)
    · intro y0 y1 y2 y3 y4 y5 y6 y7 y8
      unfold impl_Sieve_parts.l0
      repeat' first | (with_reducible first | apply ih0 | apply ih1 | apply ih2 | apply ih3 | apply impl_Sieve_branches.mono | exact LeO.refl _ | exact LeO.none _ | refine LeO.ite ?_ ?_ | refine LeO.bind ?_ (fun _ => ?_)) | exact LeO.none _ | refine LeO.ite ?_ ?_ | refine LeO.bind ?_ (fun _ => ?_)
    · intro y0 y1 y2 y3 y4 y5 y6 y7 y8 y9
      unfold impl_Sieve_parts.j1
      repeat' first | (with_reducible first | apply ih0 | apply ih1 | apply ih2 | apply ih3 | apply impl_Sieve_branches.mono | exact LeO.refl _ | exact LeO.none _ | refine LeO.ite ?_ ?_ | refine LeO.bind ?_ (fun _ => ?_)) | exact LeO.none _ | refine LeO.ite ?_ ?_ | refine LeO.bind ?_ (fun _ => ?_)
    · intro y0 y1 y2 y3 y4 y5 y6 y7 y8 y9 y10
      unfold impl_Sieve_parts.j2
      repeat' first | (with_reducible first | apply ih0 | apply ih1 | apply ih2 | apply ih3 | apply impl_Sieve_branches.mono | exact LeO.refl _ | exact LeO.none _ | refine LeO.ite ?_ ?_ | refine LeO.bind ?_ (fun _ => ?_)) | exact LeO.none _ | refine LeO.ite ?_ ?_ | refine LeO.bind ?_ (fun _ => ?_)
theorem impl_Sieve_parts.mono : ∀ a0 a1 a2 a3 a4 a5 a6 a7 k, LeO (impl_Sieve_parts.f k a0 a1 a2 a3 a4 a5 a6 a7) (impl_Sieve_parts.f (k + 1) a0 a1 a2 a3 a4 a5 a6 a7) := by
  intro a0 a1 a2 a3 a4 a5 a6 a7 k
  obtain ⟨ih0, ih1, ih2, ih3⟩ := impl_Sieve_parts.mono_l k
  exact ih0 a0 a1 a2 a3 a4 a5 a6 a7
def impl_Sieve_parts.T11 : Bool × List (List Nat × List Nat) := (true, [([], []), ([], []), ([], []), ([], []), ([2, 3], [2, 3]), ([1, 4], [1, 4]), ([], []), ([], []), ([6, 7, 4], [6, 7]), ([5, 8], [5, 8]), ([9], [9]), ([0, 10, 8], [0, 10]), ([11, 11, 0, 1, 2, 3, 4, 5, 6, 7, 8, 9, 10, 11], [0, 11])])
def impl_Sieve_parts.B11 : List Nat := [0, 0, 0, 0, 12, 30, 0, 0, 220, 510, 1022, 2047, 4095]
theorem impl_Sieve_parts.tab11 : rtab .any (opsOf Try.f118 11) = impl_Sieve_parts.T11 := by kernel_rfl
theorem impl_Sieve_parts.bits11 : waitsOk impl_Sieve_parts.T11.2 impl_Sieve_parts.B11 = true := by kernel_rfl
def impl_Sieve_parts.T12 : Bool × List (List Nat × List Nat) := (true, [([], []), ([], []), ([], []), ([1, 2], [1, 2]), ([0, 3, 3], [0, 3]), ([4], [4]), ([5], [5]), ([5], [5]), ([6, 4, 0, 1, 2, 3, 4, 5, 6], [6]), ([7, 8, 0, 1, 2, 3, 4, 5, 6, 7, 8], [7])])
def impl_Sieve_parts.B12 : List Nat := [0, 0, 0, 6, 15, 31, 63, 63, 127, 511]
theorem impl_Sieve_parts.tab12 : rtab .any (opsOf Try.f118 12) = impl_Sieve_parts.T12 := by kernel_rfl
theorem impl_Sieve_parts.bits12 : waitsOk impl_Sieve_parts.T12.2 impl_Sieve_parts.B12 = true := by kernel_rfl
def impl_Sieve_parts.T15 : Bool × List (List Nat × List Nat) := (true, [([], []), ([], []), ([], []), ([1, 2], [1, 2]), ([], []), ([], []), ([0, 3, 4, 5, 3], [0, 3, 4, 5]), ([6], [6]), ([7], [7]), ([7], [7]), ([8, 6, 0, 1, 2, 3, 4, 5, 6, 7, 8], [8]), ([9, 10, 0, 1, 2, 3, 4, 5, 6, 7, 8, 9, 10], [9])])
def impl_Sieve_parts.B15 : List Nat := [0, 0, 0, 6, 0, 0, 63, 127, 255, 255, 511, 2047]
theorem impl_Sieve_parts.tab15 : rtab .any (opsOf Try.f118 15) = impl_Sieve_parts.T15 := by kernel_rfl
theorem impl_Sieve_parts.bits15 : waitsOk impl_Sieve_parts.T15.2 impl_Sieve_parts.B15 = true := by kernel_rfl
theorem impl_Sieve_parts.calls (k : Nat) : ∀ (a0_0 a0_1 a0_2 : ByteArray) (A0_3 : Option Addr) (c0_3 : Nat) (l0_3 : List ByteArray) (a0_4 a1 : Int) (a2 : ByteArray) (P3_ : Nat → Prop) (u9000_ : Value) (l3 : List (S93)) (r1 : List (S93)) (r2 : Bool) (w0 w : World) (hB : Below w0.heap.size w0 w) (hr0_3 : ∀ W_, Kept w W_ (fun k_ => P3_ k_) → Kd.C Kd.string W_ A0_3 l0_3.length l0_3) (hc0_3 : l0_3.length ≤ c0_3) (ho3 : Kd.R k93 93 w w0.heap.size P3_ u9000_ l3) (h : impl_Sieve_parts.f k a0_0 a0_1 a0_2 l0_3 a0_4 a1 a2 l3 = some (r1, r2)),
    Calls Try.prog 118 #[.agg #[.string a0_0, .string a0_1, .string a0_2, .slice A0_3 l0_3.length c0_3, .int .i64 a0_4], .int .i64 a1, .string a2, u9000_] w fun e w' => ∃ v0_ : Value, e = .returned (.tuple #[v0_, .bool r2]) ∧ Kd.R k93 93 w' w0.heap.size (fun k_ => (P3_ k_ ∨ w.heap.size ≤ k_)) v0_ r1 ∧ Below w0.heap.size w0 w' ∧ Kept w w' (fun k_ => P3_ k_) := by
 induction k using Nat.strongRecOn with
 | _ k ih =>
 intro a0_0 a0_1 a0_2 A0_3 c0_3 l0_3 a0_4 a1 a2 P3_ u9000_ l3 r1 r2 w0 w hB hr0_3 hc0_3 ho3 h
 cases k with
 | zero => exact absurd h (by simp [impl_Sieve_parts.f])
 | succ k =>
 simp only [impl_Sieve_parts.f] at h; have hu25 := Try.underlying25; have hu93 := Try.underlying93; have HR0_3 := z0 hr0_3; have HC0_3 := z0 hc0_3; clear hr0_3 hc0_3; have HO3 := z0 (show Kd.R k93 93 w w0.heap.size (fun k_ => (P3_ k_ ∨ w.heap.size ≤ k_)) u9000_ l3 from Kd.R_mono ho3 (fun k_ hk => (.inl hk))); have HK := z0 (Kept.refl w (fun k_ => P3_ k_)); have HW0 := z0 hB.size; have HB := z0 hB; clear hB; have H : (if (a2.size : Int) > 5 then (some (([] : List (S93)), false)) else ((impl_Sieve_branches.f k a0_0 a0_1 a0_2 l0_3 a0_4 a1).bind fun bt347 => (impl_Sieve_parts.l0 k a2 l3 bt347.2 bt347.1 a0_0 a0_1 a0_2 l0_3 a0_4))) = some (r1, r2) := h; clear h
 by_cases c5 : (a2.size : Int) > 5
 ·rw [if_pos c5] at H; have c5b0 : decide (5 < (a2.size : Int)) = true := decide_eq_true c5; have c5b1 : decide (5 < a2.size) = true := decide_eq_true (by omega); clear c5; simp only [Option.some.injEq, Prod.mk.injEq] at H; obtain ⟨rfl, rfl⟩ := H; go_enter Try.func118, Try.ntmps118
  go_wp2_with (first | ((with_reducible refine gd 4 ?_); refine zbx 25 #[.string a0_0, .string a0_1, .string a0_2, .slice A0_3 l0_3.length c0_3, .int .i64 a0_4] ?_; intro gb346 hg w6 hbox hb; replace HO3 := zA HO3 hb; have BK346 := z0 (hbox); have GW346 := z0 ((by rw [hg]; exact (by first | exact HK.out.1 | exact (show Kept w _ (fun k_ => P3_ k_) from zk HK.out).1) : w.heap.size ≤ gb346)); replace HK := z0 (Kept.below (zk HK.out) hb); have GE346 := zG hg HB; replace HB := zH HB hb; clear hb hbox hg))
  go_ret2
  exact ⟨_, ze, by first | exact Kd.R_nil _ _ _ _ _ | exact Kd.N_nil _ _ _ _ _ | exact Kd.V_nil _ _ _ _ _ | exact Kd.Q_nil _ _ _ _ _ | exact Kd.S_nil _ _ _ _ _, zb HB.out, zk HK.out⟩
 ·rw [if_neg c5] at H; have c5b0 : decide (5 < (a2.size : Int)) = false := decide_eq_false c5; have c5b1 : decide (5 < a2.size) = false := decide_eq_false (by omega); clear c5; replace H := zi H; obtain ⟨⟨t347, t348⟩, A7, H⟩ := H; (try dsimp only at H); have H' := z0 H; clear H; go_enter Try.func118, Try.ntmps118
  go_wp2_with (first | ((with_reducible refine gd 4 ?_); refine zbx 25 #[.string a0_0, .string a0_1, .string a0_2, .slice A0_3 l0_3.length c0_3, .int .i64 a0_4] ?_; intro gb346 hg w8 hbox hb; replace HO3 := zA HO3 hb; have BK346 := z0 (hbox); have GW346 := z0 ((by rw [hg]; exact (by first | exact HK.out.1 | exact (show Kept w _ (fun k_ => P3_ k_) from zk HK.out).1) : w.heap.size ≤ gb346)); replace HK := z0 (Kept.below (zk HK.out) hb); have GE346 := zG hg HB; replace HB := zH HB hb; clear hb hbox hg; have hcz9 := zc5 BK346.out) | ((with_reducible refine gc 102 ?_); refine zL (some 24) Try.func102 #[.agg #[.string a0_0, .string a0_1, .string a0_2, .slice A0_3 l0_3.length c0_3, .int .i64 a0_4], .int .i64 a1] ?_; (with_reducible refine (impl_Sieve_branches.calls k a0_0 a0_1 a0_2 _ _ l0_3 a0_4 a1 t347 t348 _ (Kd.C_kept_now HR0_3.out (zk HK.out)) HC0_3.out A7.out).mono ?_); rintro e w10 ⟨rfl, hb⟩; refine zv ?_; replace HO3 := zA HO3 hb; replace BK346 := zK BK346 hb; replace HK := z0 (Kept.below (zk HK.out) hb); replace HB := zH HB hb; (try clear hb)))
  go_loopg [3, 12] k (fun kq v3 v12 w' => ∃ (x3_1 : List (S93)) (x12_1 : Int), v12 = .int .i64 x12_1 ∧ Aside0 (impl_Sieve_parts.l0 kq a2 x3_1 t348 x12_1 a0_0 a0_1 a0_2 l0_3 a0_4 = some (r1, r2)) ∧ Aside0 (kq ≤ k) ∧ Aside0 (Kd.R k93 93 w' w0.heap.size (fun k_ => (P3_ k_ ∨ w.heap.size ≤ k_)) v3 x3_1) ∧ Aside0 (w'.heap[gb346]? = some (.cells #[.string a0_0, .string a0_1, .string a0_2, (.slice A0_3 l0_3.length c0_3), .int .i64 a0_4] 25 (0, 0))) ∧ Aside0 (Kept w w' (fun k_ => P3_ k_)) ∧ Aside0 (Below w0.heap.size w0 w'))
  case atStart => exact ⟨(l3), (t347), zf, H', ⟨Nat.le_refl _⟩, ⟨zr HO3.out⟩, ⟨zl BK346.out⟩, ⟨zk HK.out⟩, ⟨zb HB.out⟩⟩
  case round =>
   clear H'
   try clear c1
   try clear p2
   try clear c5
   try clear c5b0
   try clear c5b1
   try clear c10
   try clear hcz9
   obtain ⟨x3_1, x12_1, rfl, HA, HK1, HO_3, BK346, HK, HB⟩ := hrel
   cases gk with
   | zero => exact absurd HA.out (by simp [impl_Sieve_parts.l0])
   | succ k1 =>
    have H := HA.out; clear HA; simp only [impl_Sieve_parts.l0] at H
    by_cases c11 : x12_1 < t348
    ·rw [if_pos c11] at H; have c11b0 := decide_eq_true c11; clear c11; replace H := zn H; obtain ⟨c12, H⟩ := H; have c12b0 := decide_eq_true c12; clear c12; replace H := zn H; obtain ⟨c13, H⟩ := H; have c13b0 := decide_eq_true c13; clear c13; have HC15 := z0 H; clear H; have hcz16 := zc5 BK346.out; have p14 : 0 ≤ (x12_1 : Int) := zd; have q14 : x12_1 < (a0_0.size : Int) := zd; have hx14 := bt_at a0_0 x12_1; replace p14 := eq_true p14; replace q14 := eq_true q14
     go_upto_if 38 with (fail)
     go_cut [13] (fun v13 wc => ∃ (kq : Nat) (x13_14 : ByteArray), v13 = .string x13_14 ∧ Aside0 (impl_Sieve_parts.j1 kq a2 x3_1 t348 x12_1 x13_14 a0_0 a0_1 a0_2 l0_3 a0_4 = some (r1, r2)) ∧ Aside0 (kq ≤ k1) ∧ Aside0 (Kd.R k93 93 wc w0.heap.size (fun k_ => (P3_ k_ ∨ w.heap.size ≤ k_)) u3 x3_1) ∧ Aside0 (wc.heap[gb346]? = some (.cells #[.string a0_0, .string a0_1, .string a0_2, (.slice A0_3 l0_3.length c0_3), .int .i64 a0_4] 25 (0, 0))) ∧ Aside0 (Kept w wc (fun k_ => P3_ k_)) ∧ Aside0 (Below w0.heap.size w0 wc))
     case first =>
      have H := HC15.out; clear HC15
      by_cases c17 : (bt a0_0 x12_1) = 45
      ·rw [if_pos c17] at H; have c17b0 : ((bt a0_0 x12_1) == 45) = true := beq_iff_eq.mpr c17; have c17b1 : ((bt a0_0 x12_1) != 45) = false := bne_eq_false_iff_eq.mpr c17; clear c17; (first | rw [c17b0] | (simp only [i64_w, i32_w]; rw [c17b0]) | simp only [*, Bool.not_true, Bool.not_false] | skip); have H' := z0 H; clear H; go_wp2; go_meet
       case rel => exact ⟨_, (a2), zf, H', ⟨by have := HK1.out; first | omega | exact Nat.le_refl _⟩, ⟨zr HO_3.out⟩, ⟨zl BK346.out⟩, ⟨zk HK.out⟩, ⟨zb HB.out⟩⟩
      ·rw [if_neg c17] at H; have c17b0 : ((bt a0_0 x12_1) == 45) = false := beq_eq_false_iff_ne.mpr c17; have c17b1 : ((bt a0_0 x12_1) != 45) = true := bne_iff_ne.mpr c17; (first | rw [c17b0] | (simp only [i64_w, i32_w]; rw [c17b0]) | simp only [*, Bool.not_true, Bool.not_false] | skip); have c18b0 := eq_true (zd : 0 ≤ x12_1); replace H := zn H; obtain ⟨c19, H⟩ := H; have c19b0 := eq_true c19; have c19b1 := decide_eq_true c19; replace H := zn H; obtain ⟨c20, H⟩ := H; have c20b0 := eq_true c20; have c20b1 := decide_eq_true c20; replace H := zn H; obtain ⟨c21, H⟩ := H; have c21b0 := eq_true c21; have c21b1 := decide_eq_true c21
       try have c21b2 : (9223372036854775807 < a2.size + (a0_0.extract (x12_1 : Int).toNat ((wrap64 (x12_1 + 1)) : Int).toNat).size) = False := eq_false (Nat.not_lt.2 c21)
       have H' := z0 H; clear H; have hcz22 := zc5 BK346.out; go_wp2; go_meet
       case rel => exact ⟨_, (a2 ++ (a0_0.extract (x12_1 : Int).toNat ((wrap64 (x12_1 + 1)) : Int).toNat)), zf, H', ⟨by have := HK1.out; first | omega | exact Nat.le_refl _⟩, ⟨zr HO_3.out⟩, ⟨zl BK346.out⟩, ⟨zk HK.out⟩, ⟨zb HB.out⟩⟩
     case rest =>
      clear HC15
      try clear c1
      try clear p1
      try clear q1
      try clear hx1
      try clear c2
      try clear p2
      try clear c5
      try clear c5b0
      try clear c5b1
      try clear p6
      try clear c10
      try clear c11
      try clear c11b0
      try clear c12
      try clear c12b0
      try clear c13
      try clear c13b0
      try clear p14
      try clear q14
      try clear hx14
      try clear c17
      try clear c17b0
      try clear c17b1
      try clear c18
      try clear c18b0
      try clear c19
      try clear c19b0
      try clear c19b1
      try clear c20
      try clear c20b0
      try clear c20b1
      try clear c21
      try clear c21b0
      try clear c21b1
      try clear c21b2
      try clear hcz16
      try clear hcz22
      try clear hcz9
      try clear p14
      try clear p2
      try clear q14
      obtain ⟨kq, x13_14, rfl, HA, HJ14, HO_3, BK346, HK, HB⟩ := hcut
      cases kq with
      | zero => exact absurd HA.out (by simp [impl_Sieve_parts.j1])
      | succ kj14 =>
       have H := HA.out; clear HA; simp only [impl_Sieve_parts.j1] at H; replace H := zn H; obtain ⟨c23, H⟩ := H; have c23b0 := decide_eq_true c23; clear c23; replace H := zn H; obtain ⟨c24, H⟩ := H; have c24b0 := decide_eq_true c24; clear c24
       by_cases c26 : (bt a0_1 x12_1) = 48
       ·rw [if_pos c26] at H; have c26b0 : ((bt a0_1 x12_1) == 48) = true := beq_iff_eq.mpr c26; have c26b1 : ((bt a0_1 x12_1) != 48) = false := bne_eq_false_iff_eq.mpr c26; clear c26; replace H := zi H; obtain ⟨t349, A27, H⟩ := H; replace H := zn H; obtain ⟨c28, H⟩ := H; have c28b0 := eq_true c28; have c28b1 := decide_eq_true c28
        try have c28b2 : (9223372036854775807 < x13_14.size + t349.size) = False := eq_false (Nat.not_lt.2 c28)
        replace H := zi H; obtain ⟨t350, A29, H⟩ := H; replace H := zn H; obtain ⟨c30, H⟩ := H; have LMc30 := z0 c30; clear c30; obtain ⟨y351, hy351⟩ : ∃ y_ : List (S93), y_ = (x3_1 ++ [(⟨x13_14 ++ t349, t350⟩ : S93)]) := ⟨_, rfl⟩; replace H : (impl_Sieve_parts.l0 kj14 a2 y351 t348 (wrap64 (x12_1 + 1)) a0_0 a0_1 a0_2 l0_3 a0_4) = some (r1, r2) := zH2 hy351 H; have Ny351 := z0 hy351; clear hy351; have H' := z0 H; clear H; have hcz31 := zc5 BK346.out; have p25 : 0 ≤ (x12_1 : Int) := zd; have q25 : x12_1 < (a0_1.size : Int) := zd; have hx25 := bt_at a0_1 x12_1; replace p25 := eq_true p25; replace q25 := eq_true q25
        try go_wp2
        replace HO_3 := z0 (Kd.R_drew HO_3.out); replace BK346 := z0 (blk_drew BK346.out); replace HK := z0 (Kept.drew HK.out); replace HB := z0 (below_drew1 HB.out); refine start_ (n := 13) (S := fun w' => w'.cell? ⟨gb346, 0, none⟩ = some (.string a0_0) ∧ w'.cell? ⟨gb346, 1, none⟩ = some (.string a0_1) ∧ w'.cell? ⟨gb346, 2, none⟩ = some (.string a0_2) ∧ w'.cell? ⟨gb346, 3, none⟩ = some (.slice A0_3 l0_3.length c0_3) ∧ w'.cell? ⟨gb346, 4, none⟩ = some (.int .i64 a0_4)) (ds := []) (fb 13 0) (by kernel_rfl) rfl rfl (zb5 BK346.out) (fun hHeld => ?_); refine with_tabW impl_Sieve_parts.tab11 impl_Sieve_parts.bits11 (fun HT_ HW_ => ?_); generalize wc.drew = w32 at HO_3 BK346 HK HB hHeld ⊢; refine zu 0 1 ?_; refine zu 1 3 ?_; refine zu 3 11 ?_; refine zu 7 139 ?_; refine zx 2 143 hHeld ?_; refine zx 6 207 hHeld ?_; refine zone 4 223 (fun K hK => ?_); refine zG2 Try.func106 #[.agg #[.string a0_0, .string a0_1, .string a0_2, .slice A0_3 l0_3.length c0_3, .int .i64 a0_4], .int .i64 x12_1] ?_
        with_reducible refine (impl_Sieve_rest.calls a0_0 a0_1 a0_2 _ _ l0_3 a0_4 x12_1 t349 _ ?side1 ?side2 A27.out).mono ?_
        (case side1 => exact Kd.C_kept_now HR0_3.out (zk HK.out)); (case side2 => exact HC0_3.out); rintro e w33 ⟨rfl, hb⟩; refine ⟨_, rfl, ?_⟩; replace HO_3 := zA HO_3 hb; replace BK346 := zK BK346 hb; replace HK := z0 (Kept.below (zk HK.out) hb); replace HB := zH HB hb; (try clear hb); refine hK.out _ _ (zb5 BK346.out) (fun hHeld => ?_); clear hK K; refine znm ?_; refine zu 5 255 ?_; refine zone 8 511 (fun K hK => ?_); refine zG2 Try.func105 #[.agg #[.string a0_0, .string a0_1, .string a0_2, .slice A0_3 l0_3.length c0_3, .int .i64 a0_4], .int .i64 x12_1] ?_
        with_reducible refine (impl_Sieve_complete.calls a0_0 a0_1 a0_2 _ _ l0_3 a0_4 x12_1 t350 _ ?side1 ?side2 A29.out).mono ?_
        (case side1 => exact Kd.C_kept_now HR0_3.out (zk HK.out)); (case side2 => exact HC0_3.out); rintro e w34 ⟨rfl, hb⟩; refine ⟨_, rfl, ?_⟩; replace HO_3 := zA HO_3 hb; replace BK346 := zK BK346 hb; replace HK := z0 (Kept.below (zk HK.out) hb); replace HB := zH HB hb; (try clear hb); refine hK.out _ _ (zb5 BK346.out) (fun hHeld => ?_); clear hK K; refine znm ?_; refine zu 9 1023 ?_; refine zone 10 2047 (fun K hK => ?_); refine value_ (w1 := ?_) (v := ?_) (by rfl) rfl ?_ ?_; rotate_left 2
        ·go_simp
         constructor
         ·rfl
         ·rfl
        refine hK.out _ _ ⟨(blk_cell (blk_alloc BK346.out _) 0).trans rfl, (blk_cell (blk_alloc BK346.out _) 1).trans rfl, (blk_cell (blk_alloc BK346.out _) 2).trans rfl, (blk_cell (blk_alloc BK346.out _) 3).trans rfl, (blk_cell (blk_alloc BK346.out _) 4).trans rfl⟩ (fun hHeld => ?_); clear hK K; refine znm ?_; refine zone 11 4095 (fun K hK => ?_); refine Kd.R_append_step k93 (w0 := w0) w0.heap.size (by rfl) (.tmp 52) (.tmp 62) 88 93 (.agg #[(.string ⟨#[]⟩), (.bool false)]) 24 rfl Try.underlying88 info93 rfl (by decide) (by omega) u3 x3_1 (⟨x13_14 ++ t349, t350⟩ : S93) [.string (x13_14 ++ t349), .bool t350] (fun k_ => (P3_ k_ ∨ w.heap.size ≤ k_)) (fun _ => False) rfl rfl ?aP (fun _ hk => hk.elim) ?aF ?aO ?aB ?aS ?aL ?_; (case aP => exact k93_mkM _ _ _ (⟨x13_14 ++ t349, t350⟩ : S93)); (case aB => exact (zb HB.out)); (case aF => exact (fun k_ hk => (.inr (Nat.le_trans (by first | exact HK.out.1 | exact (show Kept w _ (fun k_ => P3_ k_) from zk HK.out).1) hk)))); (case aO => exact (zr HO_3.out)); (case aS => exact (below_size (zb HB.out))); (case aL => have := LMc30.out; omega); intro v352 w35 ho hb hg hat; rw [← Ny351.out] at ho; replace BK346 := z0 (blk_grown (zl BK346.out) hg (Kd.R_ne HO_3.out BK346.out (by decide))); replace HB := z0 (hb); replace HK := z0 (Kept.of_grown (S := (fun k_ => P3_ k_)) hg (zk HK.out) (fun k_ e_ => (HO_3.out.1 k_ e_))); have HO353 := z0 (ho); clear HO_3; clear ho hb hg hat; refine hK.out _ _ (zb5 BK346.out) (fun hHeld => ?_); clear hK K; refine znm ?_; refine zu 12 8191 ?_; refine done_ (done_of HT_.out (by kernel_rfl)) ?_
        try go_wp2
        go_roundg kj14
        case measure => have := HK1.out; have := HJ14.out; omega
        case rel => exact ⟨(y351), (wrap64 (x12_1 + 1)), zf, H', ⟨by have := HK1.out; have := HJ14.out; omega⟩, ⟨zr HO353.out⟩, ⟨zl BK346.out⟩, ⟨zk HK.out⟩, ⟨zb HB.out⟩⟩
       ·rw [if_neg c26] at H; have c26b0 : ((bt a0_1 x12_1) == 48) = false := beq_eq_false_iff_ne.mpr c26; have c26b1 : ((bt a0_1 x12_1) != 48) = true := bne_iff_ne.mpr c26; replace H := zi H; obtain ⟨t354, A36, H⟩ := H; replace H := zi H; obtain ⟨⟨t355, t356⟩, A37, H⟩ := H; (try dsimp only at H); have HC38 := z0 H; clear H; have hcz39 := zc5 BK346.out; have p25 : 0 ≤ (x12_1 : Int) := zd; have q25 : x12_1 < (a0_1.size : Int) := zd; have hx25 := bt_at a0_1 x12_1; replace p25 := eq_true p25; replace q25 := eq_true q25
        try go_wp2
        replace HO_3 := z0 (Kd.R_drew HO_3.out); replace BK346 := z0 (blk_drew BK346.out); replace HK := z0 (Kept.drew HK.out); replace HB := z0 (below_drew1 HB.out); refine start_ (n := 10) (S := fun w' => w'.cell? ⟨gb346, 0, none⟩ = some (.string a0_0) ∧ w'.cell? ⟨gb346, 1, none⟩ = some (.string a0_1) ∧ w'.cell? ⟨gb346, 2, none⟩ = some (.string a0_2) ∧ w'.cell? ⟨gb346, 3, none⟩ = some (.slice A0_3 l0_3.length c0_3) ∧ w'.cell? ⟨gb346, 4, none⟩ = some (.int .i64 a0_4)) (ds := []) (fb 10 0) (by kernel_rfl) rfl rfl (zb5 BK346.out) (fun hHeld => ?_); refine with_tabW impl_Sieve_parts.tab12 impl_Sieve_parts.bits12 (fun HT_ HW_ => ?_); generalize wc.drew = w40 at HO_3 BK346 HK HB hHeld ⊢; refine zu 2 4 ?_; refine zx 0 5 hHeld ?_; refine zx 1 7 hHeld ?_; refine zone 3 15 (fun K hK => ?_); refine zG2 Try.func104 #[.agg #[.string a0_0, .string a0_1, .string a0_2, .slice A0_3 l0_3.length c0_3, .int .i64 a0_4], .int .i64 x12_1] ?_
        with_reducible refine (impl_Sieve_node.calls a0_0 a0_1 a0_2 _ _ l0_3 a0_4 x12_1 t354 _ ?side1 ?side2 A36.out).mono ?_
        (case side1 => exact Kd.C_kept_now HR0_3.out (zk HK.out)); (case side2 => exact HC0_3.out); rintro e w41 ⟨rfl, hb⟩; refine ⟨_, rfl, ?_⟩; replace HO_3 := zA HO_3 hb; replace BK346 := zK BK346 hb; replace HK := z0 (Kept.below (zk HK.out) hb); replace HB := zH HB hb; (try clear hb); refine hK.out _ _ (zb5 BK346.out) (fun hHeld => ?_); clear hK K; refine znm ?_; refine zone 4 31 (fun K hK => ?_); refine zG2 Try.func102 #[.agg #[.string a0_0, .string a0_1, .string a0_2, .slice A0_3 l0_3.length c0_3, .int .i64 a0_4], .int .i64 t354] ?_
        with_reducible refine (impl_Sieve_branches.calls kj14 a0_0 a0_1 a0_2 _ _ l0_3 a0_4 t354 t355 t356 _ ?side1 ?side2 A37.out).mono ?_
        (case side1 => exact Kd.C_kept_now HR0_3.out (zk HK.out)); (case side2 => exact HC0_3.out); rintro e w42 ⟨rfl, hb⟩; refine ⟨_, rfl, ?_⟩; replace HO_3 := zA HO_3 hb; replace BK346 := zK BK346 hb; replace HK := z0 (Kept.below (zk HK.out) hb); replace HB := zH HB hb; (try clear hb); refine hK.out _ _ (zb5 BK346.out) (fun hHeld => ?_); clear hK K; refine znm ?_; refine zu 5 63 ?_; refine zu 6 127 ?_; refine zu 7 255 ?_; refine zu 8 511 ?_; refine zu 9 1023 ?_; refine done_ (done_of HT_.out (by kernel_rfl)) ?_
        go_upto_region 13 with (fail)
        go_cut [81] (fun v81 wc => ∃ (kq : Nat) (x81_37 : Bool), v81 = .bool x81_37 ∧ Aside0 (impl_Sieve_parts.j2 kq a2 x3_1 t348 x12_1 x13_14 x81_37 a0_0 a0_1 a0_2 l0_3 a0_4 = some (r1, r2)) ∧ Aside0 (kq ≤ kj14) ∧ Aside0 (Kd.R k93 93 wc w0.heap.size (fun k_ => (P3_ k_ ∨ w.heap.size ≤ k_)) u3 x3_1) ∧ Aside0 (wc.heap[gb346]? = some (.cells #[.string a0_0, .string a0_1, .string a0_2, (.slice A0_3 l0_3.length c0_3), .int .i64 a0_4] 25 (0, 0))) ∧ Aside0 (Kept w wc (fun k_ => P3_ k_)) ∧ Aside0 (Below w0.heap.size w0 wc))
        case first =>
         have H := HC38.out; clear HC38
         by_cases c43 : t355 ≤ x12_1
         ·rw [if_pos c43] at H; have c43b0 := decide_eq_true c43; clear c43; (first | rw [c43b0] | (simp only [i64_w, i32_w]; rw [c43b0]) | simp only [*, Bool.not_true, Bool.not_false] | skip); have H' := z0 H; clear H; go_wp2; go_meet
          case rel => exact ⟨_, (true), zf, H', ⟨by have := HK1.out; have := HJ14.out; first | omega | exact Nat.le_refl _⟩, ⟨zr HO_3.out⟩, ⟨zl BK346.out⟩, ⟨zk HK.out⟩, ⟨zb HB.out⟩⟩
         ·rw [if_neg c43] at H; have c43b0 := decide_eq_false c43; clear c43; (first | rw [c43b0] | (simp only [i64_w, i32_w]; rw [c43b0]) | simp only [*, Bool.not_true, Bool.not_false] | skip); replace H := zn H; obtain ⟨c44, H⟩ := H; have c44b0 := decide_eq_true c44; clear c44; have H' := z0 H; clear H; have hcz46 := zc5 BK346.out; have p45 : 0 ≤ (x12_1 : Int) := zd; have q45 : x12_1 < (a0_0.size : Int) := zd; have hx45 := bt_at a0_0 x12_1; replace p45 := eq_true p45; replace q45 := eq_true q45; go_wp2; go_meet
          case rel => exact ⟨_, (((bt a0_0 x12_1) == 45)), zf, H', ⟨by have := HK1.out; have := HJ14.out; first | omega | exact Nat.le_refl _⟩, ⟨zr HO_3.out⟩, ⟨zl BK346.out⟩, ⟨zk HK.out⟩, ⟨zb HB.out⟩⟩
        case rest =>
         clear HC38
         try clear c1
         try clear p1
         try clear q1
         try clear hx1
         try clear c2
         try clear p2
         try clear q2
         try clear hx2
         try clear c3
         try clear c4
         try clear p4
         try clear q4
         try clear hx4
         try clear c5
         try clear c5b0
         try clear c5b1
         try clear p6
         try clear c10
         try clear c11
         try clear c11b0
         try clear c12
         try clear c12b0
         try clear c13
         try clear c13b0
         try clear p14
         try clear q14
         try clear hx14
         try clear c17
         try clear c17b0
         try clear c17b1
         try clear c18
         try clear c18b0
         try clear c19
         try clear c19b0
         try clear c19b1
         try clear c20
         try clear c20b0
         try clear c20b1
         try clear c21
         try clear c21b0
         try clear c21b1
         try clear c21b2
         try clear c23
         try clear c23b0
         try clear c24
         try clear c24b0
         try clear p25
         try clear q25
         try clear hx25
         try clear c26
         try clear c26b0
         try clear c26b1
         try clear c28
         try clear c28b0
         try clear c28b1
         try clear c28b2
         try clear c30
         try clear c43
         try clear c43b0
         try clear c44
         try clear c44b0
         try clear p45
         try clear q45
         try clear hx45
         try clear hcz16
         try clear hcz22
         try clear hcz31
         try clear hcz39
         try clear hcz46
         try clear hcz9
         try clear p1
         try clear p14
         try clear p2
         try clear p25
         try clear p45
         try clear p6
         try clear q1
         try clear q14
         try clear q25
         try clear q45
         obtain ⟨kq, x81_37, rfl, HA, HJ37, HO_3, BK346, HK, HB⟩ := hcut
         cases kq with
         | zero => exact absurd HA.out (by simp [impl_Sieve_parts.j2])
         | succ kj37 =>
          have H := HA.out; clear HA; simp only [impl_Sieve_parts.j2] at H
          by_cases c47 : x81_37 = true
          ·subst c47
           have H1 : (some (([] : List (S93)), false)) = some (r1, r2) := by rw [if_pos rfl] at H; exact H
           clear H; have H := H1; clear H1; simp only [Option.some.injEq, Prod.mk.injEq] at H; obtain ⟨rfl, rfl⟩ := H; go_wp2
           go_ret2
           exact ⟨_, ze, by first | exact Kd.R_nil _ _ _ _ _ | exact Kd.N_nil _ _ _ _ _ | exact Kd.V_nil _ _ _ _ _ | exact Kd.Q_nil _ _ _ _ _ | exact Kd.S_nil _ _ _ _ _, zb HB.out, zk HK.out⟩
          ·replace c47 := Bool.eq_false_iff.mpr c47; subst c47
           have H1 : ((impl_Sieve_node.f a0_0 a0_1 a0_2 l0_3 a0_4 x12_1).bind fun t357 => ((impl_Sieve_parts.f kj37 a0_0 a0_1 a0_2 l0_3 a0_4 t357 x13_14 x3_1).bind fun bt358 => (if bt358.2 = true then (impl_Sieve_parts.l0 kj37 a2 bt358.1 t348 (wrap64 (x12_1 + 1)) a0_0 a0_1 a0_2 l0_3 a0_4) else (some (([] : List (S93)), false))))) = some (r1, r2) := by rw [if_neg (show ¬ (false = true) by decide)] at H; exact H
           clear H; have H := H1; clear H1; replace H := zi H; obtain ⟨t357, A48, H⟩ := H; replace H := zi H; obtain ⟨⟨t358, t361⟩, A49, H⟩ := H; (try dsimp only at H)
           by_cases c50 : t361 = true
           ·subst c50
            have H1 : (impl_Sieve_parts.l0 kj37 a2 t358 t348 (wrap64 (x12_1 + 1)) a0_0 a0_1 a0_2 l0_3 a0_4) = some (r1, r2) := by rw [if_pos rfl] at H; exact H
            clear H; have H := H1; clear H1; have H' := z0 H; clear H
            try go_wp2
            replace HO_3 := z0 (Kd.R_drew HO_3.out); replace BK346 := z0 (blk_drew BK346.out); replace HK := z0 (Kept.drew HK.out); replace HB := z0 (below_drew1 HB.out); refine start_ (n := 12) (S := fun w' => w'.cell? ⟨gb346, 0, none⟩ = some (.string a0_0) ∧ w'.cell? ⟨gb346, 1, none⟩ = some (.string a0_1) ∧ w'.cell? ⟨gb346, 2, none⟩ = some (.string a0_2) ∧ w'.cell? ⟨gb346, 3, none⟩ = some (.slice A0_3 l0_3.length c0_3) ∧ w'.cell? ⟨gb346, 4, none⟩ = some (.int .i64 a0_4)) (ds := []) (fb 12 0) (by kernel_rfl) rfl rfl (zb5 BK346.out) (fun hHeld => ?_); refine with_tabW impl_Sieve_parts.tab15 impl_Sieve_parts.bits15 (fun HT_ HW_ => ?_); generalize wc.drew = w51 at HO_3 BK346 HK HB hHeld ⊢; refine zu 2 4 ?_; refine zu 4 20 ?_; refine zu 5 52 ?_; refine zx 0 53 hHeld ?_; refine zx 1 55 hHeld ?_; refine zone 3 63 (fun K hK => ?_); refine zG2 Try.func104 #[.agg #[.string a0_0, .string a0_1, .string a0_2, .slice A0_3 l0_3.length c0_3, .int .i64 a0_4], .int .i64 x12_1] ?_
            with_reducible refine (impl_Sieve_node.calls a0_0 a0_1 a0_2 _ _ l0_3 a0_4 x12_1 t357 _ ?side1 ?side2 A48.out).mono ?_
            (case side1 => exact Kd.C_kept_now HR0_3.out (zk HK.out)); (case side2 => exact HC0_3.out); rintro e w52 ⟨rfl, hb⟩; refine ⟨_, rfl, ?_⟩; replace HO_3 := zA HO_3 hb; replace BK346 := zK BK346 hb; replace HK := z0 (Kept.below (zk HK.out) hb); replace HB := zH HB hb; (try clear hb); obtain ⟨Ao53, co53, eo53⟩ := Kd.R_slice HO_3.out; (first | subst eo53 | (injection eo53 with f1_ f2_ f3_; have f4_ := f1_.symm; have f5_ := f3_.symm; clear f1_ f2_ f3_; subst f4_; subst f5_)); refine hK.out _ _ (zb5 BK346.out) (fun hHeld => ?_); clear hK K; refine znm ?_; refine zone 6 127 (fun K hK => ?_); refine zG2 Try.func118 #[.agg #[.string a0_0, .string a0_1, .string a0_2, .slice A0_3 l0_3.length c0_3, .int .i64 a0_4], .int .i64 t357, .string x13_14, .slice Ao53 x3_1.length co53] ?_
            with_reducible refine (ih kj37 (by have := HK1.out; have := HJ14.out; have := HJ37.out; omega) a0_0 a0_1 a0_2 _ _ l0_3 a0_4 t357 x13_14 (fun k_ => some k_ = (.slice Ao53 x3_1.length co53 : Value).ownBlock) (.slice Ao53 x3_1.length co53) x3_1 t358 true w0 _ ?side1 ?side2 ?side3 ?side4 A49.out).mono ?_
            (case side1 => repeat (first | (with_reducible first | exact HB.out | apply below_alloc | apply pw_below_drewN | apply below_drew1 | refine below_set ?_ GE346.out) | exact HB.out)); (case side2 => exact Kd.C_kept_call HR0_3.out (zk HK.out) (fun k_ hs_ => (fun e_ => (HO_3.out.1 k_ e_.symm)) hs_)); (case side3 => exact HC0_3.out); (case side4 => exact Kd.R_tight rfl HO_3.out); rintro e w54 ⟨v359, rfl, ho0, hb, hkp⟩; refine ⟨_, rfl, ?_⟩; replace BK346 := z0 (blk_kept (zl BK346.out) hkp (fun hs_ => (fun e_ => (Kd.R_ne HO_3.out BK346.out (by decide)) e_) hs_)); have HO360 := z0 (Kd.R_mono (ok' := fun k_ => (P3_ k_ ∨ w.heap.size ≤ k_)) ho0 (fun k_ hk_ => Or.elim hk_ (fun hs_ => (HO_3.out.1 k_ (hs_).symm)) (fun hn_ => (.inr (Nat.le_trans (by first | exact HK.out.1 | exact (show Kept w _ (fun k_ => P3_ k_) from zk HK.out).1) hn_))))); replace HK := z0 (Kept.then_ (S := (fun k_ => P3_ k_)) (zk HK.out) hkp (fun k_ hs_ => (fun e_ => (HO_3.out.1 k_ e_.symm)) hs_)); replace HB := z0 (hb); clear HO_3; (try clear hb); (try clear hkp); (try clear ho0); refine hK.out _ _ (zb5 BK346.out) (fun hHeld => ?_); clear hK K; refine znm ?_; refine zu 7 255 ?_; refine zu 8 511 ?_; refine zu 9 1023 ?_; refine zu 10 2047 ?_; refine zu 11 4095 ?_; refine done_ (done_of HT_.out (by kernel_rfl)) ?_
            try go_wp2
            go_roundg kj37
            case measure => have := HK1.out; have := HJ14.out; have := HJ37.out; omega
            case rel => exact ⟨(t358), (wrap64 (x12_1 + 1)), zf, H', ⟨by have := HK1.out; have := HJ14.out; have := HJ37.out; omega⟩, ⟨zr HO360.out⟩, ⟨zl BK346.out⟩, ⟨zk HK.out⟩, ⟨zb HB.out⟩⟩
           ·replace c50 := Bool.eq_false_iff.mpr c50; subst c50
            have H1 : (some (([] : List (S93)), false)) = some (r1, r2) := by rw [if_neg (show ¬ (false = true) by decide)] at H; exact H
            clear H; have H := H1; clear H1; simp only [Option.some.injEq, Prod.mk.injEq] at H; obtain ⟨rfl, rfl⟩ := H
            try go_wp2
            replace HO_3 := z0 (Kd.R_drew HO_3.out); replace BK346 := z0 (blk_drew BK346.out); replace HK := z0 (Kept.drew HK.out); replace HB := z0 (below_drew1 HB.out); refine start_ (n := 12) (S := fun w' => w'.cell? ⟨gb346, 0, none⟩ = some (.string a0_0) ∧ w'.cell? ⟨gb346, 1, none⟩ = some (.string a0_1) ∧ w'.cell? ⟨gb346, 2, none⟩ = some (.string a0_2) ∧ w'.cell? ⟨gb346, 3, none⟩ = some (.slice A0_3 l0_3.length c0_3) ∧ w'.cell? ⟨gb346, 4, none⟩ = some (.int .i64 a0_4)) (ds := []) (fb 12 0) (by kernel_rfl) rfl rfl (zb5 BK346.out) (fun hHeld => ?_); refine with_tabW impl_Sieve_parts.tab15 impl_Sieve_parts.bits15 (fun HT_ HW_ => ?_); generalize wc.drew = w55 at HO_3 BK346 HK HB hHeld ⊢; refine zu 2 4 ?_; refine zu 4 20 ?_; refine zu 5 52 ?_; refine zx 0 53 hHeld ?_; refine zx 1 55 hHeld ?_; refine zone 3 63 (fun K hK => ?_); refine zG2 Try.func104 #[.agg #[.string a0_0, .string a0_1, .string a0_2, .slice A0_3 l0_3.length c0_3, .int .i64 a0_4], .int .i64 x12_1] ?_
            with_reducible refine (impl_Sieve_node.calls a0_0 a0_1 a0_2 _ _ l0_3 a0_4 x12_1 t357 _ ?side1 ?side2 A48.out).mono ?_
            (case side1 => exact Kd.C_kept_now HR0_3.out (zk HK.out)); (case side2 => exact HC0_3.out); rintro e w56 ⟨rfl, hb⟩; refine ⟨_, rfl, ?_⟩; replace HO_3 := zA HO_3 hb; replace BK346 := zK BK346 hb; replace HK := z0 (Kept.below (zk HK.out) hb); replace HB := zH HB hb; (try clear hb); obtain ⟨Ao57, co57, eo57⟩ := Kd.R_slice HO_3.out; (first | subst eo57 | (injection eo57 with f1_ f2_ f3_; have f4_ := f1_.symm; have f5_ := f3_.symm; clear f1_ f2_ f3_; subst f4_; subst f5_)); refine hK.out _ _ (zb5 BK346.out) (fun hHeld => ?_); clear hK K; refine znm ?_; refine zone 6 127 (fun K hK => ?_); refine zG2 Try.func118 #[.agg #[.string a0_0, .string a0_1, .string a0_2, .slice A0_3 l0_3.length c0_3, .int .i64 a0_4], .int .i64 t357, .string x13_14, .slice Ao57 x3_1.length co57] ?_
            with_reducible refine (ih kj37 (by have := HK1.out; have := HJ14.out; have := HJ37.out; omega) a0_0 a0_1 a0_2 _ _ l0_3 a0_4 t357 x13_14 (fun k_ => some k_ = (.slice Ao57 x3_1.length co57 : Value).ownBlock) (.slice Ao57 x3_1.length co57) x3_1 t358 false w0 _ ?side1 ?side2 ?side3 ?side4 A49.out).mono ?_
            (case side1 => repeat (first | (with_reducible first | exact HB.out | apply below_alloc | apply pw_below_drewN | apply below_drew1 | refine below_set ?_ GE346.out) | exact HB.out)); (case side2 => exact Kd.C_kept_call HR0_3.out (zk HK.out) (fun k_ hs_ => (fun e_ => (HO_3.out.1 k_ e_.symm)) hs_)); (case side3 => exact HC0_3.out); (case side4 => exact Kd.R_tight rfl HO_3.out); rintro e w58 ⟨v359, rfl, ho0, hb, hkp⟩; refine ⟨_, rfl, ?_⟩; replace BK346 := z0 (blk_kept (zl BK346.out) hkp (fun hs_ => (fun e_ => (Kd.R_ne HO_3.out BK346.out (by decide)) e_) hs_)); have HO360 := z0 (Kd.R_mono (ok' := fun k_ => (P3_ k_ ∨ w.heap.size ≤ k_)) ho0 (fun k_ hk_ => Or.elim hk_ (fun hs_ => (HO_3.out.1 k_ (hs_).symm)) (fun hn_ => (.inr (Nat.le_trans (by first | exact HK.out.1 | exact (show Kept w _ (fun k_ => P3_ k_) from zk HK.out).1) hn_))))); replace HK := z0 (Kept.then_ (S := (fun k_ => P3_ k_)) (zk HK.out) hkp (fun k_ hs_ => (fun e_ => (HO_3.out.1 k_ e_.symm)) hs_)); replace HB := z0 (hb); clear HO_3; (try clear hb); (try clear hkp); (try clear ho0); refine hK.out _ _ (zb5 BK346.out) (fun hHeld => ?_); clear hK K; refine znm ?_; refine zu 7 255 ?_; refine zu 8 511 ?_; refine zu 9 1023 ?_; refine zu 10 2047 ?_; refine zu 11 4095 ?_; refine done_ (done_of HT_.out (by kernel_rfl)) ?_
            try go_wp2
            go_ret2
            exact ⟨_, ze, by first | exact Kd.R_nil _ _ _ _ _ | exact Kd.N_nil _ _ _ _ _ | exact Kd.V_nil _ _ _ _ _ | exact Kd.Q_nil _ _ _ _ _ | exact Kd.S_nil _ _ _ _ _, zb HB.out, zk HK.out⟩
    ·rw [if_neg c11] at H; have c11b0 := decide_eq_false c11; clear c11; simp only [Option.some.injEq, Prod.mk.injEq] at H; obtain ⟨rfl, rfl⟩ := H; go_wp2
     go_ret2
     exact ⟨_, ze, zr HO_3.out, zb HB.out, zk HK.out⟩
theorem slices_Equal_string_string.mono_l : ∀ k, (∀ y0 y1 y2 y3, LeO (slices_Equal_string_string.l0 k y0 y1 y2 y3) (slices_Equal_string_string.l0 (k + 1) y0 y1 y2 y3))
  | 0 => fun _ _ _ _ r h => by simp [slices_Equal_string_string.l0] at h
  | k + 1 => by
    have ih0 := slices_Equal_string_string.mono_l k
    · intro y0 y1 y2 y3
      unfold slices_Equal_string_string.l0
      repeat' first | (with_reducible first | apply ih0 | exact LeO.refl _ | exact LeO.none _ | refine LeO.ite ?_ ?_ | refine LeO.bind ?_ (fun _ => ?_)) | exact LeO.none _ | refine LeO.ite ?_ ?_ | refine LeO.bind ?_ (fun _ => ?_)
theorem slices_Equal_string_string.mono : ∀ a0 a1 k, LeO (slices_Equal_string_string.f k a0 a1) (slices_Equal_string_string.f (k + 1) a0 a1) := by
  intro a0 a1 k
  have ih0 := slices_Equal_string_string.mono_l k
  unfold slices_Equal_string_string.f
  repeat' first | (with_reducible first | apply ih0 | exact LeO.refl _ | exact LeO.none _ | refine LeO.ite ?_ ?_ | refine LeO.bind ?_ (fun _ => ?_)) | exact LeO.none _ | refine LeO.ite ?_ ?_ | refine LeO.bind ?_ (fun _ => ?_)
theorem slices_Equal_string_string.calls (k : Nat) (A0 : Option Addr) (c0 : Nat) (l0 : List ByteArray) (A1 : Option Addr) (c1 : Nat) (l1 : List ByteArray) (r : Bool) (w : World) (hr0 : Kd.C Kd.string w A0 l0.length l0) (hc0 : l0.length ≤ c0) (hr1 : Kd.C Kd.string w A1 l1.length l1) (hc1 : l1.length ≤ c1) (h : slices_Equal_string_string.f k l0 l1 = some r) :
    Calls Try.prog 138 #[.slice A0 l0.length c0, .slice A1 l1.length c1] w fun e w' => e = .returned (.bool r) ∧ Drawn0 w w' := by
 have HR0 := z0 hr0; have HC0 := z0 hc0; clear hr0 hc0; have HR1 := z0 hr1; have HC1 := z0 hc1; clear hr1 hc1; have H : (if (l0.length : Int) = (l1.length : Int) then (slices_Equal_string_string.l0 k l0 l1 (l0.length : Int) 0) else (some false)) = some r := h; clear h
 by_cases c3 : (l0.length : Int) = (l1.length : Int)
 ·rw [if_pos c3] at H; have c3b0 : ((l0.length : Int) == (l1.length : Int)) = true := beq_iff_eq.mpr c3; have c3b1 : ((l0.length : Int) != (l1.length : Int)) = false := bne_eq_false_iff_eq.mpr c3
  have c3b2 : (l0.length == l1.length) = true := by first | simpa using c3 | (simp at c3 ⊢; omega)
  clear c3; have H' := z0 H; clear H; go_enter Try.func138, Try.ntmps138; go_wp2
  repeat (go_quiet (fail); try go_wp2)
  go_loopg [13] k (fun kq v13 w' => ∃ (x13_1 : Int), v13 = .int .i64 x13_1 ∧ Aside0 (slices_Equal_string_string.l0 kq l0 l1 (l0.length : Int) x13_1 = some r) ∧ Aside0 (kq ≤ k) ∧ Drawn0 w w')
  case atStart => exact ⟨(0), zf, H', ⟨Nat.le_refl _⟩, by repeat (first | exact Drawn0.refl _ | apply Drawn0.step)⟩
  case round =>
   clear H'
   try clear c1
   try clear p2
   try clear c3
   try clear c3b0
   try clear c3b1
   try clear c3b2
   obtain ⟨x13_1, rfl, HA, HK1, ⟨m1, rfl⟩⟩ := hrel
   cases gk with
   | zero => exact absurd HA.out (by simp [slices_Equal_string_string.l0])
   | succ k1 =>
    have H := HA.out; clear HA; simp only [slices_Equal_string_string.l0] at H
    by_cases c4 : x13_1 < (l0.length : Int)
    ·rw [if_pos c4] at H; have c4b0 := decide_eq_true c4; clear c4; replace H := zn H; obtain ⟨c5, H⟩ := H; have c5b0 := decide_eq_true c5; clear c5; replace H := zn H; obtain ⟨c6, H⟩ := H; have c6b0 := decide_eq_true c6; clear c6; replace H := zn H; obtain ⟨c7, H⟩ := H; have c7b0 := decide_eq_true c7; clear c7
     by_cases c8 : (rdOf ByteArray.empty l0 x13_1).toList = (rdOf ByteArray.empty l1 x13_1).toList
     ·rw [if_pos c8] at H; have c8b0 : ((rdOf ByteArray.empty l0 x13_1).toList == (rdOf ByteArray.empty l1 x13_1).toList) = true := beq_iff_eq.mpr c8; have c8b1 : ((rdOf ByteArray.empty l0 x13_1).toList != (rdOf ByteArray.empty l1 x13_1).toList) = false := bne_eq_false_iff_eq.mpr c8; clear c8; have H' := z0 H; clear H; have p362 : 0 ≤ (x13_1 : Int) := zd; have q362 : x13_1 < (l0.length : Int) := zd; obtain ⟨ad362, e362, hx362_0⟩ := Kd.at_string HR0.out x13_1 p362 q362; cases e362; replace p362 := eq_true p362; replace q362 := eq_true q362; have p363 : 0 ≤ (x13_1 : Int) := zd; have q363 : x13_1 < (l1.length : Int) := zd; obtain ⟨ad363, e363, hx363_0⟩ := Kd.at_string HR1.out x13_1 p363 q363; cases e363; replace p363 := eq_true p363; replace q363 := eq_true q363; go_wp2
      repeat (go_quiet (fail); try go_wp2)
      go_roundg k1
      case measure => have := HK1.out; omega
      case rel => exact ⟨(wrap64 (x13_1 + 1)), zf, H', ⟨by have := HK1.out; omega⟩, by repeat (first | exact Drawn0.refl _ | apply Drawn0.step)⟩
     ·rw [if_neg c8] at H; have c8b0 : ((rdOf ByteArray.empty l0 x13_1).toList == (rdOf ByteArray.empty l1 x13_1).toList) = false := beq_eq_false_iff_ne.mpr c8; have c8b1 : ((rdOf ByteArray.empty l0 x13_1).toList != (rdOf ByteArray.empty l1 x13_1).toList) = true := bne_iff_ne.mpr c8; obtain rfl := Option.some.inj H; have p362 : 0 ≤ (x13_1 : Int) := zd; have q362 : x13_1 < (l0.length : Int) := zd; obtain ⟨ad362, e362, hx362_0⟩ := Kd.at_string HR0.out x13_1 p362 q362; cases e362; replace p362 := eq_true p362; replace q362 := eq_true q362; have p363 : 0 ≤ (x13_1 : Int) := zd; have q363 : x13_1 < (l1.length : Int) := zd; obtain ⟨ad363, e363, hx363_0⟩ := Kd.at_string HR1.out x13_1 p363 q363; cases e363; replace p363 := eq_true p363; replace q363 := eq_true q363; go_wp2
      repeat (go_quiet (fail); try go_wp2)
      go_ret; exact ⟨zf, by repeat (first | exact Drawn0.refl _ | apply Drawn0.step)⟩
    ·rw [if_neg c4] at H; have c4b0 := decide_eq_false c4; clear c4; obtain rfl := Option.some.inj H; go_wp2
     repeat (go_quiet (fail); try go_wp2)
     go_ret; exact ⟨zf, by repeat (first | exact Drawn0.refl _ | apply Drawn0.step)⟩
 ·rw [if_neg c3] at H; have c3b0 : ((l0.length : Int) == (l1.length : Int)) = false := beq_eq_false_iff_ne.mpr c3; have c3b1 : ((l0.length : Int) != (l1.length : Int)) = true := bne_iff_ne.mpr c3
  have c3b2 : (l0.length == l1.length) = false := by first | simpa using c3 | (simp at c3 ⊢; omega)
  obtain rfl := Option.some.inj H; go_enter Try.func138, Try.ntmps138; go_wp2
  repeat (go_quiet (fail); try go_wp2)
  go_ret; exact ⟨zf, by repeat (first | exact Drawn0.refl _ | apply Drawn0.step)⟩
theorem impl_Sieve_same.mono : ∀ a0 a1 a2 a3 a4 a5 a6 a7 a8 a9 k, LeO (impl_Sieve_same.f k a0 a1 a2 a3 a4 a5 a6 a7 a8 a9) (impl_Sieve_same.f (k + 1) a0 a1 a2 a3 a4 a5 a6 a7 a8 a9) := by
  intro a0 a1 a2 a3 a4 a5 a6 a7 a8 a9 k
  unfold impl_Sieve_same.f
  repeat' first | (with_reducible first | apply slices_Equal_string_string.mono | exact LeO.refl _ | exact LeO.none _ | refine LeO.ite ?_ ?_ | refine LeO.bind ?_ (fun _ => ?_)) | exact LeO.none _ | refine LeO.ite ?_ ?_ | refine LeO.bind ?_ (fun _ => ?_)
theorem impl_Sieve_same.calls (k : Nat) (a0_0 a0_1 a0_2 : ByteArray) (A0_3 : Option Addr) (c0_3 : Nat) (l0_3 : List ByteArray) (a0_4 : Int) (a1_0 a1_1 a1_2 : ByteArray) (A1_3 : Option Addr) (c1_3 : Nat) (l1_3 : List ByteArray) (a1_4 : Int) (r : Bool) (w : World) (hr0_3 : Kd.C Kd.string w A0_3 l0_3.length l0_3) (hc0_3 : l0_3.length ≤ c0_3) (hr1_3 : Kd.C Kd.string w A1_3 l1_3.length l1_3) (hc1_3 : l1_3.length ≤ c1_3) (h : impl_Sieve_same.f k a0_0 a0_1 a0_2 l0_3 a0_4 a1_0 a1_1 a1_2 l1_3 a1_4 = some r) :
    Calls Try.prog 119 #[.agg #[.string a0_0, .string a0_1, .string a0_2, .slice A0_3 l0_3.length c0_3, .int .i64 a0_4], .agg #[.string a1_0, .string a1_1, .string a1_2, .slice A1_3 l1_3.length c1_3, .int .i64 a1_4]] w fun e w' => e = .returned (.bool r) ∧ Below w.heap.size w w' := by
 have hu25 := Try.underlying25; have HR0_3 := z0 hr0_3; have HC0_3 := z0 hc0_3; clear hr0_3 hc0_3; have HR1_3 := z0 hr1_3; have HC1_3 := z0 hc1_3; clear hr1_3 hc1_3; have HB := z0 (Below.refl w.heap.size w); have H : (if a0_0.toList = a1_0.toList then (if a0_1.toList = a1_1.toList then (if a0_2.toList = a1_2.toList then (if a0_4 = a1_4 then ((slices_Equal_string_string.f k l0_3 l1_3).bind fun t366 => (some t366)) else (some false)) else (some false)) else (some false)) else (some false)) = some r := h; clear h
 by_cases c3 : a0_0.toList = a1_0.toList
 ·rw [if_pos c3] at H; have c3b0 : (a0_0.toList == a1_0.toList) = true := beq_iff_eq.mpr c3; have c3b1 : (a0_0.toList != a1_0.toList) = false := bne_eq_false_iff_eq.mpr c3; clear c3
  by_cases c4 : a0_1.toList = a1_1.toList
  ·rw [if_pos c4] at H; have c4b0 : (a0_1.toList == a1_1.toList) = true := beq_iff_eq.mpr c4; have c4b1 : (a0_1.toList != a1_1.toList) = false := bne_eq_false_iff_eq.mpr c4; clear c4
   by_cases c5 : a0_2.toList = a1_2.toList
   ·rw [if_pos c5] at H; have c5b0 : (a0_2.toList == a1_2.toList) = true := beq_iff_eq.mpr c5; have c5b1 : (a0_2.toList != a1_2.toList) = false := bne_eq_false_iff_eq.mpr c5; clear c5
    by_cases c6 : a0_4 = a1_4
    ·rw [if_pos c6] at H; have c6b0 : (a0_4 == a1_4) = true := beq_iff_eq.mpr c6; have c6b1 : (a0_4 != a1_4) = false := bne_eq_false_iff_eq.mpr c6; clear c6; replace H := zi H; obtain ⟨t366, A7, H⟩ := H; obtain rfl := Option.some.inj H; go_enter Try.func119, Try.ntmps119
     go_wp2_with (first | ((with_reducible refine gd 2 ?_); refine zbx 25 #[.string a0_0, .string a0_1, .string a0_2, .slice A0_3 l0_3.length c0_3, .int .i64 a0_4] ?_; intro gb364 hg w8 hbox hb; have BK364 := z0 (hbox); have GE364 := zG hg HB; replace HB := zH HB hb; clear hb hbox hg) | ((with_reducible refine gd 3 ?_); refine zbx 25 #[.string a1_0, .string a1_1, .string a1_2, .slice A1_3 l1_3.length c1_3, .int .i64 a1_4] ?_; intro gb365 hg w9 hbox hb; have BK365 := z0 (hbox); have GE365 := zG hg HB; replace HB := zH HB hb; have NB364_365 := zLt hg BK364; have NB365_364 := zGt hg BK364; replace BK364 := zK BK364 hb; clear hb hbox hg; have hnb10 := NB364_365.out; have hnc10 := NB365_364.out; have hcz11 := zc5 BK364.out; have hcz12 := zc5 BK365.out) | (go_at_call 138; (with_reducible refine (slices_Equal_string_string.calls k _ _ l0_3 _ _ l1_3 t366 _ ?side1 ?side2 ?side3 ?side4 A7.out).mono ?_); (case side1 => repeat (first | exact (Kd.C_below HR0_3.out HB.out) | (with_reducible refine Kd.C_alloc ?_ _) | (with_reducible refine Kd.C_drewN ?_ _) | (with_reducible refine Kd.C_drew ?_))); (case side2 => exact HC0_3.out); (case side3 => repeat (first | exact (Kd.C_below HR1_3.out HB.out) | (with_reducible refine Kd.C_alloc ?_ _) | (with_reducible refine Kd.C_drewN ?_ _) | (with_reducible refine Kd.C_drew ?_))); (case side4 => exact HC1_3.out); rintro e w' ⟨rfl, ⟨nd, rfl⟩⟩))
     go_ret; exact ⟨ze, zb HB.out⟩
    ·rw [if_neg c6] at H; have c6b0 : (a0_4 == a1_4) = false := beq_eq_false_iff_ne.mpr c6; have c6b1 : (a0_4 != a1_4) = true := bne_iff_ne.mpr c6; obtain rfl := Option.some.inj H; go_enter Try.func119, Try.ntmps119
     go_wp2_with (first | ((with_reducible refine gd 2 ?_); refine zbx 25 #[.string a0_0, .string a0_1, .string a0_2, .slice A0_3 l0_3.length c0_3, .int .i64 a0_4] ?_; intro gb364 hg w13 hbox hb; have BK364 := z0 (hbox); have GE364 := zG hg HB; replace HB := zH HB hb; clear hb hbox hg) | ((with_reducible refine gd 3 ?_); refine zbx 25 #[.string a1_0, .string a1_1, .string a1_2, .slice A1_3 l1_3.length c1_3, .int .i64 a1_4] ?_; intro gb365 hg w14 hbox hb; have BK365 := z0 (hbox); have GE365 := zG hg HB; replace HB := zH HB hb; have NB364_365 := zLt hg BK364; have NB365_364 := zGt hg BK364; replace BK364 := zK BK364 hb; clear hb hbox hg; have hnb15 := NB364_365.out; have hnc15 := NB365_364.out; have hcz16 := zc5 BK364.out; have hcz17 := zc5 BK365.out))
     go_ret; exact ⟨ze, zb HB.out⟩
   ·rw [if_neg c5] at H; have c5b0 : (a0_2.toList == a1_2.toList) = false := beq_eq_false_iff_ne.mpr c5; have c5b1 : (a0_2.toList != a1_2.toList) = true := bne_iff_ne.mpr c5; obtain rfl := Option.some.inj H; go_enter Try.func119, Try.ntmps119
    go_wp2_with (first | ((with_reducible refine gd 2 ?_); refine zbx 25 #[.string a0_0, .string a0_1, .string a0_2, .slice A0_3 l0_3.length c0_3, .int .i64 a0_4] ?_; intro gb364 hg w18 hbox hb; have BK364 := z0 (hbox); have GE364 := zG hg HB; replace HB := zH HB hb; clear hb hbox hg) | ((with_reducible refine gd 3 ?_); refine zbx 25 #[.string a1_0, .string a1_1, .string a1_2, .slice A1_3 l1_3.length c1_3, .int .i64 a1_4] ?_; intro gb365 hg w19 hbox hb; have BK365 := z0 (hbox); have GE365 := zG hg HB; replace HB := zH HB hb; have NB364_365 := zLt hg BK364; have NB365_364 := zGt hg BK364; replace BK364 := zK BK364 hb; clear hb hbox hg; have hnb20 := NB364_365.out; have hnc20 := NB365_364.out; have hcz21 := zc5 BK364.out; have hcz22 := zc5 BK365.out))
    go_ret; exact ⟨ze, zb HB.out⟩
  ·rw [if_neg c4] at H; have c4b0 : (a0_1.toList == a1_1.toList) = false := beq_eq_false_iff_ne.mpr c4; have c4b1 : (a0_1.toList != a1_1.toList) = true := bne_iff_ne.mpr c4; obtain rfl := Option.some.inj H; go_enter Try.func119, Try.ntmps119
   go_wp2_with (first | ((with_reducible refine gd 2 ?_); refine zbx 25 #[.string a0_0, .string a0_1, .string a0_2, .slice A0_3 l0_3.length c0_3, .int .i64 a0_4] ?_; intro gb364 hg w23 hbox hb; have BK364 := z0 (hbox); have GE364 := zG hg HB; replace HB := zH HB hb; clear hb hbox hg) | ((with_reducible refine gd 3 ?_); refine zbx 25 #[.string a1_0, .string a1_1, .string a1_2, .slice A1_3 l1_3.length c1_3, .int .i64 a1_4] ?_; intro gb365 hg w24 hbox hb; have BK365 := z0 (hbox); have GE365 := zG hg HB; replace HB := zH HB hb; have NB364_365 := zLt hg BK364; have NB365_364 := zGt hg BK364; replace BK364 := zK BK364 hb; clear hb hbox hg; have hnb25 := NB364_365.out; have hnc25 := NB365_364.out; have hcz26 := zc5 BK364.out; have hcz27 := zc5 BK365.out))
   go_ret; exact ⟨ze, zb HB.out⟩
 ·rw [if_neg c3] at H; have c3b0 : (a0_0.toList == a1_0.toList) = false := beq_eq_false_iff_ne.mpr c3; have c3b1 : (a0_0.toList != a1_0.toList) = true := bne_iff_ne.mpr c3; obtain rfl := Option.some.inj H; go_enter Try.func119, Try.ntmps119
  go_wp2_with (first | ((with_reducible refine gd 2 ?_); refine zbx 25 #[.string a0_0, .string a0_1, .string a0_2, .slice A0_3 l0_3.length c0_3, .int .i64 a0_4] ?_; intro gb364 hg w28 hbox hb; have BK364 := z0 (hbox); have GE364 := zG hg HB; replace HB := zH HB hb; clear hb hbox hg) | ((with_reducible refine gd 3 ?_); refine zbx 25 #[.string a1_0, .string a1_1, .string a1_2, .slice A1_3 l1_3.length c1_3, .int .i64 a1_4] ?_; intro gb365 hg w29 hbox hb; have BK365 := z0 (hbox); have GE365 := zG hg HB; replace HB := zH HB hb; have NB364_365 := zLt hg BK364; have NB365_364 := zGt hg BK364; replace BK364 := zK BK364 hb; clear hb hbox hg; have hnb30 := NB364_365.out; have hnc30 := NB365_364.out; have hcz31 := zc5 BK364.out; have hcz32 := zc5 BK365.out))
  go_ret; exact ⟨ze, zb HB.out⟩
theorem impl_Sieve_heads.mono_l : ∀ k, (∀ y0 y1 y2 y3 y4 y5, LeO (impl_Sieve_heads.j0 k y0 y1 y2 y3 y4 y5) (impl_Sieve_heads.j0 (k + 1) y0 y1 y2 y3 y4 y5))
  | 0 => fun _ _ _ _ _ _ r h => by simp [impl_Sieve_heads.j0] at h
  | k + 1 => by
    have ih0 := impl_Sieve_heads.mono_l k
    · intro y0 y1 y2 y3 y4 y5
      unfold impl_Sieve_heads.j0
      repeat' first | (with_reducible first | apply ih0 | apply impl_BitsOk.mono | apply impl_SieveOf.mono | apply impl_Sieve_parts.mono | apply impl_Sieve_same.mono | apply impl_texts.mono | exact LeO.refl _ | exact LeO.none _ | refine LeO.ite ?_ ?_ | refine LeO.bind ?_ (fun _ => ?_)) | exact LeO.none _ | refine LeO.ite ?_ ?_ | refine LeO.bind ?_ (fun _ => ?_)
theorem impl_Sieve_heads.mono : ∀ a0 a1 a2 a3 a4 k, LeO (impl_Sieve_heads.f k a0 a1 a2 a3 a4) (impl_Sieve_heads.f (k + 1) a0 a1 a2 a3 a4) := by
  intro a0 a1 a2 a3 a4 k
  have ih0 := impl_Sieve_heads.mono_l k
  unfold impl_Sieve_heads.f
  repeat' first | (with_reducible first | apply ih0 | apply impl_BitsOk.mono | apply impl_SieveOf.mono | apply impl_Sieve_parts.mono | apply impl_Sieve_same.mono | apply impl_texts.mono | exact LeO.refl _ | exact LeO.none _ | refine LeO.ite ?_ ?_ | refine LeO.bind ?_ (fun _ => ?_)) | exact LeO.none _ | refine LeO.ite ?_ ?_ | refine LeO.bind ?_ (fun _ => ?_)
def impl_Sieve_heads.T2 : Bool × List (List Nat × List Nat) := (true, [([], []), ([0], [0]), ([1], [1]), ([2], [2]), ([3, 2], [3]), ([4], [4]), ([5, 4], [4, 5]), ([6, 4, 4], [4, 6]), ([7, 4], [4, 7]), ([4, 8], [4, 8]), ([9, 7], [9]), ([10], [10]), ([11, 10], [10, 11]), ([12, 10], [10, 12]), ([10], [10]), ([13, 14, 10], [10, 13, 14]), ([10, 15], [10, 15]), ([16, 10], [16]), ([17], [17]), ([18, 17], [17, 18]), ([19, 17], [17, 19]), ([17], [17]), ([20, 21, 17], [17, 20, 21]), ([17, 22], [17, 22]), ([23, 17], [23]), ([24], [24]), ([25, 24], [24, 25]), ([26, 24, 24], [24, 26]), ([27, 24], [24, 27]), ([24, 28], [24, 28]), ([29, 27], [29]), ([30], [30]), ([31, 30], [30, 31]), ([32, 30], [30, 32]), ([30], [30]), ([34, 30], [30, 34]), ([35, 30, 30], [30, 35]), ([33, 36, 30], [30, 33, 36]), ([30, 37], [30, 37])])
def impl_Sieve_heads.B2 : List Nat := [0, 1, 3, 7, 15, 31, 63, 127, 255, 511, 1023, 2047, 4095, 8191, 2047, 32767, 65535, 131071, 262143, 524287, 1048575, 262143, 4194303, 8388607, 16777215, 33554431, 67108863, 134217727, 268435455, 536870911, 1073741823, 2147483647, 4294967295, 8589934591, 2147483647, 19327352831, 53687091199, 137438953471, 274877906943]
theorem impl_Sieve_heads.tab2 : rtab .any (opsOf Try.f89 2) = impl_Sieve_heads.T2 := by kernel_rfl
theorem impl_Sieve_heads.bits2 : waitsOk impl_Sieve_heads.T2.2 impl_Sieve_heads.B2 = true := by kernel_rfl
def impl_Sieve_heads.T7 : Bool × List (List Nat × List Nat) := (true, [([], []), ([0], [0]), ([], []), ([2], [2]), ([1, 3, 1], [1, 3]), ([4], [4]), ([5], [5]), ([5], [5]), ([], []), ([8, 6, 4, 0, 1, 2, 3, 4, 5, 6, 8], [6, 8]), ([7, 9, 0, 1, 2, 3, 4, 5, 6, 7, 8, 9], [7])])
def impl_Sieve_heads.B7 : List Nat := [0, 1, 0, 4, 15, 31, 63, 63, 0, 383, 1023]
theorem impl_Sieve_heads.tab7 : rtab .any (opsOf Try.f89 7) = impl_Sieve_heads.T7 := by kernel_rfl
theorem impl_Sieve_heads.bits7 : waitsOk impl_Sieve_heads.T7.2 impl_Sieve_heads.B7 = true := by kernel_rfl
theorem impl_Sieve_heads.calls (k : Nat) (a0_0 a0_1 a0_2 : ByteArray) (A0_3 : Option Addr) (c0_3 : Nat) (l0_3 : List ByteArray) (a0_4 : Int) (r1 : List (S93)) (r2 : Bool) (w : World) (hr0_3 : Kd.C Kd.string w A0_3 l0_3.length l0_3) (hc0_3 : l0_3.length ≤ c0_3) (h : impl_Sieve_heads.f k a0_0 a0_1 a0_2 l0_3 a0_4 = some (r1, r2)) :
    Calls Try.prog 89 #[.agg #[.string a0_0, .string a0_1, .string a0_2, .slice A0_3 l0_3.length c0_3, .int .i64 a0_4]] w fun e w' => ∃ v0_ : Value, e = .returned (.tuple #[v0_, .bool r2]) ∧ Kd.R k93 93 w' w.heap.size (fun _ => True) v0_ r1 ∧ Below w.heap.size w w' := by
 have hu25 := Try.underlying25; have HR0_3 := z0 hr0_3; have HC0_3 := z0 hc0_3; clear hr0_3 hc0_3; have HB := z0 (Below.refl w.heap.size w); have H : ((impl_BitsOk.f k a0_1).bind fun t368 => (if t368 = true then ((impl_BitsOk.f k a0_2).bind fun t369 => (if t369 = true then (if (a0_1.size : Int) = (a0_0.size : Int) then (if (a0_2.size : Int) = (a0_0.size : Int) then ((impl_isKeep.f a0_4).bind fun t370 => (if t370 = true then ((strings_Count.f a0_1 (⟨#[48]⟩ : ByteArray)).bind fun t371 => (impl_Sieve_heads.j0 k ((l0_3.length : Int) != t371) a0_0 a0_1 a0_2 l0_3 a0_4)) else (impl_Sieve_heads.j0 k true a0_0 a0_1 a0_2 l0_3 a0_4))) else (impl_Sieve_heads.j0 k true a0_0 a0_1 a0_2 l0_3 a0_4)) else (impl_Sieve_heads.j0 k true a0_0 a0_1 a0_2 l0_3 a0_4)) else (impl_Sieve_heads.j0 k true a0_0 a0_1 a0_2 l0_3 a0_4))) else (impl_Sieve_heads.j0 k true a0_0 a0_1 a0_2 l0_3 a0_4))) = some (r1, r2) := h; clear h; have HC2 := z0 H; clear H; go_enter Try.func89, Try.ntmps89
 go_upto_region 2 with (first | ((with_reducible refine gd 1 ?_); (try (refine gate_guard (by rfl) ?_; dsimp only)); refine zbx 25 #[.string a0_0, .string a0_1, .string a0_2, .slice A0_3 l0_3.length c0_3, .int .i64 a0_4] ?_; intro gb367 hg w3 hbox hb; have BK367 := z0 (hbox); have GE367 := zG hg HB; replace HB := zH HB hb; clear hb hbox hg; have hcz4 := zc5 BK367.out))
 (try simp only [Act.put, List.setIfInBounds_toArray, List.set_cons_zero, List.set_cons_succ])
 go_cut [49] (fun v49 wc => ∃ (kq : Nat) (x49_1 : Bool), v49 = .bool x49_1 ∧ Aside0 (impl_Sieve_heads.j0 kq x49_1 a0_0 a0_1 a0_2 l0_3 a0_4 = some (r1, r2)) ∧ Aside0 (kq ≤ k) ∧ Aside0 (wc.heap[gb367]? = some (.cells #[.string a0_0, .string a0_1, .string a0_2, (.slice A0_3 l0_3.length c0_3), .int .i64 a0_4] 25 (0, 0))) ∧ Aside0 (Below w.heap.size w wc))
 case first =>
  have H := HC2.out; clear HC2; replace H := zi H; obtain ⟨t368, A5, H⟩ := H
  by_cases c6 : t368 = true
  ·subst c6
   have H1 : ((impl_BitsOk.f k a0_2).bind fun t369 => (if t369 = true then (if (a0_1.size : Int) = (a0_0.size : Int) then (if (a0_2.size : Int) = (a0_0.size : Int) then ((impl_isKeep.f a0_4).bind fun t370 => (if t370 = true then ((strings_Count.f a0_1 (⟨#[48]⟩ : ByteArray)).bind fun t371 => (impl_Sieve_heads.j0 k ((l0_3.length : Int) != t371) a0_0 a0_1 a0_2 l0_3 a0_4)) else (impl_Sieve_heads.j0 k true a0_0 a0_1 a0_2 l0_3 a0_4))) else (impl_Sieve_heads.j0 k true a0_0 a0_1 a0_2 l0_3 a0_4)) else (impl_Sieve_heads.j0 k true a0_0 a0_1 a0_2 l0_3 a0_4)) else (impl_Sieve_heads.j0 k true a0_0 a0_1 a0_2 l0_3 a0_4))) = some (r1, r2) := by rw [if_pos rfl] at H; exact H
   clear H; have H := H1; clear H1; replace H := zi H; obtain ⟨t369, A7, H⟩ := H
   by_cases c8 : t369 = true
   ·subst c8
    have H1 : (if (a0_1.size : Int) = (a0_0.size : Int) then (if (a0_2.size : Int) = (a0_0.size : Int) then ((impl_isKeep.f a0_4).bind fun t370 => (if t370 = true then ((strings_Count.f a0_1 (⟨#[48]⟩ : ByteArray)).bind fun t371 => (impl_Sieve_heads.j0 k ((l0_3.length : Int) != t371) a0_0 a0_1 a0_2 l0_3 a0_4)) else (impl_Sieve_heads.j0 k true a0_0 a0_1 a0_2 l0_3 a0_4))) else (impl_Sieve_heads.j0 k true a0_0 a0_1 a0_2 l0_3 a0_4)) else (impl_Sieve_heads.j0 k true a0_0 a0_1 a0_2 l0_3 a0_4)) = some (r1, r2) := by rw [if_pos rfl] at H; exact H
    clear H; have H := H1; clear H1
    by_cases c9 : (a0_1.size : Int) = (a0_0.size : Int)
    ·rw [if_pos c9] at H; have c9b0 : ((a0_1.size : Int) == (a0_0.size : Int)) = true := beq_iff_eq.mpr c9; have c9b1 : ((a0_1.size : Int) != (a0_0.size : Int)) = false := bne_eq_false_iff_eq.mpr c9
     have c9b2 : (a0_1.size == a0_0.size) = true := by first | simpa using c9 | (simp at c9 ⊢; omega)
     clear c9; (first | rw [c9b0] | (simp only [i64_w, i32_w]; rw [c9b0]) | simp only [*, Bool.not_true, Bool.not_false] | skip)
     by_cases c10 : (a0_2.size : Int) = (a0_0.size : Int)
     ·rw [if_pos c10] at H; have c10b0 : ((a0_2.size : Int) == (a0_0.size : Int)) = true := beq_iff_eq.mpr c10; have c10b1 : ((a0_2.size : Int) != (a0_0.size : Int)) = false := bne_eq_false_iff_eq.mpr c10
      have c10b2 : (a0_2.size == a0_0.size) = true := by first | simpa using c10 | (simp at c10 ⊢; omega)
      clear c10; replace H := zi H; obtain ⟨t370, A11, H⟩ := H
      by_cases c12 : t370 = true
      ·subst c12
       have H1 : ((strings_Count.f a0_1 (⟨#[48]⟩ : ByteArray)).bind fun t371 => (impl_Sieve_heads.j0 k ((l0_3.length : Int) != t371) a0_0 a0_1 a0_2 l0_3 a0_4)) = some (r1, r2) := by rw [if_pos rfl] at H; exact H
       clear H; have H := H1; clear H1; replace H := zi H; obtain ⟨t371, A13, H⟩ := H; have H' := z0 H; clear H
       try go_wp2
       replace BK367 := z0 (blk_drew BK367.out); replace HB := z0 (below_drew1 HB.out); refine start_ (n := 39) (S := fun w' => w'.cell? ⟨gb367, 0, none⟩ = some (.string a0_0) ∧ w'.cell? ⟨gb367, 1, none⟩ = some (.string a0_1) ∧ w'.cell? ⟨gb367, 2, none⟩ = some (.string a0_2) ∧ w'.cell? ⟨gb367, 3, none⟩ = some (.slice A0_3 l0_3.length c0_3) ∧ w'.cell? ⟨gb367, 4, none⟩ = some (.int .i64 a0_4)) (ds := []) (fb 39 0) (by kernel_rfl) rfl rfl (zb5 BK367.out) (fun hHeld => ?_); refine with_tabW impl_Sieve_heads.tab2 impl_Sieve_heads.bits2 (fun HT_ HW_ => ?_); generalize w3.drew = w14 at BK367 HB hHeld ⊢; refine zu 0 1 ?_; refine zx 1 3 hHeld ?_; refine zone 2 7 (fun K hK => ?_); refine zG2 Try.func98 #[.string a0_1] ?_
       with_reducible refine (impl_BitsOk.calls k a0_1 true _ A5.out).mono ?_
       rintro e w' ⟨rfl, ⟨nd, rfl⟩⟩; refine ⟨_, rfl, ?_⟩; refine hK.out _ _ (zb5 BK367.out) (fun hHeld => ?_); clear hK K; refine znm ?_; refine zu 3 15 ?_; refine zu 4 31 ?_; refine zu 5 63 ?_; refine zx 6 127 hHeld ?_; refine zone 7 255 (fun K hK => ?_); refine zG2 Try.func98 #[.string a0_2] ?_
       with_reducible refine (impl_BitsOk.calls k a0_2 true _ A7.out).mono ?_
       rintro e w' ⟨rfl, ⟨nd, rfl⟩⟩; refine ⟨_, rfl, ?_⟩; refine hK.out _ _ (zb5 BK367.out) (fun hHeld => ?_); clear hK K; refine znm ?_; refine zu 8 511 ?_; refine zu 9 1023 ?_; refine zu 10 2047 ?_; refine zu 11 4095 ?_; refine zu 14 20479 ?_; refine zx 12 24575 hHeld ?_; refine zu 13 32767 ?_; refine zu 15 65535 ?_; refine zu 16 131071 ?_; refine zu 17 262143 ?_; refine zu 18 524287 ?_; refine zu 21 2621439 ?_; refine zx 19 3145727 hHeld ?_; refine zu 20 4194303 ?_; refine zu 22 8388607 ?_; refine zu 23 16777215 ?_; refine zu 24 33554431 ?_; refine zu 25 67108863 ?_; refine zx 26 134217727 hHeld ?_; refine zone 27 268435455 (fun K hK => ?_); refine zG2 Try.func74 #[.int .i64 a0_4] ?_
       with_reducible refine (impl_isKeep.calls a0_4 true _ A11.out).mono ?_
       rintro e w' ⟨rfl, ⟨nd, rfl⟩⟩; refine ⟨_, rfl, ?_⟩; refine hK.out _ _ (zb5 BK367.out) (fun hHeld => ?_); clear hK K; refine znm ?_; refine zu 28 536870911 ?_; refine zu 29 1073741823 ?_; refine zu 30 2147483647 ?_; refine zu 31 4294967295 ?_; refine zu 34 21474836479 ?_; refine zx 32 25769803775 hHeld ?_; refine zu 33 34359738367 ?_; refine zx 35 68719476735 hHeld ?_; refine zone 36 137438953471 (fun K hK => ?_); refine zG2 Try.func100 #[.string a0_1, .string ⟨#[48]⟩] ?_
       with_reducible refine (strings_Count.calls a0_1 (⟨#[48]⟩ : ByteArray) t371 _ A13.out).mono ?_
       rintro e w' ⟨rfl, ⟨nd, rfl⟩⟩; refine ⟨_, rfl, ?_⟩; refine hK.out _ _ (zb5 BK367.out) (fun hHeld => ?_); clear hK K; refine znm ?_; refine zu 37 274877906943 ?_; refine zu 38 549755813887 ?_; refine done_ (done_of HT_.out (by kernel_rfl)) ?_
       try go_wp2
       go_meet
       case rel => exact ⟨_, (((l0_3.length : Int) != t371)), zf, H', ⟨by first | omega | exact Nat.le_refl _⟩, ⟨zl BK367.out⟩, ⟨zb HB.out⟩⟩
      ·replace c12 := Bool.eq_false_iff.mpr c12; subst c12
       have H1 : (impl_Sieve_heads.j0 k true a0_0 a0_1 a0_2 l0_3 a0_4) = some (r1, r2) := by rw [if_neg (show ¬ (false = true) by decide)] at H; exact H
       clear H; have H := H1; clear H1; have H' := z0 H; clear H
       try go_wp2
       replace BK367 := z0 (blk_drew BK367.out); replace HB := z0 (below_drew1 HB.out); refine start_ (n := 39) (S := fun w' => w'.cell? ⟨gb367, 0, none⟩ = some (.string a0_0) ∧ w'.cell? ⟨gb367, 1, none⟩ = some (.string a0_1) ∧ w'.cell? ⟨gb367, 2, none⟩ = some (.string a0_2) ∧ w'.cell? ⟨gb367, 3, none⟩ = some (.slice A0_3 l0_3.length c0_3) ∧ w'.cell? ⟨gb367, 4, none⟩ = some (.int .i64 a0_4)) (ds := []) (fb 39 0) (by kernel_rfl) rfl rfl (zb5 BK367.out) (fun hHeld => ?_); refine with_tabW impl_Sieve_heads.tab2 impl_Sieve_heads.bits2 (fun HT_ HW_ => ?_); generalize w3.drew = w15 at BK367 HB hHeld ⊢; refine zu 0 1 ?_; refine zx 1 3 hHeld ?_; refine zone 2 7 (fun K hK => ?_); refine zG2 Try.func98 #[.string a0_1] ?_
       with_reducible refine (impl_BitsOk.calls k a0_1 true _ A5.out).mono ?_
       rintro e w' ⟨rfl, ⟨nd, rfl⟩⟩; refine ⟨_, rfl, ?_⟩; refine hK.out _ _ (zb5 BK367.out) (fun hHeld => ?_); clear hK K; refine znm ?_; refine zu 3 15 ?_; refine zu 4 31 ?_; refine zu 5 63 ?_; refine zx 6 127 hHeld ?_; refine zone 7 255 (fun K hK => ?_); refine zG2 Try.func98 #[.string a0_2] ?_
       with_reducible refine (impl_BitsOk.calls k a0_2 true _ A7.out).mono ?_
       rintro e w' ⟨rfl, ⟨nd, rfl⟩⟩; refine ⟨_, rfl, ?_⟩; refine hK.out _ _ (zb5 BK367.out) (fun hHeld => ?_); clear hK K; refine znm ?_; refine zu 8 511 ?_; refine zu 9 1023 ?_; refine zu 10 2047 ?_; refine zu 11 4095 ?_; refine zu 14 20479 ?_; refine zx 12 24575 hHeld ?_; refine zu 13 32767 ?_; refine zu 15 65535 ?_; refine zu 16 131071 ?_; refine zu 17 262143 ?_; refine zu 18 524287 ?_; refine zu 21 2621439 ?_; refine zx 19 3145727 hHeld ?_; refine zu 20 4194303 ?_; refine zu 22 8388607 ?_; refine zu 23 16777215 ?_; refine zu 24 33554431 ?_; refine zu 25 67108863 ?_; refine zx 26 134217727 hHeld ?_; refine zone 27 268435455 (fun K hK => ?_); refine zG2 Try.func74 #[.int .i64 a0_4] ?_
       with_reducible refine (impl_isKeep.calls a0_4 false _ A11.out).mono ?_
       rintro e w' ⟨rfl, ⟨nd, rfl⟩⟩; refine ⟨_, rfl, ?_⟩; refine hK.out _ _ (zb5 BK367.out) (fun hHeld => ?_); clear hK K; refine znm ?_; refine zu 28 536870911 ?_; refine zu 29 1073741823 ?_; refine zu 30 2147483647 ?_; refine zw 31 4294967295 ?_; refine zw 32 8589934591 ?_; refine zw 33 17179869183 ?_; refine zw 34 34359738367 ?_; refine zw 35 68719476735 ?_; refine zw 36 137438953471 ?_; refine zw 37 274877906943 ?_; refine zu 38 549755813887 ?_; refine done_ (done_of HT_.out (by kernel_rfl)) ?_
       try go_wp2
       go_meet
       case rel => exact ⟨_, (true), zf, H', ⟨by first | omega | exact Nat.le_refl _⟩, ⟨zl BK367.out⟩, ⟨zb HB.out⟩⟩
     ·rw [if_neg c10] at H; have c10b0 : ((a0_2.size : Int) == (a0_0.size : Int)) = false := beq_eq_false_iff_ne.mpr c10; have c10b1 : ((a0_2.size : Int) != (a0_0.size : Int)) = true := bne_iff_ne.mpr c10
      have c10b2 : (a0_2.size == a0_0.size) = false := by first | simpa using c10 | (simp at c10 ⊢; omega)
      have H' := z0 H; clear H
      try go_wp2
      replace BK367 := z0 (blk_drew BK367.out); replace HB := z0 (below_drew1 HB.out); refine start_ (n := 39) (S := fun w' => w'.cell? ⟨gb367, 0, none⟩ = some (.string a0_0) ∧ w'.cell? ⟨gb367, 1, none⟩ = some (.string a0_1) ∧ w'.cell? ⟨gb367, 2, none⟩ = some (.string a0_2) ∧ w'.cell? ⟨gb367, 3, none⟩ = some (.slice A0_3 l0_3.length c0_3) ∧ w'.cell? ⟨gb367, 4, none⟩ = some (.int .i64 a0_4)) (ds := []) (fb 39 0) (by kernel_rfl) rfl rfl (zb5 BK367.out) (fun hHeld => ?_); refine with_tabW impl_Sieve_heads.tab2 impl_Sieve_heads.bits2 (fun HT_ HW_ => ?_); generalize w3.drew = w16 at BK367 HB hHeld ⊢; refine zu 0 1 ?_; refine zx 1 3 hHeld ?_; refine zone 2 7 (fun K hK => ?_); refine zG2 Try.func98 #[.string a0_1] ?_
      with_reducible refine (impl_BitsOk.calls k a0_1 true _ A5.out).mono ?_
      rintro e w' ⟨rfl, ⟨nd, rfl⟩⟩; refine ⟨_, rfl, ?_⟩; refine hK.out _ _ (zb5 BK367.out) (fun hHeld => ?_); clear hK K; refine znm ?_; refine zu 3 15 ?_; refine zu 4 31 ?_; refine zu 5 63 ?_; refine zx 6 127 hHeld ?_; refine zone 7 255 (fun K hK => ?_); refine zG2 Try.func98 #[.string a0_2] ?_
      with_reducible refine (impl_BitsOk.calls k a0_2 true _ A7.out).mono ?_
      rintro e w' ⟨rfl, ⟨nd, rfl⟩⟩; refine ⟨_, rfl, ?_⟩; refine hK.out _ _ (zb5 BK367.out) (fun hHeld => ?_); clear hK K; refine znm ?_; refine zu 8 511 ?_; refine zu 9 1023 ?_; refine zu 10 2047 ?_; refine zu 11 4095 ?_; refine zu 14 20479 ?_; refine zx 12 24575 hHeld ?_; refine zu 13 32767 ?_; refine zu 15 65535 ?_; refine zu 16 131071 ?_; refine zu 17 262143 ?_; refine zu 18 524287 ?_; refine zu 21 2621439 ?_; refine zx 19 3145727 hHeld ?_; refine zu 20 4194303 ?_; refine zu 22 8388607 ?_; refine zu 23 16777215 ?_; refine zu 24 33554431 ?_; refine zw 25 67108863 ?_; refine zw 26 134217727 ?_; refine zw 27 268435455 ?_; refine zw 28 536870911 ?_; refine zu 29 1073741823 ?_; refine zu 30 2147483647 ?_; refine zw 31 4294967295 ?_; refine zw 32 8589934591 ?_; refine zw 33 17179869183 ?_; refine zw 34 34359738367 ?_; refine zw 35 68719476735 ?_; refine zw 36 137438953471 ?_; refine zw 37 274877906943 ?_; refine zu 38 549755813887 ?_; refine done_ (done_of HT_.out (by kernel_rfl)) ?_
      try go_wp2
      go_meet
      case rel => exact ⟨_, (true), zf, H', ⟨by first | omega | exact Nat.le_refl _⟩, ⟨zl BK367.out⟩, ⟨zb HB.out⟩⟩
    ·rw [if_neg c9] at H; have c9b0 : ((a0_1.size : Int) == (a0_0.size : Int)) = false := beq_eq_false_iff_ne.mpr c9; have c9b1 : ((a0_1.size : Int) != (a0_0.size : Int)) = true := bne_iff_ne.mpr c9
     have c9b2 : (a0_1.size == a0_0.size) = false := by first | simpa using c9 | (simp at c9 ⊢; omega)
     (first | rw [c9b0] | (simp only [i64_w, i32_w]; rw [c9b0]) | simp only [*, Bool.not_true, Bool.not_false] | skip); have H' := z0 H; clear H
     try go_wp2
     replace BK367 := z0 (blk_drew BK367.out); replace HB := z0 (below_drew1 HB.out); refine start_ (n := 39) (S := fun w' => w'.cell? ⟨gb367, 0, none⟩ = some (.string a0_0) ∧ w'.cell? ⟨gb367, 1, none⟩ = some (.string a0_1) ∧ w'.cell? ⟨gb367, 2, none⟩ = some (.string a0_2) ∧ w'.cell? ⟨gb367, 3, none⟩ = some (.slice A0_3 l0_3.length c0_3) ∧ w'.cell? ⟨gb367, 4, none⟩ = some (.int .i64 a0_4)) (ds := []) (fb 39 0) (by kernel_rfl) rfl rfl (zb5 BK367.out) (fun hHeld => ?_); refine with_tabW impl_Sieve_heads.tab2 impl_Sieve_heads.bits2 (fun HT_ HW_ => ?_); generalize w3.drew = w17 at BK367 HB hHeld ⊢; refine zu 0 1 ?_; refine zx 1 3 hHeld ?_; refine zone 2 7 (fun K hK => ?_); refine zG2 Try.func98 #[.string a0_1] ?_
     with_reducible refine (impl_BitsOk.calls k a0_1 true _ A5.out).mono ?_
     rintro e w' ⟨rfl, ⟨nd, rfl⟩⟩; refine ⟨_, rfl, ?_⟩; refine hK.out _ _ (zb5 BK367.out) (fun hHeld => ?_); clear hK K; refine znm ?_; refine zu 3 15 ?_; refine zu 4 31 ?_; refine zu 5 63 ?_; refine zx 6 127 hHeld ?_; refine zone 7 255 (fun K hK => ?_); refine zG2 Try.func98 #[.string a0_2] ?_
     with_reducible refine (impl_BitsOk.calls k a0_2 true _ A7.out).mono ?_
     rintro e w' ⟨rfl, ⟨nd, rfl⟩⟩; refine ⟨_, rfl, ?_⟩; refine hK.out _ _ (zb5 BK367.out) (fun hHeld => ?_); clear hK K; refine znm ?_; refine zu 8 511 ?_; refine zu 9 1023 ?_; refine zu 10 2047 ?_; refine zu 11 4095 ?_; refine zu 14 20479 ?_; refine zx 12 24575 hHeld ?_; refine zu 13 32767 ?_; refine zu 15 65535 ?_; refine zu 16 131071 ?_; refine zu 17 262143 ?_; refine zw 18 524287 ?_; refine zw 19 1048575 ?_; refine zw 20 2097151 ?_; refine zw 21 4194303 ?_; refine zw 22 8388607 ?_; refine zu 23 16777215 ?_; refine zu 24 33554431 ?_; refine zw 25 67108863 ?_; refine zw 26 134217727 ?_; refine zw 27 268435455 ?_; refine zw 28 536870911 ?_; refine zu 29 1073741823 ?_; refine zu 30 2147483647 ?_; refine zw 31 4294967295 ?_; refine zw 32 8589934591 ?_; refine zw 33 17179869183 ?_; refine zw 34 34359738367 ?_; refine zw 35 68719476735 ?_; refine zw 36 137438953471 ?_; refine zw 37 274877906943 ?_; refine zu 38 549755813887 ?_; refine done_ (done_of HT_.out (by kernel_rfl)) ?_
     try go_wp2
     go_meet
     case rel => exact ⟨_, (true), zf, H', ⟨by first | omega | exact Nat.le_refl _⟩, ⟨zl BK367.out⟩, ⟨zb HB.out⟩⟩
   ·replace c8 := Bool.eq_false_iff.mpr c8; subst c8
    have H1 : (impl_Sieve_heads.j0 k true a0_0 a0_1 a0_2 l0_3 a0_4) = some (r1, r2) := by rw [if_neg (show ¬ (false = true) by decide)] at H; exact H
    clear H; have H := H1; clear H1; have H' := z0 H; clear H
    try go_wp2
    replace BK367 := z0 (blk_drew BK367.out); replace HB := z0 (below_drew1 HB.out); refine start_ (n := 39) (S := fun w' => w'.cell? ⟨gb367, 0, none⟩ = some (.string a0_0) ∧ w'.cell? ⟨gb367, 1, none⟩ = some (.string a0_1) ∧ w'.cell? ⟨gb367, 2, none⟩ = some (.string a0_2) ∧ w'.cell? ⟨gb367, 3, none⟩ = some (.slice A0_3 l0_3.length c0_3) ∧ w'.cell? ⟨gb367, 4, none⟩ = some (.int .i64 a0_4)) (ds := []) (fb 39 0) (by kernel_rfl) rfl rfl (zb5 BK367.out) (fun hHeld => ?_); refine with_tabW impl_Sieve_heads.tab2 impl_Sieve_heads.bits2 (fun HT_ HW_ => ?_); generalize w3.drew = w18 at BK367 HB hHeld ⊢; refine zu 0 1 ?_; refine zx 1 3 hHeld ?_; refine zone 2 7 (fun K hK => ?_); refine zG2 Try.func98 #[.string a0_1] ?_
    with_reducible refine (impl_BitsOk.calls k a0_1 true _ A5.out).mono ?_
    rintro e w' ⟨rfl, ⟨nd, rfl⟩⟩; refine ⟨_, rfl, ?_⟩; refine hK.out _ _ (zb5 BK367.out) (fun hHeld => ?_); clear hK K; refine znm ?_; refine zu 3 15 ?_; refine zu 4 31 ?_; refine zu 5 63 ?_; refine zx 6 127 hHeld ?_; refine zone 7 255 (fun K hK => ?_); refine zG2 Try.func98 #[.string a0_2] ?_
    with_reducible refine (impl_BitsOk.calls k a0_2 false _ A7.out).mono ?_
    rintro e w' ⟨rfl, ⟨nd, rfl⟩⟩; refine ⟨_, rfl, ?_⟩; refine hK.out _ _ (zb5 BK367.out) (fun hHeld => ?_); clear hK K; refine znm ?_; refine zu 8 511 ?_; refine zu 9 1023 ?_; refine zu 10 2047 ?_; refine zw 11 4095 ?_; refine zw 12 8191 ?_; refine zw 13 16383 ?_; refine zw 14 32767 ?_; refine zw 15 65535 ?_; refine zu 16 131071 ?_; refine zu 17 262143 ?_; refine zw 18 524287 ?_; refine zw 19 1048575 ?_; refine zw 20 2097151 ?_; refine zw 21 4194303 ?_; refine zw 22 8388607 ?_; refine zu 23 16777215 ?_; refine zu 24 33554431 ?_; refine zw 25 67108863 ?_; refine zw 26 134217727 ?_; refine zw 27 268435455 ?_; refine zw 28 536870911 ?_; refine zu 29 1073741823 ?_; refine zu 30 2147483647 ?_; refine zw 31 4294967295 ?_; refine zw 32 8589934591 ?_; refine zw 33 17179869183 ?_; refine zw 34 34359738367 ?_; refine zw 35 68719476735 ?_; refine zw 36 137438953471 ?_; refine zw 37 274877906943 ?_; refine zu 38 549755813887 ?_; refine done_ (done_of HT_.out (by kernel_rfl)) ?_
    try go_wp2
    go_meet
    case rel => exact ⟨_, (true), zf, H', ⟨by first | omega | exact Nat.le_refl _⟩, ⟨zl BK367.out⟩, ⟨zb HB.out⟩⟩
  ·replace c6 := Bool.eq_false_iff.mpr c6; subst c6
   have H1 : (impl_Sieve_heads.j0 k true a0_0 a0_1 a0_2 l0_3 a0_4) = some (r1, r2) := by rw [if_neg (show ¬ (false = true) by decide)] at H; exact H
   clear H; have H := H1; clear H1; have H' := z0 H; clear H
   try go_wp2
   replace BK367 := z0 (blk_drew BK367.out); replace HB := z0 (below_drew1 HB.out); refine start_ (n := 39) (S := fun w' => w'.cell? ⟨gb367, 0, none⟩ = some (.string a0_0) ∧ w'.cell? ⟨gb367, 1, none⟩ = some (.string a0_1) ∧ w'.cell? ⟨gb367, 2, none⟩ = some (.string a0_2) ∧ w'.cell? ⟨gb367, 3, none⟩ = some (.slice A0_3 l0_3.length c0_3) ∧ w'.cell? ⟨gb367, 4, none⟩ = some (.int .i64 a0_4)) (ds := []) (fb 39 0) (by kernel_rfl) rfl rfl (zb5 BK367.out) (fun hHeld => ?_); refine with_tabW impl_Sieve_heads.tab2 impl_Sieve_heads.bits2 (fun HT_ HW_ => ?_); generalize w3.drew = w19 at BK367 HB hHeld ⊢; refine zu 0 1 ?_; refine zx 1 3 hHeld ?_; refine zone 2 7 (fun K hK => ?_); refine zG2 Try.func98 #[.string a0_1] ?_
   with_reducible refine (impl_BitsOk.calls k a0_1 false _ A5.out).mono ?_
   rintro e w' ⟨rfl, ⟨nd, rfl⟩⟩; refine ⟨_, rfl, ?_⟩; refine hK.out _ _ (zb5 BK367.out) (fun hHeld => ?_); clear hK K; refine znm ?_; refine zu 3 15 ?_; refine zu 4 31 ?_; refine zw 5 63 ?_; refine zw 6 127 ?_; refine zw 7 255 ?_; refine zw 8 511 ?_; refine zu 9 1023 ?_; refine zu 10 2047 ?_; refine zw 11 4095 ?_; refine zw 12 8191 ?_; refine zw 13 16383 ?_; refine zw 14 32767 ?_; refine zw 15 65535 ?_; refine zu 16 131071 ?_; refine zu 17 262143 ?_; refine zw 18 524287 ?_; refine zw 19 1048575 ?_; refine zw 20 2097151 ?_; refine zw 21 4194303 ?_; refine zw 22 8388607 ?_; refine zu 23 16777215 ?_; refine zu 24 33554431 ?_; refine zw 25 67108863 ?_; refine zw 26 134217727 ?_; refine zw 27 268435455 ?_; refine zw 28 536870911 ?_; refine zu 29 1073741823 ?_; refine zu 30 2147483647 ?_; refine zw 31 4294967295 ?_; refine zw 32 8589934591 ?_; refine zw 33 17179869183 ?_; refine zw 34 34359738367 ?_; refine zw 35 68719476735 ?_; refine zw 36 137438953471 ?_; refine zw 37 274877906943 ?_; refine zu 38 549755813887 ?_; refine done_ (done_of HT_.out (by kernel_rfl)) ?_
   try go_wp2
   go_meet
   case rel => exact ⟨_, (true), zf, H', ⟨by first | omega | exact Nat.le_refl _⟩, ⟨zl BK367.out⟩, ⟨zb HB.out⟩⟩
 case rest =>
  clear HC2
  try clear p2
  try clear c6
  try clear c8
  try clear c9
  obtain ⟨kq, x49_1, rfl, HA, HJ1, BK367, HB⟩ := hcut
  cases kq with
  | zero => exact absurd HA.out (by simp [impl_Sieve_heads.j0])
  | succ kj1 =>
   have H := HA.out; clear HA; simp only [impl_Sieve_heads.j0] at H
   by_cases c20 : x49_1 = true
   ·subst c20
    have H1 : (some (([] : List (S93)), false)) = some (r1, r2) := by rw [if_pos rfl] at H; exact H
    clear H; have H := H1; clear H1; simp only [Option.some.injEq, Prod.mk.injEq] at H; obtain ⟨rfl, rfl⟩ := H; go_wp2
    go_ret2
    exact ⟨_, ze, by first | exact Kd.R_nil _ _ _ _ _ | exact Kd.N_nil _ _ _ _ _ | exact Kd.V_nil _ _ _ _ _ | exact Kd.Q_nil _ _ _ _ _ | exact Kd.S_nil _ _ _ _ _, zb HB.out⟩
   ·replace c20 := Bool.eq_false_iff.mpr c20; subst c20
    have H1 : ((impl_Sieve_parts.f kj1 a0_0 a0_1 a0_2 l0_3 a0_4 0 (⟨#[]⟩ : ByteArray) ([] : List (S93))).bind fun bt372 => (if bt372.2 = true then ((impl_texts.f kj1 bt372.1).bind fun t376 => ((impl_SieveOf.f kj1 t376 a0_4).bind fun bt379 => (if bt379.2.2.2.2.2 = true then ((impl_Sieve_same.f kj1 bt379.1 bt379.2.1 bt379.2.2.1 bt379.2.2.2.1 bt379.2.2.2.2.1 a0_0 a0_1 a0_2 l0_3 a0_4).bind fun t388 => (if t388 = true then (some (bt372.1, true)) else (some (([] : List (S93)), false)))) else (some (([] : List (S93)), false))))) else (some (([] : List (S93)), false)))) = some (r1, r2) := by rw [if_neg (show ¬ (false = true) by decide)] at H; exact H
    clear H; have H := H1; clear H1; replace H := zi H; obtain ⟨⟨t372, t375⟩, A21, H⟩ := H; (try dsimp only at H)
    by_cases c22 : t375 = true
    ·subst c22
     have H1 : ((impl_texts.f kj1 t372).bind fun t376 => ((impl_SieveOf.f kj1 t376 a0_4).bind fun bt379 => (if bt379.2.2.2.2.2 = true then ((impl_Sieve_same.f kj1 bt379.1 bt379.2.1 bt379.2.2.1 bt379.2.2.2.1 bt379.2.2.2.2.1 a0_0 a0_1 a0_2 l0_3 a0_4).bind fun t388 => (if t388 = true then (some (t372, true)) else (some (([] : List (S93)), false)))) else (some (([] : List (S93)), false))))) = some (r1, r2) := by rw [if_pos rfl] at H; exact H
     clear H; have H := H1; clear H1; replace H := zi H; obtain ⟨t376, A23, H⟩ := H; replace H := zi H; obtain ⟨⟨t379, t380, t381, t382, t385, t386⟩, A24, H⟩ := H; (try dsimp only at H)
     by_cases c25 : t386 = true
     ·subst c25
      have H1 : ((impl_Sieve_same.f kj1 t379 t380 t381 t382 t385 a0_0 a0_1 a0_2 l0_3 a0_4).bind fun t388 => (if t388 = true then (some (t372, true)) else (some (([] : List (S93)), false)))) = some (r1, r2) := by rw [if_pos rfl] at H; exact H
      clear H; have H := H1; clear H1; replace H := zi H; obtain ⟨t388, A26, H⟩ := H
      by_cases c27 : t388 = true
      ·subst c27
       have H1 : (some (t372, true)) = some (r1, r2) := by rw [if_pos rfl] at H; exact H
       clear H; have H := H1; clear H1; simp only [Option.some.injEq, Prod.mk.injEq] at H; obtain ⟨rfl, rfl⟩ := H; have hcz28 := zc5 BK367.out
       try go_wp2_with (first | ((with_reducible refine gc 118 ?_); refine zL (some 52) Try.func118 #[.agg #[.string a0_0, .string a0_1, .string a0_2, .slice A0_3 l0_3.length c0_3, .int .i64 a0_4], .int .i64 0, .string ⟨#[]⟩, .slice none 0 0] ?_; (refine (impl_Sieve_parts.calls kj1 a0_0 a0_1 a0_2 _ _ l0_3 a0_4 0 (⟨#[]⟩ : ByteArray) (fun k_ => some k_ = (.slice none 0 0 : Value).ownBlock) (.slice none 0 0) ([] : List (S93)) t372 true w _ ?side1 ?side2 ?side3 ?side4 A21.out).mono ?_); (case side1 => repeat (first | (with_reducible first | exact HB.out | apply below_alloc | apply pw_below_drewN | apply below_drew1 | refine below_set ?_ GE367.out) | exact HB.out)); (case side2 => exact Kd.C_kept_came Kd.heap_string HR0_3.out (zb HB.out) (fun k_ hs_ => (fun e_ => by simp [Value.ownBlock] at e_) hs_)); (case side3 => exact HC0_3.out); (case side4 => exact Kd.R_nil _ _ _ _ _); rintro e w29 ⟨v373, rfl, ho0, hb, hkp⟩; refine ⟨_, rfl, ?_⟩; replace BK367 := z0 (blk_kept (zl BK367.out) hkp (fun hs_ => (fun e_ => by simp [Value.ownBlock] at e_) hs_)); have HO374 := z0 (Kd.R_mono (ok' := fun k_ => True) ho0 (fun k_ hk_ => trivial)); replace HB := z0 (hb); (try clear hb); (try clear hkp); (try clear ho0); obtain ⟨Ao30, co30, eo30⟩ := Kd.R_slice HO374.out; subst eo30))
       replace HO374 := z0 (Kd.R_drew HO374.out); replace BK367 := z0 (blk_drew BK367.out); replace HB := z0 (below_drew1 HB.out); refine start_ (n := 11) (S := fun w' => w'.cell? ⟨gb367, 0, none⟩ = some (.string a0_0) ∧ w'.cell? ⟨gb367, 1, none⟩ = some (.string a0_1) ∧ w'.cell? ⟨gb367, 2, none⟩ = some (.string a0_2) ∧ w'.cell? ⟨gb367, 3, none⟩ = some (.slice A0_3 l0_3.length c0_3) ∧ w'.cell? ⟨gb367, 4, none⟩ = some (.int .i64 a0_4)) (ds := []) (fb 11 0) (by kernel_rfl) rfl rfl (zb5 BK367.out) (fun hHeld => ?_); refine with_tabW impl_Sieve_heads.tab7 impl_Sieve_heads.bits7 (fun HT_ HW_ => ?_); generalize w29.drew = w31 at HO374 BK367 HB hHeld ⊢; refine zu 0 1 ?_; refine zu 2 5 ?_; refine zx 3 13 hHeld ?_; refine join_ (σ := Value × Value × Nat) 2 (fb 11 511) (fun s_ => [(59, s_.1), (62, .tuple #[.agg #[.string t379, .string t380, .string t381, s_.2.1, .int .i64 t385], .bool true]), (7, .pointer (some ⟨s_.2.2, 0, none⟩)), (57, .tuple #[.agg #[.string t379, .string t380, .string t381, s_.2.1, .int .i64 t385], .bool true]), (63, .agg #[.string t379, .string t380, .string t381, s_.2.1, .int .i64 t385]), (64, .bool true)]) (fun s_ w' => (w'.cell? ⟨gb367, 0, none⟩ = some (.string a0_0) ∧ w'.cell? ⟨gb367, 1, none⟩ = some (.string a0_1) ∧ w'.cell? ⟨gb367, 2, none⟩ = some (.string a0_2) ∧ w'.cell? ⟨gb367, 3, none⟩ = some (.slice A0_3 l0_3.length c0_3) ∧ w'.cell? ⟨gb367, 4, none⟩ = some (.int .i64 a0_4)) ∧ (Kd.R k93 93 w' w.heap.size (fun _ => True) (.slice Ao30 t372.length co30) t372) ∧ (Kd.R Kd.string 9 w' w.heap.size (fun k_ => some k_ ≠ (s_.2.1 : Value).ownBlock) s_.1 t376) ∧ (Kd.R Kd.string 9 w' w.heap.size (fun k_ => some k_ ≠ (s_.1 : Value).ownBlock) s_.2.1 t382) ∧ (w'.heap[gb367]? = some (.cells #[.string a0_0, .string a0_1, .string a0_2, .slice A0_3 l0_3.length c0_3, .int .i64 a0_4] 25 (0, 0))) ∧ (w'.heap[s_.2.2]? = some (.cells #[.string ⟨#[]⟩, .string ⟨#[]⟩, .string ⟨#[]⟩, .slice none 0 0, .int .i64 0] 25 (0, 0))) ∧ (w.heap.size ≤ s_.2.2) ∧ (w.heap.size ≤ s_.2.2) ∧ (gb367 ≠ s_.2.2) ∧ (s_.2.2 ≠ gb367) ∧ (Below w.heap.size w w')) ?_ ?_; rotate_left
       ·intro hCont; refine two_ (i := 1) (j := 8) (Ni := some 59) (Nj := some 7) (fb 11 15) (fb 11 269) rfl rfl rfl rfl (two_of HT_.out (by kernel_rfl)) (by decide) (by decide) (fun K hK => ?_) (fun K hK => ?_)
        ·skip
         refine zG2 Try.func90 #[.slice Ao30 t372.length co30] ?_
         with_reducible refine (impl_texts.calls kj1 _ _ t372 t376 _ ?side1 ?side2 A23.out).mono ?_
         (case side1 => repeat (first | exact (Kd.R_reads' HO374.out).2.2 | (with_reducible refine Kd.C_alloc ?_ _) | (with_reducible refine Kd.C_drewN ?_ _) | (with_reducible refine Kd.C_drew ?_))); (case side2 => exact (Kd.R_reads' HO374.out).2.1); rintro e w32 ⟨v377, rfl, ho0, hb⟩; refine ⟨_, rfl, ?_⟩; replace HO374 := zA HO374 hb; have HO378 := z0 (Kd.R_lower ho0 (below_size (zb HB.out))); replace BK367 := zK BK367 hb; replace HB := zH HB hb; (try clear hb ho0); obtain ⟨Ao33, co33, eo33⟩ := Kd.R_slice HO378.out; (first | subst eo33 | (injection eo33 with f1_ f2_ f3_; have f4_ := f1_.symm; have f5_ := f3_.symm; clear f1_ f2_ f3_; subst f4_; subst f5_)); refine hK.out _ _ (zb5 BK367.out) (fun hHeld => ?_); clear hK K; refine znm ?_; refine two_ (i := 4) (j := 8) (Ni := some 62) (Nj := some 7) (fb 11 31) (fb 11 271) rfl rfl rfl rfl (two_of HT_.out (by kernel_rfl)) (by decide) (by decide) (fun K hK => ?_) (fun K hK => ?_)
         ·skip
          refine zG2 Try.func30 #[.slice Ao33 t376.length co33, .int .i64 a0_4] ?_
          with_reducible refine (impl_SieveOf.calls kj1 _ _ t376 a0_4 t379 t380 t381 t382 t385 true _ ?side1 ?side2 A24.out).mono ?_
          (case side1 => repeat (first | exact (Kd.R_reads' HO378.out).2.2 | (with_reducible refine Kd.C_alloc ?_ _) | (with_reducible refine Kd.C_drewN ?_ _) | (with_reducible refine Kd.C_drew ?_))); (case side2 => exact (Kd.R_reads' HO378.out).2.1); rintro e w34 ⟨v383, rfl, ho0, hb⟩; refine ⟨_, rfl, ?_⟩; replace HO374 := zA HO374 hb; have HO384 := z0 (Kd.R_lower (Kd.R_new' ho0 (Kd.R_lt (zr HO378.out))) (below_size (zb HB.out))); replace HO378 := z0 (Kd.R_elder' (zr HO378.out) (Kd.R_base ho0) hb); replace BK367 := zK BK367 hb; replace HB := zH HB hb; (try clear hb ho0); refine hK.out _ _ (zb5 BK367.out) (fun hHeld => ?_); clear hK K; refine znm ?_; refine zu 5 63 ?_; refine zu 6 127 ?_; refine zu 7 255 ?_; refine zone 8 511 (fun K hK => ?_); refine box_step ?hg (N := 7) ?hd (cs := #[.string ⟨#[]⟩, .string ⟨#[]⟩, .string ⟨#[]⟩, .slice none 0 0, .int .i64 0]) (t := 25) ?hr ?_; (case hd => rfl); (case hg => rfl); (case hr => first | (go_simp; done) | (go_simp; rfl)); intro gb387 hg w35 hbox hb; replace HO374 := zA HO374 hb; replace HO378 := zA HO378 hb; replace HO384 := zA HO384 hb; have BK387 := z0 (hbox); have GE387 := zG hg HB; replace HB := zH HB hb; have NB367_387 := zLt hg BK367; have NB387_367 := zGt hg BK367; replace BK367 := zK BK367 hb; clear hb hbox hg; refine hK.out _ _ (zb5 BK367.out) (fun hHeld => ?_); clear hK K; refine znm ?_; exact norm_ (by simp only [putAll, Act.put, List.setIfInBounds_toArray, List.set_cons_zero, List.set_cons_succ]) (hCont (.slice Ao33 t376.length co33, v383, gb387) _ ⟨hHeld, (zr HO374.out), (Kd.R_mono (zr HO378.out) (fun _ hk => hk.2)), (Kd.R_mono (zr HO384.out) (fun _ hk => hk.2)), (zl BK367.out), (zl BK387.out), GE387.out, GE387.out, NB367_387.out, NB387_367.out, (zb HB.out)⟩)
         ·skip
          refine box_step ?hg (N := 7) ?hd (cs := #[.string ⟨#[]⟩, .string ⟨#[]⟩, .string ⟨#[]⟩, .slice none 0 0, .int .i64 0]) (t := 25) ?hr ?_; (case hd => rfl); (case hg => rfl); (case hr => first | (go_simp; done) | (go_simp; rfl)); intro gb387 hg w33 hbox hb; replace HO374 := zA HO374 hb; replace HO378 := zA HO378 hb; have BK387 := z0 (hbox); have GE387 := zG hg HB; replace HB := zH HB hb; have NB367_387 := zLt hg BK367; have NB387_367 := zGt hg BK367; replace BK367 := zK BK367 hb; clear hb hbox hg; obtain ⟨Ao34, co34, eo34⟩ := Kd.R_slice HO378.out; (first | subst eo34 | (injection eo34 with f1_ f2_ f3_; have f4_ := f1_.symm; have f5_ := f3_.symm; clear f1_ f2_ f3_; subst f4_; subst f5_)); refine hK.out _ _ (zb5 BK367.out) (fun hHeld => ?_); clear hK K; refine znm ?_; refine zone 4 287 (fun K hK => ?_); refine zG2 Try.func30 #[.slice Ao34 t376.length co34, .int .i64 a0_4] ?_
          with_reducible refine (impl_SieveOf.calls kj1 _ _ t376 a0_4 t379 t380 t381 t382 t385 true _ ?side1 ?side2 A24.out).mono ?_
          (case side1 => repeat (first | exact (Kd.R_reads' HO378.out).2.2 | (with_reducible refine Kd.C_alloc ?_ _) | (with_reducible refine Kd.C_drewN ?_ _) | (with_reducible refine Kd.C_drew ?_))); (case side2 => exact (Kd.R_reads' HO378.out).2.1); rintro e w35 ⟨v383, rfl, ho0, hb⟩; refine ⟨_, rfl, ?_⟩; replace HO374 := zA HO374 hb; have HO384 := z0 (Kd.R_lower (Kd.R_new' ho0 (Kd.R_lt (zr HO378.out))) (below_size (zb HB.out))); replace HO378 := z0 (Kd.R_elder' (zr HO378.out) (Kd.R_base ho0) hb); replace BK367 := zK BK367 hb; replace BK387 := zK BK387 hb; replace HB := zH HB hb; (try clear hb ho0); refine hK.out _ _ (zb5 BK367.out) (fun hHeld => ?_); clear hK K; refine znm ?_; refine zu 5 319 ?_; refine zu 6 383 ?_; refine zu 7 511 ?_; exact norm_ (by simp only [putAll, Act.put, List.setIfInBounds_toArray, List.set_cons_zero, List.set_cons_succ]) (hCont (.slice Ao34 t376.length co34, v383, gb387) _ ⟨hHeld, (zr HO374.out), (Kd.R_mono (zr HO378.out) (fun _ hk => hk.2)), (Kd.R_mono (zr HO384.out) (fun _ hk => hk.2)), (zl BK367.out), (zl BK387.out), GE387.out, GE387.out, NB367_387.out, NB387_367.out, (zb HB.out)⟩)
        ·skip
         refine box_step ?hg (N := 7) ?hd (cs := #[.string ⟨#[]⟩, .string ⟨#[]⟩, .string ⟨#[]⟩, .slice none 0 0, .int .i64 0]) (t := 25) ?hr ?_; (case hd => rfl); (case hg => rfl); (case hr => first | (go_simp; done) | (go_simp; rfl)); intro gb387 hg w32 hbox hb; replace HO374 := zA HO374 hb; have BK387 := z0 (hbox); have GE387 := zG hg HB; replace HB := zH HB hb; have NB367_387 := zLt hg BK367; have NB387_367 := zGt hg BK367; replace BK367 := zK BK367 hb; clear hb hbox hg; refine hK.out _ _ (zb5 BK367.out) (fun hHeld => ?_); clear hK K; refine znm ?_; refine zone 1 271 (fun K hK => ?_); refine zG2 Try.func90 #[.slice Ao30 t372.length co30] ?_
         with_reducible refine (impl_texts.calls kj1 _ _ t372 t376 _ ?side1 ?side2 A23.out).mono ?_
         (case side1 => repeat (first | exact (Kd.R_reads' HO374.out).2.2 | (with_reducible refine Kd.C_alloc ?_ _) | (with_reducible refine Kd.C_drewN ?_ _) | (with_reducible refine Kd.C_drew ?_))); (case side2 => exact (Kd.R_reads' HO374.out).2.1); rintro e w33 ⟨v377, rfl, ho0, hb⟩; refine ⟨_, rfl, ?_⟩; replace HO374 := zA HO374 hb; have HO378 := z0 (Kd.R_lower ho0 (below_size (zb HB.out))); replace BK367 := zK BK367 hb; replace BK387 := zK BK387 hb; replace HB := zH HB hb; (try clear hb ho0); obtain ⟨Ao34, co34, eo34⟩ := Kd.R_slice HO378.out; (first | subst eo34 | (injection eo34 with f1_ f2_ f3_; have f4_ := f1_.symm; have f5_ := f3_.symm; clear f1_ f2_ f3_; subst f4_; subst f5_)); refine hK.out _ _ (zb5 BK367.out) (fun hHeld => ?_); clear hK K; refine znm ?_; refine zone 4 287 (fun K hK => ?_); refine zG2 Try.func30 #[.slice Ao34 t376.length co34, .int .i64 a0_4] ?_
         with_reducible refine (impl_SieveOf.calls kj1 _ _ t376 a0_4 t379 t380 t381 t382 t385 true _ ?side1 ?side2 A24.out).mono ?_
         (case side1 => repeat (first | exact (Kd.R_reads' HO378.out).2.2 | (with_reducible refine Kd.C_alloc ?_ _) | (with_reducible refine Kd.C_drewN ?_ _) | (with_reducible refine Kd.C_drew ?_))); (case side2 => exact (Kd.R_reads' HO378.out).2.1); rintro e w35 ⟨v383, rfl, ho0, hb⟩; refine ⟨_, rfl, ?_⟩; replace HO374 := zA HO374 hb; have HO384 := z0 (Kd.R_lower (Kd.R_new' ho0 (Kd.R_lt (zr HO378.out))) (below_size (zb HB.out))); replace HO378 := z0 (Kd.R_elder' (zr HO378.out) (Kd.R_base ho0) hb); replace BK367 := zK BK367 hb; replace BK387 := zK BK387 hb; replace HB := zH HB hb; (try clear hb ho0); refine hK.out _ _ (zb5 BK367.out) (fun hHeld => ?_); clear hK K; refine znm ?_; refine zu 5 319 ?_; refine zu 6 383 ?_; refine zu 7 511 ?_; exact norm_ (by simp only [putAll, Act.put, List.setIfInBounds_toArray, List.set_cons_zero, List.set_cons_succ]) (hCont (.slice Ao34 t376.length co34, v383, gb387) _ ⟨hHeld, (zr HO374.out), (Kd.R_mono (zr HO378.out) (fun _ hk => hk.2)), (Kd.R_mono (zr HO384.out) (fun _ hk => hk.2)), (zl BK367.out), (zl BK387.out), GE387.out, GE387.out, NB367_387.out, NB387_367.out, (zb HB.out)⟩)
       rintro ⟨v377, v383, gb387⟩ w36 ⟨hS_, h0_, h1_, h2_, h3_, h4_, h5_, h6_, h7_, h8_, h9_⟩; have n0_ : Aside0 (Kd.R k93 93 w36 w.heap.size (fun _ => True) (.slice Ao30 t372.length co30) t372) := ⟨h0_⟩; have n1_ : Aside0 (Kd.R Kd.string 9 w36 w.heap.size (fun k_ => some k_ ≠ (v383 : Value).ownBlock) v377 t376) := ⟨h1_⟩; have n2_ : Aside0 (Kd.R Kd.string 9 w36 w.heap.size (fun k_ => some k_ ≠ (v377 : Value).ownBlock) v383 t382) := ⟨h2_⟩; have n3_ : Aside0 (w36.heap[gb367]? = some (.cells #[.string a0_0, .string a0_1, .string a0_2, .slice A0_3 l0_3.length c0_3, .int .i64 a0_4] 25 (0, 0))) := ⟨h3_⟩; have n4_ : Aside0 (w36.heap[gb387]? = some (.cells #[.string ⟨#[]⟩, .string ⟨#[]⟩, .string ⟨#[]⟩, .slice none 0 0, .int .i64 0] 25 (0, 0))) := ⟨h4_⟩; have n5_ : Aside0 (w.heap.size ≤ gb387) := ⟨h5_⟩; have n6_ : Aside0 (w.heap.size ≤ gb387) := ⟨h6_⟩; have n7_ : Aside0 (gb367 ≠ gb387) := ⟨h7_⟩; have n8_ : Aside0 (gb387 ≠ gb367) := ⟨h8_⟩; have n9_ : Aside0 (Below w.heap.size w w36) := ⟨h9_⟩; clear HO374; clear BK367; clear HB; clear h0_ h1_ h2_ h3_ h4_ h5_ h6_ h7_ h8_ h9_; have HO374 := n0_; have HO378 := n1_; have HO384 := n2_; have BK367 := n3_; have BK387 := n4_; have GE387 := n5_; have GE387 := n6_; have NB367_387 := n7_; have NB387_367 := n8_; have HB := n9_; clear n0_ n1_ n2_ n3_ n4_ n5_ n6_ n7_ n8_ n9_; have hHeld : w36.cell? ⟨gb367, 0, none⟩ = some (.string a0_0) ∧ w36.cell? ⟨gb367, 1, none⟩ = some (.string a0_1) ∧ w36.cell? ⟨gb367, 2, none⟩ = some (.string a0_2) ∧ w36.cell? ⟨gb367, 3, none⟩ = some (.slice A0_3 l0_3.length c0_3) ∧ w36.cell? ⟨gb367, 4, none⟩ = some (.int .i64 a0_4) := hS_; obtain ⟨Ao40, co40, eo40⟩ := Kd.R_slice HO384.out; (first | subst eo40 | (injection eo40 with f1_ f2_ f3_; have f4_ := f1_.symm; have f5_ := f3_.symm; clear f1_ f2_ f3_; subst f4_; subst f5_)); refine norm_ (a' := ?_) ?_ ?_; rotate_left
       ·simp only [putAll, Act.put, List.setIfInBounds_toArray, List.set_cons_zero, List.set_cons_succ]
        rfl
       refine zone 9 1023 (fun K hK => ?_); have hs37 : w36.cell? ⟨gb387, 0, none⟩ = some (.string ⟨#[]⟩) := (blk_cell BK387.out 0).trans rfl; have hfs37 := blk_frozen BK387.out 0; have hns37_0 := NB367_387.out; have hms37_0 := NB387_367.out; have hs38 : w36.cell? ⟨gb387, 1, none⟩ = some (.string ⟨#[]⟩) := (blk_cell BK387.out 1).trans rfl; have hfs38 := blk_frozen BK387.out 1; have hns38_0 := NB367_387.out; have hms38_0 := NB387_367.out; have hs39 : w36.cell? ⟨gb387, 2, none⟩ = some (.string ⟨#[]⟩) := (blk_cell BK387.out 2).trans rfl; have hfs39 := blk_frozen BK387.out 2; have hns39_0 := NB367_387.out; have hms39_0 := NB387_367.out; have hs41 : w36.cell? ⟨gb387, 3, none⟩ = some (.slice none 0 0) := (blk_cell BK387.out 3).trans rfl; have hfs41 := blk_frozen BK387.out 3; have hns41_0 := NB367_387.out; have hms41_0 := NB387_367.out; have hs42 : w36.cell? ⟨gb387, 4, none⟩ = some (.int .i64 0) := (blk_cell BK387.out 4).trans rfl; have hfs42 := blk_frozen BK387.out 4; have hns42_0 := NB367_387.out; have hms42_0 := NB387_367.out; refine skip_ (w1 := ?_) (by rfl) rfl ?_ ?_; rotate_left
       ·go_simp
        rfl
       refine hK.out _ _ ⟨((cell_far (p := ⟨gb387, _, none⟩) NB367_387.out _).trans (((cell_far (p := ⟨gb387, _, none⟩) NB367_387.out _).trans (((cell_far (p := ⟨gb387, _, none⟩) NB367_387.out _).trans (((cell_far (p := ⟨gb387, _, none⟩) NB367_387.out _).trans (((cell_far (p := ⟨gb387, _, none⟩) NB367_387.out _).trans (hHeld.1)))))))))), ((cell_far (p := ⟨gb387, _, none⟩) NB367_387.out _).trans (((cell_far (p := ⟨gb387, _, none⟩) NB367_387.out _).trans (((cell_far (p := ⟨gb387, _, none⟩) NB367_387.out _).trans (((cell_far (p := ⟨gb387, _, none⟩) NB367_387.out _).trans (((cell_far (p := ⟨gb387, _, none⟩) NB367_387.out _).trans (hHeld.2.1)))))))))), ((cell_far (p := ⟨gb387, _, none⟩) NB367_387.out _).trans (((cell_far (p := ⟨gb387, _, none⟩) NB367_387.out _).trans (((cell_far (p := ⟨gb387, _, none⟩) NB367_387.out _).trans (((cell_far (p := ⟨gb387, _, none⟩) NB367_387.out _).trans (((cell_far (p := ⟨gb387, _, none⟩) NB367_387.out _).trans (hHeld.2.2.1)))))))))), ((cell_far (p := ⟨gb387, _, none⟩) NB367_387.out _).trans (((cell_far (p := ⟨gb387, _, none⟩) NB367_387.out _).trans (((cell_far (p := ⟨gb387, _, none⟩) NB367_387.out _).trans (((cell_far (p := ⟨gb387, _, none⟩) NB367_387.out _).trans (((cell_far (p := ⟨gb387, _, none⟩) NB367_387.out _).trans (hHeld.2.2.2.1)))))))))), ((cell_far (p := ⟨gb387, _, none⟩) NB367_387.out _).trans (((cell_far (p := ⟨gb387, _, none⟩) NB367_387.out _).trans (((cell_far (p := ⟨gb387, _, none⟩) NB367_387.out _).trans (((cell_far (p := ⟨gb387, _, none⟩) NB367_387.out _).trans (((cell_far (p := ⟨gb387, _, none⟩) NB367_387.out _).trans (hHeld.2.2.2.2))))))))))⟩ (fun hHeld => ?_); clear hK K; refine zu 10 2047 ?_; refine done_ (done_of HT_.out (by kernel_rfl)) ?_; have hnb43 := NB387_367.out; have hnc43 := NB367_387.out; have hcz44 := zc5 BK387.out; have hcz45 := zc5 BK367.out
       try go_wp2_with (first | (go_at_call 119; (with_reducible refine (impl_Sieve_same.calls kj1 t379 t380 t381 _ _ t382 t385 a0_0 a0_1 a0_2 _ _ l0_3 a0_4 true _ ?side1 ?side2 ?side3 ?side4 A26.out).mono ?_); (case side1 => refine (Kd.R_reads' (e := 9) (base := w.heap.size) (ok := fun k_ => some k_ ≠ (v377 : Value).ownBlock) (n := t382.length) (c := co40) ?_).2.2; exact (zs HO384.out BK387.out)); (case side2 => exact (Kd.R_reads' HO384.out).2.1); (case side3 => exact Kd.C_below HR0_3.out (zb HB.out)); (case side4 => exact HC0_3.out); rintro e w46 ⟨rfl, hb⟩; replace HO374 := zAs HO374 BK387 hb; replace HO378 := zAs HO378 BK387 hb; replace HO384 := zAs HO384 BK387 hb; replace BK367 := zKy BK367 hb; replace BK387 := z0 (blk_below (zpc BK387.out #[.string t379, .string t380, .string t381, .slice Ao40 t382.length co40, .int .i64 t385]) hb); replace HB := zH HB hb; (try clear hb)))
       go_ret2
       exact ⟨_, ze, zr HO374.out, zb HB.out⟩
      ·replace c27 := Bool.eq_false_iff.mpr c27; subst c27
       have H1 : (some (([] : List (S93)), false)) = some (r1, r2) := by rw [if_neg (show ¬ (false = true) by decide)] at H; exact H
       clear H; have H := H1; clear H1; simp only [Option.some.injEq, Prod.mk.injEq] at H; obtain ⟨rfl, rfl⟩ := H; have hcz47 := zc5 BK367.out
       try go_wp2_with (first | ((with_reducible refine gc 118 ?_); refine zL (some 52) Try.func118 #[.agg #[.string a0_0, .string a0_1, .string a0_2, .slice A0_3 l0_3.length c0_3, .int .i64 a0_4], .int .i64 0, .string ⟨#[]⟩, .slice none 0 0] ?_; (refine (impl_Sieve_parts.calls kj1 a0_0 a0_1 a0_2 _ _ l0_3 a0_4 0 (⟨#[]⟩ : ByteArray) (fun k_ => some k_ = (.slice none 0 0 : Value).ownBlock) (.slice none 0 0) ([] : List (S93)) t372 true w _ ?side1 ?side2 ?side3 ?side4 A21.out).mono ?_); (case side1 => repeat (first | (with_reducible first | exact HB.out | apply below_alloc | apply pw_below_drewN | apply below_drew1 | refine below_set ?_ GE367.out) | exact HB.out)); (case side2 => exact Kd.C_kept_came Kd.heap_string HR0_3.out (zb HB.out) (fun k_ hs_ => (fun e_ => by simp [Value.ownBlock] at e_) hs_)); (case side3 => exact HC0_3.out); (case side4 => exact Kd.R_nil _ _ _ _ _); rintro e w48 ⟨v373, rfl, ho0, hb, hkp⟩; refine ⟨_, rfl, ?_⟩; replace BK367 := z0 (blk_kept (zl BK367.out) hkp (fun hs_ => (fun e_ => by simp [Value.ownBlock] at e_) hs_)); have HO374 := z0 (Kd.R_mono (ok' := fun k_ => True) ho0 (fun k_ hk_ => trivial)); replace HB := z0 (hb); (try clear hb); (try clear hkp); (try clear ho0); obtain ⟨Ao49, co49, eo49⟩ := Kd.R_slice HO374.out; subst eo49))
       replace HO374 := z0 (Kd.R_drew HO374.out); replace BK367 := z0 (blk_drew BK367.out); replace HB := z0 (below_drew1 HB.out); refine start_ (n := 11) (S := fun w' => w'.cell? ⟨gb367, 0, none⟩ = some (.string a0_0) ∧ w'.cell? ⟨gb367, 1, none⟩ = some (.string a0_1) ∧ w'.cell? ⟨gb367, 2, none⟩ = some (.string a0_2) ∧ w'.cell? ⟨gb367, 3, none⟩ = some (.slice A0_3 l0_3.length c0_3) ∧ w'.cell? ⟨gb367, 4, none⟩ = some (.int .i64 a0_4)) (ds := []) (fb 11 0) (by kernel_rfl) rfl rfl (zb5 BK367.out) (fun hHeld => ?_); refine with_tabW impl_Sieve_heads.tab7 impl_Sieve_heads.bits7 (fun HT_ HW_ => ?_); generalize w48.drew = w50 at HO374 BK367 HB hHeld ⊢; refine zu 0 1 ?_; refine zu 2 5 ?_; refine zx 3 13 hHeld ?_; refine join_ (σ := Value × Value × Nat) 2 (fb 11 511) (fun s_ => [(59, s_.1), (62, .tuple #[.agg #[.string t379, .string t380, .string t381, s_.2.1, .int .i64 t385], .bool true]), (7, .pointer (some ⟨s_.2.2, 0, none⟩)), (57, .tuple #[.agg #[.string t379, .string t380, .string t381, s_.2.1, .int .i64 t385], .bool true]), (63, .agg #[.string t379, .string t380, .string t381, s_.2.1, .int .i64 t385]), (64, .bool true)]) (fun s_ w' => (w'.cell? ⟨gb367, 0, none⟩ = some (.string a0_0) ∧ w'.cell? ⟨gb367, 1, none⟩ = some (.string a0_1) ∧ w'.cell? ⟨gb367, 2, none⟩ = some (.string a0_2) ∧ w'.cell? ⟨gb367, 3, none⟩ = some (.slice A0_3 l0_3.length c0_3) ∧ w'.cell? ⟨gb367, 4, none⟩ = some (.int .i64 a0_4)) ∧ (Kd.R k93 93 w' w.heap.size (fun _ => True) (.slice Ao49 t372.length co49) t372) ∧ (Kd.R Kd.string 9 w' w.heap.size (fun k_ => some k_ ≠ (s_.2.1 : Value).ownBlock) s_.1 t376) ∧ (Kd.R Kd.string 9 w' w.heap.size (fun k_ => some k_ ≠ (s_.1 : Value).ownBlock) s_.2.1 t382) ∧ (w'.heap[gb367]? = some (.cells #[.string a0_0, .string a0_1, .string a0_2, .slice A0_3 l0_3.length c0_3, .int .i64 a0_4] 25 (0, 0))) ∧ (w'.heap[s_.2.2]? = some (.cells #[.string ⟨#[]⟩, .string ⟨#[]⟩, .string ⟨#[]⟩, .slice none 0 0, .int .i64 0] 25 (0, 0))) ∧ (w.heap.size ≤ s_.2.2) ∧ (w.heap.size ≤ s_.2.2) ∧ (gb367 ≠ s_.2.2) ∧ (s_.2.2 ≠ gb367) ∧ (Below w.heap.size w w')) ?_ ?_; rotate_left
       ·intro hCont; refine two_ (i := 1) (j := 8) (Ni := some 59) (Nj := some 7) (fb 11 15) (fb 11 269) rfl rfl rfl rfl (two_of HT_.out (by kernel_rfl)) (by decide) (by decide) (fun K hK => ?_) (fun K hK => ?_)
        ·skip
         refine zG2 Try.func90 #[.slice Ao49 t372.length co49] ?_
         with_reducible refine (impl_texts.calls kj1 _ _ t372 t376 _ ?side1 ?side2 A23.out).mono ?_
         (case side1 => repeat (first | exact (Kd.R_reads' HO374.out).2.2 | (with_reducible refine Kd.C_alloc ?_ _) | (with_reducible refine Kd.C_drewN ?_ _) | (with_reducible refine Kd.C_drew ?_))); (case side2 => exact (Kd.R_reads' HO374.out).2.1); rintro e w51 ⟨v377, rfl, ho0, hb⟩; refine ⟨_, rfl, ?_⟩; replace HO374 := zA HO374 hb; have HO378 := z0 (Kd.R_lower ho0 (below_size (zb HB.out))); replace BK367 := zK BK367 hb; replace HB := zH HB hb; (try clear hb ho0); obtain ⟨Ao52, co52, eo52⟩ := Kd.R_slice HO378.out; (first | subst eo52 | (injection eo52 with f1_ f2_ f3_; have f4_ := f1_.symm; have f5_ := f3_.symm; clear f1_ f2_ f3_; subst f4_; subst f5_)); refine hK.out _ _ (zb5 BK367.out) (fun hHeld => ?_); clear hK K; refine znm ?_; refine two_ (i := 4) (j := 8) (Ni := some 62) (Nj := some 7) (fb 11 31) (fb 11 271) rfl rfl rfl rfl (two_of HT_.out (by kernel_rfl)) (by decide) (by decide) (fun K hK => ?_) (fun K hK => ?_)
         ·skip
          refine zG2 Try.func30 #[.slice Ao52 t376.length co52, .int .i64 a0_4] ?_
          with_reducible refine (impl_SieveOf.calls kj1 _ _ t376 a0_4 t379 t380 t381 t382 t385 true _ ?side1 ?side2 A24.out).mono ?_
          (case side1 => repeat (first | exact (Kd.R_reads' HO378.out).2.2 | (with_reducible refine Kd.C_alloc ?_ _) | (with_reducible refine Kd.C_drewN ?_ _) | (with_reducible refine Kd.C_drew ?_))); (case side2 => exact (Kd.R_reads' HO378.out).2.1); rintro e w53 ⟨v383, rfl, ho0, hb⟩; refine ⟨_, rfl, ?_⟩; replace HO374 := zA HO374 hb; have HO384 := z0 (Kd.R_lower (Kd.R_new' ho0 (Kd.R_lt (zr HO378.out))) (below_size (zb HB.out))); replace HO378 := z0 (Kd.R_elder' (zr HO378.out) (Kd.R_base ho0) hb); replace BK367 := zK BK367 hb; replace HB := zH HB hb; (try clear hb ho0); refine hK.out _ _ (zb5 BK367.out) (fun hHeld => ?_); clear hK K; refine znm ?_; refine zu 5 63 ?_; refine zu 6 127 ?_; refine zu 7 255 ?_; refine zone 8 511 (fun K hK => ?_); refine box_step ?hg (N := 7) ?hd (cs := #[.string ⟨#[]⟩, .string ⟨#[]⟩, .string ⟨#[]⟩, .slice none 0 0, .int .i64 0]) (t := 25) ?hr ?_; (case hd => rfl); (case hg => rfl); (case hr => first | (go_simp; done) | (go_simp; rfl)); intro gb387 hg w54 hbox hb; replace HO374 := zA HO374 hb; replace HO378 := zA HO378 hb; replace HO384 := zA HO384 hb; have BK387 := z0 (hbox); have GE387 := zG hg HB; replace HB := zH HB hb; have NB367_387 := zLt hg BK367; have NB387_367 := zGt hg BK367; replace BK367 := zK BK367 hb; clear hb hbox hg; refine hK.out _ _ (zb5 BK367.out) (fun hHeld => ?_); clear hK K; refine znm ?_; exact norm_ (by simp only [putAll, Act.put, List.setIfInBounds_toArray, List.set_cons_zero, List.set_cons_succ]) (hCont (.slice Ao52 t376.length co52, v383, gb387) _ ⟨hHeld, (zr HO374.out), (Kd.R_mono (zr HO378.out) (fun _ hk => hk.2)), (Kd.R_mono (zr HO384.out) (fun _ hk => hk.2)), (zl BK367.out), (zl BK387.out), GE387.out, GE387.out, NB367_387.out, NB387_367.out, (zb HB.out)⟩)
         ·skip
          refine box_step ?hg (N := 7) ?hd (cs := #[.string ⟨#[]⟩, .string ⟨#[]⟩, .string ⟨#[]⟩, .slice none 0 0, .int .i64 0]) (t := 25) ?hr ?_; (case hd => rfl); (case hg => rfl); (case hr => first | (go_simp; done) | (go_simp; rfl)); intro gb387 hg w52 hbox hb; replace HO374 := zA HO374 hb; replace HO378 := zA HO378 hb; have BK387 := z0 (hbox); have GE387 := zG hg HB; replace HB := zH HB hb; have NB367_387 := zLt hg BK367; have NB387_367 := zGt hg BK367; replace BK367 := zK BK367 hb; clear hb hbox hg; obtain ⟨Ao53, co53, eo53⟩ := Kd.R_slice HO378.out; (first | subst eo53 | (injection eo53 with f1_ f2_ f3_; have f4_ := f1_.symm; have f5_ := f3_.symm; clear f1_ f2_ f3_; subst f4_; subst f5_)); refine hK.out _ _ (zb5 BK367.out) (fun hHeld => ?_); clear hK K; refine znm ?_; refine zone 4 287 (fun K hK => ?_); refine zG2 Try.func30 #[.slice Ao53 t376.length co53, .int .i64 a0_4] ?_
          with_reducible refine (impl_SieveOf.calls kj1 _ _ t376 a0_4 t379 t380 t381 t382 t385 true _ ?side1 ?side2 A24.out).mono ?_
          (case side1 => repeat (first | exact (Kd.R_reads' HO378.out).2.2 | (with_reducible refine Kd.C_alloc ?_ _) | (with_reducible refine Kd.C_drewN ?_ _) | (with_reducible refine Kd.C_drew ?_))); (case side2 => exact (Kd.R_reads' HO378.out).2.1); rintro e w54 ⟨v383, rfl, ho0, hb⟩; refine ⟨_, rfl, ?_⟩; replace HO374 := zA HO374 hb; have HO384 := z0 (Kd.R_lower (Kd.R_new' ho0 (Kd.R_lt (zr HO378.out))) (below_size (zb HB.out))); replace HO378 := z0 (Kd.R_elder' (zr HO378.out) (Kd.R_base ho0) hb); replace BK367 := zK BK367 hb; replace BK387 := zK BK387 hb; replace HB := zH HB hb; (try clear hb ho0); refine hK.out _ _ (zb5 BK367.out) (fun hHeld => ?_); clear hK K; refine znm ?_; refine zu 5 319 ?_; refine zu 6 383 ?_; refine zu 7 511 ?_; exact norm_ (by simp only [putAll, Act.put, List.setIfInBounds_toArray, List.set_cons_zero, List.set_cons_succ]) (hCont (.slice Ao53 t376.length co53, v383, gb387) _ ⟨hHeld, (zr HO374.out), (Kd.R_mono (zr HO378.out) (fun _ hk => hk.2)), (Kd.R_mono (zr HO384.out) (fun _ hk => hk.2)), (zl BK367.out), (zl BK387.out), GE387.out, GE387.out, NB367_387.out, NB387_367.out, (zb HB.out)⟩)
        ·skip
         refine box_step ?hg (N := 7) ?hd (cs := #[.string ⟨#[]⟩, .string ⟨#[]⟩, .string ⟨#[]⟩, .slice none 0 0, .int .i64 0]) (t := 25) ?hr ?_; (case hd => rfl); (case hg => rfl); (case hr => first | (go_simp; done) | (go_simp; rfl)); intro gb387 hg w51 hbox hb; replace HO374 := zA HO374 hb; have BK387 := z0 (hbox); have GE387 := zG hg HB; replace HB := zH HB hb; have NB367_387 := zLt hg BK367; have NB387_367 := zGt hg BK367; replace BK367 := zK BK367 hb; clear hb hbox hg; refine hK.out _ _ (zb5 BK367.out) (fun hHeld => ?_); clear hK K; refine znm ?_; refine zone 1 271 (fun K hK => ?_); refine zG2 Try.func90 #[.slice Ao49 t372.length co49] ?_
         with_reducible refine (impl_texts.calls kj1 _ _ t372 t376 _ ?side1 ?side2 A23.out).mono ?_
         (case side1 => repeat (first | exact (Kd.R_reads' HO374.out).2.2 | (with_reducible refine Kd.C_alloc ?_ _) | (with_reducible refine Kd.C_drewN ?_ _) | (with_reducible refine Kd.C_drew ?_))); (case side2 => exact (Kd.R_reads' HO374.out).2.1); rintro e w52 ⟨v377, rfl, ho0, hb⟩; refine ⟨_, rfl, ?_⟩; replace HO374 := zA HO374 hb; have HO378 := z0 (Kd.R_lower ho0 (below_size (zb HB.out))); replace BK367 := zK BK367 hb; replace BK387 := zK BK387 hb; replace HB := zH HB hb; (try clear hb ho0); obtain ⟨Ao53, co53, eo53⟩ := Kd.R_slice HO378.out; (first | subst eo53 | (injection eo53 with f1_ f2_ f3_; have f4_ := f1_.symm; have f5_ := f3_.symm; clear f1_ f2_ f3_; subst f4_; subst f5_)); refine hK.out _ _ (zb5 BK367.out) (fun hHeld => ?_); clear hK K; refine znm ?_; refine zone 4 287 (fun K hK => ?_); refine zG2 Try.func30 #[.slice Ao53 t376.length co53, .int .i64 a0_4] ?_
         with_reducible refine (impl_SieveOf.calls kj1 _ _ t376 a0_4 t379 t380 t381 t382 t385 true _ ?side1 ?side2 A24.out).mono ?_
         (case side1 => repeat (first | exact (Kd.R_reads' HO378.out).2.2 | (with_reducible refine Kd.C_alloc ?_ _) | (with_reducible refine Kd.C_drewN ?_ _) | (with_reducible refine Kd.C_drew ?_))); (case side2 => exact (Kd.R_reads' HO378.out).2.1); rintro e w54 ⟨v383, rfl, ho0, hb⟩; refine ⟨_, rfl, ?_⟩; replace HO374 := zA HO374 hb; have HO384 := z0 (Kd.R_lower (Kd.R_new' ho0 (Kd.R_lt (zr HO378.out))) (below_size (zb HB.out))); replace HO378 := z0 (Kd.R_elder' (zr HO378.out) (Kd.R_base ho0) hb); replace BK367 := zK BK367 hb; replace BK387 := zK BK387 hb; replace HB := zH HB hb; (try clear hb ho0); refine hK.out _ _ (zb5 BK367.out) (fun hHeld => ?_); clear hK K; refine znm ?_; refine zu 5 319 ?_; refine zu 6 383 ?_; refine zu 7 511 ?_; exact norm_ (by simp only [putAll, Act.put, List.setIfInBounds_toArray, List.set_cons_zero, List.set_cons_succ]) (hCont (.slice Ao53 t376.length co53, v383, gb387) _ ⟨hHeld, (zr HO374.out), (Kd.R_mono (zr HO378.out) (fun _ hk => hk.2)), (Kd.R_mono (zr HO384.out) (fun _ hk => hk.2)), (zl BK367.out), (zl BK387.out), GE387.out, GE387.out, NB367_387.out, NB387_367.out, (zb HB.out)⟩)
       rintro ⟨v377, v383, gb387⟩ w55 ⟨hS_, h0_, h1_, h2_, h3_, h4_, h5_, h6_, h7_, h8_, h9_⟩; have n0_ : Aside0 (Kd.R k93 93 w55 w.heap.size (fun _ => True) (.slice Ao49 t372.length co49) t372) := ⟨h0_⟩; have n1_ : Aside0 (Kd.R Kd.string 9 w55 w.heap.size (fun k_ => some k_ ≠ (v383 : Value).ownBlock) v377 t376) := ⟨h1_⟩; have n2_ : Aside0 (Kd.R Kd.string 9 w55 w.heap.size (fun k_ => some k_ ≠ (v377 : Value).ownBlock) v383 t382) := ⟨h2_⟩; have n3_ : Aside0 (w55.heap[gb367]? = some (.cells #[.string a0_0, .string a0_1, .string a0_2, .slice A0_3 l0_3.length c0_3, .int .i64 a0_4] 25 (0, 0))) := ⟨h3_⟩; have n4_ : Aside0 (w55.heap[gb387]? = some (.cells #[.string ⟨#[]⟩, .string ⟨#[]⟩, .string ⟨#[]⟩, .slice none 0 0, .int .i64 0] 25 (0, 0))) := ⟨h4_⟩; have n5_ : Aside0 (w.heap.size ≤ gb387) := ⟨h5_⟩; have n6_ : Aside0 (w.heap.size ≤ gb387) := ⟨h6_⟩; have n7_ : Aside0 (gb367 ≠ gb387) := ⟨h7_⟩; have n8_ : Aside0 (gb387 ≠ gb367) := ⟨h8_⟩; have n9_ : Aside0 (Below w.heap.size w w55) := ⟨h9_⟩; clear HO374; clear BK367; clear HB; clear h0_ h1_ h2_ h3_ h4_ h5_ h6_ h7_ h8_ h9_; have HO374 := n0_; have HO378 := n1_; have HO384 := n2_; have BK367 := n3_; have BK387 := n4_; have GE387 := n5_; have GE387 := n6_; have NB367_387 := n7_; have NB387_367 := n8_; have HB := n9_; clear n0_ n1_ n2_ n3_ n4_ n5_ n6_ n7_ n8_ n9_; have hHeld : w55.cell? ⟨gb367, 0, none⟩ = some (.string a0_0) ∧ w55.cell? ⟨gb367, 1, none⟩ = some (.string a0_1) ∧ w55.cell? ⟨gb367, 2, none⟩ = some (.string a0_2) ∧ w55.cell? ⟨gb367, 3, none⟩ = some (.slice A0_3 l0_3.length c0_3) ∧ w55.cell? ⟨gb367, 4, none⟩ = some (.int .i64 a0_4) := hS_; obtain ⟨Ao59, co59, eo59⟩ := Kd.R_slice HO384.out; (first | subst eo59 | (injection eo59 with f1_ f2_ f3_; have f4_ := f1_.symm; have f5_ := f3_.symm; clear f1_ f2_ f3_; subst f4_; subst f5_)); refine norm_ (a' := ?_) ?_ ?_; rotate_left
       ·simp only [putAll, Act.put, List.setIfInBounds_toArray, List.set_cons_zero, List.set_cons_succ]
        rfl
       refine zone 9 1023 (fun K hK => ?_); have hs56 : w55.cell? ⟨gb387, 0, none⟩ = some (.string ⟨#[]⟩) := (blk_cell BK387.out 0).trans rfl; have hfs56 := blk_frozen BK387.out 0; have hns56_0 := NB367_387.out; have hms56_0 := NB387_367.out; have hs57 : w55.cell? ⟨gb387, 1, none⟩ = some (.string ⟨#[]⟩) := (blk_cell BK387.out 1).trans rfl; have hfs57 := blk_frozen BK387.out 1; have hns57_0 := NB367_387.out; have hms57_0 := NB387_367.out; have hs58 : w55.cell? ⟨gb387, 2, none⟩ = some (.string ⟨#[]⟩) := (blk_cell BK387.out 2).trans rfl; have hfs58 := blk_frozen BK387.out 2; have hns58_0 := NB367_387.out; have hms58_0 := NB387_367.out; have hs60 : w55.cell? ⟨gb387, 3, none⟩ = some (.slice none 0 0) := (blk_cell BK387.out 3).trans rfl; have hfs60 := blk_frozen BK387.out 3; have hns60_0 := NB367_387.out; have hms60_0 := NB387_367.out; have hs61 : w55.cell? ⟨gb387, 4, none⟩ = some (.int .i64 0) := (blk_cell BK387.out 4).trans rfl; have hfs61 := blk_frozen BK387.out 4; have hns61_0 := NB367_387.out; have hms61_0 := NB387_367.out; refine skip_ (w1 := ?_) (by rfl) rfl ?_ ?_; rotate_left
       ·go_simp
        rfl
       refine hK.out _ _ ⟨((cell_far (p := ⟨gb387, _, none⟩) NB367_387.out _).trans (((cell_far (p := ⟨gb387, _, none⟩) NB367_387.out _).trans (((cell_far (p := ⟨gb387, _, none⟩) NB367_387.out _).trans (((cell_far (p := ⟨gb387, _, none⟩) NB367_387.out _).trans (((cell_far (p := ⟨gb387, _, none⟩) NB367_387.out _).trans (hHeld.1)))))))))), ((cell_far (p := ⟨gb387, _, none⟩) NB367_387.out _).trans (((cell_far (p := ⟨gb387, _, none⟩) NB367_387.out _).trans (((cell_far (p := ⟨gb387, _, none⟩) NB367_387.out _).trans (((cell_far (p := ⟨gb387, _, none⟩) NB367_387.out _).trans (((cell_far (p := ⟨gb387, _, none⟩) NB367_387.out _).trans (hHeld.2.1)))))))))), ((cell_far (p := ⟨gb387, _, none⟩) NB367_387.out _).trans (((cell_far (p := ⟨gb387, _, none⟩) NB367_387.out _).trans (((cell_far (p := ⟨gb387, _, none⟩) NB367_387.out _).trans (((cell_far (p := ⟨gb387, _, none⟩) NB367_387.out _).trans (((cell_far (p := ⟨gb387, _, none⟩) NB367_387.out _).trans (hHeld.2.2.1)))))))))), ((cell_far (p := ⟨gb387, _, none⟩) NB367_387.out _).trans (((cell_far (p := ⟨gb387, _, none⟩) NB367_387.out _).trans (((cell_far (p := ⟨gb387, _, none⟩) NB367_387.out _).trans (((cell_far (p := ⟨gb387, _, none⟩) NB367_387.out _).trans (((cell_far (p := ⟨gb387, _, none⟩) NB367_387.out _).trans (hHeld.2.2.2.1)))))))))), ((cell_far (p := ⟨gb387, _, none⟩) NB367_387.out _).trans (((cell_far (p := ⟨gb387, _, none⟩) NB367_387.out _).trans (((cell_far (p := ⟨gb387, _, none⟩) NB367_387.out _).trans (((cell_far (p := ⟨gb387, _, none⟩) NB367_387.out _).trans (((cell_far (p := ⟨gb387, _, none⟩) NB367_387.out _).trans (hHeld.2.2.2.2))))))))))⟩ (fun hHeld => ?_); clear hK K; refine zu 10 2047 ?_; refine done_ (done_of HT_.out (by kernel_rfl)) ?_; have hnb62 := NB387_367.out; have hnc62 := NB367_387.out; have hcz63 := zc5 BK387.out; have hcz64 := zc5 BK367.out
       try go_wp2_with (first | (go_at_call 119; (with_reducible refine (impl_Sieve_same.calls kj1 t379 t380 t381 _ _ t382 t385 a0_0 a0_1 a0_2 _ _ l0_3 a0_4 false _ ?side1 ?side2 ?side3 ?side4 A26.out).mono ?_); (case side1 => refine (Kd.R_reads' (e := 9) (base := w.heap.size) (ok := fun k_ => some k_ ≠ (v377 : Value).ownBlock) (n := t382.length) (c := co59) ?_).2.2; exact (zs HO384.out BK387.out)); (case side2 => exact (Kd.R_reads' HO384.out).2.1); (case side3 => exact Kd.C_below HR0_3.out (zb HB.out)); (case side4 => exact HC0_3.out); rintro e w65 ⟨rfl, hb⟩; replace HO374 := zAs HO374 BK387 hb; replace HO378 := zAs HO378 BK387 hb; replace HO384 := zAs HO384 BK387 hb; replace BK367 := zKy BK367 hb; replace BK387 := z0 (blk_below (zpc BK387.out #[.string t379, .string t380, .string t381, .slice Ao59 t382.length co59, .int .i64 t385]) hb); replace HB := zH HB hb; (try clear hb)))
       go_ret2
       exact ⟨_, ze, by first | exact Kd.R_nil _ _ _ _ _ | exact Kd.N_nil _ _ _ _ _ | exact Kd.V_nil _ _ _ _ _ | exact Kd.Q_nil _ _ _ _ _ | exact Kd.S_nil _ _ _ _ _, zb HB.out⟩
     ·replace c25 := Bool.eq_false_iff.mpr c25; subst c25
      have H1 : (some (([] : List (S93)), false)) = some (r1, r2) := by rw [if_neg (show ¬ (false = true) by decide)] at H; exact H
      clear H; have H := H1; clear H1; simp only [Option.some.injEq, Prod.mk.injEq] at H; obtain ⟨rfl, rfl⟩ := H; have hcz66 := zc5 BK367.out
      try go_wp2_with (first | ((with_reducible refine gc 118 ?_); refine zL (some 52) Try.func118 #[.agg #[.string a0_0, .string a0_1, .string a0_2, .slice A0_3 l0_3.length c0_3, .int .i64 a0_4], .int .i64 0, .string ⟨#[]⟩, .slice none 0 0] ?_; (refine (impl_Sieve_parts.calls kj1 a0_0 a0_1 a0_2 _ _ l0_3 a0_4 0 (⟨#[]⟩ : ByteArray) (fun k_ => some k_ = (.slice none 0 0 : Value).ownBlock) (.slice none 0 0) ([] : List (S93)) t372 true w _ ?side1 ?side2 ?side3 ?side4 A21.out).mono ?_); (case side1 => repeat (first | (with_reducible first | exact HB.out | apply below_alloc | apply pw_below_drewN | apply below_drew1 | refine below_set ?_ GE367.out) | exact HB.out)); (case side2 => exact Kd.C_kept_came Kd.heap_string HR0_3.out (zb HB.out) (fun k_ hs_ => (fun e_ => by simp [Value.ownBlock] at e_) hs_)); (case side3 => exact HC0_3.out); (case side4 => exact Kd.R_nil _ _ _ _ _); rintro e w67 ⟨v373, rfl, ho0, hb, hkp⟩; refine ⟨_, rfl, ?_⟩; replace BK367 := z0 (blk_kept (zl BK367.out) hkp (fun hs_ => (fun e_ => by simp [Value.ownBlock] at e_) hs_)); have HO374 := z0 (Kd.R_mono (ok' := fun k_ => True) ho0 (fun k_ hk_ => trivial)); replace HB := z0 (hb); (try clear hb); (try clear hkp); (try clear ho0); obtain ⟨Ao68, co68, eo68⟩ := Kd.R_slice HO374.out; subst eo68))
      replace HO374 := z0 (Kd.R_drew HO374.out); replace BK367 := z0 (blk_drew BK367.out); replace HB := z0 (below_drew1 HB.out); refine start_ (n := 11) (S := fun w' => w'.cell? ⟨gb367, 0, none⟩ = some (.string a0_0) ∧ w'.cell? ⟨gb367, 1, none⟩ = some (.string a0_1) ∧ w'.cell? ⟨gb367, 2, none⟩ = some (.string a0_2) ∧ w'.cell? ⟨gb367, 3, none⟩ = some (.slice A0_3 l0_3.length c0_3) ∧ w'.cell? ⟨gb367, 4, none⟩ = some (.int .i64 a0_4)) (ds := []) (fb 11 0) (by kernel_rfl) rfl rfl (zb5 BK367.out) (fun hHeld => ?_); refine with_tabW impl_Sieve_heads.tab7 impl_Sieve_heads.bits7 (fun HT_ HW_ => ?_); generalize w67.drew = w69 at HO374 BK367 HB hHeld ⊢; refine zu 0 1 ?_; refine zu 2 5 ?_; refine zx 3 13 hHeld ?_; refine join_ (σ := Value × Value × Nat) 2 (fb 11 511) (fun s_ => [(59, s_.1), (62, .tuple #[.agg #[.string t379, .string t380, .string t381, s_.2.1, .int .i64 t385], .bool false]), (7, .pointer (some ⟨s_.2.2, 0, none⟩)), (57, .tuple #[.agg #[.string t379, .string t380, .string t381, s_.2.1, .int .i64 t385], .bool false]), (63, .agg #[.string t379, .string t380, .string t381, s_.2.1, .int .i64 t385]), (64, .bool false)]) (fun s_ w' => (w'.cell? ⟨gb367, 0, none⟩ = some (.string a0_0) ∧ w'.cell? ⟨gb367, 1, none⟩ = some (.string a0_1) ∧ w'.cell? ⟨gb367, 2, none⟩ = some (.string a0_2) ∧ w'.cell? ⟨gb367, 3, none⟩ = some (.slice A0_3 l0_3.length c0_3) ∧ w'.cell? ⟨gb367, 4, none⟩ = some (.int .i64 a0_4)) ∧ (Kd.R k93 93 w' w.heap.size (fun _ => True) (.slice Ao68 t372.length co68) t372) ∧ (Kd.R Kd.string 9 w' w.heap.size (fun k_ => some k_ ≠ (s_.2.1 : Value).ownBlock) s_.1 t376) ∧ (Kd.R Kd.string 9 w' w.heap.size (fun k_ => some k_ ≠ (s_.1 : Value).ownBlock) s_.2.1 t382) ∧ (w'.heap[gb367]? = some (.cells #[.string a0_0, .string a0_1, .string a0_2, .slice A0_3 l0_3.length c0_3, .int .i64 a0_4] 25 (0, 0))) ∧ (w'.heap[s_.2.2]? = some (.cells #[.string ⟨#[]⟩, .string ⟨#[]⟩, .string ⟨#[]⟩, .slice none 0 0, .int .i64 0] 25 (0, 0))) ∧ (w.heap.size ≤ s_.2.2) ∧ (w.heap.size ≤ s_.2.2) ∧ (gb367 ≠ s_.2.2) ∧ (s_.2.2 ≠ gb367) ∧ (Below w.heap.size w w')) ?_ ?_; rotate_left
      ·intro hCont; refine two_ (i := 1) (j := 8) (Ni := some 59) (Nj := some 7) (fb 11 15) (fb 11 269) rfl rfl rfl rfl (two_of HT_.out (by kernel_rfl)) (by decide) (by decide) (fun K hK => ?_) (fun K hK => ?_)
       ·skip
        refine zG2 Try.func90 #[.slice Ao68 t372.length co68] ?_
        with_reducible refine (impl_texts.calls kj1 _ _ t372 t376 _ ?side1 ?side2 A23.out).mono ?_
        (case side1 => repeat (first | exact (Kd.R_reads' HO374.out).2.2 | (with_reducible refine Kd.C_alloc ?_ _) | (with_reducible refine Kd.C_drewN ?_ _) | (with_reducible refine Kd.C_drew ?_))); (case side2 => exact (Kd.R_reads' HO374.out).2.1); rintro e w70 ⟨v377, rfl, ho0, hb⟩; refine ⟨_, rfl, ?_⟩; replace HO374 := zA HO374 hb; have HO378 := z0 (Kd.R_lower ho0 (below_size (zb HB.out))); replace BK367 := zK BK367 hb; replace HB := zH HB hb; (try clear hb ho0); obtain ⟨Ao71, co71, eo71⟩ := Kd.R_slice HO378.out; (first | subst eo71 | (injection eo71 with f1_ f2_ f3_; have f4_ := f1_.symm; have f5_ := f3_.symm; clear f1_ f2_ f3_; subst f4_; subst f5_)); refine hK.out _ _ (zb5 BK367.out) (fun hHeld => ?_); clear hK K; refine znm ?_; refine two_ (i := 4) (j := 8) (Ni := some 62) (Nj := some 7) (fb 11 31) (fb 11 271) rfl rfl rfl rfl (two_of HT_.out (by kernel_rfl)) (by decide) (by decide) (fun K hK => ?_) (fun K hK => ?_)
        ·skip
         refine zG2 Try.func30 #[.slice Ao71 t376.length co71, .int .i64 a0_4] ?_
         with_reducible refine (impl_SieveOf.calls kj1 _ _ t376 a0_4 t379 t380 t381 t382 t385 false _ ?side1 ?side2 A24.out).mono ?_
         (case side1 => repeat (first | exact (Kd.R_reads' HO378.out).2.2 | (with_reducible refine Kd.C_alloc ?_ _) | (with_reducible refine Kd.C_drewN ?_ _) | (with_reducible refine Kd.C_drew ?_))); (case side2 => exact (Kd.R_reads' HO378.out).2.1); rintro e w72 ⟨v383, rfl, ho0, hb⟩; refine ⟨_, rfl, ?_⟩; replace HO374 := zA HO374 hb; have HO384 := z0 (Kd.R_lower (Kd.R_new' ho0 (Kd.R_lt (zr HO378.out))) (below_size (zb HB.out))); replace HO378 := z0 (Kd.R_elder' (zr HO378.out) (Kd.R_base ho0) hb); replace BK367 := zK BK367 hb; replace HB := zH HB hb; (try clear hb ho0); refine hK.out _ _ (zb5 BK367.out) (fun hHeld => ?_); clear hK K; refine znm ?_; refine zu 5 63 ?_; refine zu 6 127 ?_; refine zu 7 255 ?_; refine zone 8 511 (fun K hK => ?_); refine box_step ?hg (N := 7) ?hd (cs := #[.string ⟨#[]⟩, .string ⟨#[]⟩, .string ⟨#[]⟩, .slice none 0 0, .int .i64 0]) (t := 25) ?hr ?_; (case hd => rfl); (case hg => rfl); (case hr => first | (go_simp; done) | (go_simp; rfl)); intro gb387 hg w73 hbox hb; replace HO374 := zA HO374 hb; replace HO378 := zA HO378 hb; replace HO384 := zA HO384 hb; have BK387 := z0 (hbox); have GE387 := zG hg HB; replace HB := zH HB hb; have NB367_387 := zLt hg BK367; have NB387_367 := zGt hg BK367; replace BK367 := zK BK367 hb; clear hb hbox hg; refine hK.out _ _ (zb5 BK367.out) (fun hHeld => ?_); clear hK K; refine znm ?_; exact norm_ (by simp only [putAll, Act.put, List.setIfInBounds_toArray, List.set_cons_zero, List.set_cons_succ]) (hCont (.slice Ao71 t376.length co71, v383, gb387) _ ⟨hHeld, (zr HO374.out), (Kd.R_mono (zr HO378.out) (fun _ hk => hk.2)), (Kd.R_mono (zr HO384.out) (fun _ hk => hk.2)), (zl BK367.out), (zl BK387.out), GE387.out, GE387.out, NB367_387.out, NB387_367.out, (zb HB.out)⟩)
        ·skip
         refine box_step ?hg (N := 7) ?hd (cs := #[.string ⟨#[]⟩, .string ⟨#[]⟩, .string ⟨#[]⟩, .slice none 0 0, .int .i64 0]) (t := 25) ?hr ?_; (case hd => rfl); (case hg => rfl); (case hr => first | (go_simp; done) | (go_simp; rfl)); intro gb387 hg w71 hbox hb; replace HO374 := zA HO374 hb; replace HO378 := zA HO378 hb; have BK387 := z0 (hbox); have GE387 := zG hg HB; replace HB := zH HB hb; have NB367_387 := zLt hg BK367; have NB387_367 := zGt hg BK367; replace BK367 := zK BK367 hb; clear hb hbox hg; obtain ⟨Ao72, co72, eo72⟩ := Kd.R_slice HO378.out; (first | subst eo72 | (injection eo72 with f1_ f2_ f3_; have f4_ := f1_.symm; have f5_ := f3_.symm; clear f1_ f2_ f3_; subst f4_; subst f5_)); refine hK.out _ _ (zb5 BK367.out) (fun hHeld => ?_); clear hK K; refine znm ?_; refine zone 4 287 (fun K hK => ?_); refine zG2 Try.func30 #[.slice Ao72 t376.length co72, .int .i64 a0_4] ?_
         with_reducible refine (impl_SieveOf.calls kj1 _ _ t376 a0_4 t379 t380 t381 t382 t385 false _ ?side1 ?side2 A24.out).mono ?_
         (case side1 => repeat (first | exact (Kd.R_reads' HO378.out).2.2 | (with_reducible refine Kd.C_alloc ?_ _) | (with_reducible refine Kd.C_drewN ?_ _) | (with_reducible refine Kd.C_drew ?_))); (case side2 => exact (Kd.R_reads' HO378.out).2.1); rintro e w73 ⟨v383, rfl, ho0, hb⟩; refine ⟨_, rfl, ?_⟩; replace HO374 := zA HO374 hb; have HO384 := z0 (Kd.R_lower (Kd.R_new' ho0 (Kd.R_lt (zr HO378.out))) (below_size (zb HB.out))); replace HO378 := z0 (Kd.R_elder' (zr HO378.out) (Kd.R_base ho0) hb); replace BK367 := zK BK367 hb; replace BK387 := zK BK387 hb; replace HB := zH HB hb; (try clear hb ho0); refine hK.out _ _ (zb5 BK367.out) (fun hHeld => ?_); clear hK K; refine znm ?_; refine zu 5 319 ?_; refine zu 6 383 ?_; refine zu 7 511 ?_; exact norm_ (by simp only [putAll, Act.put, List.setIfInBounds_toArray, List.set_cons_zero, List.set_cons_succ]) (hCont (.slice Ao72 t376.length co72, v383, gb387) _ ⟨hHeld, (zr HO374.out), (Kd.R_mono (zr HO378.out) (fun _ hk => hk.2)), (Kd.R_mono (zr HO384.out) (fun _ hk => hk.2)), (zl BK367.out), (zl BK387.out), GE387.out, GE387.out, NB367_387.out, NB387_367.out, (zb HB.out)⟩)
       ·skip
        refine box_step ?hg (N := 7) ?hd (cs := #[.string ⟨#[]⟩, .string ⟨#[]⟩, .string ⟨#[]⟩, .slice none 0 0, .int .i64 0]) (t := 25) ?hr ?_; (case hd => rfl); (case hg => rfl); (case hr => first | (go_simp; done) | (go_simp; rfl)); intro gb387 hg w70 hbox hb; replace HO374 := zA HO374 hb; have BK387 := z0 (hbox); have GE387 := zG hg HB; replace HB := zH HB hb; have NB367_387 := zLt hg BK367; have NB387_367 := zGt hg BK367; replace BK367 := zK BK367 hb; clear hb hbox hg; refine hK.out _ _ (zb5 BK367.out) (fun hHeld => ?_); clear hK K; refine znm ?_; refine zone 1 271 (fun K hK => ?_); refine zG2 Try.func90 #[.slice Ao68 t372.length co68] ?_
        with_reducible refine (impl_texts.calls kj1 _ _ t372 t376 _ ?side1 ?side2 A23.out).mono ?_
        (case side1 => repeat (first | exact (Kd.R_reads' HO374.out).2.2 | (with_reducible refine Kd.C_alloc ?_ _) | (with_reducible refine Kd.C_drewN ?_ _) | (with_reducible refine Kd.C_drew ?_))); (case side2 => exact (Kd.R_reads' HO374.out).2.1); rintro e w71 ⟨v377, rfl, ho0, hb⟩; refine ⟨_, rfl, ?_⟩; replace HO374 := zA HO374 hb; have HO378 := z0 (Kd.R_lower ho0 (below_size (zb HB.out))); replace BK367 := zK BK367 hb; replace BK387 := zK BK387 hb; replace HB := zH HB hb; (try clear hb ho0); obtain ⟨Ao72, co72, eo72⟩ := Kd.R_slice HO378.out; (first | subst eo72 | (injection eo72 with f1_ f2_ f3_; have f4_ := f1_.symm; have f5_ := f3_.symm; clear f1_ f2_ f3_; subst f4_; subst f5_)); refine hK.out _ _ (zb5 BK367.out) (fun hHeld => ?_); clear hK K; refine znm ?_; refine zone 4 287 (fun K hK => ?_); refine zG2 Try.func30 #[.slice Ao72 t376.length co72, .int .i64 a0_4] ?_
        with_reducible refine (impl_SieveOf.calls kj1 _ _ t376 a0_4 t379 t380 t381 t382 t385 false _ ?side1 ?side2 A24.out).mono ?_
        (case side1 => repeat (first | exact (Kd.R_reads' HO378.out).2.2 | (with_reducible refine Kd.C_alloc ?_ _) | (with_reducible refine Kd.C_drewN ?_ _) | (with_reducible refine Kd.C_drew ?_))); (case side2 => exact (Kd.R_reads' HO378.out).2.1); rintro e w73 ⟨v383, rfl, ho0, hb⟩; refine ⟨_, rfl, ?_⟩; replace HO374 := zA HO374 hb; have HO384 := z0 (Kd.R_lower (Kd.R_new' ho0 (Kd.R_lt (zr HO378.out))) (below_size (zb HB.out))); replace HO378 := z0 (Kd.R_elder' (zr HO378.out) (Kd.R_base ho0) hb); replace BK367 := zK BK367 hb; replace BK387 := zK BK387 hb; replace HB := zH HB hb; (try clear hb ho0); refine hK.out _ _ (zb5 BK367.out) (fun hHeld => ?_); clear hK K; refine znm ?_; refine zu 5 319 ?_; refine zu 6 383 ?_; refine zu 7 511 ?_; exact norm_ (by simp only [putAll, Act.put, List.setIfInBounds_toArray, List.set_cons_zero, List.set_cons_succ]) (hCont (.slice Ao72 t376.length co72, v383, gb387) _ ⟨hHeld, (zr HO374.out), (Kd.R_mono (zr HO378.out) (fun _ hk => hk.2)), (Kd.R_mono (zr HO384.out) (fun _ hk => hk.2)), (zl BK367.out), (zl BK387.out), GE387.out, GE387.out, NB367_387.out, NB387_367.out, (zb HB.out)⟩)
      rintro ⟨v377, v383, gb387⟩ w74 ⟨hS_, h0_, h1_, h2_, h3_, h4_, h5_, h6_, h7_, h8_, h9_⟩; have n0_ : Aside0 (Kd.R k93 93 w74 w.heap.size (fun _ => True) (.slice Ao68 t372.length co68) t372) := ⟨h0_⟩; have n1_ : Aside0 (Kd.R Kd.string 9 w74 w.heap.size (fun k_ => some k_ ≠ (v383 : Value).ownBlock) v377 t376) := ⟨h1_⟩; have n2_ : Aside0 (Kd.R Kd.string 9 w74 w.heap.size (fun k_ => some k_ ≠ (v377 : Value).ownBlock) v383 t382) := ⟨h2_⟩; have n3_ : Aside0 (w74.heap[gb367]? = some (.cells #[.string a0_0, .string a0_1, .string a0_2, .slice A0_3 l0_3.length c0_3, .int .i64 a0_4] 25 (0, 0))) := ⟨h3_⟩; have n4_ : Aside0 (w74.heap[gb387]? = some (.cells #[.string ⟨#[]⟩, .string ⟨#[]⟩, .string ⟨#[]⟩, .slice none 0 0, .int .i64 0] 25 (0, 0))) := ⟨h4_⟩; have n5_ : Aside0 (w.heap.size ≤ gb387) := ⟨h5_⟩; have n6_ : Aside0 (w.heap.size ≤ gb387) := ⟨h6_⟩; have n7_ : Aside0 (gb367 ≠ gb387) := ⟨h7_⟩; have n8_ : Aside0 (gb387 ≠ gb367) := ⟨h8_⟩; have n9_ : Aside0 (Below w.heap.size w w74) := ⟨h9_⟩; clear HO374; clear BK367; clear HB; clear h0_ h1_ h2_ h3_ h4_ h5_ h6_ h7_ h8_ h9_; have HO374 := n0_; have HO378 := n1_; have HO384 := n2_; have BK367 := n3_; have BK387 := n4_; have GE387 := n5_; have GE387 := n6_; have NB367_387 := n7_; have NB387_367 := n8_; have HB := n9_; clear n0_ n1_ n2_ n3_ n4_ n5_ n6_ n7_ n8_ n9_; have hHeld : w74.cell? ⟨gb367, 0, none⟩ = some (.string a0_0) ∧ w74.cell? ⟨gb367, 1, none⟩ = some (.string a0_1) ∧ w74.cell? ⟨gb367, 2, none⟩ = some (.string a0_2) ∧ w74.cell? ⟨gb367, 3, none⟩ = some (.slice A0_3 l0_3.length c0_3) ∧ w74.cell? ⟨gb367, 4, none⟩ = some (.int .i64 a0_4) := hS_; obtain ⟨Ao78, co78, eo78⟩ := Kd.R_slice HO384.out; (first | subst eo78 | (injection eo78 with f1_ f2_ f3_; have f4_ := f1_.symm; have f5_ := f3_.symm; clear f1_ f2_ f3_; subst f4_; subst f5_)); refine norm_ (a' := ?_) ?_ ?_; rotate_left
      ·simp only [putAll, Act.put, List.setIfInBounds_toArray, List.set_cons_zero, List.set_cons_succ]
       rfl
      refine zone 9 1023 (fun K hK => ?_); have hs75 : w74.cell? ⟨gb387, 0, none⟩ = some (.string ⟨#[]⟩) := (blk_cell BK387.out 0).trans rfl; have hfs75 := blk_frozen BK387.out 0; have hns75_0 := NB367_387.out; have hms75_0 := NB387_367.out; have hs76 : w74.cell? ⟨gb387, 1, none⟩ = some (.string ⟨#[]⟩) := (blk_cell BK387.out 1).trans rfl; have hfs76 := blk_frozen BK387.out 1; have hns76_0 := NB367_387.out; have hms76_0 := NB387_367.out; have hs77 : w74.cell? ⟨gb387, 2, none⟩ = some (.string ⟨#[]⟩) := (blk_cell BK387.out 2).trans rfl; have hfs77 := blk_frozen BK387.out 2; have hns77_0 := NB367_387.out; have hms77_0 := NB387_367.out; have hs79 : w74.cell? ⟨gb387, 3, none⟩ = some (.slice none 0 0) := (blk_cell BK387.out 3).trans rfl; have hfs79 := blk_frozen BK387.out 3; have hns79_0 := NB367_387.out; have hms79_0 := NB387_367.out; have hs80 : w74.cell? ⟨gb387, 4, none⟩ = some (.int .i64 0) := (blk_cell BK387.out 4).trans rfl; have hfs80 := blk_frozen BK387.out 4; have hns80_0 := NB367_387.out; have hms80_0 := NB387_367.out; refine skip_ (w1 := ?_) (by rfl) rfl ?_ ?_; rotate_left
      ·go_simp
       rfl
      refine hK.out _ _ ⟨((cell_far (p := ⟨gb387, _, none⟩) NB367_387.out _).trans (((cell_far (p := ⟨gb387, _, none⟩) NB367_387.out _).trans (((cell_far (p := ⟨gb387, _, none⟩) NB367_387.out _).trans (((cell_far (p := ⟨gb387, _, none⟩) NB367_387.out _).trans (((cell_far (p := ⟨gb387, _, none⟩) NB367_387.out _).trans (hHeld.1)))))))))), ((cell_far (p := ⟨gb387, _, none⟩) NB367_387.out _).trans (((cell_far (p := ⟨gb387, _, none⟩) NB367_387.out _).trans (((cell_far (p := ⟨gb387, _, none⟩) NB367_387.out _).trans (((cell_far (p := ⟨gb387, _, none⟩) NB367_387.out _).trans (((cell_far (p := ⟨gb387, _, none⟩) NB367_387.out _).trans (hHeld.2.1)))))))))), ((cell_far (p := ⟨gb387, _, none⟩) NB367_387.out _).trans (((cell_far (p := ⟨gb387, _, none⟩) NB367_387.out _).trans (((cell_far (p := ⟨gb387, _, none⟩) NB367_387.out _).trans (((cell_far (p := ⟨gb387, _, none⟩) NB367_387.out _).trans (((cell_far (p := ⟨gb387, _, none⟩) NB367_387.out _).trans (hHeld.2.2.1)))))))))), ((cell_far (p := ⟨gb387, _, none⟩) NB367_387.out _).trans (((cell_far (p := ⟨gb387, _, none⟩) NB367_387.out _).trans (((cell_far (p := ⟨gb387, _, none⟩) NB367_387.out _).trans (((cell_far (p := ⟨gb387, _, none⟩) NB367_387.out _).trans (((cell_far (p := ⟨gb387, _, none⟩) NB367_387.out _).trans (hHeld.2.2.2.1)))))))))), ((cell_far (p := ⟨gb387, _, none⟩) NB367_387.out _).trans (((cell_far (p := ⟨gb387, _, none⟩) NB367_387.out _).trans (((cell_far (p := ⟨gb387, _, none⟩) NB367_387.out _).trans (((cell_far (p := ⟨gb387, _, none⟩) NB367_387.out _).trans (((cell_far (p := ⟨gb387, _, none⟩) NB367_387.out _).trans (hHeld.2.2.2.2))))))))))⟩ (fun hHeld => ?_); clear hK K; refine zu 10 2047 ?_; refine done_ (done_of HT_.out (by kernel_rfl)) ?_
      try go_wp2
      go_ret2
      exact ⟨_, ze, by first | exact Kd.R_nil _ _ _ _ _ | exact Kd.N_nil _ _ _ _ _ | exact Kd.V_nil _ _ _ _ _ | exact Kd.Q_nil _ _ _ _ _ | exact Kd.S_nil _ _ _ _ _, zb HB.out⟩
    ·replace c22 := Bool.eq_false_iff.mpr c22; subst c22
     have H1 : (some (([] : List (S93)), false)) = some (r1, r2) := by rw [if_neg (show ¬ (false = true) by decide)] at H; exact H
     clear H; have H := H1; clear H1; simp only [Option.some.injEq, Prod.mk.injEq] at H; obtain ⟨rfl, rfl⟩ := H; have hcz81 := zc5 BK367.out
     go_wp2_with (first | ((with_reducible refine gc 118 ?_); refine zL (some 52) Try.func118 #[.agg #[.string a0_0, .string a0_1, .string a0_2, .slice A0_3 l0_3.length c0_3, .int .i64 a0_4], .int .i64 0, .string ⟨#[]⟩, .slice none 0 0] ?_; (refine (impl_Sieve_parts.calls kj1 a0_0 a0_1 a0_2 _ _ l0_3 a0_4 0 (⟨#[]⟩ : ByteArray) (fun k_ => some k_ = (.slice none 0 0 : Value).ownBlock) (.slice none 0 0) ([] : List (S93)) t372 false w _ ?side1 ?side2 ?side3 ?side4 A21.out).mono ?_); (case side1 => repeat (first | (with_reducible first | exact HB.out | apply below_alloc | apply pw_below_drewN | apply below_drew1 | refine below_set ?_ GE367.out) | exact HB.out)); (case side2 => exact Kd.C_kept_came Kd.heap_string HR0_3.out (zb HB.out) (fun k_ hs_ => (fun e_ => by simp [Value.ownBlock] at e_) hs_)); (case side3 => exact HC0_3.out); (case side4 => exact Kd.R_nil _ _ _ _ _); rintro e w82 ⟨v373, rfl, ho0, hb, hkp⟩; refine ⟨_, rfl, ?_⟩; replace BK367 := z0 (blk_kept (zl BK367.out) hkp (fun hs_ => (fun e_ => by simp [Value.ownBlock] at e_) hs_)); have HO374 := z0 (Kd.R_mono (ok' := fun k_ => True) ho0 (fun k_ hk_ => trivial)); replace HB := z0 (hb); (try clear hb); (try clear hkp); (try clear ho0)))
     go_ret2
     exact ⟨_, ze, by first | exact Kd.R_nil _ _ _ _ _ | exact Kd.N_nil _ _ _ _ _ | exact Kd.V_nil _ _ _ _ _ | exact Kd.Q_nil _ _ _ _ _ | exact Kd.S_nil _ _ _ _ _, zb HB.out⟩
theorem stringslite_HasPrefix.calls (a0 a1 : ByteArray) (r : Bool) (w : World) (h : stringslite_HasPrefix.f a0 a1 = some r) :
    Calls Try.prog 120 #[.string a0, .string a1] w fun e w' => e = .returned (.bool r) ∧ Drawn0 w w' := by
 have H : (if (a0.size : Int) ≥ (a1.size : Int) then (if 0 ≤ (a1.size : Int) then (if (a1.size : Int) ≤ (a0.size : Int) then (some ((a0.extract 0 ((a1.size : Int) : Int).toNat).toList == a1.toList)) else (none)) else (none)) else (some false)) = some r := h; clear h
 by_cases c3 : (a0.size : Int) ≥ (a1.size : Int)
 ·rw [if_pos c3] at H; have c3b0 : decide ((a1.size : Int) ≤ (a0.size : Int)) = true := decide_eq_true c3; have c3b1 : decide (a1.size ≤ a0.size) = true := decide_eq_true (Int.ofNat_le.mp c3); clear c3; replace H := zn H; obtain ⟨c4, H⟩ := H; have c4b0 := eq_true c4; have c4b1 := decide_eq_true c4; clear c4; replace H := zn H; obtain ⟨c5, H⟩ := H; have c5b0 := eq_true c5; have c5b1 := decide_eq_true c5; clear c5; obtain rfl := Option.some.inj H; go_enter Try.func120, Try.ntmps120; go_wp2; go_ret; exact ⟨zf, by repeat (first | exact Drawn0.refl _ | apply Drawn0.step)⟩
 ·rw [if_neg c3] at H; have c3b0 : decide ((a1.size : Int) ≤ (a0.size : Int)) = false := decide_eq_false c3; have c3b1 : decide (a1.size ≤ a0.size) = false := decide_eq_false (fun h => c3 (Int.ofNat_le.mpr h)); clear c3; obtain rfl := Option.some.inj H; go_enter Try.func120, Try.ntmps120; go_wp2; go_ret; exact ⟨zf, by repeat (first | exact Drawn0.refl _ | apply Drawn0.step)⟩
theorem strings_HasPrefix.calls (a0 a1 : ByteArray) (r : Bool) (w : World) (h : strings_HasPrefix.f a0 a1 = some r) :
    Calls Try.prog 91 #[.string a0, .string a1] w fun e w' => e = .returned (.bool r) ∧ Drawn0 w w' := by
 have H : ((stringslite_HasPrefix.f a0 a1).bind fun t394 => (some t394)) = some r := h; clear h; replace H := zi H; obtain ⟨t394, A3, H⟩ := H; obtain rfl := Option.some.inj H; go_enter Try.func91, Try.ntmps91
 go_wp2_with (first | ((with_reducible refine gc 120 ?_); refine zL (some 7) Try.func120 #[.string a0, .string a1] ?_; (with_reducible refine (stringslite_HasPrefix.calls a0 a1 t394 _ A3.out).mono ?_); rintro e w' ⟨rfl, ⟨nd, rfl⟩⟩; refine ⟨_, rfl, ?_⟩))
 go_ret; exact ⟨zf, by repeat (first | exact Drawn0.refl _ | apply Drawn0.step)⟩
theorem impl_KeyBegins.calls (a0 a1 : ByteArray) (r : Bool) (w : World) (h : impl_KeyBegins.f a0 a1 = some r) :
    Calls Try.prog 42 #[.string a0, .string a1] w fun e w' => e = .returned (.bool r) ∧ Drawn0 w w' := by
 have H : ((strings_HasPrefix.f a0 a1).bind fun t395 => (some t395)) = some r := h; clear h; replace H := zi H; obtain ⟨t395, A3, H⟩ := H; obtain rfl := Option.some.inj H; go_enter Try.func42, Try.ntmps42
 go_wp2_with (first | ((with_reducible refine gc 91 ?_); refine zL (some 7) Try.func91 #[.string a0, .string a1] ?_; (with_reducible refine (strings_HasPrefix.calls a0 a1 t395 _ A3.out).mono ?_); rintro e w' ⟨rfl, ⟨nd, rfl⟩⟩; refine ⟨_, rfl, ?_⟩))
 go_ret; exact ⟨zf, by repeat (first | exact Drawn0.refl _ | apply Drawn0.step)⟩
theorem impl_SieveSeek.mono_l : ∀ k, (∀ y0 y1 y2, LeO (impl_SieveSeek.j0 k y0 y1 y2) (impl_SieveSeek.j0 (k + 1) y0 y1 y2)) ∧ (∀ y0 y1 y2 y3, LeO (impl_SieveSeek.l0 k y0 y1 y2 y3) (impl_SieveSeek.l0 (k + 1) y0 y1 y2 y3))
  | 0 => ⟨fun _ _ _ r h => by simp [impl_SieveSeek.j0] at h, fun _ _ _ _ r h => by simp [impl_SieveSeek.l0] at h⟩
  | k + 1 => by
    obtain ⟨ih0, ih1⟩ := impl_SieveSeek.mono_l k
    refine ⟨?_, ?_⟩
    · intro y0 y1 y2
      unfold impl_SieveSeek.j0
      repeat' first | (with_reducible first | apply ih0 | apply ih1 | apply impl_KeyOk.mono | apply impl_Sieve_heads.mono | exact LeO.refl _ | exact LeO.none _ | refine LeO.ite ?_ ?_ | refine LeO.bind ?_ (fun _ => ?_)) | exact LeO.none _ | refine LeO.ite ?_ ?_ | refine LeO.bind ?_ (fun _ => ?_)
    · intro y0 y1 y2 y3
      unfold impl_SieveSeek.l0
      repeat' first | (with_reducible first | apply ih0 | apply ih1 | apply impl_KeyOk.mono | apply impl_Sieve_heads.mono | exact LeO.refl _ | exact LeO.none _ | refine LeO.ite ?_ ?_ | refine LeO.bind ?_ (fun _ => ?_)) | exact LeO.none _ | refine LeO.ite ?_ ?_ | refine LeO.bind ?_ (fun _ => ?_)
theorem impl_SieveSeek.mono : ∀ a0 a1 a2 a3 a4 a5 k, LeO (impl_SieveSeek.f k a0 a1 a2 a3 a4 a5) (impl_SieveSeek.f (k + 1) a0 a1 a2 a3 a4 a5) := by
  intro a0 a1 a2 a3 a4 a5 k
  obtain ⟨ih0, ih1⟩ := impl_SieveSeek.mono_l k
  unfold impl_SieveSeek.f
  repeat' first | (with_reducible first | apply ih0 | apply ih1 | apply impl_KeyOk.mono | apply impl_Sieve_heads.mono | exact LeO.refl _ | exact LeO.none _ | refine LeO.ite ?_ ?_ | refine LeO.bind ?_ (fun _ => ?_)) | exact LeO.none _ | refine LeO.ite ?_ ?_ | refine LeO.bind ?_ (fun _ => ?_)
theorem impl_SieveSeek.calls (k : Nat) (a0_0 a0_1 a0_2 : ByteArray) (A0_3 : Option Addr) (c0_3 : Nat) (l0_3 : List ByteArray) (a0_4 : Int) (a1 r1 : ByteArray) (r2 : Bool) (w : World) (hr0_3 : Kd.C Kd.string w A0_3 l0_3.length l0_3) (hc0_3 : l0_3.length ≤ c0_3) (h : impl_SieveSeek.f k a0_0 a0_1 a0_2 l0_3 a0_4 a1 = some (r1, r2)) :
    Calls Try.prog 44 #[.agg #[.string a0_0, .string a0_1, .string a0_2, .slice A0_3 l0_3.length c0_3, .int .i64 a0_4], .string a1] w fun e w' => e = .returned (.tuple #[.string r1, .bool r2]) ∧ Below w.heap.size w w' := by
 have hu25 := Try.underlying25; have hu93 := Try.underlying93; have HR0_3 := z0 hr0_3; have HC0_3 := z0 hc0_3; clear hr0_3 hc0_3; have HB := z0 (Below.refl w.heap.size w); have H : ((impl_Sieve_heads.f k a0_0 a0_1 a0_2 l0_3 a0_4).bind fun bt473 => (if bt473.2 = true then ((impl_KeyOk.f k a1).bind fun t477 => (impl_SieveSeek.j0 k a1 bt473.1 (!t477))) else (impl_SieveSeek.j0 k a1 bt473.1 true))) = some (r1, r2) := h; clear h; replace H := zi H; obtain ⟨⟨t473, t476⟩, A3, H⟩ := H; (try dsimp only at H); have HC4 := z0 H; clear H; go_enter Try.func44, Try.ntmps44
 go_upto_region 2 with (first | ((with_reducible refine gd 2 ?_); refine zbx 25 #[.string a0_0, .string a0_1, .string a0_2, .slice A0_3 l0_3.length c0_3, .int .i64 a0_4] ?_; intro gb472 hg w5 hbox hb; have BK472 := z0 (hbox); have GE472 := zG hg HB; replace HB := zH HB hb; clear hb hbox hg; have hcz6 := zc5 BK472.out) | ((with_reducible refine gc 89 ?_); refine zL (some 12) Try.func89 #[.agg #[.string a0_0, .string a0_1, .string a0_2, .slice A0_3 l0_3.length c0_3, .int .i64 a0_4]] ?_; (with_reducible refine (impl_Sieve_heads.calls k a0_0 a0_1 a0_2 _ _ l0_3 a0_4 t473 t476 _ (zC (Kd.C_below HR0_3.out HB.out)) HC0_3.out A3.out).mono ?_); rintro e w7 ⟨v474, rfl, ho0, hb⟩; refine zv ?_; have HO475 := z0 (Kd.R_lower ho0 (below_size (zb HB.out))); replace BK472 := zK BK472 hb; replace HB := zH HB hb; (try clear hb ho0)))
 (try simp only [Act.put, List.setIfInBounds_toArray, List.set_cons_zero, List.set_cons_succ])
 go_cut [21] (fun v21 wc => ∃ (kq : Nat) (x21_3 : Bool), v21 = .bool x21_3 ∧ Aside0 (impl_SieveSeek.j0 kq a1 t473 x21_3 = some (r1, r2)) ∧ Aside0 (kq ≤ k) ∧ Aside0 (Kd.R k93 93 wc w.heap.size (fun _ => True) v474 t473) ∧ Aside0 (wc.heap[gb472]? = some (.cells #[.string a0_0, .string a0_1, .string a0_2, (.slice A0_3 l0_3.length c0_3), .int .i64 a0_4] 25 (0, 0))) ∧ Aside0 (Below w.heap.size w wc))
 case first =>
  have H := HC4.out; clear HC4
  by_cases c8 : t476 = true
  ·subst c8
   have H1 : ((impl_KeyOk.f k a1).bind fun t477 => (impl_SieveSeek.j0 k a1 t473 (!t477))) = some (r1, r2) := by rw [if_pos rfl] at H; exact H
   clear H; have H := H1; clear H1; replace H := zi H; obtain ⟨t477, A9, H⟩ := H; have H' := z0 H; clear H
   go_wp2_with (first | (go_at_call 67; (with_reducible refine (impl_KeyOk.calls k a1 t477 _ A9.out).mono ?_); rintro e w' ⟨rfl, ⟨nd, rfl⟩⟩))
   go_meet
   case rel => exact ⟨_, (!t477), zf, H', ⟨by first | omega | exact Nat.le_refl _⟩, ⟨zr HO475.out⟩, ⟨zl BK472.out⟩, ⟨zb HB.out⟩⟩
  ·replace c8 := Bool.eq_false_iff.mpr c8; subst c8
   have H1 : (impl_SieveSeek.j0 k a1 t473 true) = some (r1, r2) := by rw [if_neg (show ¬ (false = true) by decide)] at H; exact H
   clear H; have H := H1; clear H1; have H' := z0 H; clear H; go_wp2; go_meet
   case rel => exact ⟨_, (true), zf, H', ⟨by first | omega | exact Nat.le_refl _⟩, ⟨zr HO475.out⟩, ⟨zl BK472.out⟩, ⟨zb HB.out⟩⟩
 case rest =>
  clear HC4
  try clear p2
  try clear c4
  try clear c8
  try clear hcz6
  obtain ⟨kq, x21_3, rfl, HA, HJ3, HO_6, BK472, HB⟩ := hcut
  cases kq with
  | zero => exact absurd HA.out (by simp [impl_SieveSeek.j0])
  | succ kj3 =>
   have H := HA.out; clear HA; simp only [impl_SieveSeek.j0] at H
   by_cases c10 : x21_3 = true
   ·subst c10
    have H1 : (some ((⟨#[]⟩ : ByteArray), false)) = some (r1, r2) := by rw [if_pos rfl] at H; exact H
    clear H; have H := H1; clear H1; simp only [Option.some.injEq, Prod.mk.injEq] at H; obtain ⟨rfl, rfl⟩ := H; go_wp2
    go_ret2
    exact ⟨ze, zb HB.out⟩
   ·replace c10 := Bool.eq_false_iff.mpr c10; subst c10
    have H1 : (impl_SieveSeek.l0 kj3 a1 t473 (t473.length : Int) 0) = some (r1, r2) := by rw [if_neg (show ¬ (false = true) by decide)] at H; exact H
    clear H; have H := H1; clear H1; have H' := z0 H; clear H; obtain ⟨Ao11, co11, eo11⟩ := Kd.R_slice HO_6.out; subst eo11; go_wp2
    go_loopg [24] kj3 (fun kq v24 w' => ∃ (x24_2 : Int), v24 = .int .i64 x24_2 ∧ Aside0 (impl_SieveSeek.l0 kq a1 t473 (t473.length : Int) x24_2 = some (r1, r2)) ∧ Aside0 (kq ≤ kj3) ∧ Aside0 (Kd.R k93 93 w' w.heap.size (fun _ => True) (.slice Ao11 t473.length co11) t473) ∧ Aside0 (w'.heap[gb472]? = some (.cells #[.string a0_0, .string a0_1, .string a0_2, (.slice A0_3 l0_3.length c0_3), .int .i64 a0_4] 25 (0, 0))) ∧ Aside0 (Below w.heap.size w w'))
    case atStart => exact ⟨(0), zf, H', ⟨Nat.le_refl _⟩, ⟨zr HO_6.out⟩, ⟨zl BK472.out⟩, ⟨zb HB.out⟩⟩
    case round =>
     clear H'
     try clear c1
     try clear p2
     try clear c4
     try clear c8
     try clear c10
     try clear hcz6
     try clear p2
     obtain ⟨x24_2, rfl, HA, HK2, HO_22, BK472, HB⟩ := hrel
     cases gk with
     | zero => exact absurd HA.out (by simp [impl_SieveSeek.l0])
     | succ k2 =>
      have H := HA.out; clear HA; simp only [impl_SieveSeek.l0] at H
      by_cases c12 : x24_2 < (t473.length : Int)
      ·rw [if_pos c12] at H; have c12b0 := decide_eq_true c12; clear c12; replace H := zn H; obtain ⟨c13, H⟩ := H; have c13b0 := decide_eq_true c13; clear c13; replace H := zn H; obtain ⟨c14, H⟩ := H; have c14b0 := decide_eq_true c14; clear c14
       by_cases c15 : ((Op.bytesLess (((rd_T93 t473 x24_2).f0).toList) a1.toList) = true)
       ·rw [if_pos c15] at H; have c15b0 : (Op.bytesLess (((rd_T93 t473 x24_2).f0).toList) a1.toList) = true := c15; clear c15; obtain ⟨bq16, hbq16⟩ : ∃ b_ : Bool, b_ = ((rd_T93 t473 x24_2).f1) := ⟨_, rfl⟩
        replace H : (if (bq16 = true) then (impl_SieveSeek.l0 k2 a1 t473 (t473.length : Int) (wrap64 (x24_2 + 1))) else ((impl_KeyBegins.f a1 ((rd_T93 t473 x24_2).f0)).bind fun t480 => (if t480 = true then (some ((rd_T93 t473 x24_2).f0, true)) else (impl_SieveSeek.l0 k2 a1 t473 (t473.length : Int) (wrap64 (x24_2 + 1)))))) = some (r1, r2) := by rw [← hbq16] at H; exact H
        have Nbq16 := z0 hbq16; clear hbq16
        by_cases c17 : (bq16 = true)
        ·subst c17
         have H1 : (impl_SieveSeek.l0 k2 a1 t473 (t473.length : Int) (wrap64 (x24_2 + 1))) = some (r1, r2) := by rw [if_pos rfl] at H; exact H
         clear H; have H := H1; clear H1; have H' := z0 H; clear H; have p478 : 0 ≤ (x24_2 : Int) := zd; have q478 : x24_2 < (t473.length : Int) := zd; obtain ⟨ad478, e478, hx478_0, hx478_1⟩ := at_T93 (Kd.R_reads' HO_22.out).2.2 x24_2 p478 q478; (try rw [← Nbq16.out] at hx478_1); cases e478; replace p478 := eq_true p478; replace q478 := eq_true q478
         go_wp2_with (first | ((with_reducible refine gd 9 ?_); refine zbx 93 #[.string ⟨#[]⟩, .bool false] ?_; intro gb479 hg w18 hbox hb; replace HO_22 := z0 (Kd.R_below (Kd.R_elderB (zr HO_22.out) gb479 (Nat.le_of_eq hg.symm)) hb); have BK479 := z0 (hbox); have GE479 := zG hg HB; replace HB := zH HB hb; have NB472_479 := zLt hg BK472; have NB479_472 := zGt hg BK472; replace BK472 := zK BK472 hb; clear hb hbox hg; have hnb19 := NB479_472.out; have hnc19 := NB472_479.out; have hcz20 := zc2 BK479.out))
         go_roundg k2
         case measure => have := HJ3.out; have := HK2.out; omega
         case rel => exact ⟨(wrap64 (x24_2 + 1)), zf, H', ⟨by have := HJ3.out; have := HK2.out; omega⟩, ⟨Kd.R_mono (zr (Kd.R_far (p := ⟨gb479, 1, none⟩) (Kd.R_far (p := ⟨gb479, 0, none⟩) (Kd.R_mono HO_22.out (fun k_ hk => (⟨hk, hk.2⟩ : _ ∧ k_ ≠ gb479))) (fun _ hk => hk.2) (.string ((rd_T93 t473 x24_2).f0))) (fun _ hk => hk.2) (.bool true))) (fun _ hk => trivial)⟩, ⟨zy BK472.out⟩, ⟨zb HB.out⟩⟩
        ·replace c17 := Bool.eq_false_iff.mpr c17; subst c17
         have H1 : ((impl_KeyBegins.f a1 ((rd_T93 t473 x24_2).f0)).bind fun t480 => (if t480 = true then (some ((rd_T93 t473 x24_2).f0, true)) else (impl_SieveSeek.l0 k2 a1 t473 (t473.length : Int) (wrap64 (x24_2 + 1))))) = some (r1, r2) := by rw [if_neg (show ¬ (false = true) by decide)] at H; exact H
         clear H; have H := H1; clear H1; replace H := zi H; obtain ⟨t480, A21, H⟩ := H
         by_cases c22 : t480 = true
         ·subst c22
          have H1 : (some ((rd_T93 t473 x24_2).f0, true)) = some (r1, r2) := by rw [if_pos rfl] at H; exact H
          clear H; have H := H1; clear H1; simp only [Option.some.injEq, Prod.mk.injEq] at H; obtain ⟨rfl, rfl⟩ := H; have p478 : 0 ≤ (x24_2 : Int) := zd; have q478 : x24_2 < (t473.length : Int) := zd; obtain ⟨ad478, e478, hx478_0, hx478_1⟩ := at_T93 (Kd.R_reads' HO_22.out).2.2 x24_2 p478 q478; (try rw [← Nbq16.out] at hx478_1); cases e478; replace p478 := eq_true p478; replace q478 := eq_true q478
          go_wp2_with (first | ((with_reducible refine gd 9 ?_); refine zbx 93 #[.string ⟨#[]⟩, .bool false] ?_; intro gb479 hg w23 hbox hb; replace HO_22 := z0 (Kd.R_below (Kd.R_elderB (zr HO_22.out) gb479 (Nat.le_of_eq hg.symm)) hb); have BK479 := z0 (hbox); have GE479 := zG hg HB; replace HB := zH HB hb; have NB472_479 := zLt hg BK472; have NB479_472 := zGt hg BK472; replace BK472 := zK BK472 hb; clear hb hbox hg; have hnb24 := NB479_472.out; have hnc24 := NB472_479.out; have hcz25 := zc2 BK479.out) | (go_at_call 42; (with_reducible refine (impl_KeyBegins.calls a1 ((rd_T93 t473 x24_2).f0) true _ A21.out).mono ?_); rintro e w' ⟨rfl, ⟨nd, rfl⟩⟩))
          go_ret2
          exact ⟨ze, zb HB.out⟩
         ·replace c22 := Bool.eq_false_iff.mpr c22; subst c22
          have H1 : (impl_SieveSeek.l0 k2 a1 t473 (t473.length : Int) (wrap64 (x24_2 + 1))) = some (r1, r2) := by rw [if_neg (show ¬ (false = true) by decide)] at H; exact H
          clear H; have H := H1; clear H1; have H' := z0 H; clear H; have p478 : 0 ≤ (x24_2 : Int) := zd; have q478 : x24_2 < (t473.length : Int) := zd; obtain ⟨ad478, e478, hx478_0, hx478_1⟩ := at_T93 (Kd.R_reads' HO_22.out).2.2 x24_2 p478 q478; (try rw [← Nbq16.out] at hx478_1); cases e478; replace p478 := eq_true p478; replace q478 := eq_true q478
          go_wp2_with (first | ((with_reducible refine gd 9 ?_); refine zbx 93 #[.string ⟨#[]⟩, .bool false] ?_; intro gb479 hg w26 hbox hb; replace HO_22 := z0 (Kd.R_below (Kd.R_elderB (zr HO_22.out) gb479 (Nat.le_of_eq hg.symm)) hb); have BK479 := z0 (hbox); have GE479 := zG hg HB; replace HB := zH HB hb; have NB472_479 := zLt hg BK472; have NB479_472 := zGt hg BK472; replace BK472 := zK BK472 hb; clear hb hbox hg; have hnb27 := NB479_472.out; have hnc27 := NB472_479.out; have hcz28 := zc2 BK479.out) | (go_at_call 42; (with_reducible refine (impl_KeyBegins.calls a1 ((rd_T93 t473 x24_2).f0) false _ A21.out).mono ?_); rintro e w' ⟨rfl, ⟨nd, rfl⟩⟩))
          go_roundg k2
          case measure => have := HJ3.out; have := HK2.out; omega
          case rel => exact ⟨(wrap64 (x24_2 + 1)), zf, H', ⟨by have := HJ3.out; have := HK2.out; omega⟩, ⟨Kd.R_mono (zr (Kd.R_far (p := ⟨gb479, 1, none⟩) (Kd.R_far (p := ⟨gb479, 0, none⟩) (Kd.R_mono HO_22.out (fun k_ hk => (⟨hk, hk.2⟩ : _ ∧ k_ ≠ gb479))) (fun _ hk => hk.2) (.string ((rd_T93 t473 x24_2).f0))) (fun _ hk => hk.2) (.bool false))) (fun _ hk => trivial)⟩, ⟨zy BK472.out⟩, ⟨zb HB.out⟩⟩
       ·rw [if_neg c15] at H
        have c15b0 : (Op.bytesLess (((rd_T93 t473 x24_2).f0).toList) a1.toList) = false := by simpa using c15
        clear c15; simp only [Option.some.injEq, Prod.mk.injEq] at H; obtain ⟨rfl, rfl⟩ := H; have p478 : 0 ≤ (x24_2 : Int) := zd; have q478 : x24_2 < (t473.length : Int) := zd; obtain ⟨ad478, e478, hx478_0, hx478_1⟩ := at_T93 (Kd.R_reads' HO_22.out).2.2 x24_2 p478 q478; cases e478; replace p478 := eq_true p478; replace q478 := eq_true q478
        go_wp2_with (first | ((with_reducible refine gd 9 ?_); refine zbx 93 #[.string ⟨#[]⟩, .bool false] ?_; intro gb479 hg w29 hbox hb; replace HO_22 := z0 (Kd.R_below (Kd.R_elderB (zr HO_22.out) gb479 (Nat.le_of_eq hg.symm)) hb); have BK479 := z0 (hbox); have GE479 := zG hg HB; replace HB := zH HB hb; have NB472_479 := zLt hg BK472; have NB479_472 := zGt hg BK472; replace BK472 := zK BK472 hb; clear hb hbox hg; have hnb30 := NB479_472.out; have hnc30 := NB472_479.out; have hcz31 := zc2 BK479.out))
        go_ret2
        exact ⟨ze, zb HB.out⟩
      ·rw [if_neg c12] at H; have c12b0 := decide_eq_false c12; clear c12; simp only [Option.some.injEq, Prod.mk.injEq] at H; obtain ⟨rfl, rfl⟩ := H; go_wp2
       go_ret2
       exact ⟨ze, zb HB.out⟩
theorem impl_SieveMeets.mono : ∀ a0 a1 a2 a3 a4 a5 a6 k, LeO (impl_SieveMeets.f k a0 a1 a2 a3 a4 a5 a6) (impl_SieveMeets.f (k + 1) a0 a1 a2 a3 a4 a5 a6) := by
  intro a0 a1 a2 a3 a4 a5 a6 k
  unfold impl_SieveMeets.f
  repeat' first | (with_reducible first | apply impl_KeyOk.mono | apply impl_SieveSeek.mono | exact LeO.refl _ | exact LeO.none _ | refine LeO.ite ?_ ?_ | refine LeO.bind ?_ (fun _ => ?_)) | exact LeO.none _ | refine LeO.ite ?_ ?_ | refine LeO.bind ?_ (fun _ => ?_)
theorem impl_SieveMeets.calls (k : Nat) (a0_0 a0_1 a0_2 : ByteArray) (A0_3 : Option Addr) (c0_3 : Nat) (l0_3 : List ByteArray) (a0_4 : Int) (a1 a2 : ByteArray) (r : Bool) (w : World) (hr0_3 : Kd.C Kd.string w A0_3 l0_3.length l0_3) (hc0_3 : l0_3.length ≤ c0_3) (h : impl_SieveMeets.f k a0_0 a0_1 a0_2 l0_3 a0_4 a1 a2 = some r) :
    Calls Try.prog 32 #[.agg #[.string a0_0, .string a0_1, .string a0_2, .slice A0_3 l0_3.length c0_3, .int .i64 a0_4], .string a1, .string a2] w fun e w' => e = .returned (.bool r) ∧ Below w.heap.size w w' := by
 have hu25 := Try.underlying25; have HR0_3 := z0 hr0_3; have HC0_3 := z0 hc0_3; clear hr0_3 hc0_3; have HB := z0 (Below.refl w.heap.size w); have H : ((impl_KeyOk.f k a1).bind fun t482 => (if t482 = true then ((impl_KeyOk.f k a2).bind fun t483 => (if t483 = true then (if (Op.bytesLess a2.toList a1.toList) = true then (some false) else ((impl_SieveSeek.f k a0_0 a0_1 a0_2 l0_3 a0_4 a1).bind fun bt484 => (if bt484.2 = true then (some (!(Op.bytesLess a2.toList bt484.1.toList))) else (some false)))) else (some false))) else (some false))) = some r := h; clear h; replace H := zi H; obtain ⟨t482, A4, H⟩ := H
 by_cases c5 : t482 = true
 ·subst c5
  have H1 : ((impl_KeyOk.f k a2).bind fun t483 => (if t483 = true then (if (Op.bytesLess a2.toList a1.toList) = true then (some false) else ((impl_SieveSeek.f k a0_0 a0_1 a0_2 l0_3 a0_4 a1).bind fun bt484 => (if bt484.2 = true then (some (!(Op.bytesLess a2.toList bt484.1.toList))) else (some false)))) else (some false))) = some r := by rw [if_pos rfl] at H; exact H
  clear H; have H := H1; clear H1; replace H := zi H; obtain ⟨t483, A6, H⟩ := H
  by_cases c7 : t483 = true
  ·subst c7
   have H1 : (if (Op.bytesLess a2.toList a1.toList) = true then (some false) else ((impl_SieveSeek.f k a0_0 a0_1 a0_2 l0_3 a0_4 a1).bind fun bt484 => (if bt484.2 = true then (some (!(Op.bytesLess a2.toList bt484.1.toList))) else (some false)))) = some r := by rw [if_pos rfl] at H; exact H
   clear H; have H := H1; clear H1; go_enter Try.func32, Try.ntmps32
   go_upto_if 21 with (first | ((with_reducible refine gd 3 ?_); refine zbx 25 #[.string a0_0, .string a0_1, .string a0_2, .slice A0_3 l0_3.length c0_3, .int .i64 a0_4] ?_; intro gb481 hg w8 hbox hb; have BK481 := z0 (hbox); have GE481 := zG hg HB; replace HB := zH HB hb; clear hb hbox hg) | ((with_reducible refine gc 67 ?_); refine zL (some 10) Try.func67 #[.string a1] ?_; (with_reducible refine (impl_KeyOk.calls k a1 true _ A4.out).mono ?_); rintro e w' ⟨rfl, ⟨nd, rfl⟩⟩; refine ⟨_, rfl, ?_⟩) | (go_at_call 67; (with_reducible refine (impl_KeyOk.calls k a2 true _ A6.out).mono ?_); rintro e w' ⟨rfl, ⟨nd, rfl⟩⟩))
   by_cases c9 : (Op.bytesLess a2.toList a1.toList) = true
   ·rw [if_pos c9] at H; have c9b0 : (Op.bytesLess a2.toList a1.toList) = true := c9; clear c9; (first | rw [c9b0] | (simp only [i64_w, i32_w]; rw [c9b0]) | simp only [*, Bool.not_true, Bool.not_false] | skip); obtain rfl := Option.some.inj H; go_wp2; go_ret; exact ⟨ze, zb HB.out⟩
   ·rw [if_neg c9] at H
    have c9b0 : (Op.bytesLess a2.toList a1.toList) = false := by simpa using c9
    clear c9; (first | rw [c9b0] | (simp only [i64_w, i32_w]; rw [c9b0]) | simp only [*, Bool.not_true, Bool.not_false] | skip); replace H := zi H; obtain ⟨⟨t484, t485⟩, A10, H⟩ := H; (try dsimp only at H)
    by_cases c11 : t485 = true
    ·subst c11
     have H1 : (some (!(Op.bytesLess a2.toList t484.toList))) = some r := by rw [if_pos rfl] at H; exact H
     clear H; have H := H1; clear H1; obtain rfl := Option.some.inj H; have hcz12 := zc5 BK481.out
     go_wp2_with (first | ((with_reducible refine gc 44 ?_); refine zL (some 25) Try.func44 #[.agg #[.string a0_0, .string a0_1, .string a0_2, .slice A0_3 l0_3.length c0_3, .int .i64 a0_4], .string a1] ?_; (with_reducible refine (impl_SieveSeek.calls k a0_0 a0_1 a0_2 _ _ l0_3 a0_4 a1 t484 true _ (zC (Kd.C_below HR0_3.out HB.out)) HC0_3.out A10.out).mono ?_); rintro e w13 ⟨rfl, hb⟩; refine zv ?_; replace BK481 := zK BK481 hb; replace HB := zH HB hb; (try clear hb)))
     go_ret; exact ⟨ze, zb HB.out⟩
    ·replace c11 := Bool.eq_false_iff.mpr c11; subst c11
     have H1 : (some false) = some r := by rw [if_neg (show ¬ (false = true) by decide)] at H; exact H
     clear H; have H := H1; clear H1; obtain rfl := Option.some.inj H; have hcz14 := zc5 BK481.out
     go_wp2_with (first | ((with_reducible refine gc 44 ?_); refine zL (some 25) Try.func44 #[.agg #[.string a0_0, .string a0_1, .string a0_2, .slice A0_3 l0_3.length c0_3, .int .i64 a0_4], .string a1] ?_; (with_reducible refine (impl_SieveSeek.calls k a0_0 a0_1 a0_2 _ _ l0_3 a0_4 a1 t484 false _ (zC (Kd.C_below HR0_3.out HB.out)) HC0_3.out A10.out).mono ?_); rintro e w15 ⟨rfl, hb⟩; refine zv ?_; replace BK481 := zK BK481 hb; replace HB := zH HB hb; (try clear hb)))
     go_ret; exact ⟨ze, zb HB.out⟩
  ·replace c7 := Bool.eq_false_iff.mpr c7; subst c7
   have H1 : (some false) = some r := by rw [if_neg (show ¬ (false = true) by decide)] at H; exact H
   clear H; have H := H1; clear H1; obtain rfl := Option.some.inj H; go_enter Try.func32, Try.ntmps32
   go_wp2_with (first | ((with_reducible refine gd 3 ?_); refine zbx 25 #[.string a0_0, .string a0_1, .string a0_2, .slice A0_3 l0_3.length c0_3, .int .i64 a0_4] ?_; intro gb481 hg w16 hbox hb; have BK481 := z0 (hbox); have GE481 := zG hg HB; replace HB := zH HB hb; clear hb hbox hg) | ((with_reducible refine gc 67 ?_); refine zL (some 10) Try.func67 #[.string a1] ?_; (with_reducible refine (impl_KeyOk.calls k a1 true _ A4.out).mono ?_); rintro e w' ⟨rfl, ⟨nd, rfl⟩⟩; refine ⟨_, rfl, ?_⟩) | (go_at_call 67; (with_reducible refine (impl_KeyOk.calls k a2 false _ A6.out).mono ?_); rintro e w' ⟨rfl, ⟨nd, rfl⟩⟩))
   go_ret; exact ⟨ze, zb HB.out⟩
 ·replace c5 := Bool.eq_false_iff.mpr c5; subst c5
  have H1 : (some false) = some r := by rw [if_neg (show ¬ (false = true) by decide)] at H; exact H
  clear H; have H := H1; clear H1; obtain rfl := Option.some.inj H; go_enter Try.func32, Try.ntmps32
  go_wp2_with (first | ((with_reducible refine gd 3 ?_); refine zbx 25 #[.string a0_0, .string a0_1, .string a0_2, .slice A0_3 l0_3.length c0_3, .int .i64 a0_4] ?_; intro gb481 hg w17 hbox hb; have BK481 := z0 (hbox); have GE481 := zG hg HB; replace HB := zH HB hb; clear hb hbox hg) | ((with_reducible refine gc 67 ?_); refine zL (some 10) Try.func67 #[.string a1] ?_; (with_reducible refine (impl_KeyOk.calls k a1 false _ A4.out).mono ?_); rintro e w' ⟨rfl, ⟨nd, rfl⟩⟩; refine ⟨_, rfl, ?_⟩))
  go_ret; exact ⟨ze, zb HB.out⟩
def IsS98 (w0 W : World) (g : Nat) (f0 : List Int) (f1 : Int) : Prop := ∃ A0 c0, W.heap[g]? = some (.cells #[.slice A0 f0.length c0, .int .i64 f1] 98 (0, 0)) ∧ w0.heap.size ≤ g ∧ Kd.C (Kd.int .u8) w0 A0 f0.length f0
theorem IsS98.grown {w0 W : World} {g : Nat} {f0 : List Int} {f1 : Int} {W1 : World} {row : Option Nat} (h : IsS98 w0 W g f0 f1) (hw : W.grownBy W1 row) (hne : some g ≠ row) : IsS98 w0 W1 g f0 f1 := by
  obtain ⟨A0, c0, hb, hg, hr0⟩ := h
  exact ⟨A0, c0, blk_grown hb hw hne, hg, hr0⟩
theorem IsS98.kept {w0 W : World} {g : Nat} {f0 : List Int} {f1 : Int} {W1 : World} {S : Nat → Prop} (h : IsS98 w0 W g f0 f1) (hk : Kept W W1 S) (hne : ¬ S g) : IsS98 w0 W1 g f0 f1 := by
  obtain ⟨A0, c0, hb, hg, hr0⟩ := h
  exact ⟨A0, c0, blk_kept hb hk hne, hg, hr0⟩
theorem IsS98.below {w0 W : World} {g : Nat} {f0 : List Int} {f1 : Int} {W1 : World} (h : IsS98 w0 W g f0 f1) (hw : Below W.heap.size W W1) : IsS98 w0 W1 g f0 f1 := h.grown (grown_of_below hw none) (by simp)
theorem IsS98.alloc {w0 W : World} {g : Nat} {f0 : List Int} {f1 : Int} (h : IsS98 w0 W g f0 f1) (o : Obj) : IsS98 w0 (W.alloc o) g f0 f1 := h.below (below_alloc (Below.refl _ _) o)
theorem IsS98.drewN {w0 W : World} {g : Nat} {f0 : List Int} {f1 : Int} (h : IsS98 w0 W g f0 f1) (m : Nat) : IsS98 w0 (W.drewN m) g f0 f1 := h
theorem IsS98.drew {w0 W : World} {g : Nat} {f0 : List Int} {f1 : Int} (h : IsS98 w0 W g f0 f1) : IsS98 w0 W.drew g f0 f1 := h
theorem IsS98.at_ {w0 W : World} {g : Nat} {f0 : List Int} {f1 : Int} {w' : World} {m : Nat} (hq : W.drewN m = w') (h : IsS98 w0 W g f0 f1) : IsS98 w0 w' g f0 f1 := by subst hq; exact IsS98.drewN h m
theorem IsS98.apart {w0 W : World} {g : Nat} {f0 : List Int} {f1 : Int} {α : Type} {d : Kd α} {e : Nat} {base : Nat} {ok : Nat → Prop} {v : Value} {xs : List α} (h : IsS98 w0 W g f0 f1) (ho : d.R e W base ok v xs) (ht : ∀ q, q ∈ e :: d.E → q ≠ 98) : d.R e W base (fun k => ok k ∧ k ≠ g) v xs := by
  obtain ⟨A0, c0, hb, hg, hr0⟩ := h
  exact Kd.R_types ho hb ht
theorem IsS98.own_ne {w0 W : World} {g : Nat} {f0 : List Int} {f1 : Int} {α : Type} {d : Kd α} {e : Nat} {base : Nat} {ok : Nat → Prop} {v : Value} {xs : List α} (h : IsS98 w0 W g f0 f1) (ho : d.R e W base ok v xs) (ht : e ≠ 98) : some g ≠ v.ownBlock := by
  obtain ⟨A0, c0, hb, hg, hr0⟩ := h
  exact Kd.R_ne ho hb ht
theorem IsS98.lt {w0 W : World} {g : Nat} {f0 : List Int} {f1 : Int} (h : IsS98 w0 W g f0 f1) : g < W.heap.size := by
  obtain ⟨A0, c0, hb, hg, hr0⟩ := h
  exact blk_lt hb
theorem IsS98.ge {w0 W : World} {g : Nat} {f0 : List Int} {f1 : Int} (h : IsS98 w0 W g f0 f1) : w0.heap.size ≤ g := by
  obtain ⟨A0, c0, hb, hg, hr0⟩ := h
  exact hg
theorem IsS98.ne_blk {w0 W : World} {g : Nat} {f0 : List Int} {f1 : Int} {a : Nat} {cs : Array Value} {t : TypeId} {fr : Nat × Nat} (h : IsS98 w0 W g f0 f1) (hb2 : W.heap[a]? = some (.cells cs t fr)) (ht : t ≠ 98) : g ≠ a := by
  obtain ⟨A0, c0, hb, hg, hr0⟩ := h
  rintro rfl
  rw [hb] at hb2
  injection hb2 with hb2
  injection hb2 with _ ht2
  exact ht ht2.symm
theorem IsS98.far {w0 W : World} {g : Nat} {f0 : List Int} {f1 : Int} {p : Addr} (h : IsS98 w0 W g f0 f1) (hne : g ≠ p.block) (u : Value) : IsS98 w0 (W.setCell p u) g f0 f1 := by
  obtain ⟨A0, c0, hb, hg, hr0⟩ := h
  exact ⟨A0, c0, blk_far hb hne u, hg, hr0⟩
theorem cellS98_0 {W : World} {g : Nat} {A0 : Option Addr} {c0 : Nat} {f0 : List Int} {f1 : Int} (h : W.heap[g]? = some (.cells #[.slice A0 f0.length c0, .int .i64 f1] 98 (0, 0))) : W.cell? ⟨g, 0, none⟩ = some (.slice A0 f0.length c0) := (blk_cell h 0).trans rfl
theorem cellS98_1 {W : World} {g : Nat} {A0 : Option Addr} {c0 : Nat} {f0 : List Int} {f1 : Int} (h : W.heap[g]? = some (.cells #[.slice A0 f0.length c0, .int .i64 f1] 98 (0, 0))) : W.cell? ⟨g, 1, none⟩ = some (.int .i64 f1) := (blk_cell h 1).trans rfl
theorem IsS98.set_1 {w0 W : World} {g : Nat} {f0 : List Int} {f1 : Int} (h : IsS98 w0 W g f0 f1) (x : Int) : IsS98 w0 (W.setCell ⟨g, 1, none⟩ (.int .i64 x)) g f0 x := by
  obtain ⟨A0, c0, hb, hg, hr0⟩ := h
  exact ⟨A0, c0, by simpa using blk_set hb 1 (.int .i64 x), hg, hr0⟩
theorem IsS98.zI {w0 W : World} {g : Nat} {f0 : List Int} {f1 : Int} {W1 : World} {f0' : List Int} {f1' : Int} (h : IsS98 w0 W g f0 f1) (c : IsS98 w0 W g f0 f1 → IsS98 w0 W1 g f0' f1' := by (intro h_; repeat (first | (with_reducible first | exact h_ | apply IsS98.alloc | apply IsS98.drewN | apply IsS98.drew | apply IsS98.set_1 | refine IsS98.far ?_ (Aside0.out (by assumption)) _) | exact h_))) : IsS98 w0 W1 g f0' f1' := c h
theorem IsS98.zb {w0 W : World} {g : Nat} {f0 : List Int} {f1 : Int} (i : IsS98 w0 W g f0 f1) {w1 w2 : World} (h : Below w0.heap.size w0 w1) (c : w0.heap.size ≤ g → Below w0.heap.size w0 w1 → Below w0.heap.size w0 w2 := by (intro i_ h_; repeat (first | (with_reducible first | exact h_ | apply below_alloc | apply pw_below_drewN | apply below_drew1 | refine below_set ?_ i_ | refine below_set ?_ (Aside0.out (by assumption))) | exact h_))) : Below w0.heap.size w0 w2 := c (IsS98.ge i) h
theorem spec_l6Open.calls (A0 : Option Addr) (c0 : Nat) (l0 r1 : List Int) (r2 : Int) (w0 w : World) (hB : Below w0.heap.size w0 w) (hr0 : Kd.C (Kd.int .u8) w0 A0 l0.length l0) (hc0 : l0.length ≤ c0) (h : spec_l6Open.f l0 = some (r1, r2)) :
    Calls Try.prog 64 #[.slice A0 l0.length c0] w fun e w' => ∃ g_ : Nat, e = .returned (.pointer (some ⟨g_, 0, none⟩)) ∧ IsS98 w0 w' g_ r1 r2 ∧ Below w0.heap.size w0 w' ∧ Below w.heap.size w w' := by
 have hu98 := Try.underlying98; have HR0 := z0 hr0; have HC0 := z0 hc0; clear hr0 hc0; have HBW := z0 (Below.refl w.heap.size w); have HW0 := z0 hB.size; have HB := z0 hB; clear hB; have H : (if (l0.length : Int) > 2000 then (if 2000 ≤ (l0.length : Int) then (some (l0.take 2000, 0)) else (none)) else (some (l0, 0))) = some (r1, r2) := h; clear h
 by_cases c2 : (l0.length : Int) > 2000
 ·rw [if_pos c2] at H; have c2b0 : decide (2000 < (l0.length : Int)) = true := decide_eq_true c2; have c2b1 : decide (2000 < l0.length) = true := decide_eq_true (by omega); clear c2; replace H := zn H; obtain ⟨c3, H⟩ := H; have c3b0 := eq_true c3; have c3b1 := decide_eq_true c3; clear c3; simp only [Option.some.injEq, Prod.mk.injEq] at H; obtain ⟨rfl, rfl⟩ := H; obtain ⟨i04, hi04, _, hsz4, _⟩ := info_parts info5; obtain ⟨hcut4, hA4, hC4⟩ := print_take_of (P := Try.prog) (Value.int .u8) 0 22 5 .i64 Try.underlying22 hi04 hsz4 A0 c0 l0 2000 (by omega) (zd) HC0.out; have HR101 := z0 (Kd.C_of_reads (h1 := fun _ => rfl) (hA4 _ (Kd.reads_of_C HR0.out))); have HC101 := z0 hC4; clear hA4 hC4 hi04 hsz4; go_enter Try.func64, Try.ntmps64
  go_wp2_with (first | ((with_reducible refine gd 10 ?_); refine zbx 98 #[.slice A0 (l0.take 2000).length c0, .int .i64 0] ?_; intro gb102 hg w5 hbox hb; replace HB := zH HB hb; have BK102 := z0 (hbox); have GW102 := z0 ((by rw [hg]; exact (below_size (by repeat (first | (with_reducible first | exact HBW.out | apply below_alloc | apply pw_below_drewN | apply below_drew1) | exact HBW.out))) : w.heap.size ≤ gb102)); have GE102 := z0 ((Nat.le_trans HW0.out (by rw [hg]; exact (below_size (by repeat (first | (with_reducible first | exact HBW.out | apply below_alloc | apply pw_below_drewN | apply below_drew1) | exact HBW.out))) : w.heap.size ≤ gb102) : w0.heap.size ≤ gb102)); replace HBW := z0 (below_step HBW.out hb); clear hb hbox hg))
  go_ret; exact ⟨_, rfl, (show IsS98 w0 _ gb102 (l0.take 2000) 0 from ⟨_, _, zl BK102.out, GE102.out, HR101.out⟩), zb HB.out, by repeat (first | (with_reducible first | exact HBW.out | apply below_alloc | apply pw_below_drewN | apply below_drew1 | refine below_set ?_ GW102.out) | exact HBW.out)⟩
 ·rw [if_neg c2] at H; have c2b0 : decide (2000 < (l0.length : Int)) = false := decide_eq_false c2; have c2b1 : decide (2000 < l0.length) = false := decide_eq_false (by omega); clear c2; simp only [Option.some.injEq, Prod.mk.injEq] at H; obtain ⟨rfl, rfl⟩ := H; go_enter Try.func64, Try.ntmps64
  go_wp2_with (first | ((with_reducible refine gd 10 ?_); refine zbx 98 #[.slice A0 l0.length c0, .int .i64 0] ?_; intro gb103 hg w6 hbox hb; replace HB := zH HB hb; have BK103 := z0 (hbox); have GW103 := z0 ((by rw [hg]; exact (below_size (by repeat (first | (with_reducible first | exact HBW.out | apply below_alloc | apply pw_below_drewN | apply below_drew1) | exact HBW.out))) : w.heap.size ≤ gb103)); have GE103 := z0 ((Nat.le_trans HW0.out (by rw [hg]; exact (below_size (by repeat (first | (with_reducible first | exact HBW.out | apply below_alloc | apply pw_below_drewN | apply below_drew1) | exact HBW.out))) : w.heap.size ≤ gb103) : w0.heap.size ≤ gb103)); replace HBW := z0 (below_step HBW.out hb); clear hb hbox hg))
  go_ret; exact ⟨_, rfl, (show IsS98 w0 _ gb103 l0 0 from ⟨_, _, zl BK103.out, GE103.out, HR0.out⟩), zb HB.out, by repeat (first | (with_reducible first | exact HBW.out | apply below_alloc | apply pw_below_drewN | apply below_drew1 | refine below_set ?_ GW103.out) | exact HBW.out)⟩
theorem spec_l6Rd_pick.mono_l : ∀ k, (∀ y0 y1 y2 y3, LeO (spec_l6Rd_pick.j0 k y0 y1 y2 y3) (spec_l6Rd_pick.j0 (k + 1) y0 y1 y2 y3))
  | 0 => fun _ _ _ _ r h => by simp [spec_l6Rd_pick.j0] at h
  | k + 1 => by
    have ih0 := spec_l6Rd_pick.mono_l k
    · intro y0 y1 y2 y3
      unfold spec_l6Rd_pick.j0
      repeat' first | (with_reducible first | apply ih0 | exact LeO.refl _ | exact LeO.none _ | refine LeO.ite ?_ ?_ | refine LeO.bind ?_ (fun _ => ?_)) | exact LeO.none _ | refine LeO.ite ?_ ?_ | refine LeO.bind ?_ (fun _ => ?_)
theorem spec_l6Rd_pick.mono : ∀ a0 a1 a2 k, LeO (spec_l6Rd_pick.f k a0 a1 a2) (spec_l6Rd_pick.f (k + 1) a0 a1 a2) := by
  intro a0 a1 a2 k
  have ih0 := spec_l6Rd_pick.mono_l k
  unfold spec_l6Rd_pick.f
  repeat' first | (with_reducible first | apply ih0 | exact LeO.refl _ | exact LeO.none _ | refine LeO.ite ?_ ?_ | refine LeO.bind ?_ (fun _ => ?_)) | exact LeO.none _ | refine LeO.ite ?_ ?_ | refine LeO.bind ?_ (fun _ => ?_)
theorem spec_l6Rd_pick.calls (k g : Nat) (s0_0 : List Int) (s0_1 a1 r1 r2 : Int) (w0 w : World) (hI : IsS98 w0 w g s0_0 s0_1) (hB : Below w0.heap.size w0 w) (h : spec_l6Rd_pick.f k s0_0 s0_1 a1 = some (r1, r2)) :
    Calls Try.prog 78 #[.pointer (some ⟨g, 0, none⟩), .int .i64 a1] w fun e w' => e = .returned (.int .i64 r1) ∧ IsS98 w0 w' g s0_0 r2 ∧ Below w0.heap.size w0 w' ∧ KeepBut w w' g none := by
 have HI0 := z0 hI; have HK := z0 (KeepBut.refl w g none); have HL := z0 hB.size; clear hI; have HW0 := z0 hB.size; have HB := z0 hB; clear hB; have H : (if a1 < 1 then (spec_l6Rd_pick.j0 k a1 true s0_0 (wrap64 (s0_1 + 1))) else (spec_l6Rd_pick.j0 k a1 ((s0_0.length : Int) == 0) s0_0 (wrap64 (s0_1 + 1)))) = some (r1, r2) := h; clear h; have HC3 := z0 H; clear H; obtain ⟨ASz4_0, cSz4_0, HGz4, hgz4, HSz4_0⟩ := HI0.out; have hcz4_0 := cellS98_0 HGz4; have hcz4_1 := cellS98_1 HGz4; have hfz4_1 := blk_frozen HGz4 1; clear HGz4 hgz4; go_enter Try.func78, Try.ntmps78
 go_upto_region 2 with (fail)
 repeat (go_quiet (fail); go_upto_region 2 with (fail))
 go_cut [24] (fun v24 wc => ∃ (kq : Nat) (x24_2 : Bool), v24 = .bool x24_2 ∧ Aside0 (spec_l6Rd_pick.j0 kq a1 x24_2 s0_0 (wrap64 (s0_1 + 1)) = some (r1, r2)) ∧ Aside0 (kq ≤ k) ∧ Aside0 (IsS98 w0 wc g s0_0 (wrap64 (s0_1 + 1))) ∧ Aside0 (KeepBut w wc g none) ∧ Aside0 (Below w0.heap.size w0 wc))
 case first =>
  have H := HC3.out; clear HC3
  by_cases c5 : a1 < 1
  ·rw [if_pos c5] at H; have c5b0 := decide_eq_true c5; clear c5; (first | rw [c5b0] | (simp only [i64_w, i32_w]; rw [c5b0]) | simp only [*, Bool.not_true, Bool.not_false] | skip); have H' := z0 H; clear H; go_wp2
   repeat (go_quiet (fail); try go_wp2)
   go_meet
   case rel => exact ⟨_, (true), zf, H', ⟨by first | omega | exact Nat.le_refl _⟩, ⟨HI0.out.zI⟩, ⟨zq HK.out⟩, ⟨HI0.out.zb HB.out⟩⟩
  ·rw [if_neg c5] at H; have c5b0 := decide_eq_false c5; clear c5; (first | rw [c5b0] | (simp only [i64_w, i32_w]; rw [c5b0]) | simp only [*, Bool.not_true, Bool.not_false] | skip); have H' := z0 H; clear H; obtain ⟨ASz6_0, cSz6_0, HGz6, hgz6, HSz6_0⟩ := HI0.out; have hcz6_0 := cellS98_0 HGz6; have hcz6_1 := cellS98_1 HGz6; have hfz6_1 := blk_frozen HGz6 1; clear HGz6 hgz6; go_wp2
   repeat (go_quiet (fail); try go_wp2)
   go_meet
   case rel => exact ⟨_, (((s0_0.length : Int) == 0)), zf, H', ⟨by first | omega | exact Nat.le_refl _⟩, ⟨HI0.out.zI⟩, ⟨zq HK.out⟩, ⟨HI0.out.zb HB.out⟩⟩
 case rest =>
  clear HC3
  try clear p2
  try clear c5
  try clear c5b0
  try clear p6
  try clear hcz4
  try clear hcz6
  obtain ⟨kq, x24_2, rfl, HA, HJ2, HI0, HK, HB⟩ := hcut
  cases kq with
  | zero => exact absurd HA.out (by simp [spec_l6Rd_pick.j0])
  | succ kj2 =>
   have H := HA.out; clear HA; simp only [spec_l6Rd_pick.j0] at H
   by_cases c7 : x24_2 = true
   ·subst c7
    have H1 : (some (0, (wrap64 (s0_1 + 1)))) = some (r1, r2) := by rw [if_pos rfl] at H; exact H
    clear H; have H := H1; clear H1; simp only [Option.some.injEq, Prod.mk.injEq] at H; obtain ⟨rfl, rfl⟩ := H; go_wp2
    repeat (go_quiet (fail); try go_wp2)
    go_ret; exact ⟨ze, HI0.out.zI, HI0.out.zb HB.out, zq HK.out⟩
   ·replace c7 := Bool.eq_false_iff.mpr c7; subst c7
    have H1 : (if (wrap64 ((wrap64 (s0_1 + 1)) - 1)) < (s0_0.length : Int) then (if 0 ≤ (wrap64 ((wrap64 (s0_1 + 1)) - 1)) then (if a1 = 0 then (none) else (some (Int.tmod (wrap64 (rd s0_0 (wrap64 ((wrap64 (s0_1 + 1)) - 1)))) a1, (wrap64 (s0_1 + 1))))) else (none)) else (if (s0_0.length : Int) = 0 then (none) else (if 0 ≤ (Int.tmod (wrap64 ((wrap64 (s0_1 + 1)) - 1)) (s0_0.length : Int)) then (if (Int.tmod (wrap64 ((wrap64 (s0_1 + 1)) - 1)) (s0_0.length : Int)) < (s0_0.length : Int) then (if 0 ≤ (Int.tmod (wrap64 ((wrap64 ((wrap64 ((wrap64 (s0_1 + 1)) - 1)) * 7)) + 3)) (s0_0.length : Int)) then (if (Int.tmod (wrap64 ((wrap64 ((wrap64 ((wrap64 (s0_1 + 1)) - 1)) * 7)) + 3)) (s0_0.length : Int)) < (s0_0.length : Int) then (if a1 = 0 then (none) else (some (Int.tmod (Go.bits .xor .i64 (wrap64 ((wrap64 ((wrap64 ((wrap64 ((wrap64 (rd s0_0 (Int.tmod (wrap64 ((wrap64 (s0_1 + 1)) - 1)) (s0_0.length : Int)))) * 131)) + (wrap64 ((wrap64 (rd s0_0 (Int.tmod (wrap64 ((wrap64 ((wrap64 ((wrap64 (s0_1 + 1)) - 1)) * 7)) + 3)) (s0_0.length : Int)))) * 1117)))) + (wrap64 ((wrap64 ((wrap64 (s0_1 + 1)) - 1)) * 29)))) + (wrap64 ((wrap64 (Int.tdiv (wrap64 ((wrap64 (s0_1 + 1)) - 1)) (s0_0.length : Int))) * 53)))) (wrap64 (Int.tdiv (wrap64 ((wrap64 ((wrap64 ((wrap64 ((wrap64 (rd s0_0 (Int.tmod (wrap64 ((wrap64 (s0_1 + 1)) - 1)) (s0_0.length : Int)))) * 131)) + (wrap64 ((wrap64 (rd s0_0 (Int.tmod (wrap64 ((wrap64 ((wrap64 ((wrap64 (s0_1 + 1)) - 1)) * 7)) + 3)) (s0_0.length : Int)))) * 1117)))) + (wrap64 ((wrap64 ((wrap64 (s0_1 + 1)) - 1)) * 29)))) + (wrap64 ((wrap64 (Int.tdiv (wrap64 ((wrap64 (s0_1 + 1)) - 1)) (s0_0.length : Int))) * 53)))) 64))) a1, (wrap64 (s0_1 + 1))))) else (none)) else (none)) else (none)) else (none)))) = some (r1, r2) := by rw [if_neg (show ¬ (false = true) by decide)] at H; exact H
    clear H; have H := H1; clear H1
    by_cases c8 : (wrap64 ((wrap64 (s0_1 + 1)) - 1)) < (s0_0.length : Int)
    ·rw [if_pos c8] at H; have c8b0 := decide_eq_true c8; clear c8; obtain ⟨ji9, hji9⟩ : ∃ j_ : Int, (wrap64 ((wrap64 (s0_1 + 1)) - 1)) = j_ := ⟨_, rfl⟩
     replace H : (if 0 ≤ (ji9) then (if a1 = 0 then (none) else (some (Int.tmod (wrap64 (rd s0_0 (ji9))) a1, (wrap64 (s0_1 + 1))))) else (none)) = some (r1, r2) := by first | (rw [hji9] at H; exact H) | (simp only [hji9] at H ⊢; exact H)
     (try rw [hji9] at c8b0); have hji9w : (IntKind.i64.wrap ((wrap64 (s0_1 + 1)) - 1)) = ji9 := (i64_w _).trans hji9; replace H := zn H; obtain ⟨c10, H⟩ := H; have c10b0 := decide_eq_true c10; clear c10
     by_cases c11 : a1 = 0
     ·rw [if_pos c11] at H; exact absurd H (by simp)
     ·rw [if_neg c11] at H; have c11b0 : (a1 == 0) = false := beq_eq_false_iff_ne.mpr c11; have c11b1 : (a1 != 0) = true := bne_iff_ne.mpr c11; simp only [Option.some.injEq, Prod.mk.injEq] at H; obtain ⟨rfl, rfl⟩ := H; obtain ⟨ASz12_0, cSz12_0, HGz12, hgz12, HSz12_0⟩ := HI0.out; have hcz12_0 := cellS98_0 HGz12; have hcz12_1 := cellS98_1 HGz12; have hfz12_1 := blk_frozen HGz12 1; clear HGz12 hgz12; have p104 : 0 ≤ ((ji9) : Int) := zd; have q104 : (ji9) < (s0_0.length : Int) := zd; obtain ⟨ad104, e104, hx104_0⟩ := Kd.at_int HSz12_0 (ji9) p104 q104; cases e104; replace hx104_0 := pw_cell_below HB.out hx104_0; replace p104 := eq_true p104; replace q104 := eq_true q104; go_wp2
      repeat (go_quiet (fail); try go_wp2)
      go_ret; exact ⟨by first | rfl | (simp [errW_none, errW_some] <;> rfl) | (simp only [← hji9]; first | rfl | (simp [errW_none, errW_some] <;> rfl)) | (simp [*, errW_none, errW_some] <;> rfl), HI0.out.zI, HI0.out.zb HB.out, zq HK.out⟩
    ·rw [if_neg c8] at H; have c8b0 := decide_eq_false c8; clear c8
     by_cases c13 : (s0_0.length : Int) = 0
     ·rw [if_pos c13] at H; exact absurd H (by simp)
     ·rw [if_neg c13] at H; have c13b0 : ((s0_0.length : Int) == 0) = false := beq_eq_false_iff_ne.mpr c13; have c13b1 : ((s0_0.length : Int) != 0) = true := bne_iff_ne.mpr c13; have c13b2 : ¬ (s0_0 = []) := fun h_ => c13 (by rw [h_]; rfl); obtain ⟨ji14, hji14⟩ : ∃ j_ : Int, (Int.tmod (wrap64 ((wrap64 (s0_1 + 1)) - 1)) (s0_0.length : Int)) = j_ := ⟨_, rfl⟩
      replace H : (if 0 ≤ (ji14) then (if (ji14) < (s0_0.length : Int) then (if 0 ≤ (Int.tmod (wrap64 ((wrap64 ((wrap64 ((wrap64 (s0_1 + 1)) - 1)) * 7)) + 3)) (s0_0.length : Int)) then (if (Int.tmod (wrap64 ((wrap64 ((wrap64 ((wrap64 (s0_1 + 1)) - 1)) * 7)) + 3)) (s0_0.length : Int)) < (s0_0.length : Int) then (if a1 = 0 then (none) else (some (Int.tmod (Go.bits .xor .i64 (wrap64 ((wrap64 ((wrap64 ((wrap64 ((wrap64 (rd s0_0 (ji14))) * 131)) + (wrap64 ((wrap64 (rd s0_0 (Int.tmod (wrap64 ((wrap64 ((wrap64 ((wrap64 (s0_1 + 1)) - 1)) * 7)) + 3)) (s0_0.length : Int)))) * 1117)))) + (wrap64 ((wrap64 ((wrap64 (s0_1 + 1)) - 1)) * 29)))) + (wrap64 ((wrap64 (Int.tdiv (wrap64 ((wrap64 (s0_1 + 1)) - 1)) (s0_0.length : Int))) * 53)))) (wrap64 (Int.tdiv (wrap64 ((wrap64 ((wrap64 ((wrap64 ((wrap64 (rd s0_0 (ji14))) * 131)) + (wrap64 ((wrap64 (rd s0_0 (Int.tmod (wrap64 ((wrap64 ((wrap64 ((wrap64 (s0_1 + 1)) - 1)) * 7)) + 3)) (s0_0.length : Int)))) * 1117)))) + (wrap64 ((wrap64 ((wrap64 (s0_1 + 1)) - 1)) * 29)))) + (wrap64 ((wrap64 (Int.tdiv (wrap64 ((wrap64 (s0_1 + 1)) - 1)) (s0_0.length : Int))) * 53)))) 64))) a1, (wrap64 (s0_1 + 1))))) else (none)) else (none)) else (none)) else (none)) = some (r1, r2) := by first | (rw [hji14] at H; exact H) | (simp only [hji14] at H ⊢; exact H)
      replace H := zn H; obtain ⟨c15, H⟩ := H; have c15b0 := decide_eq_true c15; clear c15; replace H := zn H; obtain ⟨c16, H⟩ := H; have c16b0 := decide_eq_true c16; clear c16; obtain ⟨ji17, hji17⟩ : ∃ j_ : Int, (Int.tmod (wrap64 ((wrap64 ((wrap64 ((wrap64 (s0_1 + 1)) - 1)) * 7)) + 3)) (s0_0.length : Int)) = j_ := ⟨_, rfl⟩
      replace H : (if 0 ≤ (ji17) then (if (ji17) < (s0_0.length : Int) then (if a1 = 0 then (none) else (some (Int.tmod (Go.bits .xor .i64 (wrap64 ((wrap64 ((wrap64 ((wrap64 ((wrap64 (rd s0_0 (ji14))) * 131)) + (wrap64 ((wrap64 (rd s0_0 (ji17))) * 1117)))) + (wrap64 ((wrap64 ((wrap64 (s0_1 + 1)) - 1)) * 29)))) + (wrap64 ((wrap64 (Int.tdiv (wrap64 ((wrap64 (s0_1 + 1)) - 1)) (s0_0.length : Int))) * 53)))) (wrap64 (Int.tdiv (wrap64 ((wrap64 ((wrap64 ((wrap64 ((wrap64 (rd s0_0 (ji14))) * 131)) + (wrap64 ((wrap64 (rd s0_0 (ji17))) * 1117)))) + (wrap64 ((wrap64 ((wrap64 (s0_1 + 1)) - 1)) * 29)))) + (wrap64 ((wrap64 (Int.tdiv (wrap64 ((wrap64 (s0_1 + 1)) - 1)) (s0_0.length : Int))) * 53)))) 64))) a1, (wrap64 (s0_1 + 1))))) else (none)) else (none)) = some (r1, r2) := by first | (rw [hji17] at H; exact H) | (simp only [hji17] at H ⊢; exact H)
      replace H := zn H; obtain ⟨c18, H⟩ := H; have c18b0 := decide_eq_true c18; clear c18; replace H := zn H; obtain ⟨c19, H⟩ := H; have c19b0 := decide_eq_true c19; clear c19
      by_cases c20 : a1 = 0
      ·rw [if_pos c20] at H; exact absurd H (by simp)
      ·rw [if_neg c20] at H; have c20b0 : (a1 == 0) = false := beq_eq_false_iff_ne.mpr c20; have c20b1 : (a1 != 0) = true := bne_iff_ne.mpr c20; simp only [Option.some.injEq, Prod.mk.injEq] at H; obtain ⟨rfl, rfl⟩ := H; obtain ⟨ASz21_0, cSz21_0, HGz21, hgz21, HSz21_0⟩ := HI0.out; have hcz21_0 := cellS98_0 HGz21; have hcz21_1 := cellS98_1 HGz21; have hfz21_1 := blk_frozen HGz21 1; clear HGz21 hgz21; have p105 : 0 ≤ ((ji14) : Int) := zd; have q105 : (ji14) < (s0_0.length : Int) := zd; obtain ⟨ad105, e105, hx105_0⟩ := Kd.at_int HSz21_0 (ji14) p105 q105; cases e105; replace hx105_0 := pw_cell_below HB.out hx105_0; replace p105 := eq_true p105; replace q105 := eq_true q105; have p106 : 0 ≤ ((ji17) : Int) := zd; have q106 : (ji17) < (s0_0.length : Int) := zd; obtain ⟨ad106, e106, hx106_0⟩ := Kd.at_int HSz21_0 (ji17) p106 q106; obtain rfl : ad105 = ad106 := (by injection e106); replace hx106_0 := pw_cell_below HB.out hx106_0; replace p106 := eq_true p106; replace q106 := eq_true q106; go_wp2
       repeat (go_quiet (fail); try go_wp2)
       go_ret; exact ⟨by first | rfl | (simp [errW_none, errW_some] <;> rfl) | (simp only [← hji14, ← hji17]; first | rfl | (simp [errW_none, errW_some] <;> rfl)) | (simp [*, errW_none, errW_some] <;> rfl), HI0.out.zI, HI0.out.zb HB.out, zq HK.out⟩
theorem spec_l6Rd_of.mono : ∀ a0 a1 a2 k, LeO (spec_l6Rd_of.f k a0 a1 a2) (spec_l6Rd_of.f (k + 1) a0 a1 a2) := by
  intro a0 a1 a2 k
  unfold spec_l6Rd_of.f
  repeat' first | (with_reducible first | apply spec_l6Rd_pick.mono | exact LeO.refl _ | exact LeO.none _ | refine LeO.ite ?_ ?_ | refine LeO.bind ?_ (fun _ => ?_)) | exact LeO.none _ | refine LeO.ite ?_ ?_ | refine LeO.bind ?_ (fun _ => ?_)
theorem spec_l6Rd_of.calls (k g : Nat) (s0_0 : List Int) (s0_1 : Int) (A1 : Option Addr) (c1 : Nat) (l1 : List ByteArray) (r1 : ByteArray) (r2 : Int) (w0 w : World) (hI : IsS98 w0 w g s0_0 s0_1) (hB : Below w0.heap.size w0 w) (hr1 : Kd.C Kd.string w A1 l1.length l1) (hc1 : l1.length ≤ c1) (hf1 : ∀ ad, A1 = some ad → 0 < l1.length → ad.block ≠ g) (h : spec_l6Rd_of.f k s0_0 s0_1 l1 = some (r1, r2)) :
    Calls Try.prog 97 #[.pointer (some ⟨g, 0, none⟩), .slice A1 l1.length c1] w fun e w' => e = .returned (.string r1) ∧ IsS98 w0 w' g s0_0 r2 ∧ Below w0.heap.size w0 w' ∧ KeepBut w w' g none := by
 have HR1 := z0 hr1; have HC1 := z0 hc1; clear hr1 hc1; have HI0 := z0 hI; have HK := z0 (KeepBut.refl w g none); have HL := z0 hB.size; clear hI; have HW0 := z0 hB.size; have HB := z0 hB; clear hB; have H : ((spec_l6Rd_pick.f k s0_0 s0_1 (l1.length : Int)).bind fun bt191 => (if 0 ≤ bt191.1 then (if bt191.1 < (l1.length : Int) then (some (rdOf ByteArray.empty l1 bt191.1, bt191.2)) else (none)) else (none))) = some (r1, r2) := h; clear h; replace H := zi H; obtain ⟨⟨t191, t192⟩, A3, H⟩ := H; (try dsimp only at H); replace H := zn H; obtain ⟨c4, H⟩ := H; have c4b0 := decide_eq_true c4; clear c4; replace H := zn H; obtain ⟨c5, H⟩ := H; have c5b0 := decide_eq_true c5; clear c5; simp only [Option.some.injEq, Prod.mk.injEq] at H; obtain ⟨rfl, rfl⟩ := H; go_enter Try.func97, Try.ntmps97
 go_wp2_with (first | ((with_reducible refine gc 78 ?_); refine zL (some 9) Try.func78 #[.pointer (some ⟨g, 0, none⟩), .int .i64 (l1.length : Int)] ?_; (with_reducible refine (spec_l6Rd_pick.calls k g s0_0 s0_1 (l1.length : Int) t191 t192 w0 _ (HI0.out.zI) (HI0.out.zb HB.out) A3.out).mono ?_); rintro e w6 ⟨rfl, hi, hb, hk⟩; refine zv ?_; replace HK := z0 (KeepBut.trans (zq HK.out) hk (.inl rfl)); replace HB := z0 (hb); replace HI0 := z0 (hi); (try clear hb hk hi); have p193 : 0 ≤ (t191 : Int) := zd; have q193 : t191 < (l1.length : Int) := zd; obtain ⟨ad193, e193, hx193_0⟩ := Kd.at_string HR1.out t191 p193 q193; cases e193; replace hx193_0 := keep_cell HK.out hx193_0 (by first | (rw [add_block]; exact hf1 _ rfl (by omega)) | exact hf1 _ rfl (by omega) | exact hf1 ad193 rfl (by omega)); replace p193 := eq_true p193; replace q193 := eq_true q193))
 go_ret; exact ⟨ze, HI0.out.zI, HI0.out.zb HB.out, zq HK.out⟩
theorem spec_l71Key.mono_l : ∀ k, (∀ y0 y1 y2 y3, LeO (spec_l71Key.l0 k y0 y1 y2 y3) (spec_l71Key.l0 (k + 1) y0 y1 y2 y3))
  | 0 => fun _ _ _ _ r h => by simp [spec_l71Key.l0] at h
  | k + 1 => by
    have ih0 := spec_l71Key.mono_l k
    · intro y0 y1 y2 y3
      unfold spec_l71Key.l0
      repeat' first | (with_reducible first | apply ih0 | apply spec_l6Rd_of.mono | apply spec_l6Rd_pick.mono | exact LeO.refl _ | exact LeO.none _ | refine LeO.ite ?_ ?_ | refine LeO.bind ?_ (fun _ => ?_)) | exact LeO.none _ | refine LeO.ite ?_ ?_ | refine LeO.bind ?_ (fun _ => ?_)
theorem spec_l71Key.mono : ∀ a0 a1 k, LeO (spec_l71Key.f k a0 a1) (spec_l71Key.f (k + 1) a0 a1) := by
  intro a0 a1 k
  have ih0 := spec_l71Key.mono_l k
  unfold spec_l71Key.f
  repeat' first | (with_reducible first | apply ih0 | apply spec_l6Rd_of.mono | apply spec_l6Rd_pick.mono | exact LeO.refl _ | exact LeO.none _ | refine LeO.ite ?_ ?_ | refine LeO.bind ?_ (fun _ => ?_)) | exact LeO.none _ | refine LeO.ite ?_ ?_ | refine LeO.bind ?_ (fun _ => ?_)
theorem spec_l71Key.calls (k g : Nat) (s0_0 : List Int) (s0_1 : Int) (r1 : ByteArray) (r2 : Int) (w0 w : World) (hI : IsS98 w0 w g s0_0 s0_1) (hB : Below w0.heap.size w0 w) (h : spec_l71Key.f k s0_0 s0_1 = some (r1, r2)) :
    Calls Try.prog 86 #[.pointer (some ⟨g, 0, none⟩)] w fun e w' => e = .returned (.string r1) ∧ IsS98 w0 w' g s0_0 r2 ∧ Below w0.heap.size w0 w' ∧ KeepBut w w' g none := by
 have HI0 := z0 hI; have HK := z0 (KeepBut.refl w g none); have HL := z0 hB.size; clear hI; have HW0 := z0 hB.size; have HB := z0 hB; clear hB; have H : ((spec_l6Rd_pick.f k s0_0 s0_1 6).bind fun bt194 => (spec_l71Key.l0 k (⟨#[]⟩ : ByteArray) bt194.1 s0_0 bt194.2)) = some (r1, r2) := h; clear h; replace H := zi H; obtain ⟨⟨t194, t195⟩, A2, H⟩ := H; (try dsimp only at H); have H' := z0 H; clear H; go_enter Try.func86, Try.ntmps86
 go_wp2_with (first | ((with_reducible refine gc 78 ?_); refine zL (some 6) Try.func78 #[.pointer (some ⟨g, 0, none⟩), .int .i64 6] ?_; (with_reducible refine (spec_l6Rd_pick.calls k g s0_0 s0_1 6 t194 t195 w0 _ (HI0.out.zI) (HI0.out.zb HB.out) A2.out).mono ?_); rintro e w3 ⟨rfl, hi, hb, hk⟩; refine zv ?_; replace HK := z0 (KeepBut.trans (zq HK.out) hk (.inl rfl)); replace HB := z0 (hb); replace HI0 := z0 (hi); (try clear hb hk hi)))
 go_loopg [3, 4] k (fun kq v3 v4 w' => ∃ (x3_1 : ByteArray) (x4_1 : Int) (x1001_1 : Int), v3 = .string x3_1 ∧ v4 = .int .i64 x4_1 ∧ Aside0 (spec_l71Key.l0 kq x3_1 x4_1 s0_0 x1001_1 = some (r1, r2)) ∧ Aside0 (kq ≤ k) ∧ Aside0 (IsS98 w0 w' g s0_0 x1001_1) ∧ Aside0 (KeepBut w w' g none) ∧ Aside0 (Below w0.heap.size w0 w'))
 case atStart => exact ⟨((⟨#[]⟩ : ByteArray)), (t194), (t195), zf, zf, H', ⟨Nat.le_refl _⟩, ⟨HI0.out.zI⟩, ⟨zq HK.out⟩, ⟨HI0.out.zb HB.out⟩⟩
 case round =>
  clear H'
  try clear p2
  obtain ⟨x3_1, x4_1, x1001_1, rfl, rfl, HA, HK1, HI0, HK, HB⟩ := hrel
  cases gk with
  | zero => exact absurd HA.out (by simp [spec_l71Key.l0])
  | succ k1 =>
   have H := HA.out; clear HA; simp only [spec_l71Key.l0] at H
   by_cases c4 : x4_1 > 0
   ·rw [if_pos c4] at H; have c4b0 : decide (0 < x4_1) = true := decide_eq_true c4; clear c4; obtain ⟨y196, hy196⟩ : ∃ y_ : List ByteArray, y_ = (([(⟨#[97]⟩ : ByteArray), (⟨#[98]⟩ : ByteArray), (⟨#[97]⟩ : ByteArray), (⟨#[99]⟩ : ByteArray), (⟨#[100]⟩ : ByteArray)] : List ByteArray)) := ⟨_, rfl⟩; replace H : ((spec_l6Rd_of.f k1 s0_0 x1001_1 y196).bind fun bt199 => (if x3_1.size + bt199.1.size ≤ 9223372036854775807 then (spec_l71Key.l0 k1 (x3_1 ++ bt199.1) (wrap64 (x4_1 - 1)) s0_0 bt199.2) else (none))) = some (r1, r2) := zH2 hy196 H; have Ny196 := z0 hy196; clear hy196; replace H := zi H; obtain ⟨⟨t199, t200⟩, A5, H⟩ := H; (try dsimp only at H); replace H := zn H; obtain ⟨c6, H⟩ := H; have c6b0 := eq_true c6; have c6b1 := decide_eq_true c6
    try have c6b2 : (9223372036854775807 < x3_1.size + t199.size) = False := eq_false (Nat.not_lt.2 c6)
    have H' := z0 H; clear H
    go_wp2_with (first | ((with_reducible refine gd 13 ?_); refine Kd.R_lit Kd.string _ 9 ?hg (N := 13) ?hd (xs := ([(⟨#[97]⟩ : ByteArray), (⟨#[98]⟩ : ByteArray), (⟨#[97]⟩ : ByteArray), (⟨#[99]⟩ : ByteArray), (⟨#[100]⟩ : ByteArray)] : List ByteArray)) (inner := [.string ⟨#[97]⟩, .string ⟨#[98]⟩, .string ⟨#[97]⟩, .string ⟨#[99]⟩, .string ⟨#[100]⟩]) (ok := fun _ => True) (okp := fun _ => True) ?hr ?hp (fun _ hk => hk) trivial (Below.refl _ _) (Nat.le_refl _) (by simp) ?_; (case hd => rfl); (case hg => rfl); (case hr => first | (go_simp; done) | (go_simp; rfl)); (case hp => exact (Reps.one (show Kd.M Kd.string _ _ _ (⟨#[97]⟩ : ByteArray) [.string ⟨#[97]⟩] from rfl) (Reps.one (show Kd.M Kd.string _ _ _ (⟨#[98]⟩ : ByteArray) [.string ⟨#[98]⟩] from rfl) (Reps.one (show Kd.M Kd.string _ _ _ (⟨#[97]⟩ : ByteArray) [.string ⟨#[97]⟩] from rfl) (Reps.one (show Kd.M Kd.string _ _ _ (⟨#[99]⟩ : ByteArray) [.string ⟨#[99]⟩] from rfl) (Reps.one (show Kd.M Kd.string _ _ _ (⟨#[100]⟩ : ByteArray) [.string ⟨#[100]⟩] from rfl) (Reps.none _ _))))))); intro v197 w7 ho8 hb hg_ hnew_; clear hg_ hnew_; (first | rw [← Ny196.out] at ho8 | (simp only [Int.reduceToNat] at ho8; rw [← Ny196.out] at ho8)); have HO198 := z0 (Kd.R_lower ho8 (keep_size (w := w) (g := g) (row := none) (zq HK.out))); replace HK := z0 (KeepBut.trans (zq HK.out) (KeepBut.of_below hb g none) (.inl rfl)); replace HB := z0 (below_step (HI0.out.zb HB.out) hb); replace HI0 := z0 (IsS98.below (HI0.out.zI) hb); clear hb ho8; obtain ⟨Ao9, co9, eo9⟩ := Kd.R_slice HO198.out; subst eo9) | ((with_reducible refine gc 97 ?_); refine zL (some 14) Try.func97 #[.pointer (some ⟨g, 0, none⟩), .slice Ao9 y196.length co9] ?_; (with_reducible refine (spec_l6Rd_of.calls k1 g s0_0 x1001_1 _ _ y196 t199 t200 w0 _ (HI0.out.zI) (HI0.out.zb HB.out) (zC ((Kd.R_reads' HO198.out).2.2)) ((Kd.R_reads' HO198.out).2.1) (far_slice (IsS98.own_ne HI0.out HO198.out (by decide))) A5.out).mono ?_); rintro e w10 ⟨rfl, hi, hb, hk⟩; refine zv ?_; replace HO198 := z0 (Kd.R_mono (Kd.R_keep (IsS98.apart (show IsS98 w0 _ g s0_0 x1001_1 from HI0.out.zI) (zr HO198.out) (by decide)) hk (fun _ h => h.2)) (fun _ h => h.1)); replace HK := z0 (KeepBut.trans (zq HK.out) hk (.inl rfl)); replace HB := z0 (hb); replace HI0 := z0 (hi); (try clear hb hk hi)))
    go_roundg k1
    case measure => have := HK1.out; omega
    case rel => exact ⟨(x3_1 ++ t199), (wrap64 (x4_1 - 1)), (t200), zf, zf, H', ⟨by have := HK1.out; omega⟩, ⟨HI0.out.zI⟩, ⟨zq HK.out⟩, ⟨HI0.out.zb HB.out⟩⟩
   ·rw [if_neg c4] at H; have c4b0 : decide (0 < x4_1) = false := decide_eq_false c4; clear c4; simp only [Option.some.injEq, Prod.mk.injEq] at H; obtain ⟨rfl, rfl⟩ := H; go_wp2; go_ret; exact ⟨ze, HI0.out.zI, HI0.out.zb HB.out, zq HK.out⟩
end Go.Proofs.Ytifgcajpkgamgaa.Q
end
