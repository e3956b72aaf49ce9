/- What the laws of the set SA need: the kit's printed words, the printed functions with their proofs, and plain facts on them. -/
import Derived.Shelf.Slices.CompactS
import Derived.Test.YtifgcajpkgamgaaProg
import Derived.Shelf.Sort.Plain
import Derived.Shelf.Slices.In.SortNone
import Derived.Sort.OwnSorted
import Derived.Test.YtifgcajpkgamgaaBSAd
section
namespace Go.Proofs.Ytifgcajpkgamgaa.Q
open Go.RowKit Go.Proofs.YtifgcajpkgamgaaW.PrintWords Go.Proofs.YtifgcajpkgamgaaW.PrintLast Go.Proofs.YtifgcajpkgamgaaW.PrintMore
attribute [local go_sem] max2_int min2_int max_two min_two max_three min_three max_four min_four   
set_option linter.unusedVariables false
set_option linter.unusedSimpArgs false
set_option maxHeartbeats 8000000
set_option maxRecDepth 100000
theorem spec_l71Keys.mono_l : ∀ k, (∀ y0 y1 y2 y3, LeO (spec_l71Keys.l0 k y0 y1 y2 y3) (spec_l71Keys.l0 (k + 1) y0 y1 y2 y3))
  | 0 => fun _ _ _ _ r h => by simp [spec_l71Keys.l0] at h
  | k + 1 => by
    have ih0 := spec_l71Keys.mono_l k
    · intro y0 y1 y2 y3
      unfold spec_l71Keys.l0
      repeat' first | (with_reducible first | apply ih0 | apply spec_l2Put.mono | apply spec_l6Rd_pick.mono | apply spec_l71Near.mono | exact LeO.refl _ | exact LeO.none _ | refine LeO.ite ?_ ?_ | refine LeO.bind ?_ (fun _ => ?_)) | exact LeO.none _ | refine LeO.ite ?_ ?_ | refine LeO.bind ?_ (fun _ => ?_)
theorem spec_l71Keys.mono : ∀ a0 a1 a2 k, LeO (spec_l71Keys.f k a0 a1 a2) (spec_l71Keys.f (k + 1) a0 a1 a2) := by
  intro a0 a1 a2 k
  have ih0 := spec_l71Keys.mono_l k
  unfold spec_l71Keys.f
  repeat' first | (with_reducible first | apply ih0 | apply spec_l2Put.mono | apply spec_l6Rd_pick.mono | apply spec_l71Near.mono | exact LeO.refl _ | exact LeO.none _ | refine LeO.ite ?_ ?_ | refine LeO.bind ?_ (fun _ => ?_)) | exact LeO.none _ | refine LeO.ite ?_ ?_ | refine LeO.bind ?_ (fun _ => ?_)
theorem spec_l71Keys.calls (k g : Nat) (s0_0 : List Int) (s0_1 a1 : Int) (r1 : List ByteArray) (r2 : Int) (w0 w : World) (hI : IsS98 w0 w g s0_0 s0_1) (hB : Below w0.heap.size w0 w) (h : spec_l71Keys.f k s0_0 s0_1 a1 = some (r1, r2)) :
    Calls Try.prog 77 #[.pointer (some ⟨g, 0, none⟩), .int .i64 a1] w fun e w' => ∃ v0_ : Value, e = .returned (v0_) ∧ Kd.R Kd.string 9 w' w.heap.size (fun _ => True) v0_ r1 ∧ IsS98 w0 w' g s0_0 r2 ∧ Below w0.heap.size w0 w' ∧ KeepBut w w' g none := by
 have HI0 := z0 hI; have HK := z0 (KeepBut.refl w g none); have HL := z0 hB.size; clear hI; have HW0 := z0 hB.size; have HB := z0 hB; clear hB; have H : ((spec_l6Rd_pick.f k s0_0 s0_1 (wrap64 (a1 + 1))).bind fun bt243 => (spec_l71Keys.l0 k (([] : List ByteArray)) bt243.1 s0_0 bt243.2)) = some (r1, r2) := h; clear h; obtain ⟨y240, hy240⟩ : ∃ y_ : List ByteArray, y_ = (([] : List ByteArray)) := ⟨_, rfl⟩; replace H : ((spec_l6Rd_pick.f k s0_0 s0_1 (wrap64 (a1 + 1))).bind fun bt243 => (spec_l71Keys.l0 k y240 bt243.1 s0_0 bt243.2)) = some (r1, r2) := zH2 hy240 H; have Ny240 := z0 hy240; clear hy240; replace H := zi H; obtain ⟨⟨t243, t244⟩, A3, H⟩ := H; (try dsimp only at H); have H' := z0 H; clear H; go_enter Try.func77, Try.ntmps77
 go_wp2_with (first | ((with_reducible refine gd 7 ?_); refine Kd.R_lit Kd.string _ 9 ?hg (N := 7) ?hd (xs := ([] : List ByteArray)) (inner := []) (ok := fun _ => True) (okp := fun _ => True) ?hr ?hp (fun _ hk => hk) trivial (Below.refl _ _) (Nat.le_refl _) (by simp) ?_; (case hd => rfl); (case hg => rfl); (case hr => first | (go_simp; done) | (go_simp; rfl)); (case hp => exact (Reps.none _ _)); intro v241 w4 ho5 hb hg_ hnew_; clear hg_ hnew_; (first | rw [← Ny240.out] at ho5 | (simp only [Int.reduceToNat] at ho5; rw [← Ny240.out] at ho5)); have HO242 := z0 (Kd.R_lower ho5 (keep_size (w := w) (g := g) (row := none) (zq HK.out))); replace HK := z0 (KeepBut.trans (zq HK.out) (KeepBut.of_below hb g none) (.inl rfl)); replace HB := z0 (below_step (HI0.out.zb HB.out) hb); replace HI0 := z0 (IsS98.below (HI0.out.zI) hb); clear hb ho5) | ((with_reducible refine gc 78 ?_); refine zL (some 11) Try.func78 #[.pointer (some ⟨g, 0, none⟩), .int .i64 (wrap64 (a1 + 1))] ?_; (with_reducible refine (spec_l6Rd_pick.calls k g s0_0 s0_1 (wrap64 (a1 + 1)) t243 t244 w0 _ (HI0.out.zI) (HI0.out.zb HB.out) A3.out).mono ?_); rintro e w6 ⟨rfl, hi, hb, hk⟩; refine zv ?_; replace HO242 := z0 (Kd.R_mono (Kd.R_keep (IsS98.apart (show IsS98 w0 _ g s0_0 s0_1 from HI0.out.zI) (zr HO242.out) (by decide)) hk (fun _ h => h.2)) (fun _ h => h.1)); replace HK := z0 (KeepBut.trans (zq HK.out) hk (.inl rfl)); replace HB := z0 (hb); replace HI0 := z0 (hi); (try clear hb hk hi)))
 go_loopg [5, 6] k (fun kq v5 v6 w' => ∃ (x5_1 : List ByteArray) (x6_1 : Int) (x1001_1 : Int), v6 = .int .i64 x6_1 ∧ Aside0 (spec_l71Keys.l0 kq x5_1 x6_1 s0_0 x1001_1 = some (r1, r2)) ∧ Aside0 (kq ≤ k) ∧ Aside0 (Kd.R Kd.string 9 w' w.heap.size (fun _ => True) v5 x5_1) ∧ Aside0 (IsS98 w0 w' g s0_0 x1001_1) ∧ Aside0 (KeepBut w w' g none) ∧ Aside0 (Below w0.heap.size w0 w'))
 case atStart => exact ⟨(y240), (t243), (t244), zf, H', ⟨Nat.le_refl _⟩, ⟨zr HO242.out⟩, ⟨HI0.out.zI⟩, ⟨zq HK.out⟩, ⟨HI0.out.zb HB.out⟩⟩
 case round =>
  clear H'
  try clear p2
  try clear p6
  obtain ⟨x5_1, x6_1, x1001_1, rfl, HA, HK1, HO_5, HI0, HK, HB⟩ := hrel
  cases gk with
  | zero => exact absurd HA.out (by simp [spec_l71Keys.l0])
  | succ k1 =>
   have H := HA.out; clear HA; simp only [spec_l71Keys.l0] at H
   by_cases c7 : x6_1 > 0
   ·rw [if_pos c7] at H; have c7b0 : decide (0 < x6_1) = true := decide_eq_true c7; clear c7; replace H := zi H; obtain ⟨⟨t245, t246⟩, A8, H⟩ := H; (try dsimp only at H); replace H := zi H; obtain ⟨t247, A9, H⟩ := H; have H' := z0 H; clear H; obtain ⟨Ao10, co10, eo10⟩ := Kd.R_slice HO_5.out; subst eo10
    go_wp2_with (first | ((with_reducible refine gc 66 ?_); refine zL (some 19) Try.func66 #[.pointer (some ⟨g, 0, none⟩), .slice Ao10 x5_1.length co10] ?_; (with_reducible refine (spec_l71Near.calls k1 g s0_0 x1001_1 _ _ x5_1 t245 t246 w0 _ (HI0.out.zI) (HI0.out.zb HB.out) (zC ((Kd.R_reads' HO_5.out).2.2)) ((Kd.R_reads' HO_5.out).2.1) (far_slice (IsS98.own_ne HI0.out HO_5.out (by decide))) A8.out).mono ?_); rintro e w11 ⟨rfl, hi, hb, hk⟩; refine zv ?_; replace HO_5 := z0 (Kd.R_mono (Kd.R_keep (IsS98.apart (show IsS98 w0 _ g s0_0 x1001_1 from HI0.out.zI) (zr HO_5.out) (by decide)) hk (fun _ h => h.2)) (fun _ h => h.1)); replace HK := z0 (KeepBut.trans (zq HK.out) hk (.inl rfl)); replace HB := z0 (hb); replace HI0 := z0 (hi); (try clear hb hk hi)) | ((with_reducible refine gc 111 ?_); refine zL (some 20) Try.func111 #[.slice Ao10 x5_1.length co10, .string t245] ?_; (with_reducible refine (spec_l2Put.calls k1 (fun k_ => some k_ = (.slice Ao10 x5_1.length co10 : Value).ownBlock) (.slice Ao10 x5_1.length co10) x5_1 t245 t247 w0 _ (HI0.out.zb HB.out) (Kd.R_lower (Kd.R_tight rfl HO_5.out) HL.out) A9.out).mono ?_); rintro e w12 ⟨v248, rfl, ho0, hb, hkp⟩; refine zv ?_; replace HI0 := z0 (IsS98.kept (HI0.out.zI) hkp (fun hs_ => (fun e_ => (IsS98.own_ne HI0.out HO_5.out (by decide)) e_) hs_)); have HO249 := z0 (Kd.R_mono (ok' := fun k_ => True) (Kd.R_raise (d := Kd.string) (b := w0.heap.size) (b' := w.heap.size) (fun _ _ _ _ h_ => h_) ho0 (fun k_ e_ => Or.elim (ho0.1 k_ e_) (fun hs_ => (fun e_ => Kd.R_base HO_5.out k_ e_.symm) hs_) (fun hn_ => Nat.le_trans (keep_size (w := w) (g := g) (row := none) (zq HK.out)) hn_))) (fun k_ hk_ => trivial)); replace HK := z0 (Kept.keepG (zq HK.out) hkp (fun k_ hs_ => (fun e_ => .inr (Kd.R_base HO_5.out k_ e_.symm)) hs_)); replace HB := z0 (hb); clear HO_5; (try clear hb); (try clear hkp); (try clear ho0)))
    go_roundg k1
    case measure => have := HK1.out; omega
    case rel => exact ⟨(t247), (wrap64 (x6_1 - 1)), (t246), zf, H', ⟨by have := HK1.out; omega⟩, ⟨zr HO249.out⟩, ⟨HI0.out.zI⟩, ⟨zq HK.out⟩, ⟨HI0.out.zb HB.out⟩⟩
   ·rw [if_neg c7] at H; have c7b0 : decide (0 < x6_1) = false := decide_eq_false c7; clear c7; simp only [Option.some.injEq, Prod.mk.injEq] at H; obtain ⟨rfl, rfl⟩ := H; go_wp2; go_ret; exact ⟨_, ze, zr HO_5.out, HI0.out.zI, HI0.out.zb HB.out, zq HK.out⟩
theorem spec_l6Many.mono_l : ∀ k, (∀ y0 y1 y2, LeO (spec_l6Many.l0 k y0 y1 y2) (spec_l6Many.l0 (k + 1) y0 y1 y2))
  | 0 => fun _ _ _ r h => by simp [spec_l6Many.l0] at h
  | k + 1 => by
    have ih0 := spec_l6Many.mono_l k
    · intro y0 y1 y2
      unfold spec_l6Many.l0
      repeat' first | (with_reducible first | apply ih0 | exact LeO.refl _ | exact LeO.none _ | refine LeO.ite ?_ ?_ | refine LeO.bind ?_ (fun _ => ?_)) | exact LeO.none _ | refine LeO.ite ?_ ?_ | refine LeO.bind ?_ (fun _ => ?_)
theorem spec_l6Many.mono : ∀ a0 a1 k, LeO (spec_l6Many.f k a0 a1) (spec_l6Many.f (k + 1) a0 a1) := by
  intro a0 a1 k
  have ih0 := spec_l6Many.mono_l k
  unfold spec_l6Many.f
  repeat' first | (with_reducible first | apply ih0 | exact LeO.refl _ | exact LeO.none _ | refine LeO.ite ?_ ?_ | refine LeO.bind ?_ (fun _ => ?_)) | exact LeO.none _ | refine LeO.ite ?_ ?_ | refine LeO.bind ?_ (fun _ => ?_)
theorem spec_l6Many.calls (k : Nat) (a0 : ByteArray) (a1 : Int) (r : ByteArray) (w : World) (h : spec_l6Many.f k a0 a1 = some r) :
    Calls Try.prog 112 #[.string a0, .int .i64 a1] w fun e w' => e = .returned (.string r) ∧ Drawn0 w w' := by
 have H : (spec_l6Many.l0 k a0 a1 (⟨#[]⟩ : ByteArray)) = some r := h; clear h; have H' := z0 H; clear H; go_enter Try.func112, Try.ntmps112; go_wp2
 go_loopg [0, 1, 5] k (fun kq v0 v1 v5 w' => ∃ (x0_1 : ByteArray) (x1_1 : Int) (x5_1 : ByteArray), v0 = .string x0_1 ∧ v1 = .int .i64 x1_1 ∧ v5 = .string x5_1 ∧ Aside0 (spec_l6Many.l0 kq x0_1 x1_1 x5_1 = some r) ∧ Aside0 (kq ≤ k) ∧ Drawn0 w w')
 case atStart => exact ⟨(a0), (a1), ((⟨#[]⟩ : ByteArray)), zf, zf, zf, H', ⟨Nat.le_refl _⟩, by repeat (first | exact Drawn0.refl _ | apply Drawn0.step)⟩
 case round =>
  clear H'
  try clear c1
  try clear p2
  obtain ⟨x0_1, x1_1, x5_1, rfl, rfl, rfl, HA, HK1, ⟨m1, rfl⟩⟩ := hrel
  cases gk with
  | zero => exact absurd HA.out (by simp [spec_l6Many.l0])
  | succ k1 =>
   have H := HA.out; clear HA; simp only [spec_l6Many.l0] at H
   by_cases c3 : x1_1 > 0
   ·rw [if_pos c3] at H; have c3b0 : decide (0 < x1_1) = true := decide_eq_true c3; clear c3
    by_cases c4 : (Int.tmod x1_1 2) = 1
    ·rw [if_pos c4] at H; have c4b0 : ((Int.tmod x1_1 2) == 1) = true := beq_iff_eq.mpr c4; have c4b1 : ((Int.tmod x1_1 2) != 1) = false := bne_eq_false_iff_eq.mpr c4; clear c4; replace H := zn H; obtain ⟨c5, H⟩ := H; have c5b0 := eq_true c5; have c5b1 := decide_eq_true c5
     try have c5b2 : (9223372036854775807 < x5_1.size + x0_1.size) = False := eq_false (Nat.not_lt.2 c5)
     replace H := zn H; obtain ⟨c6, H⟩ := H; have c6b0 := eq_true c6; have c6b1 := decide_eq_true c6
     try have c6b2 : (9223372036854775807 < x0_1.size + x0_1.size) = False := eq_false (Nat.not_lt.2 c6)
     have H' := z0 H; clear H; go_wp2; go_roundg k1
     case measure => have := HK1.out; omega
     case rel => exact ⟨(x0_1 ++ x0_1), (wrap64 (Int.tdiv x1_1 2)), (x5_1 ++ x0_1), zf, zf, zf, H', ⟨by have := HK1.out; omega⟩, by repeat (first | exact Drawn0.refl _ | apply Drawn0.step)⟩
    ·rw [if_neg c4] at H; have c4b0 : ((Int.tmod x1_1 2) == 1) = false := beq_eq_false_iff_ne.mpr c4; have c4b1 : ((Int.tmod x1_1 2) != 1) = true := bne_iff_ne.mpr c4; replace H := zn H; obtain ⟨c7, H⟩ := H; have c7b0 := eq_true c7; have c7b1 := decide_eq_true c7
     try have c7b2 : (9223372036854775807 < x0_1.size + x0_1.size) = False := eq_false (Nat.not_lt.2 c7)
     have H' := z0 H; clear H; go_wp2; go_roundg k1
     case measure => have := HK1.out; omega
     case rel => exact ⟨(x0_1 ++ x0_1), (wrap64 (Int.tdiv x1_1 2)), (x5_1), zf, zf, zf, H', ⟨by have := HK1.out; omega⟩, by repeat (first | exact Drawn0.refl _ | apply Drawn0.step)⟩
   ·rw [if_neg c3] at H; have c3b0 : decide (0 < x1_1) = false := decide_eq_false c3; clear c3; obtain rfl := Option.some.inj H; go_wp2; go_ret; exact ⟨zf, by repeat (first | exact Drawn0.refl _ | apply Drawn0.step)⟩
theorem spec_l71Mess.mono_l : ∀ k, (∀ y0 y1 y2 y3, LeO (spec_l71Mess.l0 k y0 y1 y2 y3) (spec_l71Mess.l0 (k + 1) y0 y1 y2 y3))
  | 0 => fun _ _ _ _ r h => by simp [spec_l71Mess.l0] at h
  | k + 1 => by
    have ih0 := spec_l71Mess.mono_l k
    · intro y0 y1 y2 y3
      unfold spec_l71Mess.l0
      repeat' first | (with_reducible first | apply ih0 | apply spec_l2Put.mono | apply spec_l6Many.mono | apply spec_l6Rd_pick.mono | apply spec_l71Keys.mono | exact LeO.refl _ | exact LeO.none _ | refine LeO.ite ?_ ?_ | refine LeO.bind ?_ (fun _ => ?_)) | exact LeO.none _ | refine LeO.ite ?_ ?_ | refine LeO.bind ?_ (fun _ => ?_)
theorem spec_l71Mess.mono : ∀ a0 a1 k, LeO (spec_l71Mess.f k a0 a1) (spec_l71Mess.f (k + 1) a0 a1) := by
  intro a0 a1 k
  have ih0 := spec_l71Mess.mono_l k
  unfold spec_l71Mess.f
  repeat' first | (with_reducible first | apply ih0 | apply spec_l2Put.mono | apply spec_l6Many.mono | apply spec_l6Rd_pick.mono | apply spec_l71Keys.mono | exact LeO.refl _ | exact LeO.none _ | refine LeO.ite ?_ ?_ | refine LeO.bind ?_ (fun _ => ?_)) | exact LeO.none _ | refine LeO.ite ?_ ?_ | refine LeO.bind ?_ (fun _ => ?_)
def spec_l71Mess.T13 : Bool × List (List Nat × List Nat) := (true, [([], []), ([], []), ([], []), ([2], [2]), ([1, 3], [1, 3]), ([4], [4]), ([5], [5]), ([], []), ([], []), ([8], [8]), ([7, 9], [7, 9]), ([10], [10]), ([6, 11], [6, 11]), ([0, 12], [0, 12]), ([13, 13, 0, 1, 2, 3, 4, 5, 6, 7, 8, 9, 10, 11, 12, 13], [0, 13])])
def spec_l71Mess.B13 : List Nat := [0, 0, 0, 4, 14, 30, 62, 0, 0, 256, 896, 1920, 4094, 8191, 16383]
theorem spec_l71Mess.tab13 : rtab .any (opsOf Try.f79 13) = spec_l71Mess.T13 := by kernel_rfl
theorem spec_l71Mess.bits13 : waitsOk spec_l71Mess.T13.2 spec_l71Mess.B13 = true := by kernel_rfl
theorem spec_l71Mess.calls (k g : Nat) (s0_0 : List Int) (s0_1 : Int) (r1 : List ByteArray) (r2 : Int) (w0 w : World) (hI : IsS98 w0 w g s0_0 s0_1) (hB : Below w0.heap.size w0 w) (h : spec_l71Mess.f k s0_0 s0_1 = some (r1, r2)) :
    Calls Try.prog 79 #[.pointer (some ⟨g, 0, none⟩)] w fun e w' => ∃ v0_ : Value, e = .returned (v0_) ∧ Kd.R Kd.string 9 w' w.heap.size (fun _ => True) v0_ r1 ∧ IsS98 w0 w' g s0_0 r2 ∧ Below w0.heap.size w0 w' ∧ KeepBut w w' g none := by
 have HI0 := z0 hI; have HK := z0 (KeepBut.refl w g none); have HL := z0 hB.size; clear hI; have HW0 := z0 hB.size; have HB := z0 hB; clear hB; have H : ((spec_l71Keys.f k s0_0 s0_1 8).bind fun bt526 => ((spec_l6Rd_pick.f k s0_0 bt526.2 5).bind fun bt530 => (if bt530.1 = 0 then (if bt526.1.length < 8796093022208 then (some ((bt526.1 ++ [(⟨#[97]⟩ : ByteArray)]), bt530.2)) else (none)) else (if bt530.1 = 1 then ((some (([(⟨#[120]⟩ : ByteArray), (⟨#[101]⟩ : ByteArray)] : List ByteArray) : List ByteArray)).bind fun y535 => (if bt526.1.length + y535.length < 8796093022208 then (some ((bt526.1 ++ y535), bt530.2)) else (none))) else (if bt530.1 = 2 then ((spec_l6Rd_pick.f k s0_0 bt530.2 2).bind fun bt541 => ((spec_l6Many.f k (⟨#[100]⟩ : ByteArray) (wrap64 (5 + bt541.1))).bind fun t543 => (if bt526.1.length < 8796093022208 then (some ((bt526.1 ++ [t543]), bt541.2)) else (none)))) else (if bt530.1 = 3 then (spec_l71Mess.l0 k bt526.1 0 s0_0 bt530.2) else (some (bt526.1, bt530.2)))))))) = some (r1, r2) := h; clear h; replace H := zi H; obtain ⟨⟨t526, t529⟩, A2, H⟩ := H; (try dsimp only at H); replace H := zi H; obtain ⟨⟨t530, t531⟩, A3, H⟩ := H; (try dsimp only at H); go_enter Try.func79, Try.ntmps79
 go_upto_if 9 with (first | ((with_reducible refine gc 77 ?_); refine zL (some 6) Try.func77 #[.pointer (some ⟨g, 0, none⟩), .int .i64 8] ?_; (with_reducible refine (spec_l71Keys.calls k g s0_0 s0_1 8 t526 t529 w0 _ (HI0.out.zI) (HI0.out.zb HB.out) A2.out).mono ?_); rintro e w4 ⟨v527, rfl, ho0, hi, hb, hk⟩; refine zv ?_; have HO528 := z0 (Kd.R_lower ho0 (keep_size (w := w) (g := g) (row := none) (zq HK.out))); replace HK := z0 (KeepBut.trans (zq HK.out) hk (.inl rfl)); replace HB := z0 (hb); replace HI0 := z0 (hi); (try clear hb hk hi ho0)) | ((with_reducible refine gc 78 ?_); refine zL (some 8) Try.func78 #[.pointer (some ⟨g, 0, none⟩), .int .i64 5] ?_; (with_reducible refine (spec_l6Rd_pick.calls k g s0_0 t529 5 t530 t531 w0 _ (HI0.out.zI) (HI0.out.zb HB.out) A3.out).mono ?_); rintro e w5 ⟨rfl, hi, hb, hk⟩; refine zv ?_; replace HO528 := z0 (Kd.R_mono (Kd.R_keep (IsS98.apart (show IsS98 w0 _ g s0_0 t529 from HI0.out.zI) (zr HO528.out) (by decide)) hk (fun _ h => h.2)) (fun _ h => h.1)); replace HK := z0 (KeepBut.trans (zq HK.out) hk (.inl rfl)); replace HB := z0 (hb); replace HI0 := z0 (hi); (try clear hb hk hi)))
 by_cases c6 : t530 = 0
 ·rw [if_pos c6] at H; have c6b0 : (t530 == 0) = true := beq_iff_eq.mpr c6; have c6b1 : (t530 != 0) = false := bne_eq_false_iff_eq.mpr c6; clear c6; (first | rw [c6b0] | (simp only [i64_w, i32_w]; rw [c6b0]) | simp only [*, Bool.not_true, Bool.not_false] | skip); replace H := zn H; obtain ⟨c7, H⟩ := H; have LMc7 := z0 c7; clear c7; obtain ⟨y532, hy532⟩ : ∃ y_ : List ByteArray, y_ = (t526 ++ [(⟨#[97]⟩ : ByteArray)]) := ⟨_, rfl⟩; replace H : (some (y532, t531)) = some (r1, r2) := zH2 hy532 H; have Ny532 := z0 hy532; clear hy532; simp only [Option.some.injEq, Prod.mk.injEq] at H; obtain ⟨rfl, rfl⟩ := H
  go_wp2_with (first | ((with_reducible refine gate_builtin (b := .append) (xs := #[.tmp 11, .tmp 12]) rfl ?_); at_builtin; refine Kd.R_append Kd.string w.heap.size rfl (.tmp 11) (.tmp 12) 23 9 (.string ⟨#[]⟩) 16 rfl Try.underlying23 info9 rfl (by decide) (by omega) v527 t526 (⟨#[97]⟩ : ByteArray) [.string ⟨#[97]⟩] (fun _ => True) (fun _ => False) rfl rfl ?aP (fun _ hk => hk.elim) ?aF ?aO (Below.refl _ _) ?aS ?aL ?_; (case aP => exact rfl); (case aF => exact (fun _ _ => trivial)); (case aO => exact (zr HO528.out)); (case aS => exact (keep_size (w := w) (g := g) (row := none) (zq HK.out))); (case aL => have := LMc7.out; omega); intro v533 w8 ho hb hg hat; rw [← Ny532.out] at ho; replace HB := z0 (below_weaken (HI0.out.zb HB.out) HL.out hb); replace HI0 := z0 (IsS98.grown (HI0.out.zI) hg (IsS98.own_ne HI0.out HO528.out (by decide))); replace HK := z0 (KeepBut.trans (zq HK.out) (KeepBut.of_grown hg g) (Kd.R_base2 HO528.out)); have HO534 := z0 (ho); clear HO528; clear ho hb hg hat))
  go_ret; exact ⟨_, ze, zr HO534.out, HI0.out.zI, HI0.out.zb HB.out, zq HK.out⟩
 ·rw [if_neg c6] at H; have c6b0 : (t530 == 0) = false := beq_eq_false_iff_ne.mpr c6; have c6b1 : (t530 != 0) = true := bne_iff_ne.mpr c6; (first | rw [c6b0] | (simp only [i64_w, i32_w]; rw [c6b0]) | simp only [*, Bool.not_true, Bool.not_false] | skip)
  by_cases c9 : t530 = 1
  ·rw [if_pos c9] at H; have c9b0 : (t530 == 1) = true := beq_iff_eq.mpr c9; have c9b1 : (t530 != 1) = false := bne_eq_false_iff_eq.mpr c9; clear c9; obtain ⟨y535, hy535⟩ : ∃ y_ : List ByteArray, y_ = (([(⟨#[120]⟩ : ByteArray), (⟨#[101]⟩ : ByteArray)] : List ByteArray)) := ⟨_, rfl⟩; replace H : (if t526.length + y535.length < 8796093022208 then (some ((t526 ++ y535), t531)) else (none)) = some (r1, r2) := zH2 hy535 H; have Ny535 := z0 hy535; clear hy535; replace H := zn H; obtain ⟨c10, H⟩ := H; have LMc10 := z0 c10; clear c10; obtain ⟨y538, hy538⟩ : ∃ y_ : List ByteArray, y_ = (t526 ++ y535) := ⟨_, rfl⟩; replace H : (some (y538, t531)) = some (r1, r2) := zH2 hy538 H; have Ny538 := z0 hy538; clear hy538; simp only [Option.some.injEq, Prod.mk.injEq] at H; obtain ⟨rfl, rfl⟩ := H
   go_wp2_with (first | ((with_reducible refine gd 17 ?_); refine Kd.R_lit Kd.string _ 9 ?hg (N := 17) ?hd (xs := ([(⟨#[120]⟩ : ByteArray), (⟨#[101]⟩ : ByteArray)] : List ByteArray)) (inner := [.string ⟨#[120]⟩, .string ⟨#[101]⟩]) (ok := fun _ => True) (okp := fun _ => True) ?hr ?hp (fun _ hk => hk) trivial (Below.refl _ _) (Nat.le_refl _) (by simp) ?_; (case hd => rfl); (case hg => rfl); (case hr => first | (go_simp; done) | (go_simp; rfl)); (case hp => exact (Reps.one (show Kd.M Kd.string _ _ _ (⟨#[120]⟩ : ByteArray) [.string ⟨#[120]⟩] from rfl) (Reps.one (show Kd.M Kd.string _ _ _ (⟨#[101]⟩ : ByteArray) [.string ⟨#[101]⟩] from rfl) (Reps.none _ _)))); intro v536 w11 ho12 hb hg_ hnew_; clear hg_ hnew_; (first | rw [← Ny535.out] at ho12 | (simp only [Int.reduceToNat] at ho12; rw [← Ny535.out] at ho12)); have HO537 := z0 (Kd.R_lower (Kd.R_new' ho12 (Kd.R_lt (zr HO528.out))) (keep_size (w := w) (g := g) (row := none) (zq HK.out))); replace HO528 := z0 (Kd.R_elder' (zr HO528.out) (Kd.R_base ho12) hb); replace HK := z0 (KeepBut.trans (zq HK.out) (KeepBut.of_below hb g none) (.inl rfl)); replace HB := z0 (below_step (HI0.out.zb HB.out) hb); replace HI0 := z0 (IsS98.below (HI0.out.zI) hb); clear hb ho12; obtain ⟨Ao14, co14, eo14⟩ := Kd.R_slice HO537.out; subst eo14) | ((with_reducible refine gate_builtin (b := .append) (xs := #[.tmp 16, .tmp 17]) rfl ?_); at_builtin; refine Kd.R_append_rows Kd.string w.heap.size rfl (.tmp 16) (.tmp 17) 23 9 (.string ⟨#[]⟩) 16 rfl Try.underlying23 info9 rfl (by decide) (by omega) v527 t526 y535 _ _ _ (fun k_ => some k_ ≠ (.slice Ao14 y535.length co14 : Value).ownBlock) (fun _ => False) rfl rfl ?aO ?aR (fun _ _ h => h) (fun _ h => h.elim) ?aF (Below.refl _ _) ?aS ?aL ?_; (case aR => repeat (first | exact (Kd.R_reads' HO537.out).2.2 | (with_reducible refine Kd.C_alloc ?_ _) | (with_reducible refine Kd.C_drewN ?_ _) | (with_reducible refine Kd.C_drew ?_))); (case aF => exact (fun k_ hk => Kd.fresh' (Kd.R_lt (zr HO537.out)) k_ hk)); (case aO => exact (Kd.R_mono (zr HO528.out) (fun _ hk => hk.2))); (case aS => exact (keep_size (w := w) (g := g) (row := none) (zq HK.out))); (case aL => have := LMc10.out; omega); intro v539 w13 ho hb hg hat; rw [← Ny538.out] at ho; replace HO537 := z0 (Kd.R_after (ok := (fun _ => True)) (zr HO537.out) hg hat); replace HB := z0 (below_weaken (HI0.out.zb HB.out) HL.out hb); replace HI0 := z0 (IsS98.grown (HI0.out.zI) hg (IsS98.own_ne HI0.out HO528.out (by decide))); replace HK := z0 (KeepBut.trans (zq HK.out) (KeepBut.of_grown hg g) (Kd.R_base2 HO528.out)); have HO540 := z0 (ho); clear HO528; clear ho hb hg hat))
   go_ret; exact ⟨_, ze, Kd.R_mono (zr HO540.out) (fun _ hk => trivial), HI0.out.zI, HI0.out.zb HB.out, zq HK.out⟩
  ·rw [if_neg c9] at H; have c9b0 : (t530 == 1) = false := beq_eq_false_iff_ne.mpr c9; have c9b1 : (t530 != 1) = true := bne_iff_ne.mpr c9
   by_cases c15 : t530 = 2
   ·rw [if_pos c15] at H; have c15b0 : (t530 == 2) = true := beq_iff_eq.mpr c15; have c15b1 : (t530 != 2) = false := bne_eq_false_iff_eq.mpr c15; clear c15; replace H := zi H; obtain ⟨⟨t541, t542⟩, A16, H⟩ := H; (try dsimp only at H); replace H := zi H; obtain ⟨t543, A17, H⟩ := H; replace H := zn H; obtain ⟨c18, H⟩ := H; have LMc18 := z0 c18; clear c18; obtain ⟨y544, hy544⟩ : ∃ y_ : List ByteArray, y_ = (t526 ++ [t543]) := ⟨_, rfl⟩; replace H : (some (y544, t542)) = some (r1, r2) := zH2 hy544 H; have Ny544 := z0 hy544; clear hy544; simp only [Option.some.injEq, Prod.mk.injEq] at H; obtain ⟨rfl, rfl⟩ := H
    go_wp2_with (first | ((with_reducible refine gc 78 ?_); refine zL (some 23) Try.func78 #[.pointer (some ⟨g, 0, none⟩), .int .i64 2] ?_; (with_reducible refine (spec_l6Rd_pick.calls k g s0_0 t531 2 t541 t542 w0 _ (HI0.out.zI) (HI0.out.zb HB.out) A16.out).mono ?_); rintro e w19 ⟨rfl, hi, hb, hk⟩; refine zv ?_; replace HO528 := z0 (Kd.R_mono (Kd.R_keep (IsS98.apart (show IsS98 w0 _ g s0_0 t531 from HI0.out.zI) (zr HO528.out) (by decide)) hk (fun _ h => h.2)) (fun _ h => h.1)); replace HK := z0 (KeepBut.trans (zq HK.out) hk (.inl rfl)); replace HB := z0 (hb); replace HI0 := z0 (hi); (try clear hb hk hi)) | ((with_reducible refine gc 112 ?_); refine zL (some 25) Try.func112 #[.string ⟨#[100]⟩, .int .i64 (wrap64 (5 + t541))] ?_; (with_reducible refine (spec_l6Many.calls k (⟨#[100]⟩ : ByteArray) (wrap64 (5 + t541)) t543 _ A17.out).mono ?_); rintro e w' ⟨rfl, ⟨nd, rfl⟩⟩; refine ⟨_, rfl, ?_⟩) | ((with_reducible refine gate_builtin (b := .append) (xs := #[.tmp 21, .tmp 26]) rfl ?_); at_builtin; refine Kd.R_append Kd.string w.heap.size rfl (.tmp 21) (.tmp 26) 23 9 (.string ⟨#[]⟩) 16 rfl Try.underlying23 info9 rfl (by decide) (by omega) v527 t526 t543 [.string t543] (fun _ => True) (fun _ => False) rfl rfl ?aP (fun _ hk => hk.elim) ?aF ?aO (Below.refl _ _) ?aS ?aL ?_; (case aP => exact rfl); (case aF => exact (fun _ _ => trivial)); (case aO => exact (zr HO528.out)); (case aS => exact (keep_size (w := w) (g := g) (row := none) (zq HK.out))); (case aL => have := LMc18.out; omega); intro v545 w20 ho hb hg hat; rw [← Ny544.out] at ho; replace HB := z0 (below_weaken (HI0.out.zb HB.out) HL.out hb); replace HI0 := z0 (IsS98.grown (HI0.out.zI) hg (IsS98.own_ne HI0.out HO528.out (by decide))); replace HK := z0 (KeepBut.trans (zq HK.out) (KeepBut.of_grown hg g) (Kd.R_base2 HO528.out)); have HO546 := z0 (ho); clear HO528; clear ho hb hg hat))
    go_ret; exact ⟨_, ze, zr HO546.out, HI0.out.zI, HI0.out.zb HB.out, zq HK.out⟩
   ·rw [if_neg c15] at H; have c15b0 : (t530 == 2) = false := beq_eq_false_iff_ne.mpr c15; have c15b1 : (t530 != 2) = true := bne_iff_ne.mpr c15
    by_cases c21 : t530 = 3
    ·rw [if_pos c21] at H; have c21b0 : (t530 == 3) = true := beq_iff_eq.mpr c21; have c21b1 : (t530 != 3) = false := bne_eq_false_iff_eq.mpr c21; clear c21; have H' := z0 H; clear H; go_wp2
     go_loopg [3, 4] k (fun kq v3 v4 w' => ∃ (x3_1 : List ByteArray) (x4_1 : Int), v4 = .int .i64 x4_1 ∧ Aside0 (spec_l71Mess.l0 kq x3_1 x4_1 s0_0 t531 = some (r1, r2)) ∧ Aside0 (kq ≤ k) ∧ Aside0 (Kd.R Kd.string 9 w' w.heap.size (fun _ => True) v3 x3_1) ∧ Aside0 (IsS98 w0 w' g s0_0 t531) ∧ Aside0 (KeepBut w w' g none) ∧ Aside0 (Below w0.heap.size w0 w'))
     case atStart => exact ⟨(t526), (0), zf, H', ⟨Nat.le_refl _⟩, ⟨zr HO528.out⟩, ⟨HI0.out.zI⟩, ⟨zq HK.out⟩, ⟨HI0.out.zb HB.out⟩⟩
     case round =>
      clear H'
      try clear c1
      try clear c2
      try clear p2
      try clear c6
      try clear c6b0
      try clear c6b1
      try clear p6
      try clear c7
      try clear c9
      try clear c9b0
      try clear c9b1
      try clear c10
      try clear c11
      try clear c15
      try clear c15b0
      try clear c15b1
      try clear c18
      try clear c21
      try clear c21b0
      try clear c21b1
      obtain ⟨x3_1, x4_1, rfl, HA, HK1, HO_3, HI0, HK, HB⟩ := hrel
      cases gk with
      | zero => exact absurd HA.out (by simp [spec_l71Mess.l0])
      | succ k1 =>
       have H := HA.out; clear HA; simp only [spec_l71Mess.l0] at H
       by_cases c22 : x4_1 < 30
       ·rw [if_pos c22] at H; have c22b0 := decide_eq_true c22; clear c22; obtain ⟨y547, hy547⟩ : ∃ y_ : List ByteArray, y_ = (([(⟨#[]⟩ : ByteArray), (⟨#[97]⟩ : ByteArray), (⟨#[98]⟩ : ByteArray), (⟨#[99]⟩ : ByteArray), (⟨#[100]⟩ : ByteArray)] : List ByteArray)) := ⟨_, rfl⟩; replace H : (if 0 ≤ (Int.tmod x4_1 5) then (if (Int.tmod x4_1 5) < (y547.length : Int) then (if 1 + (rdOf ByteArray.empty y547 (Int.tmod x4_1 5)).size ≤ 9223372036854775807 then ((some (([(⟨#[]⟩ : ByteArray), (⟨#[97]⟩ : ByteArray), (⟨#[98]⟩ : ByteArray), (⟨#[99]⟩ : ByteArray), (⟨#[100]⟩ : ByteArray), (⟨#[100, 97]⟩ : ByteArray)] : List ByteArray) : List ByteArray)).bind fun y551 => (if 0 ≤ (wrap64 (Int.tdiv x4_1 5)) then (if (wrap64 (Int.tdiv x4_1 5)) < (y551.length : Int) then (if ((⟨#[100]⟩ : ByteArray) ++ (rdOf ByteArray.empty y547 (Int.tmod x4_1 5))).size + (rdOf ByteArray.empty y551 (wrap64 (Int.tdiv x4_1 5))).size ≤ 9223372036854775807 then ((spec_l2Put.f k1 x3_1 (((⟨#[100]⟩ : ByteArray) ++ (rdOf ByteArray.empty y547 (Int.tmod x4_1 5))) ++ (rdOf ByteArray.empty y551 (wrap64 (Int.tdiv x4_1 5))))).bind fun t555 => (spec_l71Mess.l0 k1 t555 (wrap64 (x4_1 + 1)) s0_0 t531)) else (none)) else (none)) else (none))) else (none)) else (none)) else (none)) = some (r1, r2) := zH2 hy547 H; have Ny547 := z0 hy547; clear hy547; obtain ⟨ji23, hji23⟩ : ∃ j_ : Int, (Int.tmod x4_1 5) = j_ := ⟨_, rfl⟩
        replace H : (if 0 ≤ (ji23) then (if (ji23) < (y547.length : Int) then (if 1 + (rdOf ByteArray.empty y547 (ji23)).size ≤ 9223372036854775807 then ((some (([(⟨#[]⟩ : ByteArray), (⟨#[97]⟩ : ByteArray), (⟨#[98]⟩ : ByteArray), (⟨#[99]⟩ : ByteArray), (⟨#[100]⟩ : ByteArray), (⟨#[100, 97]⟩ : ByteArray)] : List ByteArray) : List ByteArray)).bind fun y551 => (if 0 ≤ (wrap64 (Int.tdiv x4_1 5)) then (if (wrap64 (Int.tdiv x4_1 5)) < (y551.length : Int) then (if ((⟨#[100]⟩ : ByteArray) ++ (rdOf ByteArray.empty y547 (ji23))).size + (rdOf ByteArray.empty y551 (wrap64 (Int.tdiv x4_1 5))).size ≤ 9223372036854775807 then ((spec_l2Put.f k1 x3_1 (((⟨#[100]⟩ : ByteArray) ++ (rdOf ByteArray.empty y547 (ji23))) ++ (rdOf ByteArray.empty y551 (wrap64 (Int.tdiv x4_1 5))))).bind fun t555 => (spec_l71Mess.l0 k1 t555 (wrap64 (x4_1 + 1)) s0_0 t531)) else (none)) else (none)) else (none))) else (none)) else (none)) else (none)) = some (r1, r2) := by first | (rw [hji23] at H; exact H) | (simp only [hji23] at H ⊢; exact H)
        replace H := zn H; obtain ⟨c24, H⟩ := H; have c24b0 := decide_eq_true c24; clear c24; replace H := zn H; obtain ⟨c25, H⟩ := H; have c25b0 := decide_eq_true c25; clear c25; replace H := zn H; obtain ⟨c26, H⟩ := H; have c26b0 := eq_true c26; have c26b1 := decide_eq_true c26
        try have c26b2 : (9223372036854775807 < 1 + (rdOf ByteArray.empty y547 (ji23)).size) = False := eq_false (Nat.not_lt.2 c26)
        obtain ⟨y551, hy551⟩ : ∃ y_ : List ByteArray, y_ = (([(⟨#[]⟩ : ByteArray), (⟨#[97]⟩ : ByteArray), (⟨#[98]⟩ : ByteArray), (⟨#[99]⟩ : ByteArray), (⟨#[100]⟩ : ByteArray), (⟨#[100, 97]⟩ : ByteArray)] : List ByteArray)) := ⟨_, rfl⟩; replace H : (if 0 ≤ (wrap64 (Int.tdiv x4_1 5)) then (if (wrap64 (Int.tdiv x4_1 5)) < (y551.length : Int) then (if ((⟨#[100]⟩ : ByteArray) ++ (rdOf ByteArray.empty y547 (ji23))).size + (rdOf ByteArray.empty y551 (wrap64 (Int.tdiv x4_1 5))).size ≤ 9223372036854775807 then ((spec_l2Put.f k1 x3_1 (((⟨#[100]⟩ : ByteArray) ++ (rdOf ByteArray.empty y547 (ji23))) ++ (rdOf ByteArray.empty y551 (wrap64 (Int.tdiv x4_1 5))))).bind fun t555 => (spec_l71Mess.l0 k1 t555 (wrap64 (x4_1 + 1)) s0_0 t531)) else (none)) else (none)) else (none)) = some (r1, r2) := zH2 hy551 H; have Ny551 := z0 hy551; clear hy551; obtain ⟨ji27, hji27⟩ : ∃ j_ : Int, (wrap64 (Int.tdiv x4_1 5)) = j_ := ⟨_, rfl⟩
        replace H : (if 0 ≤ (ji27) then (if (ji27) < (y551.length : Int) then (if ((⟨#[100]⟩ : ByteArray) ++ (rdOf ByteArray.empty y547 (ji23))).size + (rdOf ByteArray.empty y551 (ji27)).size ≤ 9223372036854775807 then ((spec_l2Put.f k1 x3_1 (((⟨#[100]⟩ : ByteArray) ++ (rdOf ByteArray.empty y547 (ji23))) ++ (rdOf ByteArray.empty y551 (ji27)))).bind fun t555 => (spec_l71Mess.l0 k1 t555 (wrap64 (x4_1 + 1)) s0_0 t531)) else (none)) else (none)) else (none)) = some (r1, r2) := by first | (rw [hji27] at H; exact H) | (simp only [hji27] at H ⊢; exact H)
        have hji27w : (IntKind.i64.wrap (Int.tdiv x4_1 5)) = ji27 := (i64_w _).trans hji27; replace H := zn H; obtain ⟨c28, H⟩ := H; have c28b0 := decide_eq_true c28; clear c28; replace H := zn H; obtain ⟨c29, H⟩ := H; have c29b0 := decide_eq_true c29; clear c29; replace H := zn H; obtain ⟨c30, H⟩ := H; have c30b0 := eq_true c30; have c30b1 := decide_eq_true c30
        try have c30b2 : (9223372036854775807 < ((⟨#[100]⟩ : ByteArray) ++ (rdOf ByteArray.empty y547 (ji23))).size + (rdOf ByteArray.empty y551 (ji27)).size) = False := eq_false (Nat.not_lt.2 c30)
        (try (have c30b3 := c30b2; rw [ByteArray.size_append] at c30b3; try simp only [show ∀ b_ : UInt8, (⟨#[b_]⟩ : ByteArray).size = 1 from fun _ => rfl] at c30b3)); replace H := zi H; obtain ⟨t555, A31, H⟩ := H; have H' := z0 H; clear H; obtain ⟨Ao32, co32, eo32⟩ := Kd.R_slice HO_3.out; subst eo32
        try go_wp2
        have pi550 : (0 ≤ ((ji23) : Int)) = True := eq_true (zd); have qi550 : ((ji23) < (y547.length : Int)) = True := eq_true (zd); have pi554 : (0 ≤ ((ji27) : Int)) = True := eq_true (zd); have qi554 : ((ji27) < (y551.length : Int)) = True := eq_true (zd); replace HO_3 := z0 (Kd.R_drew HO_3.out); replace HI0 := z0 (IsS98.drew HI0.out); replace HK := z0 (keep_drew HK.out); replace HB := z0 (below_drew1 HB.out); refine start_ (n := 15) (S := fun w' => True) (ds := []) (fb 15 0) (by kernel_rfl) rfl rfl trivial (fun hHeld => ?_); refine with_tabW spec_l71Mess.tab13 spec_l71Mess.bits13 (fun HT_ HW_ => ?_); generalize wr.drew = w33 at HO_3 HI0 HK HB hHeld ⊢; refine zu 0 1 ?_; refine zu 2 5 ?_; refine zu 3 13 ?_; refine zu 8 269 ?_; refine zu 9 781 ?_; refine join_ (σ := Value × Addr × Value × Addr) 3 (fb 15 4095) (fun s_ => [(35, s_.1), (39, .string (rdOf ByteArray.empty y547 (ji23))), (41, s_.2.2.1), (45, .string (rdOf ByteArray.empty y551 (ji27))), (38, .pointer (some (s_.2.1.add ((ji23)).toNat))), (40, .string ((⟨#[100]⟩ : ByteArray) ++ (rdOf ByteArray.empty y547 (ji23)))), (44, .pointer (some (s_.2.2.2.add ((ji27)).toNat)))]) (fun s_ w' => (Kd.R Kd.string 9 w' w.heap.size (fun k_ => some k_ ≠ (s_.2.2.1 : Value).ownBlock ∧ some k_ ≠ (.slice Ao32 x3_1.length co32 : Value).ownBlock) s_.1 y547) ∧ (Kd.R Kd.string 9 w' w.heap.size (fun k_ => some k_ ≠ (s_.1 : Value).ownBlock ∧ some k_ ≠ (.slice Ao32 x3_1.length co32 : Value).ownBlock) s_.2.2.1 y551) ∧ (Kd.R Kd.string 9 w' w.heap.size (fun k_ => some k_ ≠ (s_.1 : Value).ownBlock ∧ some k_ ≠ (s_.2.2.1 : Value).ownBlock) (.slice Ao32 x3_1.length co32) x3_1) ∧ (∃ c_, (s_.1 : Value) = .slice (some s_.2.1) y547.length c_) ∧ (∃ c_, (s_.2.2.1 : Value) = .slice (some s_.2.2.2) y551.length c_) ∧ (IsS98 w0 w' g s0_0 t531) ∧ (KeepBut w w' g none) ∧ (Below w0.heap.size w0 w')) ?_ ?_; rotate_left
        ·intro hJ1_5_7_11; refine join_ (σ := Value × Addr × Value × Addr) 4 (fb 15 2047) (fun s_ => [(35, s_.1), (39, .string (rdOf ByteArray.empty y547 (ji23))), (41, s_.2.2.1), (38, .pointer (some (s_.2.1.add ((ji23)).toNat))), (40, .string ((⟨#[100]⟩ : ByteArray) ++ (rdOf ByteArray.empty y547 (ji23)))), (44, .pointer (some (s_.2.2.2.add ((ji27)).toNat)))]) (fun s_ w' => (Kd.R Kd.string 9 w' w.heap.size (fun k_ => some k_ ≠ (s_.2.2.1 : Value).ownBlock ∧ some k_ ≠ (.slice Ao32 x3_1.length co32 : Value).ownBlock) s_.1 y547) ∧ (Kd.R Kd.string 9 w' w.heap.size (fun k_ => some k_ ≠ (s_.1 : Value).ownBlock ∧ some k_ ≠ (.slice Ao32 x3_1.length co32 : Value).ownBlock) s_.2.2.1 y551) ∧ (Kd.R Kd.string 9 w' w.heap.size (fun k_ => some k_ ≠ (s_.1 : Value).ownBlock ∧ some k_ ≠ (s_.2.2.1 : Value).ownBlock) (.slice Ao32 x3_1.length co32) x3_1) ∧ (∃ c_, (s_.1 : Value) = .slice (some s_.2.1) y547.length c_) ∧ (∃ c_, (s_.2.2.1 : Value) = .slice (some s_.2.2.2) y551.length c_) ∧ (IsS98 w0 w' g s0_0 t531) ∧ (KeepBut w w' g none) ∧ (Below w0.heap.size w0 w')) ?_ ?_; rotate_left
         ·intro hJ1_5_7; refine join_ (σ := Value × Addr × Value × Addr) 5 (fb 15 3999) (fun s_ => [(35, s_.1), (41, s_.2.2.1), (45, .string (rdOf ByteArray.empty y551 (ji27))), (38, .pointer (some (s_.2.1.add ((ji23)).toNat))), (44, .pointer (some (s_.2.2.2.add ((ji27)).toNat)))]) (fun s_ w' => (Kd.R Kd.string 9 w' w.heap.size (fun k_ => some k_ ≠ (s_.2.2.1 : Value).ownBlock ∧ some k_ ≠ (.slice Ao32 x3_1.length co32 : Value).ownBlock) s_.1 y547) ∧ (Kd.R Kd.string 9 w' w.heap.size (fun k_ => some k_ ≠ (s_.1 : Value).ownBlock ∧ some k_ ≠ (.slice Ao32 x3_1.length co32 : Value).ownBlock) s_.2.2.1 y551) ∧ (Kd.R Kd.string 9 w' w.heap.size (fun k_ => some k_ ≠ (s_.1 : Value).ownBlock ∧ some k_ ≠ (s_.2.2.1 : Value).ownBlock) (.slice Ao32 x3_1.length co32) x3_1) ∧ (∃ c_, (s_.1 : Value) = .slice (some s_.2.1) y547.length c_) ∧ (∃ c_, (s_.2.2.1 : Value) = .slice (some s_.2.2.2) y551.length c_) ∧ (IsS98 w0 w' g s0_0 t531) ∧ (KeepBut w w' g none) ∧ (Below w0.heap.size w0 w')) ?_ ?_; rotate_left
          ·intro hJ1_7_11; refine join_ (σ := Value × Addr) 6 (fb 15 895) (fun s_ => [(35, s_.1), (39, .string (rdOf ByteArray.empty y547 (ji23))), (38, .pointer (some (s_.2.add ((ji23)).toNat))), (40, .string ((⟨#[100]⟩ : ByteArray) ++ (rdOf ByteArray.empty y547 (ji23))))]) (fun s_ w' => (Kd.R Kd.string 9 w' w.heap.size (fun k_ => some k_ ≠ (.slice Ao32 x3_1.length co32 : Value).ownBlock) s_.1 y547) ∧ (Kd.R Kd.string 9 w' w.heap.size (fun k_ => some k_ ≠ (s_.1 : Value).ownBlock) (.slice Ao32 x3_1.length co32) x3_1) ∧ (∃ c_, (s_.1 : Value) = .slice (some s_.2) y547.length c_) ∧ (IsS98 w0 w' g s0_0 t531) ∧ (KeepBut w w' g none) ∧ (Below w0.heap.size w0 w')) ?_ ?_; rotate_left
           ·intro hJ1_5; refine join_ (σ := Value × Addr × Value × Addr) 6 (fb 15 1951) (fun s_ => [(35, s_.1), (41, s_.2.2.1), (38, .pointer (some (s_.2.1.add ((ji23)).toNat))), (44, .pointer (some (s_.2.2.2.add ((ji27)).toNat)))]) (fun s_ w' => (Kd.R Kd.string 9 w' w.heap.size (fun k_ => some k_ ≠ (s_.2.2.1 : Value).ownBlock ∧ some k_ ≠ (.slice Ao32 x3_1.length co32 : Value).ownBlock) s_.1 y547) ∧ (Kd.R Kd.string 9 w' w.heap.size (fun k_ => some k_ ≠ (s_.1 : Value).ownBlock ∧ some k_ ≠ (.slice Ao32 x3_1.length co32 : Value).ownBlock) s_.2.2.1 y551) ∧ (Kd.R Kd.string 9 w' w.heap.size (fun k_ => some k_ ≠ (s_.1 : Value).ownBlock ∧ some k_ ≠ (s_.2.2.1 : Value).ownBlock) (.slice Ao32 x3_1.length co32) x3_1) ∧ (∃ c_, (s_.1 : Value) = .slice (some s_.2.1) y547.length c_) ∧ (∃ c_, (s_.2.2.1 : Value) = .slice (some s_.2.2.2) y551.length c_) ∧ (IsS98 w0 w' g s0_0 t531) ∧ (KeepBut w w' g none) ∧ (Below w0.heap.size w0 w')) ?_ ?_; rotate_left
            ·intro hJ1_7; refine join_ (σ := Value × Addr) 7 (fb 15 3981) (fun s_ => [(41, s_.1), (45, .string (rdOf ByteArray.empty y551 (ji27))), (44, .pointer (some (s_.2.add ((ji27)).toNat)))]) (fun s_ w' => (Kd.R Kd.string 9 w' w.heap.size (fun k_ => some k_ ≠ (.slice Ao32 x3_1.length co32 : Value).ownBlock) s_.1 y551) ∧ (Kd.R Kd.string 9 w' w.heap.size (fun k_ => some k_ ≠ (s_.1 : Value).ownBlock) (.slice Ao32 x3_1.length co32) x3_1) ∧ (∃ c_, (s_.1 : Value) = .slice (some s_.2) y551.length c_) ∧ (IsS98 w0 w' g s0_0 t531) ∧ (KeepBut w w' g none) ∧ (Below w0.heap.size w0 w')) ?_ ?_; rotate_left
             ·intro hJ7_11; refine join_ (σ := Value × Addr) 8 (fb 15 799) (fun s_ => [(35, s_.1), (38, .pointer (some (s_.2.add ((ji23)).toNat)))]) (fun s_ w' => (Kd.R Kd.string 9 w' w.heap.size (fun k_ => some k_ ≠ (.slice Ao32 x3_1.length co32 : Value).ownBlock) s_.1 y547) ∧ (Kd.R Kd.string 9 w' w.heap.size (fun k_ => some k_ ≠ (s_.1 : Value).ownBlock) (.slice Ao32 x3_1.length co32) x3_1) ∧ (∃ c_, (s_.1 : Value) = .slice (some s_.2) y547.length c_) ∧ (IsS98 w0 w' g s0_0 t531) ∧ (KeepBut w w' g none) ∧ (Below w0.heap.size w0 w')) ?_ ?_; rotate_left
              ·intro hJ1; refine join_ (σ := Value × Addr) 8 (fb 15 1933) (fun s_ => [(41, s_.1), (44, .pointer (some (s_.2.add ((ji27)).toNat)))]) (fun s_ w' => (Kd.R Kd.string 9 w' w.heap.size (fun k_ => some k_ ≠ (.slice Ao32 x3_1.length co32 : Value).ownBlock) s_.1 y551) ∧ (Kd.R Kd.string 9 w' w.heap.size (fun k_ => some k_ ≠ (s_.1 : Value).ownBlock) (.slice Ao32 x3_1.length co32) x3_1) ∧ (∃ c_, (s_.1 : Value) = .slice (some s_.2) y551.length c_) ∧ (IsS98 w0 w' g s0_0 t531) ∧ (KeepBut w w' g none) ∧ (Below w0.heap.size w0 w')) ?_ ?_; rotate_left
               ·intro hJ7; refine two_ (i := 1) (j := 7) (Ni := some 35) (Nj := some 41) (fb 15 783) (fb 15 909) rfl rfl rfl rfl (two_of HT_.out (by kernel_rfl)) (by decide) (by decide) (fun K hK => ?_) (fun K hK => ?_)
                ·skip
                 refine Kd.R_lit_step Kd.string _ 9 ?hg (N := 35) ?hd (xs := ([(⟨#[]⟩ : ByteArray), (⟨#[97]⟩ : ByteArray), (⟨#[98]⟩ : ByteArray), (⟨#[99]⟩ : ByteArray), (⟨#[100]⟩ : ByteArray)] : List ByteArray)) (inner := [.string ⟨#[]⟩, .string ⟨#[97]⟩, .string ⟨#[98]⟩, .string ⟨#[99]⟩, .string ⟨#[100]⟩]) (ok := fun _ => True) (okp := fun _ => True) ?hr ?hp (fun _ hk => hk) trivial (Below.refl _ _) (Nat.le_refl _) (by simp) ?_; (case hd => rfl); (case hg => rfl); (case hr => first | (go_simp; done) | (go_simp; rfl)); (case hp => exact (Reps.one (show Kd.M Kd.string _ _ _ (⟨#[]⟩ : ByteArray) [.string ⟨#[]⟩] from rfl) (Reps.one (show Kd.M Kd.string _ _ _ (⟨#[97]⟩ : ByteArray) [.string ⟨#[97]⟩] from rfl) (Reps.one (show Kd.M Kd.string _ _ _ (⟨#[98]⟩ : ByteArray) [.string ⟨#[98]⟩] from rfl) (Reps.one (show Kd.M Kd.string _ _ _ (⟨#[99]⟩ : ByteArray) [.string ⟨#[99]⟩] from rfl) (Reps.one (show Kd.M Kd.string _ _ _ (⟨#[100]⟩ : ByteArray) [.string ⟨#[100]⟩] from rfl) (Reps.none _ _))))))); intro v548 w34 ho35 hb hg_ hnew_; clear hg_ hnew_; (first | rw [← Ny547.out] at ho35 | (simp only [Int.reduceToNat] at ho35; rw [← Ny547.out] at ho35)); have HO549 := z0 (Kd.R_lower (Kd.R_new' ho35 (Kd.R_lt (zr HO_3.out))) (keep_size (w := w) (g := g) (row := none) (zq HK.out))); replace HO_3 := z0 (Kd.R_elder' (zr HO_3.out) (Kd.R_base ho35) hb); replace HK := z0 (KeepBut.trans (zq HK.out) (KeepBut.of_below hb g none) (.inl rfl)); replace HB := z0 (below_step (HI0.out.zb HB.out) hb); replace HI0 := z0 (IsS98.below (HI0.out.zI) hb); clear hb ho35; obtain ⟨Ao36, co36, eo36⟩ := Kd.R_slice HO549.out; subst eo36; obtain ⟨ado36, fo36, _⟩ := Kd.at_string (Kd.R_reads' HO549.out).2.2 0 (by decide) (by rw [Ny547.out]; simp)
                 cases fo36
                 refine hK.out _ _ trivial (fun hHeld => ?_); clear hK K; refine znm ?_; refine zu 4 799 ?_; exact norm_ (by first | (simp only [putAll, Act.put, List.setIfInBounds_toArray, List.set_cons_zero, List.set_cons_succ]; done) | (simp only [putAll, Act.put, List.setIfInBounds_toArray, List.set_cons_zero, List.set_cons_succ]; rfl)) (hJ1 (.slice (some ado36) y547.length co36, ado36) _ ⟨(Kd.R_mono (zr HO549.out) (fun _ hk => hk.2)), (Kd.R_mono (zr HO_3.out) (fun _ hk => hk.2)), ⟨_, rfl⟩, (HI0.out.zI), (zq HK.out), (HI0.out.zb HB.out)⟩)
                ·skip
                 refine Kd.R_lit_step Kd.string _ 9 ?hg (N := 41) ?hd (xs := ([(⟨#[]⟩ : ByteArray), (⟨#[97]⟩ : ByteArray), (⟨#[98]⟩ : ByteArray), (⟨#[99]⟩ : ByteArray), (⟨#[100]⟩ : ByteArray), (⟨#[100, 97]⟩ : ByteArray)] : List ByteArray)) (inner := [.string ⟨#[]⟩, .string ⟨#[97]⟩, .string ⟨#[98]⟩, .string ⟨#[99]⟩, .string ⟨#[100]⟩, .string ⟨#[100, 97]⟩]) (ok := fun _ => True) (okp := fun _ => True) ?hr ?hp (fun _ hk => hk) trivial (Below.refl _ _) (Nat.le_refl _) (by simp) ?_; (case hd => rfl); (case hg => rfl); (case hr => first | (go_simp; done) | (go_simp; rfl)); (case hp => exact (Reps.one (show Kd.M Kd.string _ _ _ (⟨#[]⟩ : ByteArray) [.string ⟨#[]⟩] from rfl) (Reps.one (show Kd.M Kd.string _ _ _ (⟨#[97]⟩ : ByteArray) [.string ⟨#[97]⟩] from rfl) (Reps.one (show Kd.M Kd.string _ _ _ (⟨#[98]⟩ : ByteArray) [.string ⟨#[98]⟩] from rfl) (Reps.one (show Kd.M Kd.string _ _ _ (⟨#[99]⟩ : ByteArray) [.string ⟨#[99]⟩] from rfl) (Reps.one (show Kd.M Kd.string _ _ _ (⟨#[100]⟩ : ByteArray) [.string ⟨#[100]⟩] from rfl) (Reps.one (show Kd.M Kd.string _ _ _ (⟨#[100, 97]⟩ : ByteArray) [.string ⟨#[100, 97]⟩] from rfl) (Reps.none _ _)))))))); intro v552 w34 ho35 hb hg_ hnew_; clear hg_ hnew_; (first | rw [← Ny551.out] at ho35 | (simp only [Int.reduceToNat] at ho35; rw [← Ny551.out] at ho35)); have HO553 := z0 (Kd.R_lower (Kd.R_new' ho35 (Kd.R_lt (zr HO_3.out))) (keep_size (w := w) (g := g) (row := none) (zq HK.out))); replace HO_3 := z0 (Kd.R_elder' (zr HO_3.out) (Kd.R_base ho35) hb); replace HK := z0 (KeepBut.trans (zq HK.out) (KeepBut.of_below hb g none) (.inl rfl)); replace HB := z0 (below_step (HI0.out.zb HB.out) hb); replace HI0 := z0 (IsS98.below (HI0.out.zI) hb); clear hb ho35; obtain ⟨Ao36, co36, eo36⟩ := Kd.R_slice HO553.out; subst eo36; obtain ⟨ado36, fo36, _⟩ := Kd.at_string (Kd.R_reads' HO553.out).2.2 0 (by decide) (by rw [Ny551.out]; simp)
                 cases fo36
                 refine hK.out _ _ trivial (fun hHeld => ?_); clear hK K; refine znm ?_; refine zu 10 1933 ?_; exact norm_ (by first | (simp only [putAll, Act.put, List.setIfInBounds_toArray, List.set_cons_zero, List.set_cons_succ]; done) | (simp only [putAll, Act.put, List.setIfInBounds_toArray, List.set_cons_zero, List.set_cons_succ]; rfl)) (hJ7 (.slice (some ado36) y551.length co36, ado36) _ ⟨(Kd.R_mono (zr HO553.out) (fun _ hk => hk.2)), (Kd.R_mono (zr HO_3.out) (fun _ hk => hk.2)), ⟨_, rfl⟩, (HI0.out.zI), (zq HK.out), (HI0.out.zb HB.out)⟩)
               ·skip
                rintro ⟨v552, adz_v552⟩ w37 ⟨h0_, h1_, h2_, h3_, h4_, h5_⟩; have n0_ : Aside0 (Kd.R Kd.string 9 w37 w.heap.size (fun k_ => some k_ ≠ (.slice Ao32 x3_1.length co32 : Value).ownBlock) v552 y551) := ⟨h0_⟩; have n1_ : Aside0 (Kd.R Kd.string 9 w37 w.heap.size (fun k_ => some k_ ≠ (v552 : Value).ownBlock) (.slice Ao32 x3_1.length co32) x3_1) := ⟨h1_⟩; have n2_ : Aside0 (∃ c_, (v552 : Value) = .slice (some adz_v552) y551.length c_) := ⟨h2_⟩; have n3_ : Aside0 (IsS98 w0 w37 g s0_0 t531) := ⟨h3_⟩; have n4_ : Aside0 (KeepBut w w37 g none) := ⟨h4_⟩; have n5_ : Aside0 (Below w0.heap.size w0 w37) := ⟨h5_⟩; clear HO_3; clear HI0; clear HK; clear HB; clear h0_ h1_ h2_ h3_ h4_ h5_; have HO553 := n0_; have HO_3 := n1_; have HA_HO553 := n2_; have HI0 := n3_; have HK := n4_; have HB := n5_; clear n0_ n1_ n2_ n3_ n4_ n5_; have hHeld := trivial; obtain ⟨co38, eo38⟩ := HA_HO553.out; clear HA_HO553; subst eo38; refine norm_ (a' := ?_) ?_ ?_; rotate_left
                ·simp only [putAll, Act.put, List.setIfInBounds_toArray, List.set_cons_zero, List.set_cons_succ]
                 rfl
                refine two_ (i := 1) (j := 11) (Ni := some 35) (Nj := some 45) (fb 15 1935) (fb 15 3981) rfl rfl rfl rfl (two_of HT_.out (by kernel_rfl)) (by decide) (by decide) (fun K hK => ?_) (fun K hK => ?_)
                ·skip
                 refine Kd.R_lit_step Kd.string _ 9 ?hg (N := 35) ?hd (xs := ([(⟨#[]⟩ : ByteArray), (⟨#[97]⟩ : ByteArray), (⟨#[98]⟩ : ByteArray), (⟨#[99]⟩ : ByteArray), (⟨#[100]⟩ : ByteArray)] : List ByteArray)) (inner := [.string ⟨#[]⟩, .string ⟨#[97]⟩, .string ⟨#[98]⟩, .string ⟨#[99]⟩, .string ⟨#[100]⟩]) (ok := fun _ => True) (okp := fun _ => True) ?hr ?hp (fun _ hk => hk) trivial (Below.refl _ _) (Nat.le_refl _) (by simp) ?_; (case hd => rfl); (case hg => rfl); (case hr => first | (go_simp; done) | (go_simp; rfl)); (case hp => exact (Reps.one (show Kd.M Kd.string _ _ _ (⟨#[]⟩ : ByteArray) [.string ⟨#[]⟩] from rfl) (Reps.one (show Kd.M Kd.string _ _ _ (⟨#[97]⟩ : ByteArray) [.string ⟨#[97]⟩] from rfl) (Reps.one (show Kd.M Kd.string _ _ _ (⟨#[98]⟩ : ByteArray) [.string ⟨#[98]⟩] from rfl) (Reps.one (show Kd.M Kd.string _ _ _ (⟨#[99]⟩ : ByteArray) [.string ⟨#[99]⟩] from rfl) (Reps.one (show Kd.M Kd.string _ _ _ (⟨#[100]⟩ : ByteArray) [.string ⟨#[100]⟩] from rfl) (Reps.none _ _))))))); intro v548 w39 ho40 hb hg_ hnew_; clear hg_ hnew_; (first | rw [← Ny547.out] at ho40 | (simp only [Int.reduceToNat] at ho40; rw [← Ny547.out] at ho40)); have HO549 := z0 (Kd.R_lower (Kd.R_new' (Kd.R_new' ho40 (Kd.R_lt (zr HO_3.out))) (Kd.R_lt (zr HO553.out))) (keep_size (w := w) (g := g) (row := none) (zq HK.out))); replace HO_3 := z0 (Kd.R_elder' (zr HO_3.out) (Kd.R_base ho40) hb); replace HO553 := z0 (Kd.R_elder' (zr HO553.out) (Kd.R_base ho40) hb); replace HK := z0 (KeepBut.trans (zq HK.out) (KeepBut.of_below hb g none) (.inl rfl)); replace HB := z0 (below_step (HI0.out.zb HB.out) hb); replace HI0 := z0 (IsS98.below (HI0.out.zI) hb); clear hb ho40; obtain ⟨Ao41, co41, eo41⟩ := Kd.R_slice HO549.out; subst eo41; obtain ⟨ado41, fo41, _⟩ := Kd.at_string (Kd.R_reads' HO549.out).2.2 0 (by decide) (by rw [Ny547.out]; simp)
                 cases fo41
                 refine hK.out _ _ trivial (fun hHeld => ?_); clear hK K; refine znm ?_; refine zu 4 1951 ?_; exact norm_ (by first | (simp only [putAll, Act.put, List.setIfInBounds_toArray, List.set_cons_zero, List.set_cons_succ]; done) | (simp only [putAll, Act.put, List.setIfInBounds_toArray, List.set_cons_zero, List.set_cons_succ]; rfl)) (hJ1_7 (.slice (some ado41) y547.length co41, ado41, .slice (some adz_v552) y551.length co38, adz_v552) _ ⟨(Kd.R_mono (zr HO549.out) (fun _ hk => ⟨hk.2, hk.1.2⟩)), (Kd.R_mono (zr HO553.out) (fun _ hk => ⟨hk.2, hk.1⟩)), (Kd.R_mono (zr HO_3.out) (fun _ hk => ⟨hk.2, hk.1⟩)), ⟨_, rfl⟩, ⟨_, rfl⟩, (HI0.out.zI), (zq HK.out), (HI0.out.zb HB.out)⟩)
                ·skip
                 (have p554 : 0 ≤ ((ji27) : Int) := zd; have q554 : (ji27) < (y551.length : Int) := zd; obtain ⟨ad554, e554, hx554_0⟩ := Kd.at_string (Kd.R_reads' HO553.out).2.2 (ji27) p554 q554; obtain rfl : adz_v552 = ad554 := (by injection e554)); refine value_ (w1 := ?_) (v := ?_) (by rfl) rfl ?_ ?_; rotate_left 2
                 ·go_simp
                  constructor
                  ·rfl
                  ·rfl
                 clear hx554_0; refine hK.out _ _ trivial (fun hHeld => ?_); clear hK K; refine znm ?_; exact norm_ (by first | (simp only [putAll, Act.put, List.setIfInBounds_toArray, List.set_cons_zero, List.set_cons_succ]; done) | (simp only [putAll, Act.put, List.setIfInBounds_toArray, List.set_cons_zero, List.set_cons_succ]; rfl)) (hJ7_11 (.slice (some adz_v552) y551.length co38, adz_v552) _ ⟨(zr HO553.out), (zr HO_3.out), ⟨_, rfl⟩, (HI0.out.zI), (zq HK.out), (HI0.out.zb HB.out)⟩)
              ·skip
               rintro ⟨v548, adz_v548⟩ w37 ⟨h0_, h1_, h2_, h3_, h4_, h5_⟩; have n0_ : Aside0 (Kd.R Kd.string 9 w37 w.heap.size (fun k_ => some k_ ≠ (.slice Ao32 x3_1.length co32 : Value).ownBlock) v548 y547) := ⟨h0_⟩; have n1_ : Aside0 (Kd.R Kd.string 9 w37 w.heap.size (fun k_ => some k_ ≠ (v548 : Value).ownBlock) (.slice Ao32 x3_1.length co32) x3_1) := ⟨h1_⟩; have n2_ : Aside0 (∃ c_, (v548 : Value) = .slice (some adz_v548) y547.length c_) := ⟨h2_⟩; have n3_ : Aside0 (IsS98 w0 w37 g s0_0 t531) := ⟨h3_⟩; have n4_ : Aside0 (KeepBut w w37 g none) := ⟨h4_⟩; have n5_ : Aside0 (Below w0.heap.size w0 w37) := ⟨h5_⟩; clear HO_3; clear HI0; clear HK; clear HB; clear h0_ h1_ h2_ h3_ h4_ h5_; have HO549 := n0_; have HO_3 := n1_; have HA_HO549 := n2_; have HI0 := n3_; have HK := n4_; have HB := n5_; clear n0_ n1_ n2_ n3_ n4_ n5_; have hHeld := trivial; obtain ⟨co38, eo38⟩ := HA_HO549.out; clear HA_HO549; subst eo38; refine norm_ (a' := ?_) ?_ ?_; rotate_left
               ·simp only [putAll, Act.put, List.setIfInBounds_toArray, List.set_cons_zero, List.set_cons_succ]
                rfl
               refine two_ (i := 5) (j := 7) (Ni := some 39) (Nj := some 41) (fb 15 831) (fb 15 927) rfl rfl rfl rfl (two_of HT_.out (by kernel_rfl)) (by decide) (by decide) (fun K hK => ?_) (fun K hK => ?_)
               ·skip
                (have p550 : 0 ≤ ((ji23) : Int) := zd; have q550 : (ji23) < (y547.length : Int) := zd; obtain ⟨ad550, e550, hx550_0⟩ := Kd.at_string (Kd.R_reads' HO549.out).2.2 (ji23) p550 q550; obtain rfl : adz_v548 = ad550 := (by injection e550)); refine value_ (w1 := ?_) (v := ?_) (by rfl) rfl ?_ ?_; rotate_left 2
                ·go_simp
                 constructor
                 ·rfl
                 ·rfl
                clear hx550_0; refine hK.out _ _ trivial (fun hHeld => ?_); clear hK K; refine znm ?_; refine zu 6 895 ?_; exact norm_ (by first | (simp only [putAll, Act.put, List.setIfInBounds_toArray, List.set_cons_zero, List.set_cons_succ]; done) | (simp only [putAll, Act.put, List.setIfInBounds_toArray, List.set_cons_zero, List.set_cons_succ]; rfl)) (hJ1_5 (.slice (some adz_v548) y547.length co38, adz_v548) _ ⟨(zr HO549.out), (zr HO_3.out), ⟨_, rfl⟩, (HI0.out.zI), (zq HK.out), (HI0.out.zb HB.out)⟩)
               ·skip
                refine Kd.R_lit_step Kd.string _ 9 ?hg (N := 41) ?hd (xs := ([(⟨#[]⟩ : ByteArray), (⟨#[97]⟩ : ByteArray), (⟨#[98]⟩ : ByteArray), (⟨#[99]⟩ : ByteArray), (⟨#[100]⟩ : ByteArray), (⟨#[100, 97]⟩ : ByteArray)] : List ByteArray)) (inner := [.string ⟨#[]⟩, .string ⟨#[97]⟩, .string ⟨#[98]⟩, .string ⟨#[99]⟩, .string ⟨#[100]⟩, .string ⟨#[100, 97]⟩]) (ok := fun _ => True) (okp := fun _ => True) ?hr ?hp (fun _ hk => hk) trivial (Below.refl _ _) (Nat.le_refl _) (by simp) ?_; (case hd => rfl); (case hg => rfl); (case hr => first | (go_simp; done) | (go_simp; rfl)); (case hp => exact (Reps.one (show Kd.M Kd.string _ _ _ (⟨#[]⟩ : ByteArray) [.string ⟨#[]⟩] from rfl) (Reps.one (show Kd.M Kd.string _ _ _ (⟨#[97]⟩ : ByteArray) [.string ⟨#[97]⟩] from rfl) (Reps.one (show Kd.M Kd.string _ _ _ (⟨#[98]⟩ : ByteArray) [.string ⟨#[98]⟩] from rfl) (Reps.one (show Kd.M Kd.string _ _ _ (⟨#[99]⟩ : ByteArray) [.string ⟨#[99]⟩] from rfl) (Reps.one (show Kd.M Kd.string _ _ _ (⟨#[100]⟩ : ByteArray) [.string ⟨#[100]⟩] from rfl) (Reps.one (show Kd.M Kd.string _ _ _ (⟨#[100, 97]⟩ : ByteArray) [.string ⟨#[100, 97]⟩] from rfl) (Reps.none _ _)))))))); intro v552 w39 ho40 hb hg_ hnew_; clear hg_ hnew_; (first | rw [← Ny551.out] at ho40 | (simp only [Int.reduceToNat] at ho40; rw [← Ny551.out] at ho40)); have HO553 := z0 (Kd.R_lower (Kd.R_new' (Kd.R_new' ho40 (Kd.R_lt (zr HO_3.out))) (Kd.R_lt (zr HO549.out))) (keep_size (w := w) (g := g) (row := none) (zq HK.out))); replace HO_3 := z0 (Kd.R_elder' (zr HO_3.out) (Kd.R_base ho40) hb); replace HO549 := z0 (Kd.R_elder' (zr HO549.out) (Kd.R_base ho40) hb); replace HK := z0 (KeepBut.trans (zq HK.out) (KeepBut.of_below hb g none) (.inl rfl)); replace HB := z0 (below_step (HI0.out.zb HB.out) hb); replace HI0 := z0 (IsS98.below (HI0.out.zI) hb); clear hb ho40; obtain ⟨Ao41, co41, eo41⟩ := Kd.R_slice HO553.out; subst eo41; obtain ⟨ado41, fo41, _⟩ := Kd.at_string (Kd.R_reads' HO553.out).2.2 0 (by decide) (by rw [Ny551.out]; simp)
                cases fo41
                refine hK.out _ _ trivial (fun hHeld => ?_); clear hK K; refine znm ?_; refine zu 10 1951 ?_; exact norm_ (by first | (simp only [putAll, Act.put, List.setIfInBounds_toArray, List.set_cons_zero, List.set_cons_succ]; done) | (simp only [putAll, Act.put, List.setIfInBounds_toArray, List.set_cons_zero, List.set_cons_succ]; rfl)) (hJ1_7 (.slice (some adz_v548) y547.length co38, adz_v548, .slice (some ado41) y551.length co41, ado41) _ ⟨(Kd.R_mono (zr HO549.out) (fun _ hk => ⟨hk.2, hk.1⟩)), (Kd.R_mono (zr HO553.out) (fun _ hk => ⟨hk.2, hk.1.2⟩)), (zr HO_3.out), ⟨_, rfl⟩, ⟨_, rfl⟩, (HI0.out.zI), (zq HK.out), (HI0.out.zb HB.out)⟩)
             ·skip
              rintro ⟨v552, adz_v552⟩ w37 ⟨h0_, h1_, h2_, h3_, h4_, h5_⟩; have n0_ : Aside0 (Kd.R Kd.string 9 w37 w.heap.size (fun k_ => some k_ ≠ (.slice Ao32 x3_1.length co32 : Value).ownBlock) v552 y551) := ⟨h0_⟩; have n1_ : Aside0 (Kd.R Kd.string 9 w37 w.heap.size (fun k_ => some k_ ≠ (v552 : Value).ownBlock) (.slice Ao32 x3_1.length co32) x3_1) := ⟨h1_⟩; have n2_ : Aside0 (∃ c_, (v552 : Value) = .slice (some adz_v552) y551.length c_) := ⟨h2_⟩; have n3_ : Aside0 (IsS98 w0 w37 g s0_0 t531) := ⟨h3_⟩; have n4_ : Aside0 (KeepBut w w37 g none) := ⟨h4_⟩; have n5_ : Aside0 (Below w0.heap.size w0 w37) := ⟨h5_⟩; clear HO_3; clear HI0; clear HK; clear HB; clear h0_ h1_ h2_ h3_ h4_ h5_; have HO553 := n0_; have HO_3 := n1_; have HA_HO553 := n2_; have HI0 := n3_; have HK := n4_; have HB := n5_; clear n0_ n1_ n2_ n3_ n4_ n5_; have hHeld := trivial; obtain ⟨co38, eo38⟩ := HA_HO553.out; clear HA_HO553; subst eo38; refine norm_ (a' := ?_) ?_ ?_; rotate_left
              ·simp only [putAll, Act.put, List.setIfInBounds_toArray, List.set_cons_zero, List.set_cons_succ]
               rfl
              refine zone 1 3983 (fun K hK => ?_); refine Kd.R_lit_step Kd.string _ 9 ?hg (N := 35) ?hd (xs := ([(⟨#[]⟩ : ByteArray), (⟨#[97]⟩ : ByteArray), (⟨#[98]⟩ : ByteArray), (⟨#[99]⟩ : ByteArray), (⟨#[100]⟩ : ByteArray)] : List ByteArray)) (inner := [.string ⟨#[]⟩, .string ⟨#[97]⟩, .string ⟨#[98]⟩, .string ⟨#[99]⟩, .string ⟨#[100]⟩]) (ok := fun _ => True) (okp := fun _ => True) ?hr ?hp (fun _ hk => hk) trivial (Below.refl _ _) (Nat.le_refl _) (by simp) ?_; (case hd => rfl); (case hg => rfl); (case hr => first | (go_simp; done) | (go_simp; rfl)); (case hp => exact (Reps.one (show Kd.M Kd.string _ _ _ (⟨#[]⟩ : ByteArray) [.string ⟨#[]⟩] from rfl) (Reps.one (show Kd.M Kd.string _ _ _ (⟨#[97]⟩ : ByteArray) [.string ⟨#[97]⟩] from rfl) (Reps.one (show Kd.M Kd.string _ _ _ (⟨#[98]⟩ : ByteArray) [.string ⟨#[98]⟩] from rfl) (Reps.one (show Kd.M Kd.string _ _ _ (⟨#[99]⟩ : ByteArray) [.string ⟨#[99]⟩] from rfl) (Reps.one (show Kd.M Kd.string _ _ _ (⟨#[100]⟩ : ByteArray) [.string ⟨#[100]⟩] from rfl) (Reps.none _ _))))))); intro v548 w39 ho40 hb hg_ hnew_; clear hg_ hnew_; (first | rw [← Ny547.out] at ho40 | (simp only [Int.reduceToNat] at ho40; rw [← Ny547.out] at ho40)); have HO549 := z0 (Kd.R_lower (Kd.R_new' (Kd.R_new' ho40 (Kd.R_lt (zr HO_3.out))) (Kd.R_lt (zr HO553.out))) (keep_size (w := w) (g := g) (row := none) (zq HK.out))); replace HO_3 := z0 (Kd.R_elder' (zr HO_3.out) (Kd.R_base ho40) hb); replace HO553 := z0 (Kd.R_elder' (zr HO553.out) (Kd.R_base ho40) hb); replace HK := z0 (KeepBut.trans (zq HK.out) (KeepBut.of_below hb g none) (.inl rfl)); replace HB := z0 (below_step (HI0.out.zb HB.out) hb); replace HI0 := z0 (IsS98.below (HI0.out.zI) hb); clear hb ho40; obtain ⟨Ao41, co41, eo41⟩ := Kd.R_slice HO549.out; subst eo41; obtain ⟨ado41, fo41, _⟩ := Kd.at_string (Kd.R_reads' HO549.out).2.2 0 (by decide) (by rw [Ny547.out]; simp)
              cases fo41
              refine hK.out _ _ trivial (fun hHeld => ?_); clear hK K; refine znm ?_; refine zu 4 3999 ?_; exact norm_ (by first | (simp only [putAll, Act.put, List.setIfInBounds_toArray, List.set_cons_zero, List.set_cons_succ]; done) | (simp only [putAll, Act.put, List.setIfInBounds_toArray, List.set_cons_zero, List.set_cons_succ]; rfl)) (hJ1_7_11 (.slice (some ado41) y547.length co41, ado41, .slice (some adz_v552) y551.length co38, adz_v552) _ ⟨(Kd.R_mono (zr HO549.out) (fun _ hk => ⟨hk.2, hk.1.2⟩)), (Kd.R_mono (zr HO553.out) (fun _ hk => ⟨hk.2, hk.1⟩)), (Kd.R_mono (zr HO_3.out) (fun _ hk => ⟨hk.2, hk.1⟩)), ⟨_, rfl⟩, ⟨_, rfl⟩, (HI0.out.zI), (zq HK.out), (HI0.out.zb HB.out)⟩)
            ·skip
             rintro ⟨v548, adz_v548, v552, adz_v552⟩ w40 ⟨h0_, h1_, h2_, h3_, h4_, h5_, h6_, h7_⟩; have n0_ : Aside0 (Kd.R Kd.string 9 w40 w.heap.size (fun k_ => some k_ ≠ (v552 : Value).ownBlock ∧ some k_ ≠ (.slice Ao32 x3_1.length co32 : Value).ownBlock) v548 y547) := ⟨h0_⟩; have n1_ : Aside0 (Kd.R Kd.string 9 w40 w.heap.size (fun k_ => some k_ ≠ (v548 : Value).ownBlock ∧ some k_ ≠ (.slice Ao32 x3_1.length co32 : Value).ownBlock) v552 y551) := ⟨h1_⟩; have n2_ : Aside0 (Kd.R Kd.string 9 w40 w.heap.size (fun k_ => some k_ ≠ (v548 : Value).ownBlock ∧ some k_ ≠ (v552 : Value).ownBlock) (.slice Ao32 x3_1.length co32) x3_1) := ⟨h2_⟩; have n3_ : Aside0 (∃ c_, (v548 : Value) = .slice (some adz_v548) y547.length c_) := ⟨h3_⟩; have n4_ : Aside0 (∃ c_, (v552 : Value) = .slice (some adz_v552) y551.length c_) := ⟨h4_⟩; have n5_ : Aside0 (IsS98 w0 w40 g s0_0 t531) := ⟨h5_⟩; have n6_ : Aside0 (KeepBut w w40 g none) := ⟨h6_⟩; have n7_ : Aside0 (Below w0.heap.size w0 w40) := ⟨h7_⟩; clear HO_3; clear HI0; clear HK; clear HB; clear h0_ h1_ h2_ h3_ h4_ h5_ h6_ h7_; have HO549 := n0_; have HO553 := n1_; have HO_3 := n2_; have HA_HO549 := n3_; have HA_HO553 := n4_; have HI0 := n5_; have HK := n6_; have HB := n7_; clear n0_ n1_ n2_ n3_ n4_ n5_ n6_ n7_; have hHeld := trivial; obtain ⟨co41, eo41⟩ := HA_HO549.out; clear HA_HO549; subst eo41; obtain ⟨co42, eo42⟩ := HA_HO553.out; clear HA_HO553; subst eo42; refine norm_ (a' := ?_) ?_ ?_; rotate_left
             ·simp only [putAll, Act.put, List.setIfInBounds_toArray, List.set_cons_zero, List.set_cons_succ]
              rfl
             refine two_ (i := 5) (j := 11) (Ni := some 39) (Nj := some 45) (fb 15 1983) (fb 15 3999) rfl rfl rfl rfl (two_of HT_.out (by kernel_rfl)) (by decide) (by decide) (fun K hK => ?_) (fun K hK => ?_)
             ·skip
              (have p550 : 0 ≤ ((ji23) : Int) := zd; have q550 : (ji23) < (y547.length : Int) := zd; obtain ⟨ad550, e550, hx550_0⟩ := Kd.at_string (Kd.R_reads' HO549.out).2.2 (ji23) p550 q550; obtain rfl : adz_v548 = ad550 := (by injection e550)); refine value_ (w1 := ?_) (v := ?_) (by rfl) rfl ?_ ?_; rotate_left 2
              ·go_simp
               constructor
               ·rfl
               ·rfl
              clear hx550_0; refine hK.out _ _ trivial (fun hHeld => ?_); clear hK K; refine znm ?_; refine zu 6 2047 ?_; exact norm_ (by first | (simp only [putAll, Act.put, List.setIfInBounds_toArray, List.set_cons_zero, List.set_cons_succ]; done) | (simp only [putAll, Act.put, List.setIfInBounds_toArray, List.set_cons_zero, List.set_cons_succ]; rfl)) (hJ1_5_7 (.slice (some adz_v548) y547.length co41, adz_v548, .slice (some adz_v552) y551.length co42, adz_v552) _ ⟨(zr HO549.out), (zr HO553.out), (zr HO_3.out), ⟨_, rfl⟩, ⟨_, rfl⟩, (HI0.out.zI), (zq HK.out), (HI0.out.zb HB.out)⟩)
             ·skip
              (have p554 : 0 ≤ ((ji27) : Int) := zd; have q554 : (ji27) < (y551.length : Int) := zd; obtain ⟨ad554, e554, hx554_0⟩ := Kd.at_string (Kd.R_reads' HO553.out).2.2 (ji27) p554 q554; obtain rfl : adz_v552 = ad554 := (by injection e554)); refine value_ (w1 := ?_) (v := ?_) (by rfl) rfl ?_ ?_; rotate_left 2
              ·go_simp
               constructor
               ·rfl
               ·rfl
              clear hx554_0; refine hK.out _ _ trivial (fun hHeld => ?_); clear hK K; refine znm ?_; exact norm_ (by first | (simp only [putAll, Act.put, List.setIfInBounds_toArray, List.set_cons_zero, List.set_cons_succ]; done) | (simp only [putAll, Act.put, List.setIfInBounds_toArray, List.set_cons_zero, List.set_cons_succ]; rfl)) (hJ1_7_11 (.slice (some adz_v548) y547.length co41, adz_v548, .slice (some adz_v552) y551.length co42, adz_v552) _ ⟨(zr HO549.out), (zr HO553.out), (zr HO_3.out), ⟨_, rfl⟩, ⟨_, rfl⟩, (HI0.out.zI), (zq HK.out), (HI0.out.zb HB.out)⟩)
           ·skip
            rintro ⟨v548, adz_v548⟩ w37 ⟨h0_, h1_, h2_, h3_, h4_, h5_⟩; have n0_ : Aside0 (Kd.R Kd.string 9 w37 w.heap.size (fun k_ => some k_ ≠ (.slice Ao32 x3_1.length co32 : Value).ownBlock) v548 y547) := ⟨h0_⟩; have n1_ : Aside0 (Kd.R Kd.string 9 w37 w.heap.size (fun k_ => some k_ ≠ (v548 : Value).ownBlock) (.slice Ao32 x3_1.length co32) x3_1) := ⟨h1_⟩; have n2_ : Aside0 (∃ c_, (v548 : Value) = .slice (some adz_v548) y547.length c_) := ⟨h2_⟩; have n3_ : Aside0 (IsS98 w0 w37 g s0_0 t531) := ⟨h3_⟩; have n4_ : Aside0 (KeepBut w w37 g none) := ⟨h4_⟩; have n5_ : Aside0 (Below w0.heap.size w0 w37) := ⟨h5_⟩; clear HO_3; clear HI0; clear HK; clear HB; clear h0_ h1_ h2_ h3_ h4_ h5_; have HO549 := n0_; have HO_3 := n1_; have HA_HO549 := n2_; have HI0 := n3_; have HK := n4_; have HB := n5_; clear n0_ n1_ n2_ n3_ n4_ n5_; have hHeld := trivial; obtain ⟨co38, eo38⟩ := HA_HO549.out; clear HA_HO549; subst eo38; refine norm_ (a' := ?_) ?_ ?_; rotate_left
            ·simp only [putAll, Act.put, List.setIfInBounds_toArray, List.set_cons_zero, List.set_cons_succ]
             rfl
            refine zone 7 1023 (fun K hK => ?_); refine Kd.R_lit_step Kd.string _ 9 ?hg (N := 41) ?hd (xs := ([(⟨#[]⟩ : ByteArray), (⟨#[97]⟩ : ByteArray), (⟨#[98]⟩ : ByteArray), (⟨#[99]⟩ : ByteArray), (⟨#[100]⟩ : ByteArray), (⟨#[100, 97]⟩ : ByteArray)] : List ByteArray)) (inner := [.string ⟨#[]⟩, .string ⟨#[97]⟩, .string ⟨#[98]⟩, .string ⟨#[99]⟩, .string ⟨#[100]⟩, .string ⟨#[100, 97]⟩]) (ok := fun _ => True) (okp := fun _ => True) ?hr ?hp (fun _ hk => hk) trivial (Below.refl _ _) (Nat.le_refl _) (by simp) ?_; (case hd => rfl); (case hg => rfl); (case hr => first | (go_simp; done) | (go_simp; rfl)); (case hp => exact (Reps.one (show Kd.M Kd.string _ _ _ (⟨#[]⟩ : ByteArray) [.string ⟨#[]⟩] from rfl) (Reps.one (show Kd.M Kd.string _ _ _ (⟨#[97]⟩ : ByteArray) [.string ⟨#[97]⟩] from rfl) (Reps.one (show Kd.M Kd.string _ _ _ (⟨#[98]⟩ : ByteArray) [.string ⟨#[98]⟩] from rfl) (Reps.one (show Kd.M Kd.string _ _ _ (⟨#[99]⟩ : ByteArray) [.string ⟨#[99]⟩] from rfl) (Reps.one (show Kd.M Kd.string _ _ _ (⟨#[100]⟩ : ByteArray) [.string ⟨#[100]⟩] from rfl) (Reps.one (show Kd.M Kd.string _ _ _ (⟨#[100, 97]⟩ : ByteArray) [.string ⟨#[100, 97]⟩] from rfl) (Reps.none _ _)))))))); intro v552 w39 ho40 hb hg_ hnew_; clear hg_ hnew_; (first | rw [← Ny551.out] at ho40 | (simp only [Int.reduceToNat] at ho40; rw [← Ny551.out] at ho40)); have HO553 := z0 (Kd.R_lower (Kd.R_new' (Kd.R_new' ho40 (Kd.R_lt (zr HO_3.out))) (Kd.R_lt (zr HO549.out))) (keep_size (w := w) (g := g) (row := none) (zq HK.out))); replace HO_3 := z0 (Kd.R_elder' (zr HO_3.out) (Kd.R_base ho40) hb); replace HO549 := z0 (Kd.R_elder' (zr HO549.out) (Kd.R_base ho40) hb); replace HK := z0 (KeepBut.trans (zq HK.out) (KeepBut.of_below hb g none) (.inl rfl)); replace HB := z0 (below_step (HI0.out.zb HB.out) hb); replace HI0 := z0 (IsS98.below (HI0.out.zI) hb); clear hb ho40; obtain ⟨Ao41, co41, eo41⟩ := Kd.R_slice HO553.out; subst eo41; obtain ⟨ado41, fo41, _⟩ := Kd.at_string (Kd.R_reads' HO553.out).2.2 0 (by decide) (by rw [Ny551.out]; simp)
            cases fo41
            refine hK.out _ _ trivial (fun hHeld => ?_); clear hK K; refine znm ?_; refine zu 10 2047 ?_; exact norm_ (by first | (simp only [putAll, Act.put, List.setIfInBounds_toArray, List.set_cons_zero, List.set_cons_succ]; done) | (simp only [putAll, Act.put, List.setIfInBounds_toArray, List.set_cons_zero, List.set_cons_succ]; rfl)) (hJ1_5_7 (.slice (some adz_v548) y547.length co38, adz_v548, .slice (some ado41) y551.length co41, ado41) _ ⟨(Kd.R_mono (zr HO549.out) (fun _ hk => ⟨hk.2, hk.1⟩)), (Kd.R_mono (zr HO553.out) (fun _ hk => ⟨hk.2, hk.1.2⟩)), (zr HO_3.out), ⟨_, rfl⟩, ⟨_, rfl⟩, (HI0.out.zI), (zq HK.out), (HI0.out.zb HB.out)⟩)
          ·skip
           rintro ⟨v548, adz_v548, v552, adz_v552⟩ w40 ⟨h0_, h1_, h2_, h3_, h4_, h5_, h6_, h7_⟩; have n0_ : Aside0 (Kd.R Kd.string 9 w40 w.heap.size (fun k_ => some k_ ≠ (v552 : Value).ownBlock ∧ some k_ ≠ (.slice Ao32 x3_1.length co32 : Value).ownBlock) v548 y547) := ⟨h0_⟩; have n1_ : Aside0 (Kd.R Kd.string 9 w40 w.heap.size (fun k_ => some k_ ≠ (v548 : Value).ownBlock ∧ some k_ ≠ (.slice Ao32 x3_1.length co32 : Value).ownBlock) v552 y551) := ⟨h1_⟩; have n2_ : Aside0 (Kd.R Kd.string 9 w40 w.heap.size (fun k_ => some k_ ≠ (v548 : Value).ownBlock ∧ some k_ ≠ (v552 : Value).ownBlock) (.slice Ao32 x3_1.length co32) x3_1) := ⟨h2_⟩; have n3_ : Aside0 (∃ c_, (v548 : Value) = .slice (some adz_v548) y547.length c_) := ⟨h3_⟩; have n4_ : Aside0 (∃ c_, (v552 : Value) = .slice (some adz_v552) y551.length c_) := ⟨h4_⟩; have n5_ : Aside0 (IsS98 w0 w40 g s0_0 t531) := ⟨h5_⟩; have n6_ : Aside0 (KeepBut w w40 g none) := ⟨h6_⟩; have n7_ : Aside0 (Below w0.heap.size w0 w40) := ⟨h7_⟩; clear HO_3; clear HI0; clear HK; clear HB; clear h0_ h1_ h2_ h3_ h4_ h5_ h6_ h7_; have HO549 := n0_; have HO553 := n1_; have HO_3 := n2_; have HA_HO549 := n3_; have HA_HO553 := n4_; have HI0 := n5_; have HK := n6_; have HB := n7_; clear n0_ n1_ n2_ n3_ n4_ n5_ n6_ n7_; have hHeld := trivial; obtain ⟨co41, eo41⟩ := HA_HO549.out; clear HA_HO549; subst eo41; obtain ⟨co42, eo42⟩ := HA_HO553.out; clear HA_HO553; subst eo42; refine norm_ (a' := ?_) ?_ ?_; rotate_left
           ·simp only [putAll, Act.put, List.setIfInBounds_toArray, List.set_cons_zero, List.set_cons_succ]
            rfl
           refine zone 5 4031 (fun K hK => ?_); (have p550 : 0 ≤ ((ji23) : Int) := zd; have q550 : (ji23) < (y547.length : Int) := zd; obtain ⟨ad550, e550, hx550_0⟩ := Kd.at_string (Kd.R_reads' HO549.out).2.2 (ji23) p550 q550; obtain rfl : adz_v548 = ad550 := (by injection e550)); refine value_ (w1 := ?_) (v := ?_) (by rfl) rfl ?_ ?_; rotate_left 2
           ·go_simp
            constructor
            ·rfl
            ·rfl
           clear hx550_0; refine hK.out _ _ trivial (fun hHeld => ?_); clear hK K; refine znm ?_; refine zu 6 4095 ?_; exact norm_ (by first | (simp only [putAll, Act.put, List.setIfInBounds_toArray, List.set_cons_zero, List.set_cons_succ]; done) | (simp only [putAll, Act.put, List.setIfInBounds_toArray, List.set_cons_zero, List.set_cons_succ]; rfl)) (hJ1_5_7_11 (.slice (some adz_v548) y547.length co41, adz_v548, .slice (some adz_v552) y551.length co42, adz_v552) _ ⟨(zr HO549.out), (zr HO553.out), (zr HO_3.out), ⟨_, rfl⟩, ⟨_, rfl⟩, (HI0.out.zI), (zq HK.out), (HI0.out.zb HB.out)⟩)
         ·skip
          rintro ⟨v548, adz_v548, v552, adz_v552⟩ w40 ⟨h0_, h1_, h2_, h3_, h4_, h5_, h6_, h7_⟩; have n0_ : Aside0 (Kd.R Kd.string 9 w40 w.heap.size (fun k_ => some k_ ≠ (v552 : Value).ownBlock ∧ some k_ ≠ (.slice Ao32 x3_1.length co32 : Value).ownBlock) v548 y547) := ⟨h0_⟩; have n1_ : Aside0 (Kd.R Kd.string 9 w40 w.heap.size (fun k_ => some k_ ≠ (v548 : Value).ownBlock ∧ some k_ ≠ (.slice Ao32 x3_1.length co32 : Value).ownBlock) v552 y551) := ⟨h1_⟩; have n2_ : Aside0 (Kd.R Kd.string 9 w40 w.heap.size (fun k_ => some k_ ≠ (v548 : Value).ownBlock ∧ some k_ ≠ (v552 : Value).ownBlock) (.slice Ao32 x3_1.length co32) x3_1) := ⟨h2_⟩; have n3_ : Aside0 (∃ c_, (v548 : Value) = .slice (some adz_v548) y547.length c_) := ⟨h3_⟩; have n4_ : Aside0 (∃ c_, (v552 : Value) = .slice (some adz_v552) y551.length c_) := ⟨h4_⟩; have n5_ : Aside0 (IsS98 w0 w40 g s0_0 t531) := ⟨h5_⟩; have n6_ : Aside0 (KeepBut w w40 g none) := ⟨h6_⟩; have n7_ : Aside0 (Below w0.heap.size w0 w40) := ⟨h7_⟩; clear HO_3; clear HI0; clear HK; clear HB; clear h0_ h1_ h2_ h3_ h4_ h5_ h6_ h7_; have HO549 := n0_; have HO553 := n1_; have HO_3 := n2_; have HA_HO549 := n3_; have HA_HO553 := n4_; have HI0 := n5_; have HK := n6_; have HB := n7_; clear n0_ n1_ n2_ n3_ n4_ n5_ n6_ n7_; have hHeld := trivial; obtain ⟨co41, eo41⟩ := HA_HO549.out; clear HA_HO549; subst eo41; obtain ⟨co42, eo42⟩ := HA_HO553.out; clear HA_HO553; subst eo42; refine norm_ (a' := ?_) ?_ ?_; rotate_left
          ·simp only [putAll, Act.put, List.setIfInBounds_toArray, List.set_cons_zero, List.set_cons_succ]
           rfl
          refine zone 11 4095 (fun K hK => ?_); (have p554 : 0 ≤ ((ji27) : Int) := zd; have q554 : (ji27) < (y551.length : Int) := zd; obtain ⟨ad554, e554, hx554_0⟩ := Kd.at_string (Kd.R_reads' HO553.out).2.2 (ji27) p554 q554; obtain rfl : adz_v552 = ad554 := (by injection e554)); refine value_ (w1 := ?_) (v := ?_) (by rfl) rfl ?_ ?_; rotate_left 2
          ·go_simp
           constructor
           ·rfl
           ·rfl
          clear hx554_0; refine hK.out _ _ trivial (fun hHeld => ?_); clear hK K; refine znm ?_; exact norm_ (by first | (simp only [putAll, Act.put, List.setIfInBounds_toArray, List.set_cons_zero, List.set_cons_succ]; done) | (simp only [putAll, Act.put, List.setIfInBounds_toArray, List.set_cons_zero, List.set_cons_succ]; rfl)) (hJ1_5_7_11 (.slice (some adz_v548) y547.length co41, adz_v548, .slice (some adz_v552) y551.length co42, adz_v552) _ ⟨(zr HO549.out), (zr HO553.out), (zr HO_3.out), ⟨_, rfl⟩, ⟨_, rfl⟩, (HI0.out.zI), (zq HK.out), (HI0.out.zb HB.out)⟩)
        rintro ⟨v548, adz_v548, v552, adz_v552⟩ w40 ⟨h0_, h1_, h2_, h3_, h4_, h5_, h6_, h7_⟩; have n0_ : Aside0 (Kd.R Kd.string 9 w40 w.heap.size (fun k_ => some k_ ≠ (v552 : Value).ownBlock ∧ some k_ ≠ (.slice Ao32 x3_1.length co32 : Value).ownBlock) v548 y547) := ⟨h0_⟩; have n1_ : Aside0 (Kd.R Kd.string 9 w40 w.heap.size (fun k_ => some k_ ≠ (v548 : Value).ownBlock ∧ some k_ ≠ (.slice Ao32 x3_1.length co32 : Value).ownBlock) v552 y551) := ⟨h1_⟩; have n2_ : Aside0 (Kd.R Kd.string 9 w40 w.heap.size (fun k_ => some k_ ≠ (v548 : Value).ownBlock ∧ some k_ ≠ (v552 : Value).ownBlock) (.slice Ao32 x3_1.length co32) x3_1) := ⟨h2_⟩; have n3_ : Aside0 (∃ c_, (v548 : Value) = .slice (some adz_v548) y547.length c_) := ⟨h3_⟩; have n4_ : Aside0 (∃ c_, (v552 : Value) = .slice (some adz_v552) y551.length c_) := ⟨h4_⟩; have n5_ : Aside0 (IsS98 w0 w40 g s0_0 t531) := ⟨h5_⟩; have n6_ : Aside0 (KeepBut w w40 g none) := ⟨h6_⟩; have n7_ : Aside0 (Below w0.heap.size w0 w40) := ⟨h7_⟩; clear HO_3; clear HI0; clear HK; clear HB; clear h0_ h1_ h2_ h3_ h4_ h5_ h6_ h7_; have HO549 := n0_; have HO553 := n1_; have HO_3 := n2_; have HA_HO549 := n3_; have HA_HO553 := n4_; have HI0 := n5_; have HK := n6_; have HB := n7_; clear n0_ n1_ n2_ n3_ n4_ n5_ n6_ n7_; have hHeld := trivial; obtain ⟨co41, eo41⟩ := HA_HO549.out; clear HA_HO549; subst eo41; obtain ⟨co42, eo42⟩ := HA_HO553.out; clear HA_HO553; subst eo42; refine norm_ (a' := ?_) ?_ ?_; rotate_left
        ·simp only [putAll, Act.put, List.setIfInBounds_toArray, List.set_cons_zero, List.set_cons_succ]
         rfl
        refine zu 12 8191 ?_; refine zone 13 16383 (fun K hK => ?_); refine goes_ Try.func111 (by kernel_rfl) rfl #[.slice Ao32 x3_1.length co32, .string (((⟨#[100]⟩ : ByteArray) ++ (rdOf ByteArray.empty y547 (ji23))) ++ (rdOf ByteArray.empty y551 (ji27)))] (by rfl) rfl rfl (by (try simp only [List.map_toArray, List.map_cons, List.map_nil]); first | done | (simp only [hji23, hji27]; rfl) | rfl | (simp only [List.length_drop, List.length_take]; rfl)) ?_
        with_reducible refine (spec_l2Put.calls k1 (fun k_ => some k_ = (.slice Ao32 x3_1.length co32 : Value).ownBlock) (.slice Ao32 x3_1.length co32) x3_1 (((⟨#[100]⟩ : ByteArray) ++ (rdOf ByteArray.empty y547 (ji23))) ++ (rdOf ByteArray.empty y551 (ji27))) t555 w0 _ ?side1 ?side2 A31.out).mono ?_
        (case side1 => repeat (first | (with_reducible first | exact HB.out | apply below_alloc | apply pw_below_drewN | apply below_drew1 | refine below_set ?_ (IsS98.ge HI0.out)) | exact HB.out)); (case side2 => exact Kd.R_lower (Kd.R_tight rfl HO_3.out) HL.out); rintro e w43 ⟨v556, rfl, ho0, hb, hkp⟩; refine ⟨_, rfl, ?_⟩; replace HI0 := z0 (IsS98.kept (HI0.out.zI) hkp (fun hs_ => (fun e_ => (IsS98.own_ne HI0.out HO_3.out (by decide)) e_) hs_)); have HO557 := z0 (Kd.R_mono (ok' := fun k_ => some k_ ≠ (.slice (some adz_v548) y547.length co41 : Value).ownBlock ∧ some k_ ≠ (.slice (some adz_v552) y551.length co42 : Value).ownBlock) (Kd.R_raise (d := Kd.string) (b := w0.heap.size) (b' := w.heap.size) (fun _ _ _ _ h_ => h_) ho0 (fun k_ e_ => Or.elim (ho0.1 k_ e_) (fun hs_ => (fun e_ => Kd.R_base HO_3.out k_ e_.symm) hs_) (fun hn_ => Nat.le_trans (keep_size (w := w) (g := g) (row := none) (zq HK.out)) hn_))) (fun k_ hk_ => ⟨Or.elim hk_ (fun hs_ => fun e_ => (((HO549.out).1 k_ e_.symm).2) hs_) (fun hn_ => (Kd.fresh' (Kd.R_lt (zr HO549.out)) k_ hn_)), Or.elim hk_ (fun hs_ => fun e_ => (((HO553.out).1 k_ e_.symm).2) hs_) (fun hn_ => (Kd.fresh' (Kd.R_lt (zr HO553.out)) k_ hn_))⟩)); replace HO549 := z0 (Kd.R_mono (ok' := fun k_ => some k_ ≠ (.slice (some adz_v552) y551.length co42 : Value).ownBlock ∧ some k_ ≠ (v556 : Value).ownBlock) (Kd.R_keptB (HO549.out) hkp (fun k_ hk_ hs_ => (hk_.2) hs_)) (fun k_ hk_ => ⟨hk_.1.1, fun e_ => Or.elim (ho0.1 k_ e_.symm) (fun hs_ => hk_.2.1 hs_) (fun hn_ => Nat.not_le.2 hk_.2.2 hn_)⟩)); replace HO553 := z0 (Kd.R_mono (ok' := fun k_ => some k_ ≠ (.slice (some adz_v548) y547.length co41 : Value).ownBlock ∧ some k_ ≠ (v556 : Value).ownBlock) (Kd.R_keptB (HO553.out) hkp (fun k_ hk_ hs_ => (hk_.2) hs_)) (fun k_ hk_ => ⟨hk_.1.1, fun e_ => Or.elim (ho0.1 k_ e_.symm) (fun hs_ => hk_.2.1 hs_) (fun hn_ => Nat.not_le.2 hk_.2.2 hn_)⟩)); replace HK := z0 (Kept.keepG (zq HK.out) hkp (fun k_ hs_ => (fun e_ => .inr (Kd.R_base HO_3.out k_ e_.symm)) hs_)); replace HB := z0 (hb); clear HO_3; (try clear hb); (try clear hkp); (try clear ho0); refine hK.out _ _ trivial (fun hHeld => ?_); clear hK K; refine znm ?_; refine zu 14 32767 ?_; refine done_ (done_of HT_.out (by kernel_rfl)) ?_
        try go_wp2
        go_roundg k1
        case measure => have := HK1.out; omega
        case rel => exact ⟨(t555), (wrap64 (x4_1 + 1)), zf, H', ⟨by have := HK1.out; omega⟩, ⟨Kd.R_mono (zr HO557.out) (fun _ hk => trivial)⟩, ⟨HI0.out.zI⟩, ⟨zq HK.out⟩, ⟨HI0.out.zb HB.out⟩⟩
       ·rw [if_neg c22] at H; have c22b0 := decide_eq_false c22; clear c22; simp only [Option.some.injEq, Prod.mk.injEq] at H; obtain ⟨rfl, rfl⟩ := H; go_wp2; go_ret; exact ⟨_, ze, zr HO_3.out, HI0.out.zI, HI0.out.zb HB.out, zq HK.out⟩
    ·rw [if_neg c21] at H; have c21b0 : (t530 == 3) = false := beq_eq_false_iff_ne.mpr c21; have c21b1 : (t530 != 3) = true := bne_iff_ne.mpr c21; simp only [Option.some.injEq, Prod.mk.injEq] at H; obtain ⟨rfl, rfl⟩ := H; go_wp2; go_ret; exact ⟨_, ze, zr HO528.out, HI0.out.zI, HI0.out.zb HB.out, zq HK.out⟩
theorem spec_DrawSieveOf.mono : ∀ a0 k, LeO (spec_DrawSieveOf.f k a0) (spec_DrawSieveOf.f (k + 1) a0) := by
  intro a0 k
  unfold spec_DrawSieveOf.f
  repeat' first | (with_reducible first | apply spec_l6Rd_pick.mono | apply spec_l71Keys.mono | apply spec_l71Mess.mono | exact LeO.refl _ | exact LeO.none _ | refine LeO.ite ?_ ?_ | refine LeO.bind ?_ (fun _ => ?_)) | exact LeO.none _ | refine LeO.ite ?_ ?_ | refine LeO.bind ?_ (fun _ => ?_)
def spec_DrawSieveOf.T5 : Bool × List (List Nat × List Nat) := (true, [([], []), ([], []), ([], []), ([2], [2]), ([1, 3], [1, 3]), ([4], [4]), ([0, 3, 0], [0]), ([5, 6, 0, 1, 2, 3, 4, 5, 6], [5])])
def spec_DrawSieveOf.B5 : List Nat := [0, 0, 0, 4, 14, 30, 13, 127]
theorem spec_DrawSieveOf.tab5 : rtab .any (opsOf Try.f34 5) = spec_DrawSieveOf.T5 := by kernel_rfl
theorem spec_DrawSieveOf.bits5 : waitsOk spec_DrawSieveOf.T5.2 spec_DrawSieveOf.B5 = true := by kernel_rfl
theorem spec_DrawSieveOf.calls (k : Nat) (A0 : Option Addr) (c0 : Nat) (l0 : List Int) (r1 : List ByteArray) (r2 : Int) (w : World) (hr0 : Kd.C (Kd.int .u8) w A0 l0.length l0) (hc0 : l0.length ≤ c0) (h : spec_DrawSieveOf.f k l0 = some (r1, r2)) :
    Calls Try.prog 34 #[.slice A0 l0.length c0] w fun e w' => ∃ v0_ : Value, e = .returned (.tuple #[v0_, .int .i64 r2]) ∧ Kd.R Kd.string 9 w' w.heap.size (fun _ => True) v0_ r1 ∧ Below w.heap.size w w' := by
 have HR0 := z0 hr0; have HC0 := z0 hc0; clear hr0 hc0; have HB := z0 (Below.refl w.heap.size w); have H : ((spec_l6Open.f l0).bind fun bt558 => ((spec_l71Keys.f k bt558.1 bt558.2 12).bind fun bt561 => ((spec_l6Rd_pick.f k bt558.1 bt561.2 12).bind fun bt565 => (if bt565.1 = 0 then ((spec_l71Mess.f k bt558.1 bt565.2).bind fun bt567 => ((some (([0, 0, 1, 1, 2, 5, 6, (-1)] : List Int) : List Int)).bind fun y571 => ((spec_l6Rd_pick.f k bt558.1 bt567.2 8).bind fun bt574 => (if 0 ≤ bt574.1 then (if bt574.1 < (y571.length : Int) then (some (bt567.1, rd y571 bt574.1)) else (none)) else (none))))) else ((some (([0, 0, 1, 1, 2, 5, 6, (-1)] : List Int) : List Int)).bind fun y577 => ((spec_l6Rd_pick.f k bt558.1 bt565.2 8).bind fun bt580 => (if 0 ≤ bt580.1 then (if bt580.1 < (y577.length : Int) then (some (bt561.1, rd y577 bt580.1)) else (none)) else (none)))))))) = some (r1, r2) := h; clear h; replace H := zi H; obtain ⟨⟨t558, t559⟩, A2, H⟩ := H; (try dsimp only at H); replace H := zi H; obtain ⟨⟨t561, t564⟩, A3, H⟩ := H; (try dsimp only at H); replace H := zi H; obtain ⟨⟨t565, t566⟩, A4, H⟩ := H; (try dsimp only at H); go_enter Try.func34, Try.ntmps34
 go_upto_if 12 with (first | ((with_reducible refine gc 64 ?_); refine zL (some 7) Try.func64 #[.slice A0 l0.length c0] ?_; (with_reducible refine (spec_l6Open.calls _ _ l0 t558 t559 w _ (zb HB.out) HR0.out HC0.out A2.out).mono ?_); rintro e w5 ⟨g560, rfl, hi, hb, hb2⟩; refine zv ?_; replace HB := z0 (hb); have HI560 := z0 (hi); (try clear hb hb2 hi)) | ((with_reducible refine gc 77 ?_); refine zL (some 9) Try.func77 #[.pointer (some ⟨g560, 0, none⟩), .int .i64 12] ?_; (with_reducible refine (spec_l71Keys.calls k g560 t558 t559 12 t561 t564 w _ (HI560.out.zI) (HI560.out.zb HB.out) A3.out).mono ?_); rintro e w6 ⟨v562, rfl, ho0, hi, hb, hk⟩; refine zv ?_; have HO563 := z0 (Kd.R_lower ho0 (below_size (HI560.out.zb HB.out))); replace HB := z0 (hb); replace HI560 := z0 (hi); (try clear hb hk hi ho0)) | ((with_reducible refine gc 78 ?_); refine zL (some 11) Try.func78 #[.pointer (some ⟨g560, 0, none⟩), .int .i64 12] ?_; (with_reducible refine (spec_l6Rd_pick.calls k g560 t558 t564 12 t565 t566 w _ (HI560.out.zI) (HI560.out.zb HB.out) A4.out).mono ?_); rintro e w7 ⟨rfl, hi, hb, hk⟩; refine zv ?_; replace HO563 := z0 (Kd.R_mono (Kd.R_keep (IsS98.apart (show IsS98 w _ g560 t558 t564 from HI560.out.zI) (zr HO563.out) (by decide)) hk (fun _ h => h.2)) (fun _ h => h.1)); replace HB := z0 (hb); replace HI560 := z0 (hi); (try clear hb hk hi)))
 by_cases c8 : t565 = 0
 ·rw [if_pos c8] at H; have c8b0 : (t565 == 0) = true := beq_iff_eq.mpr c8; have c8b1 : (t565 != 0) = false := bne_eq_false_iff_eq.mpr c8; clear c8; (first | rw [c8b0] | (simp only [i64_w, i32_w]; rw [c8b0]) | simp only [*, Bool.not_true, Bool.not_false] | skip); replace H := zi H; obtain ⟨⟨t567, t570⟩, A9, H⟩ := H; (try dsimp only at H); obtain ⟨y571, hy571⟩ : ∃ y_ : List Int, y_ = (([0, 0, 1, 1, 2, 5, 6, (-1)] : List Int)) := ⟨_, rfl⟩; replace H : ((spec_l6Rd_pick.f k t558 t570 8).bind fun bt574 => (if 0 ≤ bt574.1 then (if bt574.1 < (y571.length : Int) then (some (t567, rd y571 bt574.1)) else (none)) else (none))) = some (r1, r2) := zH2 hy571 H; have Ny571 := z0 hy571; clear hy571; replace H := zi H; obtain ⟨⟨t574, t575⟩, A10, H⟩ := H; (try dsimp only at H); replace H := zn H; obtain ⟨c11, H⟩ := H; have c11b0 := decide_eq_true c11; clear c11; replace H := zn H; obtain ⟨c12, H⟩ := H; have c12b0 := decide_eq_true c12; clear c12; simp only [Option.some.injEq, Prod.mk.injEq] at H; obtain ⟨rfl, rfl⟩ := H
  try go_wp2_with (first | ((with_reducible refine gc 79 ?_); refine zL (some 14) Try.func79 #[.pointer (some ⟨g560, 0, none⟩)] ?_; (with_reducible refine (spec_l71Mess.calls k g560 t558 t566 t567 t570 w _ (HI560.out.zI) (HI560.out.zb HB.out) A9.out).mono ?_); rintro e w13 ⟨v568, rfl, ho0, hi, hb, hk⟩; refine zv ?_; have HO569 := z0 (Kd.R_lower (Kd.R_new' ho0 (Kd.R_lt (zr HO563.out))) (below_size (HI560.out.zb HB.out))); replace HO563 := z0 (Kd.R_mono (Kd.R_told (Kd.R_oldK (IsS98.apart (show IsS98 w _ g560 t558 t566 from HI560.out.zI) (zr HO563.out) (by decide)) hk) (Kd.R_base ho0)) (fun _ h_ => h_.1)); replace HB := z0 (hb); replace HI560 := z0 (hi); (try clear hb hk hi ho0)))
  have pi576 : (0 ≤ (t574 : Int)) = True := eq_true (zd); have qi576 : (t574 < (y571.length : Int)) = True := eq_true (zd); replace HO563 := z0 (Kd.R_drew HO563.out); replace HO569 := z0 (Kd.R_drew HO569.out); replace HI560 := z0 (IsS98.drew HI560.out); replace HB := z0 (below_drew1 HB.out); refine start_ (n := 8) (S := fun w' => True) (ds := []) (fb 8 0) (by kernel_rfl) rfl rfl trivial (fun hHeld => ?_); refine with_tabW spec_DrawSieveOf.tab5 spec_DrawSieveOf.bits5 (fun HT_ HW_ => ?_); generalize w13.drew = w14 at HO563 HO569 HI560 HB hHeld ⊢; refine zu 0 1 ?_; refine zu 2 5 ?_; refine inv_at [1, 3, 4, 5, 6, 7] (fun a0_ b a w' => ∃ (v572 : Value) (adz_v572 : Addr) (m4_ : Value), a = putSel a0_ b [(1, 16, v572), (3, 18, .int .i64 t574), (4, 19, m4_), (5, 20, .int .i64 (rd y571 t574)), (6, 2, v568), (7, 3, .int .i64 (rd y571 t574))] ∧ (Kd.R Kd.string 9 w' w.heap.size (fun k_ => some k_ ≠ (v568 : Value).ownBlock) v562 t561) ∧ (Kd.R Kd.string 9 w' w.heap.size (fun k_ => some k_ ≠ (v562 : Value).ownBlock) v568 t567) ∧ (b 3 = false → IsS98 w w' g560 t558 t570) ∧ (Below w.heap.size w w') ∧ (b 1 = true → Kd.R (Kd.int .i64) 3 w' w.heap.size (fun _ => True) v572 y571) ∧ (b 1 = true → ∃ c_, (v572 : Value) = .slice (some adz_v572) y571.length c_) ∧ (b 3 = true → IsS98 w w' g560 t558 t575) ∧ (b 4 = true → (m4_ : Value) = .pointer (some (adz_v572.add (t574).toNat)))) HT_.out HW_.out (by kernel_rfl) (by kernel_rfl) ?_ ?_ ?_
  ·exact ⟨.bool false, ⟨0, 0, none⟩, .bool false, by simp only [putSel, Bool.false_eq_true, if_false], (by first | exact HO563.out | exact Kd.R_mono HO563.out (fun _ hk => hk.2)), (by first | exact HO569.out | exact Kd.R_mono HO569.out (fun _ hk => hk.2)), fun _ => HI560.out, HB.out, fun h_ => absurd h_ (by decide), fun h_ => absurd h_ (by decide), fun h_ => absurd h_ (by decide), fun h_ => absurd h_ (by decide)⟩
  ·skip
   clear HB HI560 HO563 HO569; refine steps_cons ?_ ?_
   ·rintro b a w' ⟨v572, adz_v572, m4_, ha, Q_HO563, Q_HO569, Q_HI560, Q_HB, Q_HO573, Q_HA_HO573, Q_HI560_e3, Q_X4_⟩ hb_ hon hoff; refine ⟨_, rfl, fun K hK => ?_⟩; replace ha := z0 ha; have HO563 := z0 Q_HO563; have HO569 := z0 Q_HO569; have HB := z0 Q_HB; refine Kd.R_lit_step (Kd.int .i64) _ 3 ?hg (N := 16) ?hd (xs := ([0, 0, 1, 1, 2, 5, 6, (-1)] : List Int)) (inner := [.int .i64 0, .int .i64 0, .int .i64 1, .int .i64 1, .int .i64 2, .int .i64 5, .int .i64 6, .int .i64 (-1)]) (ok := fun _ => True) (okp := fun _ => True) ?hr ?hp (fun _ hk => hk) trivial (Below.refl _ _) (Nat.le_refl _) (by simp) ?_; (case hd => rfl); (case hg => rfl); (case hr => first | (go_simp; done) | (go_simp; rfl)); (case hp => exact (Reps.one (show Kd.M (Kd.int .i64) _ _ _ 0 [.int .i64 0] from rfl) (Reps.one (show Kd.M (Kd.int .i64) _ _ _ 0 [.int .i64 0] from rfl) (Reps.one (show Kd.M (Kd.int .i64) _ _ _ 1 [.int .i64 1] from rfl) (Reps.one (show Kd.M (Kd.int .i64) _ _ _ 1 [.int .i64 1] from rfl) (Reps.one (show Kd.M (Kd.int .i64) _ _ _ 2 [.int .i64 2] from rfl) (Reps.one (show Kd.M (Kd.int .i64) _ _ _ 5 [.int .i64 5] from rfl) (Reps.one (show Kd.M (Kd.int .i64) _ _ _ 6 [.int .i64 6] from rfl) (Reps.one (show Kd.M (Kd.int .i64) _ _ _ (-1) [.int .i64 (-1)] from rfl) (Reps.none _ _)))))))))); intro v572 w15 ho16 hb hg_ hnew_; clear hg_ hnew_; (first | rw [← Ny571.out] at ho16 | (simp only [Int.reduceToNat] at ho16; rw [← Ny571.out] at ho16)); have n0_ := zA HO563 hb; have n1_ := zA HO569 hb; have n2_ := z0 (Kd.R_lower ho16 (below_size (zb HB.out))); have n4_ := zH HB hb; have z_HI560 := fun (h0_ : b 3 = false) => (show IsS98 w w15 g560 t558 t570 from by first | exact (IsS98.below (by repeat (first | (with_reducible first | exact (Q_HI560 h0_) | apply IsS98.alloc | apply IsS98.drewN | apply IsS98.drew | apply IsS98.set_1) | exact (Q_HI560 h0_))) hb)); have z_HI560_e3 := fun (h0_ : b 3 = true) => (show IsS98 w w15 g560 t558 t575 from by first | exact (IsS98.below (by repeat (first | (with_reducible first | exact (Q_HI560_e3 h0_) | apply IsS98.alloc | apply IsS98.drewN | apply IsS98.drew | apply IsS98.set_1) | exact (Q_HI560_e3 h0_))) hb)); clear HO563; clear HO569; clear HB; have HO563 := n0_; have HO569 := n1_; have HO573 := n2_; have HB := n4_; clear n0_ n1_ n2_ n4_; clear hb ho16; obtain ⟨Ao17, co17, eo17⟩ := Kd.R_slice HO573.out; subst eo17; obtain ⟨ado17, fo17, _⟩ := Kd.at_int (Kd.R_reads' HO573.out).2.2 0 (by decide) (by rw [Ny571.out]; simp)
    cases fo17
    refine hK.out _ _ ⟨.slice (some ado17) y571.length co17, ado17, m4_, (by rw [ha.out]; exact putSel_upk 0 hb_ rfl rfl rfl), (Kd.R_mono (zr HO563.out) (fun _ hk => by first | exact hk.2 | exact hk)), (Kd.R_mono (zr HO569.out) (fun _ hk => by first | exact hk.2 | exact hk)), z_HI560, (zb HB.out), fun _ => (zr HO573.out), fun _ => ⟨_, rfl⟩, z_HI560_e3, fun h0_ => absurd ((hoff 4 (by kernel_rfl)).symm.trans h0_) (by decide)⟩
   refine steps_cons ?_ ?_
   ·rintro b a w' ⟨v572, adz_v572, m4_, ha, Q_HO563, Q_HO569, Q_HI560, Q_HB, Q_HO573, Q_HA_HO573, Q_HI560_e3, Q_X4_⟩ hb_ hon hoff; refine ⟨_, rfl, fun K hK => ?_⟩
    have e17 : a.tmps[17]? = some (.pointer (some ⟨g560, 0, none⟩)) := by rw [ha]; exact (putSel_off rfl).trans rfl
    replace ha := z0 ha; have HO563 := z0 Q_HO563; have HO569 := z0 Q_HO569; have HI560 := z0 (Q_HI560 hb_); have HB := z0 Q_HB; refine goes_ Try.func78 (by kernel_rfl) rfl #[.pointer (some ⟨g560, 0, none⟩), .int .i64 8] (by rfl) rfl rfl (by first | (simp only [List.map_toArray, List.map_cons, List.map_nil, Act.eval, Array.getD_eq_getD_getElem?, Option.getD_some, e17]; done) | (simp only [List.map_toArray, List.map_cons, List.map_nil, Act.eval, Array.getD_eq_getD_getElem?, Option.getD_some, e17]; rfl)) ?_
    with_reducible refine (spec_l6Rd_pick.calls k g560 t558 t570 8 t574 t575 w _ ?side1 ?side2 A10.out).mono ?_
    (case side1 => repeat (first | (with_reducible first | exact HI560.out | apply IsS98.alloc | apply IsS98.drewN | apply IsS98.drew | apply IsS98.set_1) | exact HI560.out)); (case side2 => repeat (first | (with_reducible first | exact HB.out | apply below_alloc | apply pw_below_drewN | apply below_drew1 | refine below_set ?_ (IsS98.ge HI560.out)) | exact HB.out)); rintro e w15 ⟨rfl, hi, hb, hk⟩; refine ⟨_, rfl, ?_⟩; have n0_ := z0 (Kd.R_mono (Kd.R_keep (IsS98.apart (show IsS98 w _ g560 t558 t570 from HI560.out.zI) (zr HO563.out) (by decide)) hk (fun _ h => h.2)) (fun _ h => h.1)); have n1_ := z0 (Kd.R_mono (Kd.R_keep (IsS98.apart (show IsS98 w _ g560 t558 t570 from HI560.out.zI) (zr HO569.out) (by decide)) hk (fun _ h => h.2)) (fun _ h => h.1)); have n2_ := z0 (hb); have n3_ := z0 (hi); have z_HO573 := fun (h0_ : b 1 = true) => (show Kd.R (Kd.int .i64) 3 w15 w.heap.size (fun _ => True) v572 y571 from by first | exact (Kd.R_mono (Kd.R_keep (IsS98.apart (show IsS98 w _ g560 t558 t570 from HI560.out.zI) (zr (Q_HO573 h0_)) (by decide)) hk (fun _ h => h.2)) (fun _ h => h.1)) | exact Kd.R_mono (Kd.R_mono (Kd.R_keep (IsS98.apart (show IsS98 w _ g560 t558 t570 from HI560.out.zI) (zr (Q_HO573 h0_)) (by decide)) hk (fun _ h => h.2)) (fun _ h => h.1)) (fun _ h_ => by first | trivial | exact h_ | exact h_.1)); clear HO563; clear HO569; clear HB; clear HI560; have HO563 := n0_; have HO569 := n1_; have HB := n2_; have HI560 := n3_; clear n0_ n1_ n2_ n3_; (try clear hb hk hi); refine hK.out _ _ ⟨v572, adz_v572, m4_, (by rw [ha.out]; exact putSel_upk 1 hb_ rfl rfl rfl), (Kd.R_mono (zr HO563.out) (fun _ hk => by first | exact hk.2 | exact hk)), (Kd.R_mono (zr HO569.out) (fun _ hk => by first | exact hk.2 | exact hk)), fun h0_ => absurd ((up_self b 3).symm.trans h0_) (by decide), (HI560.out.zb HB.out), z_HO573, Q_HA_HO573, fun _ => (HI560.out.zI), fun h0_ => absurd ((hoff 4 (by kernel_rfl)).symm.trans h0_) (by decide)⟩
   refine steps_cons ?_ ?_
   ·rintro b a w' ⟨v572, adz_v572, m4_, ha, Q_HO563, Q_HO569, Q_HI560, Q_HB, Q_HO573, Q_HA_HO573, Q_HI560_e3, Q_X4_⟩ hb_ hon hoff; refine ⟨_, rfl, fun K hK => ?_⟩
    have e16 : a.tmps[16]? = some (v572) := by rw [ha]; exact putSel_on (e := (1, 16, v572)) 0 rfl rfl (hon 1 (by kernel_rfl)) rfl
    have e18 : a.tmps[18]? = some (.int .i64 t574) := by rw [ha]; exact putSel_on (e := (3, 18, .int .i64 t574)) 1 rfl rfl (hon 3 (by kernel_rfl)) rfl
    replace ha := z0 ha; have HO563 := z0 Q_HO563; have HO569 := z0 Q_HO569; have HB := z0 Q_HB; have HO573 := z0 (Q_HO573 (hon 1 (by kernel_rfl))); have HA_HO573 := z0 (Q_HA_HO573 (hon 1 (by kernel_rfl))); have HI560 := z0 (Q_HI560_e3 (hon 3 (by kernel_rfl))); obtain ⟨c_, hv_⟩ := HA_HO573.out; rw [hv_] at e16; refine value_ (w1 := w') (v := .pointer (some (adz_v572.add (t574).toNat))) (by rfl) rfl ?_ ?_
    ·go_simp
     (try simp only [i64_w])
     try rfl
    refine hK.out _ _ ⟨v572, adz_v572, (.pointer (some (adz_v572.add (t574).toNat))), (by rw [ha.out]; exact putSel_upk 2 hb_ rfl rfl rfl), Q_HO563, Q_HO569, fun h0_ => absurd ((hon 3 (by kernel_rfl)).symm.trans h0_) (by decide), Q_HB, Q_HO573, Q_HA_HO573, Q_HI560_e3, fun _ => rfl⟩
   refine steps_cons ?_ ?_
   ·rintro b a w' ⟨v572, adz_v572, m4_, ha, Q_HO563, Q_HO569, Q_HI560, Q_HB, Q_HO573, Q_HA_HO573, Q_HI560_e3, Q_X4_⟩ hb_ hon hoff; refine ⟨_, rfl, fun K hK => ?_⟩
    have e19 : a.tmps[19]? = some (m4_) := by rw [ha]; exact putSel_on (e := (4, 19, m4_)) 2 rfl rfl (hon 4 (by kernel_rfl)) rfl
    rw [Q_X4_ (hon 4 (by kernel_rfl))] at e19; replace ha := z0 ha; have HO563 := z0 Q_HO563; have HO569 := z0 Q_HO569; have HB := z0 Q_HB; have HO573 := z0 (Q_HO573 (hon 1 (by kernel_rfl))); have HA_HO573 := z0 (Q_HA_HO573 (hon 1 (by kernel_rfl))); have HI560 := z0 (Q_HI560_e3 (hon 3 (by kernel_rfl))); obtain ⟨c_, hv_⟩ := HA_HO573.out; have hF_ := HO573.out; rw [hv_] at hF_; obtain ⟨ad_, ea_, hx_⟩ := Kd.at_int (Kd.R_reads' hF_).2.2 t574 (of_eq_true pi576) (of_eq_true qi576)
    cases ea_
    refine value_ (w1 := w') (v := .int .i64 (rd y571 t574)) (by rfl) rfl ?_ ?_
    ·go_simp
     (try simp only [i64_w])
     try rfl
    refine hK.out _ _ ⟨v572, adz_v572, m4_, (by rw [ha.out]; exact putSel_upk 3 hb_ rfl rfl rfl), Q_HO563, Q_HO569, fun h0_ => absurd ((hon 3 (by kernel_rfl)).symm.trans h0_) (by decide), Q_HB, Q_HO573, Q_HA_HO573, Q_HI560_e3, Q_X4_⟩
   refine steps_cons ?_ ?_
   ·rintro b a w' ⟨v572, adz_v572, m4_, ha, Q_HO563, Q_HO569, Q_HI560, Q_HB, Q_HO573, Q_HA_HO573, Q_HI560_e3, Q_X4_⟩ hb_ hon hoff; refine ⟨_, rfl, fun K hK => ?_⟩
    have e15 : a.tmps[15]? = some (v568) := by rw [ha]; exact (putSel_off rfl).trans rfl
    replace ha := z0 ha; have HO563 := z0 Q_HO563; have HO569 := z0 Q_HO569; have HB := z0 Q_HB; have HI560 := z0 (Q_HI560_e3 (hon 3 (by kernel_rfl))); refine value_ (w1 := w') (v := v568) (by rfl) rfl ?_ ?_
    ·go_simp
     (try simp only [i64_w])
     try rfl
    refine hK.out _ _ ⟨v572, adz_v572, m4_, (by rw [ha.out]; exact putSel_upk 4 hb_ rfl rfl rfl), Q_HO563, Q_HO569, fun h0_ => absurd ((hon 3 (by kernel_rfl)).symm.trans h0_) (by decide), Q_HB, Q_HO573, Q_HA_HO573, Q_HI560_e3, Q_X4_⟩
   refine steps_cons ?_ ?_
   ·rintro b a w' ⟨v572, adz_v572, m4_, ha, Q_HO563, Q_HO569, Q_HI560, Q_HB, Q_HO573, Q_HA_HO573, Q_HI560_e3, Q_X4_⟩ hb_ hon hoff; refine ⟨_, rfl, fun K hK => ?_⟩
    have e20 : a.tmps[20]? = some (.int .i64 (rd y571 t574)) := by rw [ha]; exact putSel_on (e := (5, 20, .int .i64 (rd y571 t574))) 3 rfl rfl (hon 5 (by kernel_rfl)) rfl
    replace ha := z0 ha; have HO563 := z0 Q_HO563; have HO569 := z0 Q_HO569; have HB := z0 Q_HB; have HO573 := z0 (Q_HO573 (hon 1 (by kernel_rfl))); have HA_HO573 := z0 (Q_HA_HO573 (hon 1 (by kernel_rfl))); have HI560 := z0 (Q_HI560_e3 (hon 3 (by kernel_rfl))); refine value_ (w1 := w') (v := .int .i64 (rd y571 t574)) (by rfl) rfl ?_ ?_
    ·go_simp
     (try simp only [i64_w])
     try rfl
    refine hK.out _ _ ⟨v572, adz_v572, m4_, (by rw [ha.out]; exact putSel_upk 5 hb_ rfl rfl rfl), Q_HO563, Q_HO569, fun h0_ => absurd ((hon 3 (by kernel_rfl)).symm.trans h0_) (by decide), Q_HB, Q_HO573, Q_HA_HO573, Q_HI560_e3, Q_X4_⟩
   exact steps_nil
  rintro b a w19 hall ⟨v572, adz_v572, m4_, ha, Q_HO563, Q_HO569, Q_HI560, Q_HB, Q_HO573, Q_HA_HO573, Q_HI560_e3, Q_X4_⟩; clear HB HI560 HO563 HO569; have hb1_ := hall 1 (by kernel_rfl); have hb3_ := hall 3 (by kernel_rfl); have hb4_ := hall 4 (by kernel_rfl); have hb5_ := hall 5 (by kernel_rfl); have hb6_ := hall 6 (by kernel_rfl); have hb7_ := hall 7 (by kernel_rfl); subst ha; obtain rfl := Q_X4_ hb4_; simp only [putSel, hb1_, hb3_, hb4_, hb5_, hb6_, hb7_, if_true, Act.put, List.setIfInBounds_toArray, List.set_cons_zero, List.set_cons_succ]; have HO563 := z0 Q_HO563; clear Q_HO563; have HO569 := z0 Q_HO569; clear Q_HO569; clear Q_HI560; have HB := z0 Q_HB; clear Q_HB; have HO573 := z0 (Q_HO573 hb1_); clear Q_HO573; have HA_HO573 := z0 (Q_HA_HO573 hb1_); clear Q_HA_HO573; have HI560 := z0 (Q_HI560_e3 hb3_); clear Q_HI560_e3; clear hall hb1_ hb3_ hb4_ hb5_ hb6_ hb7_; obtain ⟨co20, eo20⟩ := HA_HO573.out; clear HA_HO573; subst eo20
  try go_wp2
  go_ret2
  exact ⟨_, ze, Kd.R_mono (zr HO569.out) (fun _ hk => trivial), HI560.out.zb HB.out⟩
 ·rw [if_neg c8] at H; have c8b0 : (t565 == 0) = false := beq_eq_false_iff_ne.mpr c8; have c8b1 : (t565 != 0) = true := bne_iff_ne.mpr c8; (first | rw [c8b0] | (simp only [i64_w, i32_w]; rw [c8b0]) | simp only [*, Bool.not_true, Bool.not_false] | skip); obtain ⟨y577, hy577⟩ : ∃ y_ : List Int, y_ = (([0, 0, 1, 1, 2, 5, 6, (-1)] : List Int)) := ⟨_, rfl⟩; replace H : ((spec_l6Rd_pick.f k t558 t566 8).bind fun bt580 => (if 0 ≤ bt580.1 then (if bt580.1 < (y577.length : Int) then (some (t561, rd y577 bt580.1)) else (none)) else (none))) = some (r1, r2) := zH2 hy577 H; have Ny577 := z0 hy577; clear hy577; replace H := zi H; obtain ⟨⟨t580, t581⟩, A21, H⟩ := H; (try dsimp only at H); replace H := zn H; obtain ⟨c22, H⟩ := H; have c22b0 := decide_eq_true c22; clear c22; replace H := zn H; obtain ⟨c23, H⟩ := H; have c23b0 := decide_eq_true c23; clear c23; simp only [Option.some.injEq, Prod.mk.injEq] at H; obtain ⟨rfl, rfl⟩ := H
  try go_wp2
  have pi582 : (0 ≤ (t580 : Int)) = True := eq_true (zd); have qi582 : (t580 < (y577.length : Int)) = True := eq_true (zd); replace HO563 := z0 (Kd.R_drew HO563.out); replace HI560 := z0 (IsS98.drew HI560.out); replace HB := z0 (below_drew1 HB.out); refine start_ (n := 8) (S := fun w' => True) (ds := []) (fb 8 0) (by kernel_rfl) rfl rfl trivial (fun hHeld => ?_); refine with_tabW spec_DrawSieveOf.tab5 spec_DrawSieveOf.bits5 (fun HT_ HW_ => ?_); generalize w7.drew = w24 at HO563 HI560 HB hHeld ⊢; refine zu 0 1 ?_; refine zu 2 5 ?_; refine inv_at [1, 3, 4, 5, 6, 7] (fun a0_ b a w' => ∃ (v578 : Value) (adz_v578 : Addr) (m4_ : Value), a = putSel a0_ b [(1, 16, v578), (3, 18, .int .i64 t580), (4, 19, m4_), (5, 20, .int .i64 (rd y577 t580)), (6, 2, v562), (7, 3, .int .i64 (rd y577 t580))] ∧ (Kd.R Kd.string 9 w' w.heap.size (fun _ => True) v562 t561) ∧ (b 3 = false → IsS98 w w' g560 t558 t566) ∧ (Below w.heap.size w w') ∧ (b 1 = true → Kd.R (Kd.int .i64) 3 w' w.heap.size (fun _ => True) v578 y577) ∧ (b 1 = true → ∃ c_, (v578 : Value) = .slice (some adz_v578) y577.length c_) ∧ (b 3 = true → IsS98 w w' g560 t558 t581) ∧ (b 4 = true → (m4_ : Value) = .pointer (some (adz_v578.add (t580).toNat)))) HT_.out HW_.out (by kernel_rfl) (by kernel_rfl) ?_ ?_ ?_
  ·exact ⟨.bool false, ⟨0, 0, none⟩, .bool false, by simp only [putSel, Bool.false_eq_true, if_false], (by first | exact HO563.out | exact Kd.R_mono HO563.out (fun _ hk => hk.2)), fun _ => HI560.out, HB.out, fun h_ => absurd h_ (by decide), fun h_ => absurd h_ (by decide), fun h_ => absurd h_ (by decide), fun h_ => absurd h_ (by decide)⟩
  ·skip
   clear HB HI560 HO563; refine steps_cons ?_ ?_
   ·rintro b a w' ⟨v578, adz_v578, m4_, ha, Q_HO563, Q_HI560, Q_HB, Q_HO579, Q_HA_HO579, Q_HI560_e3, Q_X4_⟩ hb_ hon hoff; refine ⟨_, rfl, fun K hK => ?_⟩; replace ha := z0 ha; have HO563 := z0 Q_HO563; have HB := z0 Q_HB; refine Kd.R_lit_step (Kd.int .i64) _ 3 ?hg (N := 16) ?hd (xs := ([0, 0, 1, 1, 2, 5, 6, (-1)] : List Int)) (inner := [.int .i64 0, .int .i64 0, .int .i64 1, .int .i64 1, .int .i64 2, .int .i64 5, .int .i64 6, .int .i64 (-1)]) (ok := fun _ => True) (okp := fun _ => True) ?hr ?hp (fun _ hk => hk) trivial (Below.refl _ _) (Nat.le_refl _) (by simp) ?_; (case hd => rfl); (case hg => rfl); (case hr => first | (go_simp; done) | (go_simp; rfl)); (case hp => exact (Reps.one (show Kd.M (Kd.int .i64) _ _ _ 0 [.int .i64 0] from rfl) (Reps.one (show Kd.M (Kd.int .i64) _ _ _ 0 [.int .i64 0] from rfl) (Reps.one (show Kd.M (Kd.int .i64) _ _ _ 1 [.int .i64 1] from rfl) (Reps.one (show Kd.M (Kd.int .i64) _ _ _ 1 [.int .i64 1] from rfl) (Reps.one (show Kd.M (Kd.int .i64) _ _ _ 2 [.int .i64 2] from rfl) (Reps.one (show Kd.M (Kd.int .i64) _ _ _ 5 [.int .i64 5] from rfl) (Reps.one (show Kd.M (Kd.int .i64) _ _ _ 6 [.int .i64 6] from rfl) (Reps.one (show Kd.M (Kd.int .i64) _ _ _ (-1) [.int .i64 (-1)] from rfl) (Reps.none _ _)))))))))); intro v578 w25 ho26 hb hg_ hnew_; clear hg_ hnew_; (first | rw [← Ny577.out] at ho26 | (simp only [Int.reduceToNat] at ho26; rw [← Ny577.out] at ho26)); have n0_ := zA HO563 hb; have n1_ := z0 (Kd.R_lower ho26 (below_size (zb HB.out))); have n3_ := zH HB hb; have z_HI560 := fun (h0_ : b 3 = false) => (show IsS98 w w25 g560 t558 t566 from by first | exact (IsS98.below (by repeat (first | (with_reducible first | exact (Q_HI560 h0_) | apply IsS98.alloc | apply IsS98.drewN | apply IsS98.drew | apply IsS98.set_1) | exact (Q_HI560 h0_))) hb)); have z_HI560_e3 := fun (h0_ : b 3 = true) => (show IsS98 w w25 g560 t558 t581 from by first | exact (IsS98.below (by repeat (first | (with_reducible first | exact (Q_HI560_e3 h0_) | apply IsS98.alloc | apply IsS98.drewN | apply IsS98.drew | apply IsS98.set_1) | exact (Q_HI560_e3 h0_))) hb)); clear HO563; clear HB; have HO563 := n0_; have HO579 := n1_; have HB := n3_; clear n0_ n1_ n3_; clear hb ho26; obtain ⟨Ao27, co27, eo27⟩ := Kd.R_slice HO579.out; subst eo27; obtain ⟨ado27, fo27, _⟩ := Kd.at_int (Kd.R_reads' HO579.out).2.2 0 (by decide) (by rw [Ny577.out]; simp)
    cases fo27
    refine hK.out _ _ ⟨.slice (some ado27) y577.length co27, ado27, m4_, (by rw [ha.out]; exact putSel_upk 0 hb_ rfl rfl rfl), (zr HO563.out), z_HI560, (zb HB.out), fun _ => (zr HO579.out), fun _ => ⟨_, rfl⟩, z_HI560_e3, fun h0_ => absurd ((hoff 4 (by kernel_rfl)).symm.trans h0_) (by decide)⟩
   refine steps_cons ?_ ?_
   ·rintro b a w' ⟨v578, adz_v578, m4_, ha, Q_HO563, Q_HI560, Q_HB, Q_HO579, Q_HA_HO579, Q_HI560_e3, Q_X4_⟩ hb_ hon hoff; refine ⟨_, rfl, fun K hK => ?_⟩
    have e17 : a.tmps[17]? = some (.pointer (some ⟨g560, 0, none⟩)) := by rw [ha]; exact (putSel_off rfl).trans rfl
    replace ha := z0 ha; have HO563 := z0 Q_HO563; have HI560 := z0 (Q_HI560 hb_); have HB := z0 Q_HB; refine goes_ Try.func78 (by kernel_rfl) rfl #[.pointer (some ⟨g560, 0, none⟩), .int .i64 8] (by rfl) rfl rfl (by first | (simp only [List.map_toArray, List.map_cons, List.map_nil, Act.eval, Array.getD_eq_getD_getElem?, Option.getD_some, e17]; done) | (simp only [List.map_toArray, List.map_cons, List.map_nil, Act.eval, Array.getD_eq_getD_getElem?, Option.getD_some, e17]; rfl)) ?_
    with_reducible refine (spec_l6Rd_pick.calls k g560 t558 t566 8 t580 t581 w _ ?side1 ?side2 A21.out).mono ?_
    (case side1 => repeat (first | (with_reducible first | exact HI560.out | apply IsS98.alloc | apply IsS98.drewN | apply IsS98.drew | apply IsS98.set_1) | exact HI560.out)); (case side2 => repeat (first | (with_reducible first | exact HB.out | apply below_alloc | apply pw_below_drewN | apply below_drew1 | refine below_set ?_ (IsS98.ge HI560.out)) | exact HB.out)); rintro e w25 ⟨rfl, hi, hb, hk⟩; refine ⟨_, rfl, ?_⟩; have n0_ := z0 (Kd.R_mono (Kd.R_keep (IsS98.apart (show IsS98 w _ g560 t558 t566 from HI560.out.zI) (zr HO563.out) (by decide)) hk (fun _ h => h.2)) (fun _ h => h.1)); have n1_ := z0 (hb); have n2_ := z0 (hi); have z_HO579 := fun (h0_ : b 1 = true) => (show Kd.R (Kd.int .i64) 3 w25 w.heap.size (fun _ => True) v578 y577 from by first | exact (Kd.R_mono (Kd.R_keep (IsS98.apart (show IsS98 w _ g560 t558 t566 from HI560.out.zI) (zr (Q_HO579 h0_)) (by decide)) hk (fun _ h => h.2)) (fun _ h => h.1)) | exact Kd.R_mono (Kd.R_mono (Kd.R_keep (IsS98.apart (show IsS98 w _ g560 t558 t566 from HI560.out.zI) (zr (Q_HO579 h0_)) (by decide)) hk (fun _ h => h.2)) (fun _ h => h.1)) (fun _ h_ => by first | trivial | exact h_ | exact h_.1)); clear HO563; clear HB; clear HI560; have HO563 := n0_; have HB := n1_; have HI560 := n2_; clear n0_ n1_ n2_; (try clear hb hk hi); refine hK.out _ _ ⟨v578, adz_v578, m4_, (by rw [ha.out]; exact putSel_upk 1 hb_ rfl rfl rfl), (zr HO563.out), fun h0_ => absurd ((up_self b 3).symm.trans h0_) (by decide), (HI560.out.zb HB.out), z_HO579, Q_HA_HO579, fun _ => (HI560.out.zI), fun h0_ => absurd ((hoff 4 (by kernel_rfl)).symm.trans h0_) (by decide)⟩
   refine steps_cons ?_ ?_
   ·rintro b a w' ⟨v578, adz_v578, m4_, ha, Q_HO563, Q_HI560, Q_HB, Q_HO579, Q_HA_HO579, Q_HI560_e3, Q_X4_⟩ hb_ hon hoff; refine ⟨_, rfl, fun K hK => ?_⟩
    have e16 : a.tmps[16]? = some (v578) := by rw [ha]; exact putSel_on (e := (1, 16, v578)) 0 rfl rfl (hon 1 (by kernel_rfl)) rfl
    have e18 : a.tmps[18]? = some (.int .i64 t580) := by rw [ha]; exact putSel_on (e := (3, 18, .int .i64 t580)) 1 rfl rfl (hon 3 (by kernel_rfl)) rfl
    replace ha := z0 ha; have HO563 := z0 Q_HO563; have HB := z0 Q_HB; have HO579 := z0 (Q_HO579 (hon 1 (by kernel_rfl))); have HA_HO579 := z0 (Q_HA_HO579 (hon 1 (by kernel_rfl))); have HI560 := z0 (Q_HI560_e3 (hon 3 (by kernel_rfl))); obtain ⟨c_, hv_⟩ := HA_HO579.out; rw [hv_] at e16; refine value_ (w1 := w') (v := .pointer (some (adz_v578.add (t580).toNat))) (by rfl) rfl ?_ ?_
    ·go_simp
     (try simp only [i64_w])
     try rfl
    refine hK.out _ _ ⟨v578, adz_v578, (.pointer (some (adz_v578.add (t580).toNat))), (by rw [ha.out]; exact putSel_upk 2 hb_ rfl rfl rfl), Q_HO563, fun h0_ => absurd ((hon 3 (by kernel_rfl)).symm.trans h0_) (by decide), Q_HB, Q_HO579, Q_HA_HO579, Q_HI560_e3, fun _ => rfl⟩
   refine steps_cons ?_ ?_
   ·rintro b a w' ⟨v578, adz_v578, m4_, ha, Q_HO563, Q_HI560, Q_HB, Q_HO579, Q_HA_HO579, Q_HI560_e3, Q_X4_⟩ hb_ hon hoff; refine ⟨_, rfl, fun K hK => ?_⟩
    have e19 : a.tmps[19]? = some (m4_) := by rw [ha]; exact putSel_on (e := (4, 19, m4_)) 2 rfl rfl (hon 4 (by kernel_rfl)) rfl
    rw [Q_X4_ (hon 4 (by kernel_rfl))] at e19; replace ha := z0 ha; have HO563 := z0 Q_HO563; have HB := z0 Q_HB; have HO579 := z0 (Q_HO579 (hon 1 (by kernel_rfl))); have HA_HO579 := z0 (Q_HA_HO579 (hon 1 (by kernel_rfl))); have HI560 := z0 (Q_HI560_e3 (hon 3 (by kernel_rfl))); obtain ⟨c_, hv_⟩ := HA_HO579.out; have hF_ := HO579.out; rw [hv_] at hF_; obtain ⟨ad_, ea_, hx_⟩ := Kd.at_int (Kd.R_reads' hF_).2.2 t580 (of_eq_true pi582) (of_eq_true qi582)
    cases ea_
    refine value_ (w1 := w') (v := .int .i64 (rd y577 t580)) (by rfl) rfl ?_ ?_
    ·go_simp
     (try simp only [i64_w])
     try rfl
    refine hK.out _ _ ⟨v578, adz_v578, m4_, (by rw [ha.out]; exact putSel_upk 3 hb_ rfl rfl rfl), Q_HO563, fun h0_ => absurd ((hon 3 (by kernel_rfl)).symm.trans h0_) (by decide), Q_HB, Q_HO579, Q_HA_HO579, Q_HI560_e3, Q_X4_⟩
   refine steps_cons ?_ ?_
   ·rintro b a w' ⟨v578, adz_v578, m4_, ha, Q_HO563, Q_HI560, Q_HB, Q_HO579, Q_HA_HO579, Q_HI560_e3, Q_X4_⟩ hb_ hon hoff; refine ⟨_, rfl, fun K hK => ?_⟩
    have e15 : a.tmps[15]? = some (v562) := by rw [ha]; exact (putSel_off rfl).trans rfl
    replace ha := z0 ha; have HO563 := z0 Q_HO563; have HB := z0 Q_HB; have HI560 := z0 (Q_HI560_e3 (hon 3 (by kernel_rfl))); refine value_ (w1 := w') (v := v562) (by rfl) rfl ?_ ?_
    ·go_simp
     (try simp only [i64_w])
     try rfl
    refine hK.out _ _ ⟨v578, adz_v578, m4_, (by rw [ha.out]; exact putSel_upk 4 hb_ rfl rfl rfl), Q_HO563, fun h0_ => absurd ((hon 3 (by kernel_rfl)).symm.trans h0_) (by decide), Q_HB, Q_HO579, Q_HA_HO579, Q_HI560_e3, Q_X4_⟩
   refine steps_cons ?_ ?_
   ·rintro b a w' ⟨v578, adz_v578, m4_, ha, Q_HO563, Q_HI560, Q_HB, Q_HO579, Q_HA_HO579, Q_HI560_e3, Q_X4_⟩ hb_ hon hoff; refine ⟨_, rfl, fun K hK => ?_⟩
    have e20 : a.tmps[20]? = some (.int .i64 (rd y577 t580)) := by rw [ha]; exact putSel_on (e := (5, 20, .int .i64 (rd y577 t580))) 3 rfl rfl (hon 5 (by kernel_rfl)) rfl
    replace ha := z0 ha; have HO563 := z0 Q_HO563; have HB := z0 Q_HB; have HO579 := z0 (Q_HO579 (hon 1 (by kernel_rfl))); have HA_HO579 := z0 (Q_HA_HO579 (hon 1 (by kernel_rfl))); have HI560 := z0 (Q_HI560_e3 (hon 3 (by kernel_rfl))); refine value_ (w1 := w') (v := .int .i64 (rd y577 t580)) (by rfl) rfl ?_ ?_
    ·go_simp
     (try simp only [i64_w])
     try rfl
    refine hK.out _ _ ⟨v578, adz_v578, m4_, (by rw [ha.out]; exact putSel_upk 5 hb_ rfl rfl rfl), Q_HO563, fun h0_ => absurd ((hon 3 (by kernel_rfl)).symm.trans h0_) (by decide), Q_HB, Q_HO579, Q_HA_HO579, Q_HI560_e3, Q_X4_⟩
   exact steps_nil
  rintro b a w29 hall ⟨v578, adz_v578, m4_, ha, Q_HO563, Q_HI560, Q_HB, Q_HO579, Q_HA_HO579, Q_HI560_e3, Q_X4_⟩; clear HB HI560 HO563; have hb1_ := hall 1 (by kernel_rfl); have hb3_ := hall 3 (by kernel_rfl); have hb4_ := hall 4 (by kernel_rfl); have hb5_ := hall 5 (by kernel_rfl); have hb6_ := hall 6 (by kernel_rfl); have hb7_ := hall 7 (by kernel_rfl); subst ha; obtain rfl := Q_X4_ hb4_; simp only [putSel, hb1_, hb3_, hb4_, hb5_, hb6_, hb7_, if_true, Act.put, List.setIfInBounds_toArray, List.set_cons_zero, List.set_cons_succ]; have HO563 := z0 Q_HO563; clear Q_HO563; clear Q_HI560; have HB := z0 Q_HB; clear Q_HB; have HO579 := z0 (Q_HO579 hb1_); clear Q_HO579; have HA_HO579 := z0 (Q_HA_HO579 hb1_); clear Q_HA_HO579; have HI560 := z0 (Q_HI560_e3 hb3_); clear Q_HI560_e3; clear hall hb1_ hb3_ hb4_ hb5_ hb6_ hb7_; obtain ⟨co30, eo30⟩ := HA_HO579.out; clear HA_HO579; subst eo30
  try go_wp2
  go_ret2
  exact ⟨_, ze, zr HO563.out, HI560.out.zb HB.out⟩
theorem laws_ltSames.mono_l : ∀ k, (∀ y0 y1 y2, LeO (laws_ltSames.l0 k y0 y1 y2) (laws_ltSames.l0 (k + 1) y0 y1 y2))
  | 0 => fun _ _ _ r h => by simp [laws_ltSames.l0] at h
  | k + 1 => by
    have ih0 := laws_ltSames.mono_l k
    · intro y0 y1 y2
      unfold laws_ltSames.l0
      repeat' first | (with_reducible first | apply ih0 | exact LeO.refl _ | exact LeO.none _ | refine LeO.ite ?_ ?_ | refine LeO.bind ?_ (fun _ => ?_)) | exact LeO.none _ | refine LeO.ite ?_ ?_ | refine LeO.bind ?_ (fun _ => ?_)
theorem laws_ltSames.mono : ∀ a0 a1 k, LeO (laws_ltSames.f k a0 a1) (laws_ltSames.f (k + 1) a0 a1) := by
  intro a0 a1 k
  have ih0 := laws_ltSames.mono_l k
  unfold laws_ltSames.f
  repeat' first | (with_reducible first | apply ih0 | exact LeO.refl _ | exact LeO.none _ | refine LeO.ite ?_ ?_ | refine LeO.bind ?_ (fun _ => ?_)) | exact LeO.none _ | refine LeO.ite ?_ ?_ | refine LeO.bind ?_ (fun _ => ?_)
theorem laws_ltSames.calls (k : Nat) (A0 : Option Addr) (c0 : Nat) (l0 : List ByteArray) (A1 : Option Addr) (c1 : Nat) (l1 : List ByteArray) (r : Bool) (w : World) (hr0 : Kd.C Kd.string w A0 l0.length l0) (hc0 : l0.length ≤ c0) (hr1 : Kd.C Kd.string w A1 l1.length l1) (hc1 : l1.length ≤ c1) (h : laws_ltSames.f k l0 l1 = some r) :
    Calls Try.prog 51 #[.slice A0 l0.length c0, .slice A1 l1.length c1] w fun e w' => e = .returned (.bool r) ∧ Drawn0 w w' := by
 have HR0 := z0 hr0; have HC0 := z0 hc0; clear hr0 hc0; have HR1 := z0 hr1; have HC1 := z0 hc1; clear hr1 hc1; have H : (if (l0.length : Int) = (l1.length : Int) then (laws_ltSames.l0 k l0 l1 0) else (some false)) = some r := h; clear h
 by_cases c3 : (l0.length : Int) = (l1.length : Int)
 ·rw [if_pos c3] at H; have c3b0 : ((l0.length : Int) == (l1.length : Int)) = true := beq_iff_eq.mpr c3; have c3b1 : ((l0.length : Int) != (l1.length : Int)) = false := bne_eq_false_iff_eq.mpr c3
  have c3b2 : (l0.length == l1.length) = true := by first | simpa using c3 | (simp at c3 ⊢; omega)
  clear c3; have H' := z0 H; clear H; go_enter Try.func51, Try.ntmps51; go_wp2
  repeat (go_quiet (fail); try go_wp2)
  go_loopg [5] k (fun kq v5 w' => ∃ (x5_1 : Int), v5 = .int .i64 x5_1 ∧ Aside0 (laws_ltSames.l0 kq l0 l1 x5_1 = some r) ∧ Aside0 (kq ≤ k) ∧ Drawn0 w w')
  case atStart => exact ⟨(0), zf, H', ⟨Nat.le_refl _⟩, by repeat (first | exact Drawn0.refl _ | apply Drawn0.step)⟩
  case round =>
   clear H'
   try clear c1
   try clear p2
   try clear c3
   try clear c3b0
   try clear c3b1
   try clear c3b2
   obtain ⟨x5_1, rfl, HA, HK1, ⟨m1, rfl⟩⟩ := hrel
   cases gk with
   | zero => exact absurd HA.out (by simp [laws_ltSames.l0])
   | succ k1 =>
    have H := HA.out; clear HA; simp only [laws_ltSames.l0] at H
    by_cases c4 : x5_1 < (l0.length : Int)
    ·rw [if_pos c4] at H; have c4b0 := decide_eq_true c4; clear c4; replace H := zn H; obtain ⟨c5, H⟩ := H; have c5b0 := decide_eq_true c5; clear c5; replace H := zn H; obtain ⟨c6, H⟩ := H; have c6b0 := decide_eq_true c6; clear c6
     by_cases c7 : (rdOf ByteArray.empty l0 x5_1).toList = (rdOf ByteArray.empty l1 x5_1).toList
     ·rw [if_pos c7] at H; have c7b0 : ((rdOf ByteArray.empty l0 x5_1).toList == (rdOf ByteArray.empty l1 x5_1).toList) = true := beq_iff_eq.mpr c7; have c7b1 : ((rdOf ByteArray.empty l0 x5_1).toList != (rdOf ByteArray.empty l1 x5_1).toList) = false := bne_eq_false_iff_eq.mpr c7; clear c7; have H' := z0 H; clear H; have p605 : 0 ≤ (x5_1 : Int) := zd; have q605 : x5_1 < (l0.length : Int) := zd; obtain ⟨ad605, e605, hx605_0⟩ := Kd.at_string HR0.out x5_1 p605 q605; cases e605; replace p605 := eq_true p605; replace q605 := eq_true q605; have p606 : 0 ≤ (x5_1 : Int) := zd; have q606 : x5_1 < (l1.length : Int) := zd; obtain ⟨ad606, e606, hx606_0⟩ := Kd.at_string HR1.out x5_1 p606 q606; cases e606; replace p606 := eq_true p606; replace q606 := eq_true q606; go_wp2
      repeat (go_quiet (fail); try go_wp2)
      go_roundg k1
      case measure => have := HK1.out; omega
      case rel => exact ⟨(wrap64 (x5_1 + 1)), zf, H', ⟨by have := HK1.out; omega⟩, by repeat (first | exact Drawn0.refl _ | apply Drawn0.step)⟩
     ·rw [if_neg c7] at H; have c7b0 : ((rdOf ByteArray.empty l0 x5_1).toList == (rdOf ByteArray.empty l1 x5_1).toList) = false := beq_eq_false_iff_ne.mpr c7; have c7b1 : ((rdOf ByteArray.empty l0 x5_1).toList != (rdOf ByteArray.empty l1 x5_1).toList) = true := bne_iff_ne.mpr c7; obtain rfl := Option.some.inj H; have p605 : 0 ≤ (x5_1 : Int) := zd; have q605 : x5_1 < (l0.length : Int) := zd; obtain ⟨ad605, e605, hx605_0⟩ := Kd.at_string HR0.out x5_1 p605 q605; cases e605; replace p605 := eq_true p605; replace q605 := eq_true q605; have p606 : 0 ≤ (x5_1 : Int) := zd; have q606 : x5_1 < (l1.length : Int) := zd; obtain ⟨ad606, e606, hx606_0⟩ := Kd.at_string HR1.out x5_1 p606 q606; cases e606; replace p606 := eq_true p606; replace q606 := eq_true q606; go_wp2
      repeat (go_quiet (fail); try go_wp2)
      go_ret; exact ⟨zf, by repeat (first | exact Drawn0.refl _ | apply Drawn0.step)⟩
    ·rw [if_neg c4] at H; have c4b0 := decide_eq_false c4; clear c4; obtain rfl := Option.some.inj H; go_wp2
     repeat (go_quiet (fail); try go_wp2)
     go_ret; exact ⟨zf, by repeat (first | exact Drawn0.refl _ | apply Drawn0.step)⟩
 ·rw [if_neg c3] at H; have c3b0 : ((l0.length : Int) == (l1.length : Int)) = false := beq_eq_false_iff_ne.mpr c3; have c3b1 : ((l0.length : Int) != (l1.length : Int)) = true := bne_iff_ne.mpr c3
  have c3b2 : (l0.length == l1.length) = false := by first | simpa using c3 | (simp at c3 ⊢; omega)
  obtain rfl := Option.some.inj H; go_enter Try.func51, Try.ntmps51; go_wp2
  repeat (go_quiet (fail); try go_wp2)
  go_ret; exact ⟨zf, by repeat (first | exact Drawn0.refl _ | apply Drawn0.step)⟩
theorem laws_ltSieve.mono : ∀ a0 a1 a2 a3 a4 a5 a6 a7 a8 a9 k, LeO (laws_ltSieve.f k a0 a1 a2 a3 a4 a5 a6 a7 a8 a9) (laws_ltSieve.f (k + 1) a0 a1 a2 a3 a4 a5 a6 a7 a8 a9) := by
  intro a0 a1 a2 a3 a4 a5 a6 a7 a8 a9 k
  unfold laws_ltSieve.f
  repeat' first | (with_reducible first | apply laws_ltSames.mono | exact LeO.refl _ | exact LeO.none _ | refine LeO.ite ?_ ?_ | refine LeO.bind ?_ (fun _ => ?_)) | exact LeO.none _ | refine LeO.ite ?_ ?_ | refine LeO.bind ?_ (fun _ => ?_)
theorem laws_ltSieve.calls (k : Nat) (a0_0 a0_1 a0_2 : ByteArray) (A0_3 : Option Addr) (c0_3 : Nat) (l0_3 : List ByteArray) (a0_4 : Int) (a1_0 a1_1 a1_2 : ByteArray) (A1_3 : Option Addr) (c1_3 : Nat) (l1_3 : List ByteArray) (a1_4 : Int) (r : Bool) (w : World) (hr0_3 : Kd.C Kd.string w A0_3 l0_3.length l0_3) (hc0_3 : l0_3.length ≤ c0_3) (hr1_3 : Kd.C Kd.string w A1_3 l1_3.length l1_3) (hc1_3 : l1_3.length ≤ c1_3) (h : laws_ltSieve.f k a0_0 a0_1 a0_2 l0_3 a0_4 a1_0 a1_1 a1_2 l1_3 a1_4 = some r) :
    Calls Try.prog 37 #[.agg #[.string a0_0, .string a0_1, .string a0_2, .slice A0_3 l0_3.length c0_3, .int .i64 a0_4], .agg #[.string a1_0, .string a1_1, .string a1_2, .slice A1_3 l1_3.length c1_3, .int .i64 a1_4]] w fun e w' => e = .returned (.bool r) ∧ Below w.heap.size w w' := by
 have hu25 := Try.underlying25; have HR0_3 := z0 hr0_3; have HC0_3 := z0 hc0_3; clear hr0_3 hc0_3; have HR1_3 := z0 hr1_3; have HC1_3 := z0 hc1_3; clear hr1_3 hc1_3; have HB := z0 (Below.refl w.heap.size w); have H : (if a0_0.toList = a1_0.toList then (if a0_1.toList = a1_1.toList then (if a0_2.toList = a1_2.toList then (if a0_4 = a1_4 then ((laws_ltSames.f k l0_3 l1_3).bind fun t609 => (some t609)) else (some false)) else (some false)) else (some false)) else (some false)) = some r := h; clear h
 by_cases c3 : a0_0.toList = a1_0.toList
 ·rw [if_pos c3] at H; have c3b0 : (a0_0.toList == a1_0.toList) = true := beq_iff_eq.mpr c3; have c3b1 : (a0_0.toList != a1_0.toList) = false := bne_eq_false_iff_eq.mpr c3; clear c3
  by_cases c4 : a0_1.toList = a1_1.toList
  ·rw [if_pos c4] at H; have c4b0 : (a0_1.toList == a1_1.toList) = true := beq_iff_eq.mpr c4; have c4b1 : (a0_1.toList != a1_1.toList) = false := bne_eq_false_iff_eq.mpr c4; clear c4
   by_cases c5 : a0_2.toList = a1_2.toList
   ·rw [if_pos c5] at H; have c5b0 : (a0_2.toList == a1_2.toList) = true := beq_iff_eq.mpr c5; have c5b1 : (a0_2.toList != a1_2.toList) = false := bne_eq_false_iff_eq.mpr c5; clear c5
    by_cases c6 : a0_4 = a1_4
    ·rw [if_pos c6] at H; have c6b0 : (a0_4 == a1_4) = true := beq_iff_eq.mpr c6; have c6b1 : (a0_4 != a1_4) = false := bne_eq_false_iff_eq.mpr c6; clear c6; replace H := zi H; obtain ⟨t609, A7, H⟩ := H; obtain rfl := Option.some.inj H; go_enter Try.func37, Try.ntmps37
     go_wp2_with (first | ((with_reducible refine gd 2 ?_); refine zbx 25 #[.string a0_0, .string a0_1, .string a0_2, .slice A0_3 l0_3.length c0_3, .int .i64 a0_4] ?_; intro gb607 hg w8 hbox hb; have BK607 := z0 (hbox); have GE607 := zG hg HB; replace HB := zH HB hb; clear hb hbox hg) | ((with_reducible refine gd 3 ?_); refine zbx 25 #[.string a1_0, .string a1_1, .string a1_2, .slice A1_3 l1_3.length c1_3, .int .i64 a1_4] ?_; intro gb608 hg w9 hbox hb; have BK608 := z0 (hbox); have GE608 := zG hg HB; replace HB := zH HB hb; have NB607_608 := zLt hg BK607; have NB608_607 := zGt hg BK607; replace BK607 := zK BK607 hb; clear hb hbox hg; have hnb10 := NB607_608.out; have hnc10 := NB608_607.out; have hcz11 := zc5 BK607.out; have hcz12 := zc5 BK608.out) | (go_at_call 51; (with_reducible refine (laws_ltSames.calls k _ _ l0_3 _ _ l1_3 t609 _ ?side1 ?side2 ?side3 ?side4 A7.out).mono ?_); (case side1 => repeat (first | exact (Kd.C_below HR0_3.out HB.out) | (with_reducible refine Kd.C_alloc ?_ _) | (with_reducible refine Kd.C_drewN ?_ _) | (with_reducible refine Kd.C_drew ?_))); (case side2 => exact HC0_3.out); (case side3 => repeat (first | exact (Kd.C_below HR1_3.out HB.out) | (with_reducible refine Kd.C_alloc ?_ _) | (with_reducible refine Kd.C_drewN ?_ _) | (with_reducible refine Kd.C_drew ?_))); (case side4 => exact HC1_3.out); rintro e w' ⟨rfl, ⟨nd, rfl⟩⟩))
     go_ret; exact ⟨ze, zb HB.out⟩
    ·rw [if_neg c6] at H; have c6b0 : (a0_4 == a1_4) = false := beq_eq_false_iff_ne.mpr c6; have c6b1 : (a0_4 != a1_4) = true := bne_iff_ne.mpr c6; obtain rfl := Option.some.inj H; go_enter Try.func37, Try.ntmps37
     go_wp2_with (first | ((with_reducible refine gd 2 ?_); refine zbx 25 #[.string a0_0, .string a0_1, .string a0_2, .slice A0_3 l0_3.length c0_3, .int .i64 a0_4] ?_; intro gb607 hg w13 hbox hb; have BK607 := z0 (hbox); have GE607 := zG hg HB; replace HB := zH HB hb; clear hb hbox hg) | ((with_reducible refine gd 3 ?_); refine zbx 25 #[.string a1_0, .string a1_1, .string a1_2, .slice A1_3 l1_3.length c1_3, .int .i64 a1_4] ?_; intro gb608 hg w14 hbox hb; have BK608 := z0 (hbox); have GE608 := zG hg HB; replace HB := zH HB hb; have NB607_608 := zLt hg BK607; have NB608_607 := zGt hg BK607; replace BK607 := zK BK607 hb; clear hb hbox hg; have hnb15 := NB607_608.out; have hnc15 := NB608_607.out; have hcz16 := zc5 BK607.out; have hcz17 := zc5 BK608.out))
     go_ret; exact ⟨ze, zb HB.out⟩
   ·rw [if_neg c5] at H; have c5b0 : (a0_2.toList == a1_2.toList) = false := beq_eq_false_iff_ne.mpr c5; have c5b1 : (a0_2.toList != a1_2.toList) = true := bne_iff_ne.mpr c5; obtain rfl := Option.some.inj H; go_enter Try.func37, Try.ntmps37
    go_wp2_with (first | ((with_reducible refine gd 2 ?_); refine zbx 25 #[.string a0_0, .string a0_1, .string a0_2, .slice A0_3 l0_3.length c0_3, .int .i64 a0_4] ?_; intro gb607 hg w18 hbox hb; have BK607 := z0 (hbox); have GE607 := zG hg HB; replace HB := zH HB hb; clear hb hbox hg) | ((with_reducible refine gd 3 ?_); refine zbx 25 #[.string a1_0, .string a1_1, .string a1_2, .slice A1_3 l1_3.length c1_3, .int .i64 a1_4] ?_; intro gb608 hg w19 hbox hb; have BK608 := z0 (hbox); have GE608 := zG hg HB; replace HB := zH HB hb; have NB607_608 := zLt hg BK607; have NB608_607 := zGt hg BK607; replace BK607 := zK BK607 hb; clear hb hbox hg; have hnb20 := NB607_608.out; have hnc20 := NB608_607.out; have hcz21 := zc5 BK607.out; have hcz22 := zc5 BK608.out))
    go_ret; exact ⟨ze, zb HB.out⟩
  ·rw [if_neg c4] at H; have c4b0 : (a0_1.toList == a1_1.toList) = false := beq_eq_false_iff_ne.mpr c4; have c4b1 : (a0_1.toList != a1_1.toList) = true := bne_iff_ne.mpr c4; obtain rfl := Option.some.inj H; go_enter Try.func37, Try.ntmps37
   go_wp2_with (first | ((with_reducible refine gd 2 ?_); refine zbx 25 #[.string a0_0, .string a0_1, .string a0_2, .slice A0_3 l0_3.length c0_3, .int .i64 a0_4] ?_; intro gb607 hg w23 hbox hb; have BK607 := z0 (hbox); have GE607 := zG hg HB; replace HB := zH HB hb; clear hb hbox hg) | ((with_reducible refine gd 3 ?_); refine zbx 25 #[.string a1_0, .string a1_1, .string a1_2, .slice A1_3 l1_3.length c1_3, .int .i64 a1_4] ?_; intro gb608 hg w24 hbox hb; have BK608 := z0 (hbox); have GE608 := zG hg HB; replace HB := zH HB hb; have NB607_608 := zLt hg BK607; have NB608_607 := zGt hg BK607; replace BK607 := zK BK607 hb; clear hb hbox hg; have hnb25 := NB607_608.out; have hnc25 := NB608_607.out; have hcz26 := zc5 BK607.out; have hcz27 := zc5 BK608.out))
   go_ret; exact ⟨ze, zb HB.out⟩
 ·rw [if_neg c3] at H; have c3b0 : (a0_0.toList == a1_0.toList) = false := beq_eq_false_iff_ne.mpr c3; have c3b1 : (a0_0.toList != a1_0.toList) = true := bne_iff_ne.mpr c3; obtain rfl := Option.some.inj H; go_enter Try.func37, Try.ntmps37
  go_wp2_with (first | ((with_reducible refine gd 2 ?_); refine zbx 25 #[.string a0_0, .string a0_1, .string a0_2, .slice A0_3 l0_3.length c0_3, .int .i64 a0_4] ?_; intro gb607 hg w28 hbox hb; have BK607 := z0 (hbox); have GE607 := zG hg HB; replace HB := zH HB hb; clear hb hbox hg) | ((with_reducible refine gd 3 ?_); refine zbx 25 #[.string a1_0, .string a1_1, .string a1_2, .slice A1_3 l1_3.length c1_3, .int .i64 a1_4] ?_; intro gb608 hg w29 hbox hb; have BK608 := z0 (hbox); have GE608 := zG hg HB; replace HB := zH HB hb; have NB607_608 := zLt hg BK607; have NB608_607 := zGt hg BK607; replace BK607 := zK BK607 hb; clear hb hbox hg; have hnb30 := NB607_608.out; have hnc30 := NB608_607.out; have hcz31 := zc5 BK607.out; have hcz32 := zc5 BK608.out))
  go_ret; exact ⟨ze, zb HB.out⟩
end Go.Proofs.Ytifgcajpkgamgaa.Q
end
section
set_option linter.unusedVariables false
set_option linter.unusedSimpArgs false
namespace Go.Proofs.Ytifgcajpkgamgaa.Pb
open Go Go.RowKit Go.Proofs.YtifgcajpkgamgaaW.PrintWords Go.Proofs.YtifgcajpkgamgaaW.PrintLast Go.Proofs.YtifgcajpkgamgaaW.PrintMore Go.Proofs.Ytifgcajpkgamgaa.Trie Go.Proofs.Ytifgcajpkgamgaa.Q
def bitc (c : UInt8) : Bool := c == 48 || c == 49
def bitsB (l : List UInt8) : Bool := l.all bitc && decide (l.length ≤ 400)
theorem bitc_48 {c : UInt8} (h : c = 48) : bitc c = true := by subst h; rfl
theorem bitc_49 {c : UInt8} (h : c = 49) : bitc c = true := by subst h; rfl
theorem bitc_no {c : UInt8} (h : ¬ c = 48) (h2 : ¬ c = 49) : bitc c = false := by simp [bitc, h, h2]
theorem bt_is {s : ByteArray} {i : Nat} {n : Nat} (hn : n < 256) : bt s (i : Int) = (n : Int) ↔ (L s).getD i 0 = UInt8.ofNat n := by
 rw [bt_L]
 constructor
 ·intro h
  have h1 : ((L s).getD i 0).toNat = n := by omega
  rw [← h1]; simp
 ·intro h
  rw [h]
  simp; omega
theorem all_drop {p : UInt8 → Bool} {l : List UInt8} {i : Nat} (h : i < l.length) : (l.drop i).all p = (p (l.getD i 0) && (l.drop (i + 1)).all p) := by
 rw [drop_cons 0 h, List.all_cons]
theorem impl_BitsOk_l0 (x : ByteArray) (hx : x.size ≤ 140737488355328) (d : Nat) : ∀ i : Nat, i ≤ (L x).length → (L x).length - i = d →
  Ev (fun k => impl_BitsOk.l0 k x ((L x).length : Int) (i : Int)) (((L x).drop i).all bitc && decide ((L x).length ≤ 400)) := by
 have hs := size_L x
 induction d with
 | zero =>
  intro i h1 h2
  refine ev_succ ?_
  simp only [impl_BitsOk.l0]
  refine ev_neg (by omega) (ev_some ?_)
  rw [List.drop_eq_nil_of_le (by omega)]
  simp only [List.all_nil, Bool.true_and]
  rw [hs]; congr 1; simp; omega
 | succ d ih =>
  intro i h1 h2
  have hi : i < (L x).length := by omega
  refine ev_succ ?_
  simp only [impl_BitsOk.l0]
  refine ev_pos (by omega) (ev_pos (by omega) (ev_pos (by omega) ?_))
  rw [w64 (by omega) (by omega), all_drop hi]
  have := ih (i + 1) (by omega) (by omega)
  by_cases c1 : (L x).getD i 0 = 48
  ·refine ev_pos ((bt_is (n := 48) (by omega)).2 c1) ?_
   rw [bitc_48 c1, Bool.true_and]
   exact this
  ·refine ev_neg (fun q => c1 ((bt_is (n := 48) (by omega)).1 q)) ?_
   by_cases c2 : (L x).getD i 0 = 49
   ·refine ev_pos ((bt_is (n := 49) (by omega)).2 c2) ?_
    rw [bitc_49 c2, Bool.true_and]
    exact this
   ·refine ev_neg (fun q => c2 ((bt_is (n := 49) (by omega)).1 q)) (ev_some ?_)
    rw [bitc_no c1 c2]; rfl
theorem impl_BitsOk_ev (x : ByteArray) (hx : x.size ≤ 140737488355328) : Ev (fun k => impl_BitsOk.f k x) (bitsB (L x)) := by
 have := impl_BitsOk_l0 x hx (L x).length 0 (by omega) (by omega)
 simpa [impl_BitsOk.f, bitsB, size_L] using this
theorem spec_l6In_eq (a b c : Int) : spec_l6In.f a b c = some (decide (b ≤ a ∧ a ≤ c)) := by
 unfold spec_l6In.f
 by_cases h : a ≥ b
 ·rw [if_pos h]; congr 1; simp only [decide_eq_decide]; constructor <;> intro q <;> omega
 ·rw [if_neg h]; congr 1; symm; simp only [decide_eq_false_iff_not]; omega
theorem impl_in_eq (a b c : Int) : impl_in.f a b c = some (decide (b ≤ a ∧ a ≤ c)) := by
 unfold impl_in.f
 by_cases h : b ≤ a
 ·rw [if_pos h]; congr 1; simp only [decide_eq_decide]; constructor <;> intro q <;> omega
 ·rw [if_neg h]; congr 1; symm; simp only [decide_eq_false_iff_not]; omega
theorem onesB_le (l : List UInt8) (n : Nat) : onesB l n ≤ l.length := by
 unfold onesB
 have h1 := List.countP_le_length (p := fun c : UInt8 => c == 49) (l := l.take n)
 have h2 := List.length_take (i := n) (l := l)
 omega
theorem count_L {x a : ByteArray} {c : UInt8} (h : L a = [c]) : strings_Count.f x a = some (((L x).count c : Nat) : Int) := by
 unfold strings_Count.f
 have h1 : a.size = 1 := by rw [size_L, h]; rfl
 rw [if_pos h1]
 have h2 : a.data.toList = [c] := h
 rw [h2]
 rfl
theorem onesB_count (l : List UInt8) (n : Nat) : (l.take n).count 49 = onesB l n := rfl
def oneI (l : List UInt8) (m : Nat) : Int := if pos l m < l.length then (pos l m : Int) else -1
theorem impl_one_l0 (x : ByteArray) (hx : x.size ≤ 140737488355328) (d : Nat) : ∀ (i m : Nat), i ≤ (L x).length → (L x).length - i = d → (m : Int) ≤ 9223372036854775807 →
  Ev (fun k => impl_one.l0 k x (m : Int) ((L x).length : Int) (i : Int)) (if i + pos ((L x).drop i) m < (L x).length then ((i + pos ((L x).drop i) m : Nat) : Int) else -1) := by
 have hs := size_L x
 induction d with
 | zero =>
  intro i m h1 h2 hm
  refine ev_succ ?_
  simp only [impl_one.l0]
  refine ev_neg (by omega) (ev_some ?_)
  rw [if_neg (by omega)]
 | succ d ih =>
  intro i m h1 h2 hm
  have hi : i < (L x).length := by omega
  refine ev_succ ?_
  simp only [impl_one.l0]
  refine ev_pos (by omega) (ev_pos (by omega) (ev_pos (by omega) ?_))
  rw [w64 (i := (i : Int) + 1) (by omega) (by omega), drop_cons 0 hi]
  by_cases c : (L x).getD i 0 = 49
  ·refine ev_pos ((bt_is (n := 49) (by omega)).2 c) ?_
   rw [pos, if_pos c]
   by_cases q : m = 0
   ·refine ev_pos (by omega) (ev_some ?_)
    rw [if_pos q, if_pos (by omega)]; omega
   ·refine ev_neg (by omega) ?_
    rw [if_neg q, w64 (by omega) (by omega)]
    have := ih (i + 1) (m - 1) (by omega) (by omega) (by omega)
    rw [show ((m - 1 : Nat) : Int) = (m : Int) - 1 by omega] at this
    refine ev_eq this ?_
    rw [show i + (1 + pos ((L x).drop (i + 1)) (m - 1)) = i + 1 + pos ((L x).drop (i + 1)) (m - 1) by omega]
  ·refine ev_neg (fun q => c ((bt_is (n := 49) (by omega)).1 q)) ?_
   rw [pos, if_neg c]
   refine ev_eq (ih (i + 1) m (by omega) (by omega) hm) ?_
   rw [show i + (1 + pos ((L x).drop (i + 1)) m) = i + 1 + pos ((L x).drop (i + 1)) m by omega]
theorem impl_one_ev (x : ByteArray) (hx : x.size ≤ 140737488355328) (m : Nat) (hm : (m : Int) ≤ 9223372036854775807) : Ev (fun k => impl_one.f k x (m : Int)) (oneI (L x) m) := by
 have := impl_one_l0 x hx (L x).length 0 m (by omega) (by omega) hm
 have e : impl_one.f = fun k x m => impl_one.l0 k x m ((L x).length : Int) 0 := by
  funext k x m
  unfold impl_one.f
  rw [size_L]
 rw [e]
 refine ev_eq this ?_
 unfold oneI
 simp
def letc (c : UInt8) : Bool := decide (97 ≤ c.toNat) && decide (c.toNat ≤ 100)
def kokB (l : List UInt8) : Bool := l.all letc && decide (l.length ≤ 5)
theorem kokB_iff {l : List UInt8} : kokB l = true ↔ KOk l := by
 unfold kokB
 rw [Bool.and_eq_true, List.all_eq_true, decide_eq_true_eq]
 constructor
 ·rintro ⟨h1, h2⟩
  exact ⟨h2, fun c hc => by have := h1 c hc; simpa [letc] using this⟩
 ·rintro ⟨h1, h2⟩
  exact ⟨fun c hc => by have := h2 c hc; simpa [letc] using this, h1⟩
theorem spec_KeyOk_l0 (x : ByteArray) (hx : x.size ≤ 140737488355328) (d : Nat) : ∀ i : Nat, i ≤ (L x).length → (L x).length - i = d →
  Ev (fun k => spec_KeyOk.l0 k x (i : Int)) (((L x).drop i).all letc && decide ((L x).length ≤ 5)) := by
 have hs := size_L x
 induction d with
 | zero =>
  intro i h1 h2
  refine ev_succ ?_
  simp only [spec_KeyOk.l0]
  refine ev_neg (by omega) (ev_some ?_)
  rw [List.drop_eq_nil_of_le (by omega)]
  simp only [List.all_nil, Bool.true_and]
  rw [hs]; congr 1; simp; omega
 | succ d ih =>
  intro i h1 h2
  have hi : i < (L x).length := by omega
  refine ev_succ ?_
  simp only [spec_KeyOk.l0]
  refine ev_pos (by omega) (ev_pos (by omega) ?_)
  have hr := bt_range x (i : Int)
  rw [w64 (i := bt x (i : Int)) (by omega) (by omega), w64 (i := (i : Int) + 1) (by omega) (by omega), all_drop hi]
  have := ih (i + 1) (by omega) (by omega)
  have e := bt_L x i
  refine ev_bindc (spec_l6In_eq _ _ _) ?_
  by_cases c1 : 97 ≤ bt x (i : Int) ∧ bt x (i : Int) ≤ 100
  ·refine ev_pos (by simpa using c1) ?_
   have hc : letc ((L x).getD i 0) = true := by simp only [letc, Bool.and_eq_true, decide_eq_true_eq]; omega
   rw [hc, Bool.true_and]
   exact this
  ·refine ev_neg (by simpa using c1) (ev_some ?_)
   have hc : letc ((L x).getD i 0) = false := by
    rw [Bool.eq_false_iff]
    simp only [letc, ne_eq, Bool.and_eq_true, decide_eq_true_eq]; omega
   rw [hc]; rfl
theorem spec_KeyOk_ev (x : ByteArray) (hx : x.size ≤ 140737488355328) : Ev (fun k => spec_KeyOk.f k x) (kokB (L x)) := by
 have := spec_KeyOk_l0 x hx (L x).length 0 (by omega) (by omega)
 simpa [spec_KeyOk.f, kokB] using this
theorem impl_KeyOk_l0 (x : ByteArray) (hx : x.size ≤ 140737488355328) (d : Nat) : ∀ i : Nat, i ≤ (L x).length → (L x).length - i = d →
  Ev (fun k => impl_KeyOk.l0 k x ((L x).length : Int) (i : Int)) (((L x).drop i).all letc && decide ((L x).length ≤ 5)) := by
 have hs := size_L x
 induction d with
 | zero =>
  intro i h1 h2
  refine ev_succ ?_
  simp only [impl_KeyOk.l0]
  refine ev_neg (by omega) (ev_some ?_)
  rw [List.drop_eq_nil_of_le (by omega)]
  simp only [List.all_nil, Bool.true_and]
  rw [hs]; congr 1; simp; omega
 | succ d ih =>
  intro i h1 h2
  have hi : i < (L x).length := by omega
  refine ev_succ ?_
  simp only [impl_KeyOk.l0]
  refine ev_pos (by omega) (ev_pos (by omega) (ev_pos (by omega) ?_))
  rw [w64 (i := (i : Int) + 1) (by omega) (by omega), all_drop hi]
  have := ih (i + 1) (by omega) (by omega)
  have e := bt_L x i
  by_cases c1 : bt x (i : Int) < 97
  ·refine ev_pos c1 (ev_some ?_)
   have hc : letc ((L x).getD i 0) = false := by
    rw [Bool.eq_false_iff]
    simp only [letc, ne_eq, Bool.and_eq_true, decide_eq_true_eq]; omega
   rw [hc]; rfl
  ·refine ev_neg c1 ?_
   by_cases c2 : bt x (i : Int) > 100
   ·refine ev_pos c2 (ev_some ?_)
    have hc : letc ((L x).getD i 0) = false := by
     rw [Bool.eq_false_iff]
     simp only [letc, ne_eq, Bool.and_eq_true, decide_eq_true_eq]; omega
    rw [hc]; rfl
   ·refine ev_neg c2 ?_
    have hc : letc ((L x).getD i 0) = true := by simp only [letc, Bool.and_eq_true, decide_eq_true_eq]; omega
    rw [hc, Bool.true_and]
    exact this
theorem impl_KeyOk_ev (x : ByteArray) (hx : x.size ≤ 140737488355328) : Ev (fun k => impl_KeyOk.f k x) (kokB (L x)) := by
 have := impl_KeyOk_l0 x hx (L x).length 0 (by omega) (by omega)
 simpa [impl_KeyOk.f, kokB, size_L] using this
def goB : Option Key → List Key → Bool
 | _, [] => true
 | p, k :: t => kokB k && (match p with | none => true | some q => decide (q < k)) && goB (some k) t
def keysB (K : List Key) : Bool := goB none K && decide (K.length ≤ 24)
theorem goB_some {p : Key} {l : List Key} : goB (some p) l = true ↔ (∀ k ∈ l, KOk k) ∧ (p :: l).Pairwise (· < ·) := by
 induction l generalizing p with
 | nil => simp [goB]
 | cons k t ih =>
  unfold goB
  simp only [Bool.and_eq_true, decide_eq_true_eq]
  rw [ih, kokB_iff]
  constructor
  ·rintro ⟨⟨h1, h2⟩, h3, h4⟩
   refine ⟨fun x hx => ?_, ?_⟩
   ·rcases List.mem_cons.1 hx with rfl | hx
    ·exact h1
    ·exact h3 x hx
   ·refine List.pairwise_cons.2 ⟨fun x hx => ?_, h4⟩
    rcases List.mem_cons.1 hx with rfl | hx
    ·exact h2
    ·exact key_trans h2 ((List.pairwise_cons.1 h4).1 x hx)
  ·rintro ⟨h1, h2⟩
   have h3 := List.pairwise_cons.1 h2
   exact ⟨⟨h1 k (by simp), h3.1 k (by simp)⟩, fun x hx => h1 x (by simp [hx]), h3.2⟩
structure KsOk (K : List Key) : Prop where
 ok : ∀ k ∈ K, KOk k
 sorted : K.Pairwise (· < ·)
 few : K.length ≤ 24
theorem keysB_iff {K : List Key} : keysB K = true ↔ KsOk K := by
 unfold keysB
 rw [Bool.and_eq_true, decide_eq_true_eq]
 have h : goB none K = true ↔ (∀ k ∈ K, KOk k) ∧ K.Pairwise (· < ·) := by
  cases K with
  | nil => simp [goB]
  | cons k t =>
   unfold goB
   simp only [Bool.and_eq_true, Bool.and_true]
   rw [goB_some, kokB_iff]
   constructor
   ·rintro ⟨h1, h2, h3⟩
    refine ⟨fun x hx => ?_, h3⟩
    rcases List.mem_cons.1 hx with rfl | hx
    ·exact h1
    ·exact h2 x hx
   ·rintro ⟨h1, h2⟩
    exact ⟨h1 k (by simp), fun x hx => h1 x (by simp [hx]), h2⟩
 rw [h]
 exact ⟨fun ⟨⟨a, b⟩, c⟩ => ⟨a, b, c⟩, fun ⟨a, b, c⟩ => ⟨⟨a, b⟩, c⟩⟩
structure SzL (l : List ByteArray) : Prop where
 len : l.length ≤ 8796093022208
 each : ∀ s ∈ l, s.size ≤ 140737488355328
theorem SzL.getD {l : List ByteArray} (h : SzL l) (i : Nat) : (l.getD i ByteArray.empty).size ≤ 140737488355328 := by
 by_cases hi : i < l.length
 ·rw [getD_lt _ hi]; exact h.each _ (List.getElem_mem hi)
 ·rw [List.getD_eq_getElem?_getD, List.getElem?_eq_none (by omega)]
  exact Nat.zero_le _
theorem rdOf_nat (l : List ByteArray) (i : Nat) : rdOf ByteArray.empty l (i : Int) = l.getD i ByteArray.empty := rfl
theorem L_rd (l : List ByteArray) (i : Nat) : L (rdOf ByteArray.empty l (i : Int)) = (LL l).getD i [] := by
 rw [rdOf_nat, LL_getD]
theorem rd_size {l : List ByteArray} (h : SzL l) (i : Nat) : (rdOf ByteArray.empty l (i : Int)).size ≤ 140737488355328 := by
 rw [rdOf_nat]; exact h.getD i
def prev (K : List Key) (i : Nat) : Option Key := if i = 0 then none else some (K.getD (i - 1) [])
theorem goB_drop {K : List Key} {i : Nat} (hi : i < K.length) : goB (prev K i) (K.drop i) = (kokB (K.getD i []) && (if i = 0 then true else decide (K.getD (i - 1) [] < K.getD i [])) && goB (prev K (i + 1)) (K.drop (i + 1))) := by
 rw [drop_cons [] hi]
 unfold prev
 by_cases q : i = 0
 ·subst q
  simp [goB]
 ·simp only [if_neg q, if_neg (show ¬ i + 1 = 0 by omega), Nat.add_sub_cancel]
  rw [goB]
theorem spec_KeysOk_l0 (l : List ByteArray) (hl : SzL l) (d : Nat) : ∀ i : Nat, i ≤ l.length → l.length - i = d →
  Ev (fun k => spec_KeysOk.l0 k l (i : Int)) (goB (prev (LL l) i) ((LL l).drop i) && decide (l.length ≤ 24)) := by
 have hn := LL_length l
 have hlen := hl.len
 induction d with
 | zero =>
  intro i h1 h2
  refine ev_succ ?_
  simp only [spec_KeysOk.l0]
  refine ev_neg (by omega) (ev_some ?_)
  rw [List.drop_eq_nil_of_le (by omega)]
  simp only [goB, Bool.true_and]
  congr 1; simp; omega
 | succ d ih =>
  intro i h1 h2
  have hi : i < l.length := by omega
  refine ev_succ ?_
  simp only [spec_KeysOk.l0]
  refine ev_pos (by omega) (ev_pos (by omega) ?_)
  rw [w64 (i := (i : Int) + 1) (by omega) (by omega), goB_drop (by omega)]
  have hrec := ih (i + 1) (by omega) (by omega)
  have hk := spec_KeyOk_ev _ (rd_size hl i)
  rw [L_rd] at hk
  refine Ev.bind hk ?_
  cases hkk : kokB ((LL l).getD i []) with
  | false => exact ev_neg (by simp) (ev_some (by simp))
  | true =>
   refine ev_pos rfl ?_
   by_cases q : i = 0
   ·refine ev_neg (by omega) ?_
    rw [if_pos q]
    simpa using hrec
   ·refine ev_pos (by omega) ?_
    have e : (i : Int) - 1 = ((i - 1 : Nat) : Int) := by omega
    rw [w64 (i := (i : Int) - 1) (by omega) (by omega), e]
    refine ev_pos (by omega) (ev_pos (by omega) ?_)
    rw [less_L, toList_L, toList_L, L_rd, L_rd, if_neg q]
    by_cases c : (LL l).getD (i - 1) [] < (LL l).getD i []
    ·refine ev_pos (by simpa using c) ?_
     simp only [decide_eq_true c, Bool.true_and]
     exact hrec
    ·refine ev_neg (by simpa using c) (ev_some ?_)
     simp only [decide_eq_false c, Bool.and_false, Bool.false_and]
theorem spec_KeysOk_ev (l : List ByteArray) (hl : SzL l) : Ev (fun k => spec_KeysOk.f k l) (keysB (LL l)) := by
 have := spec_KeysOk_l0 l hl l.length 0 (by omega) (by omega)
 simpa [spec_KeysOk.f, keysB, prev, LL_length] using this
theorem impl_KeysOk_l0 (l : List ByteArray) (hl : SzL l) (d : Nat) : ∀ i : Nat, i ≤ l.length → l.length - i = d →
  Ev (fun k => impl_KeysOk.l0 k l l (l.length : Int) (i : Int)) (goB (prev (LL l) i) ((LL l).drop i) && decide (l.length ≤ 24)) := by
 have hn := LL_length l
 have hlen := hl.len
 induction d with
 | zero =>
  intro i h1 h2
  refine ev_succ ?_
  simp only [impl_KeysOk.l0]
  refine ev_neg (by omega) (ev_some ?_)
  rw [List.drop_eq_nil_of_le (by omega)]
  simp only [goB, Bool.true_and]
  congr 1; simp; omega
 | succ d ih =>
  intro i h1 h2
  have hi : i < l.length := by omega
  refine ev_succ ?_
  simp only [impl_KeysOk.l0]
  refine ev_pos (by omega) (ev_pos (by omega) (ev_pos (by omega) ?_))
  rw [w64 (i := (i : Int) + 1) (by omega) (by omega), goB_drop (by omega)]
  have hrec := ih (i + 1) (by omega) (by omega)
  have hk := impl_KeyOk_ev _ (rd_size hl i)
  rw [L_rd] at hk
  refine Ev.bind hk ?_
  cases hkk : kokB ((LL l).getD i []) with
  | false => exact ev_neg (by simp) (ev_some (by simp))
  | true =>
   refine ev_pos rfl ?_
   by_cases q : i = 0
   ·refine ev_neg (by omega) ?_
    rw [if_pos q]
    simpa using hrec
   ·refine ev_pos (by omega) ?_
    have e : (i : Int) - 1 = ((i - 1 : Nat) : Int) := by omega
    rw [w64 (i := (i : Int) - 1) (by omega) (by omega), e]
    refine ev_pos (by omega) (ev_pos (by omega) ?_)
    rw [less_L, toList_L, toList_L, L_rd, L_rd, if_neg q]
    by_cases c : (LL l).getD (i - 1) [] < (LL l).getD i []
    ·refine ev_pos (by simpa using c) ?_
     simp only [decide_eq_true c, Bool.true_and]
     exact hrec
    ·refine ev_neg (by simpa using c) (ev_some ?_)
     simp only [decide_eq_false c, Bool.and_false, Bool.false_and]
theorem impl_KeysOk_ev (l : List ByteArray) (hl : SzL l) : Ev (fun k => impl_KeysOk.f k l) (keysB (LL l)) := by
 have := impl_KeysOk_l0 l hl l.length 0 (by omega) (by omega)
 simpa [impl_KeysOk.f, keysB, prev, LL_length] using this
structure By (b : List Int) : Prop where
 byte : ∀ x ∈ b, 0 ≤ x ∧ x ≤ 255
 few : b.length ≤ 2000
theorem By.rd {b : List Int} (h : By b) (i : Int) : 0 ≤ rd b i ∧ rd b i ≤ 255 := by
 unfold Go.Proofs.YtifgcajpkgamgaaW.PrintWords.rd
 rw [List.getD_eq_getElem?_getD]
 cases hx : b[i.toNat]? with
 | none => simp
 | some x =>
  have := h.byte x (List.mem_of_getElem? hx)
  simpa using this
theorem wf_byte {x : Int} (h : (Lit.int .u8 x).wf = true) : 0 ≤ x ∧ x ≤ 255 := by
 simp [Lit.wf, IntKind.min, IntKind.max, IntKind.signed, IntKind.bits] at h
 omega
theorem open_ev (l : List Int) (hl : l.length ≤ maxLen) (hw : ∀ x ∈ l, (Lit.int .u8 x).wf = true) : ∃ b, spec_l6Open.f l = some (b, 0) ∧ By b := by
 unfold spec_l6Open.f
 by_cases h : (l.length : Int) > 2000
 ·rw [if_pos h, if_pos (by omega)]
  refine ⟨l.take 2000, rfl, fun x hx => wf_byte (hw x (List.mem_of_mem_take hx)), ?_⟩
  rw [List.length_take]; omega
 ·rw [if_neg h]
  exact ⟨l, rfl, fun x hx => wf_byte (hw x hx), by omega⟩
theorem bits_xor_nat (a b : Nat) (ha : a < 2 ^ 62) (hb : b < 2 ^ 62) : bits .xor .i64 (a : Int) (b : Int) = ((a ^^^ b : Nat) : Int) := by
 have hj : 62 ≤ IntKind.i64.bits := by decide
 have hp : 2 ^ 62 ≤ 2 ^ IntKind.i64.bits := Nat.pow_le_pow_right (by decide) hj
 have ha' : a % 2 ^ IntKind.i64.bits = a := Nat.mod_eq_of_lt (Nat.lt_of_lt_of_le ha hp)
 have hb' : b % 2 ^ IntKind.i64.bits = b := Nat.mod_eq_of_lt (Nat.lt_of_lt_of_le hb hp)
 simp only [bits, BitVec.ofInt_natCast, BitVec.toNat_xor, BitVec.toNat_ofNat, ha', hb']
 have h := Nat.xor_lt_two_pow ha hb
 rw [IntKind.wrap_i64]
 omega
theorem tmod_range {x n : Int} (hx : 0 ≤ x) (hn : 1 ≤ n) : 0 ≤ Int.tmod x n ∧ Int.tmod x n < n := by
 rw [Int.tmod_eq_emod_of_nonneg hx]
 exact ⟨Int.emod_nonneg _ (by omega), Int.emod_lt_of_pos _ (by omega)⟩
theorem pick_ev {b : List Int} (hb : By b) (p : Int) (h0 : 0 ≤ p) (h1 : p ≤ 1000000) (n : Int) (hn : n ≤ 1000000) :
  ∃ r, Ev (fun k => spec_l6Rd_pick.f k b p n) (r, p + 1) ∧ 0 ≤ r ∧ (1 ≤ n → r < n) ∧ (n < 1 → r = 0) := by
 have hl := hb.few
 unfold spec_l6Rd_pick.f
 rw [w64 (i := p + 1) (by omega) (by omega)]
 by_cases c1 : n < 1
 ·refine ⟨0, ev_pos c1 (ev_succ ?_), by omega, by omega, fun _ => rfl⟩
  simp only [spec_l6Rd_pick.j0]
  exact ev_pos (by simp) (ev_some rfl)
 ·by_cases c2 : (b.length : Int) = 0
  ·refine ⟨0, ev_neg c1 (ev_succ ?_), by omega, by omega, fun _ => rfl⟩
   simp only [spec_l6Rd_pick.j0]
   exact ev_pos (by simpa using c2) (ev_some rfl)
  ·have e1 : p + 1 - 1 = p := by omega
   by_cases c3 : p < (b.length : Int)
   ·have hr := hb.rd p
    refine ⟨Int.tmod (rd b p) n, ev_neg c1 (ev_succ ?_), (tmod_range hr.1 (by omega)).1, fun _ => (tmod_range hr.1 (by omega)).2, by omega⟩
    simp only [spec_l6Rd_pick.j0]
    refine ev_neg (by simpa using c2) ?_
    rw [e1, w64 (i := p) (by omega) (by omega)]
    refine ev_pos c3 (ev_pos h0 (ev_neg (by omega) (ev_some ?_)))
    rw [w64 (by omega) (by omega)]
   ·have hm := tmod_range h0 (show (1 : Int) ≤ b.length by omega)
    have e2 : wrap64 (wrap64 (p * 7) + 3) = p * 7 + 3 := by rw [w64 (i := p * 7) (by omega) (by omega), w64 (by omega) (by omega)]
    have hm2 := tmod_range (show 0 ≤ p * 7 + 3 by omega) (show (1 : Int) ≤ b.length by omega)
    have hr1 := hb.rd (Int.tmod p b.length)
    have hr2 := hb.rd (Int.tmod (p * 7 + 3) b.length)
    have ed : Int.tdiv p b.length = p / b.length := Int.tdiv_eq_ediv_of_nonneg h0
    have hd0 : 0 ≤ p / (b.length : Int) := Int.ediv_nonneg h0 (by omega)
    have hd1 : p / (b.length : Int) ≤ p := Int.ediv_le_self _ h0
    generalize hA : rd b (Int.tmod p b.length) = A at *
    generalize hB : rd b (Int.tmod (p * 7 + 3) b.length) = B at *
    generalize hD : p / (b.length : Int) = D at *
    have eX : wrap64 (wrap64 (wrap64 (wrap64 (wrap64 A * 131) + wrap64 (wrap64 B * 1117)) + wrap64 (p * 29)) + wrap64 (wrap64 D * 53)) = A * 131 + B * 1117 + p * 29 + D * 53 := by
     rw [w64 (i := A) (by omega) (by omega), w64 (i := B) (by omega) (by omega), w64 (i := D) (by omega) (by omega), w64 (i := A * 131) (by omega) (by omega), w64 (i := B * 1117) (by omega) (by omega), w64 (i := p * 29) (by omega) (by omega), w64 (i := D * 53) (by omega) (by omega), w64 (i := A * 131 + B * 1117) (by omega) (by omega), w64 (i := A * 131 + B * 1117 + p * 29) (by omega) (by omega), w64 (by omega) (by omega)]
    obtain ⟨X, hX⟩ : ∃ X : Nat, A * 131 + B * 1117 + p * 29 + D * 53 = (X : Int) := ⟨(A * 131 + B * 1117 + p * 29 + D * 53).toNat, by omega⟩
    have hXb : X < 2 ^ 62 := by omega
    have hY : Int.tdiv (X : Int) 64 = ((X / 64 : Nat) : Int) := by rw [Int.tdiv_eq_ediv_of_nonneg (by omega)]; omega
    have hxor := bits_xor_nat X (X / 64) hXb (by omega)
    refine ⟨Int.tmod (((X ^^^ (X / 64) : Nat) : Int)) n, ev_neg c1 (ev_succ ?_), (tmod_range (by omega) (by omega)).1, fun _ => (tmod_range (by omega) (by omega)).2, by omega⟩
    simp only [spec_l6Rd_pick.j0]
    refine ev_neg (by simpa using c2) ?_
    rw [e1, w64 (i := p) (by omega) (by omega), e2, ed, hA, hB, eX, hX, hY, w64 (i := ((X / 64 : Nat) : Int)) (by omega) (by omega), hxor]
    exact ev_neg c3 (ev_neg c2 (ev_pos hm.1 (ev_pos hm.2 (ev_pos hm2.1 (ev_pos hm2.2 (ev_neg (by omega) (ev_some rfl)))))))
theorem of_ev {b : List Int} (hb : By b) (p : Int) (h0 : 0 ≤ p) (h1 : p ≤ 1000000) (l : List ByteArray) (hl : l ≠ []) (hn : l.length ≤ 1000) :
  ∃ s, Ev (fun k => spec_l6Rd_of.f k b p l) (s, p + 1) ∧ s ∈ l := by
 have hpos : 0 < l.length := List.length_pos_iff.2 hl
 obtain ⟨r, hr, g0, g1, _⟩ := pick_ev hb p h0 h1 (l.length : Int) (by omega)
 have g1 := g1 (by omega)
 obtain ⟨j, rfl⟩ : ∃ j : Nat, r = (j : Int) := ⟨r.toNat, by omega⟩
 refine ⟨l.getD j ByteArray.empty, ?_, ?_⟩
 ·unfold spec_l6Rd_of.f
  refine Ev.bind hr ?_
  exact ev_pos g0 (ev_pos g1 (ev_some rfl))
 ·rw [getD_lt _ (by omega)]
  exact List.getElem_mem _
theorem kok_nil : KOk [] := ⟨by simp, by simp⟩
theorem kok_snoc {l : Key} (h : KOk l) {c : UInt8} (hc : 97 ≤ c.toNat ∧ c.toNat ≤ 100) (hl : l.length < 5) : KOk (l ++ [c]) := by
 refine ⟨by simp; omega, fun x hx => ?_⟩
 rcases List.mem_append.1 hx with h1 | h1
 ·exact h.alph x h1
 ·simp at h1; subst h1; exact hc
theorem kok_take {l : Key} (h : KOk l) (n : Nat) : KOk (l.take n) := ⟨by rw [List.length_take]; have := h.len; omega, fun c hc => h.alph c (List.mem_of_mem_take hc)⟩
theorem key_l0_ev {b : List Int} (hb : By b) (d : Nat) : ∀ (x3 : ByteArray) (p : Int), 0 ≤ p → p + d ≤ 900000 → KOk (L x3) → (L x3).length + d ≤ 5 →
  ∃ s, Ev (fun k => spec_l71Key.l0 k x3 (d : Int) b p) (s, p + d) ∧ KOk (L s) := by
 induction d with
 | zero =>
  intro x3 p h0 h1 h2 h3
  refine ⟨x3, ev_succ ?_, h2⟩
  simp only [spec_l71Key.l0]
  exact ev_neg (by omega) (ev_some (by simp))
 | succ d ih =>
  intro x3 p h0 h1 h2 h3
  obtain ⟨t, ht, hm⟩ := of_ev hb p h0 (by omega) ([(⟨#[97]⟩ : ByteArray), (⟨#[98]⟩ : ByteArray), (⟨#[97]⟩ : ByteArray), (⟨#[99]⟩ : ByteArray), (⟨#[100]⟩ : ByteArray)]) (by simp) (by simp)
  have hts : ∃ c : UInt8, L t = [c] ∧ 97 ≤ c.toNat ∧ c.toNat ≤ 100 := by
   simp only [List.mem_cons, List.not_mem_nil, or_false] at hm
   rcases hm with rfl | rfl | rfl | rfl | rfl <;> exact ⟨_, rfl, by decide, by decide⟩
  obtain ⟨c, hc, hcr⟩ := hts
  have hz : t.size = 1 := by rw [size_L, hc]; rfl
  have hx := size_L x3
  have hL : L (x3 ++ t) = L x3 ++ [c] := by rw [L_append, hc]
  obtain ⟨s, hr, g⟩ := ih (x3 ++ t) (p + 1) (by omega) (by omega) (by rw [hL]; exact kok_snoc h2 hcr (by omega)) (by rw [hL, List.length_append]; simp only [List.length_cons, List.length_nil]; omega)
  refine ⟨s, ev_succ ?_, g⟩
  simp only [spec_l71Key.l0]
  refine ev_pos (by omega) (Ev.bind ht (ev_pos (by rw [hz]; omega) ?_))
  rw [w64 (by omega) (by omega), show ((d + 1 : Nat) : Int) - 1 = (d : Int) by omega, show p + ((d + 1 : Nat) : Int) = p + 1 + (d : Int) by omega]
  exact hr
theorem key_ev {b : List Int} (hb : By b) (p : Int) (h0 : 0 ≤ p) (h1 : p ≤ 800000) :
  ∃ s q, Ev (fun k => spec_l71Key.f k b p) (s, q) ∧ KOk (L s) ∧ p < q ∧ q ≤ p + 10 := by
 obtain ⟨r, hr, g0, g1, _⟩ := pick_ev hb p h0 (by omega) 6 (by omega)
 have g1 := g1 (by omega)
 obtain ⟨n, rfl⟩ : ∃ n : Nat, r = (n : Int) := ⟨r.toNat, by omega⟩
 obtain ⟨s, hs, g⟩ := key_l0_ev hb n (⟨#[]⟩ : ByteArray) (p + 1) (by omega) (by omega) (by exact kok_nil) (by show 0 + n ≤ 5; omega)
 refine ⟨s, p + 1 + n, ?_, g, by omega, by omega⟩
 unfold spec_l71Key.f
 exact Ev.bind hr hs
theorem near_gen (Pd : Key → Prop) (hK : ∀ k, KOk k → Pd k) (hT : ∀ k n, Pd k → Pd (k.take n)) (hS : ∀ (k : Key) (c : UInt8), Pd k → k.length < 5 → (97 ≤ c.toNat ∧ c.toNat ≤ 100) → Pd (k ++ [c])) (hLn : ∀ k, Pd k → k.length ≤ 1000) {b : List Int} (hb : By b) (p : Int) (h0 : 0 ≤ p) (h1 : p ≤ 700000) (l : List ByteArray) (hl : l.length ≤ 1000) (hk : ∀ x ∈ l, Pd (L x)) :
  ∃ s q, Ev (fun k => spec_l71Near.f k b p l) (s, q) ∧ Pd (L s) ∧ p < q ∧ q ≤ p + 20 := by
 have plain : ∀ p' : Int, 0 ≤ p' → p' ≤ 700010 → ∃ s q, Ev (fun k => spec_l71Near.j0 k l true b p') (s, q) ∧ Pd (L s) ∧ p' < q ∧ q ≤ p' + 10 := by
  intro p' a0 a1
  obtain ⟨s, q, hs, g, q0, q1⟩ := key_ev hb p' a0 (by omega)
  refine ⟨s, q, ev_succ ?_, hK _ g, q0, q1⟩
  simp only [spec_l71Near.j0]
  exact ev_pos (by simp) (Ev.bind hs (ev_some rfl))
 by_cases c0 : (l.length : Int) = 0
 ·obtain ⟨s, q, hs, g, q0, q1⟩ := plain p h0 (by omega)
  refine ⟨s, q, ?_, g, q0, by omega⟩
  unfold spec_l71Near.f
  exact ev_pos c0 hs
 ·obtain ⟨r, hr, _, _, _⟩ := pick_ev hb p h0 (by omega) 4 (by omega)
  by_cases c1 : r = 0
  ·obtain ⟨s, q, hs, g, q0, q1⟩ := plain (p + 1) (by omega) (by omega)
   refine ⟨s, q, ?_, g, by omega, by omega⟩
   unfold spec_l71Near.f
   refine ev_neg c0 (Ev.bind hr ?_)
   simp only [c1]
   exact hs
  ·have hrb : (r == 0) = false := by simpa using c1
   obtain ⟨i, hi, i0, i1, _⟩ := pick_ev hb (p + 1) (by omega) (by omega) (l.length : Int) (by omega)
   have i1 := i1 (by omega)
   obtain ⟨j, rfl⟩ : ∃ j : Nat, i = (j : Int) := ⟨i.toNat, by omega⟩
   obtain ⟨x, hx⟩ : ∃ x, rdOf ByteArray.empty l (j : Int) = x := ⟨_, rfl⟩
   have hxk : Pd (L x) := by
    refine hk x ?_
    rw [← hx, show rdOf ByteArray.empty l (j : Int) = l.getD j ByteArray.empty from rfl, getD_lt _ (by omega)]
    exact List.getElem_mem _
   have hxs := size_L x
   have hxl := hLn _ hxk
   obtain ⟨m, hm, m0, m1, _⟩ := pick_ev hb (p + 1 + 1) (by omega) (by omega) 4 (by omega)
   have go : ∀ s q, Ev (fun k => (if m = 0 then ((spec_l6Rd_pick.f k b (p + 1 + 1 + 1) (wrap64 ((x.size : Int) + 1))).bind fun bt135 => (if 0 ≤ bt135.1 then (if bt135.1 ≤ (x.size : Int) then (some (x.extract 0 (bt135.1 : Int).toNat, bt135.2)) else (none)) else (none))) else (if m = 1 then (if (x.size : Int) < 5 then ((spec_l6Rd_of.f k b (p + 1 + 1 + 1) (([(⟨#[97]⟩ : ByteArray), (⟨#[98]⟩ : ByteArray), (⟨#[100]⟩ : ByteArray)] : List ByteArray))).bind fun bt140 => (if x.size + bt140.1.size ≤ 9223372036854775807 then (some (x ++ bt140.1, bt140.2)) else (none))) else (some (x, p + 1 + 1 + 1))) else (some (x, p + 1 + 1 + 1))))) (s, q) → Ev (fun k => spec_l71Near.f k b p l) (s, q) := by
    intro s q h
    unfold spec_l71Near.f
    refine ev_neg c0 (Ev.bind hr ?_)
    simp only [hrb]
    refine ev_succ ?_
    simp only [spec_l71Near.j0]
    refine ev_neg (by simp) (Ev.bind hi (ev_pos i0 (ev_pos i1 (Ev.bind hm ?_))))
    simp only [hx]
    exact h
   by_cases d0 : m = 0
   ·obtain ⟨z, hz, z0, z1, _⟩ := pick_ev hb (p + 1 + 1 + 1) (by omega) (by omega) ((x.size : Int) + 1) (by omega)
    have z1 := z1 (by omega)
    refine ⟨x.extract 0 z.toNat, p + 1 + 1 + 1 + 1, go _ _ ?_, ?_, by omega, by omega⟩
    ·refine ev_pos d0 ?_
     rw [w64 (i := (x.size : Int) + 1) (by omega) (by omega)]
     exact Ev.bind hz (ev_pos z0 (ev_pos (by simp only []; omega) (ev_some rfl)))
    ·rw [L_extract, List.drop_zero]
     exact hT _ _ hxk
   ·by_cases d1 : m = 1
    ·by_cases d2 : (x.size : Int) < 5
     ·obtain ⟨t, ht, hm⟩ := of_ev hb (p + 1 + 1 + 1) (by omega) (by omega) ([(⟨#[97]⟩ : ByteArray), (⟨#[98]⟩ : ByteArray), (⟨#[100]⟩ : ByteArray)]) (by simp) (by simp)
      have hts : ∃ c : UInt8, L t = [c] ∧ 97 ≤ c.toNat ∧ c.toNat ≤ 100 := by
       simp only [List.mem_cons, List.not_mem_nil, or_false] at hm
       rcases hm with rfl | rfl | rfl <;> exact ⟨_, rfl, by decide, by decide⟩
      obtain ⟨c, hc, hcr⟩ := hts
      have hz : t.size = 1 := by rw [size_L, hc]; rfl
      refine ⟨x ++ t, p + 1 + 1 + 1 + 1, go _ _ ?_, ?_, by omega, by omega⟩
      ·exact ev_neg d0 (ev_pos d1 (ev_pos d2 (Ev.bind ht (ev_pos (by rw [hz]; omega) (ev_some rfl)))))
      ·rw [L_append, hc]
       exact hS _ _ hxk (by omega) hcr
     ·exact ⟨x, p + 1 + 1 + 1, go _ _ (ev_neg d0 (ev_pos d1 (ev_neg d2 (ev_some rfl)))), hxk, by omega, by omega⟩
    ·exact ⟨x, p + 1 + 1 + 1, go _ _ (ev_neg d0 (ev_neg d1 (ev_some rfl))), hxk, by omega, by omega⟩
theorem near_ev {b : List Int} (hb : By b) (p : Int) (h0 : 0 ≤ p) (h1 : p ≤ 700000) (l : List ByteArray) (hl : l.length ≤ 1000) (hk : ∀ x ∈ l, KOk (L x)) :
  ∃ s q, Ev (fun k => spec_l71Near.f k b p l) (s, q) ∧ KOk (L s) ∧ p < q ∧ q ≤ p + 20 :=
 near_gen KOk (fun _ h => h) (fun _ n h => kok_take h n) (fun _ _ h hl hc => kok_snoc h hc hl) (fun _ h => by have := h.len; omega) hb p h0 h1 l hl hk
theorem pre_L (x y : ByteArray) (h : (y.size : Int) ≤ (x.size : Int)) : ((x.extract 0 ((y.size : Int) : Int).toNat).toList == y.toList) = (L y).isPrefixOf (L x) := by
 rw [toList_L, toList_L, L_extract, List.drop_zero, Bool.eq_iff_iff, List.isPrefixOf_iff_prefix, beq_iff_eq]
 have hy := size_L y
 rw [show ((y.size : Nat) : Int).toNat = (L y).length by omega]
 constructor
 ·intro q; rw [← q]; exact List.take_prefix _ _
 ·rintro ⟨s, hs⟩
  rw [← hs, List.take_left]
theorem pre_long (x y : ByteArray) (h : ¬ (y.size : Int) ≤ (x.size : Int)) : (L y).isPrefixOf (L x) = false := by
 rw [← Bool.not_eq_true, List.isPrefixOf_iff_prefix]
 intro q
 have := q.length_le
 have hy := size_L y
 have hx := size_L x
 omega
theorem impl_KeyBegins_eq (x y : ByteArray) : impl_KeyBegins.f x y = some ((L y).isPrefixOf (L x)) := by
 unfold impl_KeyBegins.f strings_HasPrefix.f stringslite_HasPrefix.f
 by_cases h : (y.size : Int) ≤ (x.size : Int)
 ·rw [if_pos h, if_pos (by omega), if_pos h, pre_L x y h]; rfl
 ·rw [if_neg h, pre_long x y h]; rfl
theorem pos_one : ∀ (l : List UInt8) (m : Nat), pos l m < l.length → l.getD (pos l m) 0 = 49 ∧ onesB l (pos l m) = m := by
 intro l
 induction l with
 | nil => intro m h; simp [pos] at h
 | cons c l ih =>
  intro m h
  rw [pos] at h ⊢
  by_cases q : c = 49
  ·rw [if_pos q] at h ⊢
   by_cases z : m = 0
   ·rw [if_pos z]
    exact ⟨by simp [q], by simp [onesB, z]⟩
   ·rw [if_neg z] at h ⊢
    have := ih (m - 1) (by simp only [List.length_cons] at h; omega)
    rw [show 1 + pos l (m - 1) = pos l (m - 1) + 1 by omega]
    refine ⟨by simpa using this.1, ?_⟩
    have h2 := this.2
    unfold onesB at h2 ⊢
    rw [List.take_succ_cons, List.countP_cons, h2]
    simp [q]; omega
  ·rw [if_neg q] at h ⊢
   have := ih m (by simp only [List.length_cons] at h; omega)
   rw [show 1 + pos l m = pos l m + 1 by omega]
   refine ⟨by simpa using this.1, ?_⟩
   have h2 := this.2
   unfold onesB at h2 ⊢
   rw [List.take_succ_cons, List.countP_cons, h2]
   simp [q]
theorem many_ev (C : Nat) (hC : C ≤ 1000000) : ∀ (n : Nat) (x0 x5 : ByteArray), n ≤ 1000000 → (1 ≤ n → x0.size ≤ C) → x5.size + n * x0.size ≤ C →
  ∃ r, Ev (fun k => spec_l6Many.l0 k x0 (n : Int) x5) r ∧ r.size ≤ C := by
 intro n
 induction n using Nat.strongRecOn with
 | _ n ih =>
  intro x0 x5 hn h0 h1
  by_cases c : (n : Int) > 0
  ·have h0' := h0 (by omega)
   have hsz : (x0 ++ x0).size = x0.size + x0.size := ByteArray.size_append
   have hd : wrap64 (Int.tdiv (n : Int) 2) = ((n / 2 : Nat) : Int) := by
    rw [Int.tdiv_eq_ediv_of_nonneg (by omega)]
    unfold wrap64
    omega
   have hnC : n ≤ C ∨ x0.size = 0 := by
    by_cases z : x0.size = 0
    ·exact .inr z
    ·exact .inl (by have : n ≤ n * x0.size := Nat.le_mul_of_pos_right n (by omega); omega)
   have hmul : (n / 2) * (x0.size + x0.size) ≤ n * x0.size := by
    have : (n / 2) * 2 ≤ n := Nat.div_mul_le_self n 2
    calc (n / 2) * (x0.size + x0.size) = ((n / 2) * 2) * x0.size := by rw [Nat.mul_assoc, Nat.two_mul]
     _ ≤ n * x0.size := Nat.mul_le_mul_right _ this
   have hb : 1 ≤ n / 2 → x0.size + x0.size ≤ C := by
    intro q
    have : 1 * (x0.size + x0.size) ≤ (n / 2) * (x0.size + x0.size) := Nat.mul_le_mul_right _ q
    omega
   by_cases od : Int.tmod (n : Int) 2 = 1
   ·have hodd : n * x0.size = (n / 2) * (x0.size + x0.size) + x0.size := by
     rw [Int.tmod_eq_emod_of_nonneg (by omega)] at od
     have : n = (n / 2) * 2 + 1 := by omega
     conv => lhs; rw [this]
     rw [Nat.add_mul, Nat.mul_assoc, Nat.two_mul, Nat.one_mul]
    have hsz2 : (x5 ++ x0).size = x5.size + x0.size := ByteArray.size_append
    obtain ⟨r, hr, hs⟩ := ih (n / 2) (by omega) (x0 ++ x0) (x5 ++ x0) (by omega) (by rw [hsz]; exact hb) (by rw [hsz, hsz2]; omega)
    refine ⟨r, ev_succ ?_, hs⟩
    simp only [spec_l6Many.l0]
    refine ev_pos c (ev_pos od (ev_pos (by omega) (ev_pos (by omega) ?_)))
    rw [hd]; exact hr
   ·obtain ⟨r, hr, hs⟩ := ih (n / 2) (by omega) (x0 ++ x0) x5 (by omega) (by rw [hsz]; exact hb) (by rw [hsz]; omega)
    refine ⟨r, ev_succ ?_, hs⟩
    simp only [spec_l6Many.l0]
    refine ev_pos c (ev_neg od (ev_pos (by omega) ?_))
    rw [hd]; exact hr
  ·refine ⟨x5, ev_succ ?_, by omega⟩
   simp only [spec_l6Many.l0]
   exact ev_neg c (ev_some rfl)
def putN (k : Key) : List Key → List Key
 | [] => [k]
 | y :: l => if k < y then k :: y :: l else y :: putN k l
def putB (K : List Key) (k : Key) : List Key := if k ∈ K then K else putN k K
theorem L_eq_iff {a b : ByteArray} : a.toList = b.toList ↔ L a = L b := by rw [toList_L, toList_L]
theorem l2Put_true (x0 : List ByteArray) (x1 : ByteArray) (hn : x0.length ≤ 2000000) (d : Nat) : ∀ (x5 : List ByteArray) (i : Nat), i ≤ x0.length → x0.length - i = d → x5.length ≤ i + 1 →
  ∃ r, Ev (fun k => spec_l2Put.l0 k x0 x1 x5 true (i : Int)) r ∧ LL r = if L x1 ∈ (LL x0).drop i then LL x0 else LL x5 ++ (LL x0).drop i := by
 have hz := LL_length x0
 induction d with
 | zero =>
  intro x5 i h1 h2 h3
  refine ⟨x5, ev_succ ?_, ?_⟩
  ·simp only [spec_l2Put.l0]
   exact ev_neg (by omega) (ev_pos trivial (ev_some rfl))
  ·rw [List.drop_eq_nil_of_le (by omega)]; simp
 | succ d ih =>
  intro x5 i h1 h2 h3
  have hr := L_rd x0 i
  obtain ⟨y, hy⟩ : ∃ y, rdOf ByteArray.empty x0 (i : Int) = y := ⟨_, rfl⟩
  rw [hy] at hr
  have hdrop : (LL x0).drop i = L y :: (LL x0).drop (i + 1) := by rw [drop_cons [] (by omega), ← hr]
  by_cases e : L y = L x1
  ·refine ⟨x0, ev_succ ?_, ?_⟩
   ·simp only [spec_l2Put.l0, hy]
    exact ev_pos (by omega) (ev_pos (by omega) (ev_pos (L_eq_iff.2 e) (ev_some rfl)))
   ·rw [hdrop, if_pos (by simp [e])]
  ·obtain ⟨r, hr, he⟩ := ih (x5 ++ [y]) (i + 1) (by omega) (by omega) (by simp; omega)
   refine ⟨r, ev_succ ?_, ?_⟩
   ·simp only [spec_l2Put.l0, hy]
    refine ev_pos (by omega) (ev_pos (by omega) (ev_neg (fun q => e (L_eq_iff.1 q)) (ev_pos trivial (ev_pos (by omega) ?_))))
    rw [w64 (by omega) (by omega)]; exact hr
   ·rw [he, hdrop]
    have hm : (L x1 ∈ L y :: (LL x0).drop (i + 1)) ↔ L x1 ∈ (LL x0).drop (i + 1) := by
     rw [List.mem_cons]
     exact ⟨fun h => h.resolve_left (fun q => e q.symm), .inr⟩
    by_cases m : L x1 ∈ (LL x0).drop (i + 1)
    ·rw [if_pos m, if_pos (hm.2 m)]
    ·rw [if_neg m, if_neg (fun q => m (hm.1 q)), LL_append]
     simp [LL]
theorem l2Put_false (x0 : List ByteArray) (x1 : ByteArray) (hn : x0.length ≤ 2000000) (d : Nat) : ∀ (x5 : List ByteArray) (i : Nat), i ≤ x0.length → x0.length - i = d → x5.length ≤ i →
  ∃ r, Ev (fun k => spec_l2Put.l0 k x0 x1 x5 false (i : Int)) r ∧ LL r = if L x1 ∈ (LL x0).drop i then LL x0 else LL x5 ++ putN (L x1) ((LL x0).drop i) := by
 have hz := LL_length x0
 induction d with
 | zero =>
  intro x5 i h1 h2 h3
  refine ⟨x5 ++ [x1], ev_succ ?_, ?_⟩
  ·simp only [spec_l2Put.l0]
   exact ev_neg (by omega) (ev_neg (by simp) (ev_pos (by omega) (ev_some rfl)))
  ·rw [List.drop_eq_nil_of_le (by omega), LL_append]
   simp [putN, LL]
 | succ d ih =>
  intro x5 i h1 h2 h3
  have hr := L_rd x0 i
  obtain ⟨y, hy⟩ : ∃ y, rdOf ByteArray.empty x0 (i : Int) = y := ⟨_, rfl⟩
  rw [hy] at hr
  have hdrop : (LL x0).drop i = L y :: (LL x0).drop (i + 1) := by rw [drop_cons [] (by omega), ← hr]
  by_cases e : L y = L x1
  ·refine ⟨x0, ev_succ ?_, ?_⟩
   ·simp only [spec_l2Put.l0, hy]
    exact ev_pos (by omega) (ev_pos (by omega) (ev_pos (L_eq_iff.2 e) (ev_some rfl)))
   ·rw [hdrop, if_pos (by simp [e])]
  ·have hm : (L x1 ∈ L y :: (LL x0).drop (i + 1)) ↔ L x1 ∈ (LL x0).drop (i + 1) := by
    rw [List.mem_cons]
    exact ⟨fun h => h.resolve_left (fun q => e q.symm), .inr⟩
   by_cases lt : L x1 < L y
   ·obtain ⟨r, hr, he⟩ := l2Put_true x0 x1 hn d (x5 ++ [x1] ++ [y]) (i + 1) (by omega) (by omega) (by simp; omega)
    refine ⟨r, ev_succ ?_, ?_⟩
    ·simp only [spec_l2Put.l0, hy]
     refine ev_pos (by omega) (ev_pos (by omega) (ev_neg (fun q => e (L_eq_iff.1 q)) (ev_neg (by simp) (ev_pos (by rw [less_L, decide_eq_true_eq, toList_L, toList_L]; exact lt) (ev_pos (by omega) (ev_bindc rfl (ev_pos (by simp; omega) ?_)))))))
     rw [w64 (by omega) (by omega)]; exact hr
    ·rw [he, hdrop]
     by_cases m : L x1 ∈ (LL x0).drop (i + 1)
     ·rw [if_pos m, if_pos (hm.2 m)]
     ·rw [if_neg m, if_neg (fun q => m (hm.1 q)), putN, if_pos lt, LL_append, LL_append]
      simp [LL]
   ·obtain ⟨r, hr, he⟩ := ih (x5 ++ [y]) (i + 1) (by omega) (by omega) (by simp; omega)
    refine ⟨r, ev_succ ?_, ?_⟩
    ·simp only [spec_l2Put.l0, hy]
     refine ev_pos (by omega) (ev_pos (by omega) (ev_neg (fun q => e (L_eq_iff.1 q)) (ev_neg (by simp) (ev_neg (by rw [less_L, decide_eq_true_eq, toList_L, toList_L]; exact lt) (ev_pos (by omega) ?_)))))
     rw [w64 (by omega) (by omega)]; exact hr
    ·rw [he, hdrop]
     by_cases m : L x1 ∈ (LL x0).drop (i + 1)
     ·rw [if_pos m, if_pos (hm.2 m)]
     ·rw [if_neg m, if_neg (fun q => m (hm.1 q)), putN, if_neg lt, LL_append]
      simp [LL]
theorem l2Put_ev (x0 : List ByteArray) (x1 : ByteArray) (hn : x0.length ≤ 2000000) : ∃ r, Ev (fun k => spec_l2Put.f k x0 x1) r ∧ LL r = putB (LL x0) (L x1) := by
 obtain ⟨r, hr, he⟩ := l2Put_false x0 x1 hn x0.length [] 0 (by omega) (by omega) (by simp)
 refine ⟨r, hr, ?_⟩
 rw [he, List.drop_zero]
 simp [putB, LL]
theorem putN_mem {k x : Key} {K : List Key} : x ∈ putN k K ↔ x = k ∨ x ∈ K := by
 induction K with
 | nil => simp [putN]
 | cons y l ih =>
  rw [putN]
  split
  ·simp
  ·simp only [List.mem_cons, ih]
   constructor
   ·rintro (h | h | h)
    ·exact .inr (.inl h)
    ·exact .inl h
    ·exact .inr (.inr h)
   ·rintro (h | h | h)
    ·exact .inr (.inl h)
    ·exact .inl h
    ·exact .inr (.inr h)
theorem putB_mem {k x : Key} {K : List Key} : x ∈ putB K k ↔ x = k ∨ x ∈ K := by
 unfold putB
 split
 ·rename_i h
  exact ⟨.inr, fun q => q.elim (fun e => e ▸ h) id⟩
 ·exact putN_mem
theorem putN_length {k : Key} {K : List Key} : (putN k K).length = K.length + 1 := by
 induction K with
 | nil => rfl
 | cons y l ih => rw [putN]; split <;> simp [ih]
theorem putB_length {k : Key} {K : List Key} : (putB K k).length ≤ K.length + 1 := by
 unfold putB
 split
 ·omega
 ·rw [putN_length]; omega
theorem putN_sorted {k : Key} {K : List Key} (hK : K.Pairwise (· < ·)) (hk : k ∉ K) : (putN k K).Pairwise (· < ·) := by
 induction K with
 | nil => simp [putN]
 | cons y l ih =>
  have h2 := List.pairwise_cons.1 hK
  rw [putN]
  by_cases c : k < y
  ·rw [if_pos c]
   refine List.pairwise_cons.2 ⟨fun x hx => ?_, hK⟩
   rcases List.mem_cons.1 hx with rfl | hx
   ·exact c
   ·exact key_trans c (h2.1 x hx)
  ·rw [if_neg c]
   refine List.pairwise_cons.2 ⟨fun x hx => ?_, ih h2.2 (fun q => hk (by simp [q]))⟩
   rcases putN_mem.1 hx with e | hx
   ·rw [e]
    rcases key_le_total k y with h | h | h
    ·exact absurd h c
    ·exact absurd (by simp [h]) hk
    ·exact h
   ·exact h2.1 x hx
theorem putB_sorted {k : Key} {K : List Key} (hK : K.Pairwise (· < ·)) : (putB K k).Pairwise (· < ·) := by
 unfold putB
 split
 ·exact hK
 ·rename_i h; exact putN_sorted hK h
structure SOk (K : List Key) : Prop where
 ok : ∀ k ∈ K, KOk k
 sorted : K.Pairwise (· < ·)
theorem sok_put {K : List Key} (h : SOk K) {k : Key} (hk : KOk k) : SOk (putB K k) :=
 ⟨fun x hx => (putB_mem.1 hx).elim (fun e => e ▸ hk) (h.ok x), putB_sorted h.sorted⟩
theorem LL_mem {l : List ByteArray} {x : ByteArray} (h : x ∈ l) : L x ∈ LL l := List.mem_map_of_mem h
theorem keys_l0_ev {b : List Int} (hb : By b) (d : Nat) : ∀ (x5 : List ByteArray) (p : Int), 0 ≤ p → p + 20 * d ≤ 600000 → SOk (LL x5) → x5.length + d ≤ 100 →
  ∃ s q, Ev (fun k => spec_l71Keys.l0 k x5 (d : Int) b p) (s, q) ∧ SOk (LL s) ∧ s.length ≤ x5.length + d ∧ p ≤ q ∧ q ≤ p + 20 * d := by
 induction d with
 | zero =>
  intro x5 p h0 h1 h2 h3
  refine ⟨x5, p, ev_succ ?_, h2, by omega, by omega, by omega⟩
  simp only [spec_l71Keys.l0]
  exact ev_neg (by omega) (ev_some rfl)
 | succ d ih =>
  intro x5 p h0 h1 h2 h3
  obtain ⟨s, q, hs, ks, q0, q1⟩ := near_ev hb p h0 (by omega) x5 (by omega) (fun x hx => h2.ok _ (LL_mem hx))
  obtain ⟨r, hr, he⟩ := l2Put_ev x5 s (by omega)
  have hl : r.length ≤ x5.length + 1 := by
   have := putB_length (k := L s) (K := LL x5)
   rw [← he, LL_length, LL_length] at this; exact this
  obtain ⟨s', q', hs', k', l', a0, a1⟩ := ih r q (by omega) (by omega) (by rw [he]; exact sok_put h2 ks) (by omega)
  refine ⟨s', q', ev_succ ?_, k', by omega, by omega, by omega⟩
  simp only [spec_l71Keys.l0]
  refine ev_pos (by omega) (Ev.bind hs (Ev.bind hr ?_))
  rw [w64 (by omega) (by omega), show ((d + 1 : Nat) : Int) - 1 = (d : Int) by omega]
  exact hs'
theorem keys_ev {b : List Int} (hb : By b) (p : Int) (h0 : 0 ≤ p) (h1 : p ≤ 100000) (n : Nat) (hn : n ≤ 30) :
  ∃ s q, Ev (fun k => spec_l71Keys.f k b p (n : Int)) (s, q) ∧ SOk (LL s) ∧ s.length ≤ n ∧ p ≤ q ∧ q ≤ p + 1000 := by
 obtain ⟨r, hr, g0, g1, _⟩ := pick_ev hb p h0 (by omega) ((n : Int) + 1) (by omega)
 have g1 := g1 (by omega)
 obtain ⟨m, rfl⟩ : ∃ m : Nat, r = (m : Int) := ⟨r.toNat, by omega⟩
 obtain ⟨s, q, hs, k, l, a0, a1⟩ := keys_l0_ev hb m [] (p + 1) (by omega) (by omega) ⟨by simp [LL], by simp [LL]⟩ (by simp; omega)
 refine ⟨s, q, ?_, k, by simp at l; omega, by omega, by omega⟩
 unfold spec_l71Keys.f
 rw [w64 (i := (n : Int) + 1) (by omega) (by omega)]
 exact Ev.bind hr hs
end Go.Proofs.Ytifgcajpkgamgaa.Pb
end
section
namespace Go.Proofs
open Go.Shelf
end Go.Proofs
end
section
namespace Go.Proofs.Ytifgcajpkgamgaa.Q
open Go.RowKit Go.Proofs.YtifgcajpkgamgaaW.PrintWords Go.Proofs.YtifgcajpkgamgaaW.PrintLast Go.Proofs.YtifgcajpkgamgaaW.PrintMore
attribute [local go_sem] max2_int min2_int max_two min_two max_three min_three max_four min_four   
set_option linter.unusedVariables false
set_option linter.unusedSimpArgs false
end Go.Proofs.Ytifgcajpkgamgaa.Q
end
section
set_option linter.unusedVariables false
set_option linter.unusedSimpArgs false
namespace Go.Proofs.Ytifgcajpkgamgaa.Pb
open Go Go.RowKit Go.Proofs.YtifgcajpkgamgaaW.PrintWords Go.Proofs.YtifgcajpkgamgaaW.PrintLast Go.Proofs.YtifgcajpkgamgaaW.PrintMore Go.Proofs.Ytifgcajpkgamgaa.Trie Go.Proofs.Ytifgcajpkgamgaa.Q
def mkS (l : List UInt8) : ByteArray := ⟨l.toArray⟩
theorem LL_mkS (zs : List Key) : LL (zs.map mkS) = zs := by
 simp only [LL, List.map_map]
 have : (L ∘ mkS) = id := by funext l; exact L_mk l
 rw [this, List.map_id]
theorem same_l0 (l : List ByteArray) (hn : l.length ≤ 2000000) (d : Nat) : ∀ i : Nat, i ≤ l.length → l.length - i = d → Ev (fun k => laws_ltSames.l0 k l l (i : Int)) true := by
 induction d with
 | zero =>
  intro i h1 h2
  refine ev_succ ?_
  simp only [laws_ltSames.l0]
  exact ev_neg (by omega) (ev_some rfl)
 | succ d ih =>
  intro i h1 h2
  refine ev_succ ?_
  simp only [laws_ltSames.l0]
  refine ev_pos (by omega) (ev_pos (by omega) (ev_pos (by omega) (ev_pos trivial ?_)))
  rw [w64 (by omega) (by omega)]
  exact ih (i + 1) (by omega) (by omega)
theorem same_ev (l : List ByteArray) (hn : l.length ≤ 2000000) : Ev (fun k => laws_ltSames.f k l l) true := by
 unfold laws_ltSames.f
 exact ev_pos rfl (same_l0 l hn l.length 0 (by omega) (by omega))
theorem L_mkS (l : List UInt8) : L (mkS l) = l := by simp [L, mkS]
theorem mkS_L (a : ByteArray) : mkS (L a) = a := L_inj (L_mkS _)
theorem letter_eq (a : ByteArray) (ha : a.size ≤ 1000000) (d : Nat) (hd : d ≤ 1000) : spec_l3Letter.f a (d : Int) = some (mkS [lab (L a) d]) := by
 unfold spec_l3Letter.f
 have hs := size_L a
 by_cases c : a.size ≤ d
 ·rw [if_pos (by omega), lab_ge (by omega)]; rfl
 ·rw [if_neg (by omega), if_pos (by omega), w64 (by omega) (by omega), if_pos (by omega), if_pos (by omega)]
  congr 1
  apply L_inj
  rw [L_extract, L_mkS]
  have h : d < (L a).length := by omega
  rw [lab_lt h]
  have e1 : ((d : Int)).toNat = d := by omega
  have e2 : ((d : Int) + 1).toNat = d + 1 := by omega
  rw [e1, e2, List.drop_take, List.drop_eq_getElem_cons h]
  have : d + 1 - d = 1 := by omega
  rw [this]; rfl
theorem mkS_one {c c' : UInt8} : (mkS [c]).toList = (mkS [c']).toList ↔ c = c' := by
 rw [toList_L, toList_L, L_mkS, L_mkS]; simp
theorem restS_eq (a : ByteArray) (d keep : Nat) : ∃ r, spec_l3Rest.f a (d : Int) (keep : Int) = some r ∧ L r = ((L a).drop d).take keep := by
 unfold spec_l3Rest.f
 have hs := size_L a
 rw [if_pos ⟨by omega, by omega⟩]
 by_cases c : (a.size : Int) ≤ (d : Int)
 ·rw [if_pos c]
  refine ⟨_, rfl, ?_⟩
  rw [List.drop_eq_nil_of_le (by omega), List.take_nil]; rfl
 ·rw [if_neg c]
  refine ⟨_, rfl, ?_⟩
  rw [L_extract, L_extract]
  have e1 : ((d : Int)).toNat = d := by omega
  rw [e1, List.drop_zero, List.take_of_length_le (i := a.size) (by omega)]
  split
  ·rename_i h
   have e2 : ((keep : Int)).toNat = keep := by omega
   rw [e2]
  ·rename_i h
   rw [List.take_of_length_le (i := keep) (by rw [List.length_drop]; omega), List.take_of_length_le (by rw [List.length_drop]; omega)]
structure Sm (l : List ByteArray) : Prop where
 len : l.length ≤ 100
 sz : ∀ s ∈ l, s.size ≤ 1000
theorem Sm.getD {l : List ByteArray} (h : Sm l) (i : Nat) : (l.getD i ByteArray.empty).size ≤ 1000 := by
 by_cases q : i < l.length
 ·rw [getD_lt _ q]; exact h.sz _ (List.getElem_mem q)
 ·rw [List.getD_eq_getElem?_getD, List.getElem?_eq_none (by omega)]; exact Nat.zero_le _
theorem Sm.sub {l l' : List ByteArray} (h : Sm l) (hs : l'.Sublist l) : Sm l' := ⟨by have := hs.length_le; have := h.len; omega, fun s hm => h.sz s (hs.subset hm)⟩
def labS (d : Nat) (s : ByteArray) : UInt8 := lab (L s) d
theorem group_l0 (ks : List ByteArray) (h : Sm ks) (d : Nat) (hd : d ≤ 1000) (m : Nat) : ∀ (i : Nat) (x3 : List ByteArray), i ≤ ks.length → ks.length - i = m → x3.length ≤ i →
  Ev (fun k => spec_l3Group.l0 k x3 (i : Int) ks (d : Int)) (x3 ++ (ks.drop i).filter (fun s => labS d s == labS d (ks.getD 0 ByteArray.empty))) := by
 have hn := h.len
 induction m with
 | zero =>
  intro i x3 h1 h2 h3
  refine ev_succ ?_
  simp only [spec_l3Group.l0]
  refine ev_neg (by omega) (ev_some ?_)
  rw [List.drop_eq_nil_of_le (by omega)]; simp
 | succ m ih =>
  intro i x3 h1 h2 h3
  refine ev_succ ?_
  simp only [spec_l3Group.l0]
  have hlt : i < ks.length := by omega
  have hg : rdOf ByteArray.empty ks (i : Int) = ks.getD i ByteArray.empty := rfl
  have hg0 : rdOf ByteArray.empty ks 0 = ks.getD 0 ByteArray.empty := rfl
  rw [hg, hg0]
  refine ev_pos (by omega) (ev_pos (by omega) (ev_bindc (letter_eq _ (by have := h.getD i; omega) d hd) (ev_pos (by omega) (ev_bindc (letter_eq _ (by have := h.getD 0; omega) d hd) ?_))))
  rw [w64 (by omega) (by omega)]
  have e : ks.drop i = ks.getD i ByteArray.empty :: ks.drop (i + 1) := drop_cons _ hlt
  rw [e, List.filter_cons]
  by_cases c : labS d (ks.getD i ByteArray.empty) = labS d (ks.getD 0 ByteArray.empty)
  ·refine ev_pos (mkS_one.2 c) (ev_pos (by omega) ?_)
   rw [if_pos (beq_iff_eq.2 c)]
   refine ev_eq (ih (i + 1) (x3 ++ [ks.getD i ByteArray.empty]) (by omega) (by omega) (by simp; omega)) ?_
   simp
  ·refine ev_neg (fun q => c (mkS_one.1 q)) ?_
   rw [if_neg (fun q => c (beq_iff_eq.1 q))]
   exact ih (i + 1) x3 (by omega) (by omega) (by omega)
theorem group_ev (ks : List ByteArray) (h : Sm ks) (d : Nat) (hd : d ≤ 1000) : Ev (fun k => spec_l3Group.f k ks (d : Int)) (ks.filter (fun s => labS d s == labS d (ks.getD 0 ByteArray.empty))) := by
 unfold spec_l3Group.f
 exact ev_eq (group_l0 ks h d hd ks.length 0 [] (by omega) (by omega) (by simp)) (by simp)
theorem front {d : Nat} {s : ByteArray} {ks : List ByteArray} (hU : Up d (LL (s :: ks))) :
  LL ((s :: ks).filter (fun x => labS d x == labS d s)) = L s :: (LL ks).takeWhile (fun x => lab x d == lab (L s) d) ∧
  LL ((s :: ks).drop ((s :: ks).filter (fun x => labS d x == labS d s)).length) = (LL ks).dropWhile (fun x => lab x d == lab (L s) d) := by
 have h1 : LL ((s :: ks).filter (fun x => labS d x == labS d s)) = (LL (s :: ks)).filter (fun x => lab x d == lab (L s) d) := by
  unfold LL
  rw [List.filter_map]
  rfl
 have h2 := run_filter (d := d) (k := L s) (ks := LL ks) hU
 have h3 : LL (s :: ks) = L s :: LL ks := rfl
 rw [h3, h2] at h1
 refine ⟨h1, ?_⟩
 have hl : ((s :: ks).filter (fun x => labS d x == labS d s)).length = ((LL ks).takeWhile (fun x => lab x d == lab (L s) d)).length + 1 := by
  rw [← LL_length, h1, List.length_cons]
 rw [hl, List.drop_succ_cons]
 unfold LL
 rw [List.map_drop]
 have hd : ∀ (p : Key → Bool) (l : List Key), l.drop (l.takeWhile p).length = l.dropWhile p := by
  intro p l
  induction l with
  | nil => rfl
  | cons a l ih =>
   rw [List.takeWhile_cons, List.dropWhile_cons]
   by_cases c : p a = true
   ·rw [if_pos c, if_pos c, List.length_cons, List.drop_succ_cons, ih]
   ·rw [if_neg c, if_neg c]; rfl
 exact hd _ _
def nd (s : S79) : Nd := (LL s.f0, s.f1.toNat)
structure Np (s : S79) : Prop where
 sm : Sm s.f0
 low : 0 ≤ s.f1
 high : s.f1 ≤ 900
def marks (c : UInt8) : Nat → List UInt8
 | 0 => []
 | n + 1 => c :: List.replicate n 48
theorem marks_49 (n : Nat) : marks 49 n = fst1 n := by cases n <;> rfl
theorem marks_48 (n : Nat) : marks 48 n = List.replicate n 48 := by cases n <;> rfl
theorem put_l0 (keep : Nat) (d : Nat) (hd : d ≤ 800) (m : Nat) : ∀ (ks : List ByteArray) (x6 : List S79) (c : UInt8) (Lt Mo Fi : ByteArray) (Rs : List ByteArray), ks.length ≤ m → Sm ks → Up d (LL ks) → (∀ s ∈ x6, Np s) →
  Lt.size + ks.length ≤ 1000000 → Mo.size + ks.length ≤ 1000000 → Fi.size + ks.length ≤ 1000000 → Rs.length + ks.length ≤ 1000000 → x6.length + ks.length ≤ 1000000 →
  ∃ Lt' Mo' Fi' Rs' x6', Ev (fun k => spec_l3Put.l0 k x6 (mkS [c]) Lt Mo Fi Rs (keep : Int) ks (d : Int)) (Lt', Mo', Fi', Rs', (keep : Int), x6') ∧
   L Lt' = L Lt ++ (bra (LL ks, d)).map letter ∧ L Mo' = L Mo ++ (bra (LL ks, d)).map bit ∧ L Fi' = L Fi ++ marks c (runs d (LL ks)).length ∧
   LL Rs' = LL Rs ++ ((bra (LL ks, d)).filter leaf).map (rest keep) ∧ x6'.map nd = x6.map nd ++ conts (LL ks, d) ∧ (∀ s ∈ x6', Np s) := by
 induction m with
 | zero =>
  intro ks x6 c Lt Mo Fi Rs h0 hS hU hN _ _ _ _ _
  have : ks = [] := List.eq_nil_of_length_eq_zero (by omega)
  subst this
  have hr : runs d (LL ([] : List ByteArray)) = [] := runs_nil d
  refine ⟨Lt, Mo, Fi, Rs, x6, ev_succ ?_, ?_, ?_, ?_, ?_, ?_, hN⟩
  ·simp only [spec_l3Put.l0]
   exact ev_neg (by simp) (ev_some rfl)
  all_goals simp [bra, hr, marks, Trie.conts]
 | succ m ih =>
  intro ks x6 c Lt Mo Fi Rs h0 hS hU hN z1 z2 z3 z4 z5
  cases ks with
  | nil =>
   have hr : runs d (LL ([] : List ByteArray)) = [] := runs_nil d
   refine ⟨Lt, Mo, Fi, Rs, x6, ev_succ ?_, ?_, ?_, ?_, ?_, ?_, hN⟩
   ·simp only [spec_l3Put.l0]
    exact ev_neg (by simp) (ev_some rfl)
   all_goals simp [bra, hr, marks, Trie.conts]
  | cons s ks =>
   obtain ⟨f1, f2⟩ := front hU
   have hgs : ((s :: ks).getD 0 ByteArray.empty) = s := rfl
   have hgr := group_ev (s :: ks) hS d (by omega)
   rw [hgs] at hgr
   have hsub : ((s :: ks).filter (fun x => labS d x == labS d s)).Sublist (s :: ks) := List.filter_sublist
   generalize hG : (s :: ks).filter (fun x => labS d x == labS d s) = G at f1 f2 hgr hsub
   have hGl : G.length = ((LL ks).takeWhile (fun x => lab x d == lab (L s) d)).length + 1 := by rw [← LL_length, f1, List.length_cons]
   have hGle := hsub.length_le
   have hk := hS.len
   simp only [List.length_cons] at hGle z1 z2 z3 z4 z5 h0 hk
   have hG0 : rdOf ByteArray.empty G 0 = G.getD 0 ByteArray.empty := rfl
   have hLG : L (G.getD 0 ByteArray.empty) = L s := by
    rw [LL_getD, f1]; rfl
   have hrun : runs d (LL (s :: ks)) = LL G :: runs d (LL ((s :: ks).drop G.length)) := by
    have : LL (s :: ks) = L s :: LL ks := rfl
    rw [this, runs_cons, f1, f2]
   have hSd : Sm ((s :: ks).drop G.length) := hS.sub (List.drop_sublist _ _)
   have hUd : Up d (LL ((s :: ks).drop G.length)) := by
    rw [f2]; exact up_tail hU
   have hld : ((s :: ks).drop G.length).length + G.length = ks.length + 1 := by rw [List.length_drop, List.length_cons]; omega
   have hG1 : 1 ≤ G.length := by omega
   have hsz1 : (mkS [lab (L s) d]).size = 1 := rfl
   have hsz2 : (mkS [c]).size = 1 := rfl
   have hLs : ∀ a b : ByteArray, (a ++ b).size = a.size + b.size := fun a b => ByteArray.size_append
   have hgsm : Sm G := hS.sub hsub
   have hcat : ∀ {α : Type} (a : List α) (b : α) (e : List α), (a ++ [b]) ++ e = a ++ (b :: e) := fun a b e => by simp
   by_cases q : 1 < G.length
   ·have hc : cont (LL G) = true := by simp [cont, LL_length]; omega
    have hNp : Np ⟨G, wrap64 ((d : Int) + 1)⟩ := by
     rw [w64 (by omega) (by omega)]
     exact ⟨hgsm, by show (0 : Int) ≤ (d : Int) + 1; omega, by show (d : Int) + 1 ≤ 900; omega⟩
    obtain ⟨Lt', Mo', Fi', Rs', x6', e, a1, a2, a3, a4, a5, a6⟩ := ih ((s :: ks).drop G.length) (x6 ++ [⟨G, wrap64 ((d : Int) + 1)⟩]) 48 (Lt ++ mkS [lab (L s) d]) (Mo ++ mkS [49]) (Fi ++ mkS [c]) Rs (by omega) hSd hUd
     (fun y hy => by
      rcases List.mem_append.1 hy with hy | hy
      ·exact hN y hy
      ·rw [List.mem_singleton.1 hy]; exact hNp)
     (by rw [hLs, hsz1]; omega) (by rw [hLs]; show Mo.size + 1 + _ ≤ _; omega) (by rw [hLs, hsz2]; omega) (by omega) (by simp only [List.length_append, List.length_cons, List.length_nil]; omega)
    refine ⟨Lt', Mo', Fi', Rs', x6', ev_succ ?_, ?_, ?_, ?_, ?_, ?_, a6⟩
    ·simp only [spec_l3Put.l0]
     refine ev_pos (by simp only [List.length_cons]; omega) (Ev.bind hgr (ev_pos (by omega) ?_))
     rw [hG0]
     refine ev_bindc (letter_eq _ (by have := hgsm.getD 0; omega) d (by omega)) ?_
     rw [hLG]
     refine ev_pos (by rw [hsz1]; omega) (ev_pos (by rw [hsz2]; omega) (ev_pos (by omega) (ev_pos (by omega) (ev_pos (by omega) (ev_pos (by omega) (ev_pos (by simp only [List.length_cons]; omega) ?_))))))
     have : ((G.length : Int)).toNat = G.length := by omega
     rw [this]
     exact e
    ·rw [a1, L_append, L_mkS]
     unfold bra
     rw [hrun, List.map_cons, List.map_cons, hcat]
     congr 2
     show _ = lab ((LL G).headD []) d
     rw [f1]; rfl
    ·rw [a2, L_append, L_mkS]
     unfold bra
     rw [hrun, List.map_cons, List.map_cons, hcat]
     congr 2
     show _ = bit (LL G, d)
     unfold bit
     rw [if_pos hc]
    ·rw [a3, L_append, L_mkS, hrun, List.length_cons, marks_48]
     simp [marks]
    ·rw [a4]
     unfold bra
     rw [hrun, List.map_cons, List.filter_cons, if_neg (by simp [leaf, hc])]
    ·rw [a5, List.map_append]
     unfold Trie.conts
     simp only []
     rw [hrun, List.filter_cons, if_pos hc, List.map_cons, List.map_cons, List.map_nil, hcat]
     congr 2
     show (LL G, (wrap64 ((d : Int) + 1)).toNat) = _
     rw [w64 (by omega) (by omega)]
     congr 1
   ·have hc : cont (LL G) = false := by simp [cont, LL_length]; omega
    obtain ⟨r, hr1, hr2⟩ := restS_eq (G.getD 0 ByteArray.empty) (d + 1) keep
    rw [hLG] at hr2
    obtain ⟨Lt', Mo', Fi', Rs', x6', e, a1, a2, a3, a4, a5, a6⟩ := ih ((s :: ks).drop G.length) x6 48 (Lt ++ mkS [lab (L s) d]) (Mo ++ mkS [48]) (Fi ++ mkS [c]) (Rs ++ [r]) (by omega) hSd hUd hN
     (by rw [hLs, hsz1]; omega) (by rw [hLs]; show Mo.size + 1 + _ ≤ _; omega) (by rw [hLs, hsz2]; omega) (by simp only [List.length_append, List.length_cons, List.length_nil]; omega) (by omega)
    refine ⟨Lt', Mo', Fi', Rs', x6', ev_succ ?_, ?_, ?_, ?_, ?_, ?_, a6⟩
    ·simp only [spec_l3Put.l0]
     refine ev_pos (by simp only [List.length_cons]; omega) (Ev.bind hgr (ev_pos (by omega) ?_))
     rw [hG0]
     refine ev_bindc (letter_eq _ (by have := hgsm.getD 0; omega) d (by omega)) ?_
     rw [hLG, w64 (by omega) (by omega)]
     refine ev_pos (by rw [hsz1]; omega) (ev_pos (by rw [hsz2]; omega) (ev_neg (by omega) (ev_pos (by omega) (ev_bindc (by rw [← hr1]; rfl) (ev_pos (by omega) (ev_pos (by omega) (ev_pos (by simp only [List.length_cons]; omega) ?_)))))))
     have : ((G.length : Int)).toNat = G.length := by omega
     rw [this]
     exact e
    ·rw [a1, L_append, L_mkS]
     unfold bra
     rw [hrun, List.map_cons, List.map_cons, hcat]
     congr 2
     show _ = lab ((LL G).headD []) d
     rw [f1]; rfl
    ·rw [a2, L_append, L_mkS]
     unfold bra
     rw [hrun, List.map_cons, List.map_cons, hcat]
     congr 2
     show _ = bit (LL G, d)
     unfold bit
     rw [if_neg (by rw [hc]; simp)]
    ·rw [a3, L_append, L_mkS, hrun, List.length_cons, marks_48]
     simp [marks]
    ·rw [a4, LL_append]
     unfold bra
     rw [hrun, List.map_cons, List.filter_cons, if_pos (by simp [leaf, hc]), List.map_cons]
     show LL Rs ++ LL [r] ++ _ = _
     have : LL [r] = [L r] := rfl
     rw [this, hcat, hr2]
     congr 2
     show _ = (((LL G).headD []).drop (d + 1)).take keep
     rw [f1]; rfl
    ·rw [a5]
     unfold Trie.conts
     simp only []
     rw [hrun, List.filter_cons, if_neg (by rw [hc]; simp)]
theorem bfs_len {q X : List Nd} (h : Bfs q X) : q.length ≤ X.length := by
 rw [h.eq, List.length_append]; omega
theorem brs_cons (x : Nd) (X : List Nd) : brs (x :: X) = bra x ++ brs X := rfl
def Deep (x : Nd) : Prop := ∀ k ∈ x.1, x.2 ≤ k.length
theorem of_l0 (keep : Nat) {q X : List Nd} (hB : Bfs q X) : ∀ (x7 : List S79) (Lt Mo Fi : ByteArray) (Rs : List ByteArray), x7.map nd = q → (∀ s ∈ x7, Np s) → (∀ x ∈ X, NOk x) →
  Lt.size + (brs X).length ≤ 900000 → Mo.size + (brs X).length ≤ 900000 → Fi.size + (brs X).length ≤ 900000 → Rs.length + (brs X).length ≤ 900000 → X.length ≤ 900000 →
  ∃ Lt' Mo' Fi' Rs', Ev (fun k => spec_SieveOf.l0 k x7 Lt Mo Fi Rs (keep : Int)) (Lt', Mo', Fi', Rs', (keep : Int), true) ∧
   L Lt' = L Lt ++ encL X ∧ L Mo' = L Mo ++ encM X ∧ L Fi' = L Fi ++ encF X ∧ LL Rs' = LL Rs ++ encR keep X := by
 induction hB with
 | nil =>
  intro x7 Lt Mo Fi Rs h0 _ _ _ _ _ _ _
  have : x7 = [] := List.map_eq_nil_iff.1 h0
  subst this
  refine ⟨Lt, Mo, Fi, Rs, ev_succ ?_, ?_, ?_, ?_, ?_⟩
  ·simp only [spec_SieveOf.l0]
   exact ev_neg (by simp) (ev_some rfl)
  all_goals simp [encL, encM, encF, encR, brs]
 | cons hX ih =>
  rename_i x q X
  intro x7 Lt Mo Fi Rs h0 hN hO z1 z2 z3 z4 z5
  cases x7 with
  | nil => cases h0
  | cons s t =>
   rw [List.map_cons, List.cons.injEq] at h0
   obtain ⟨rfl, h0⟩ := h0
   have hs := hN s (by simp)
   have hx := hO (nd s) (by simp)
   have hd : s.f1 = ((nd s).2 : Int) := by show s.f1 = (s.f1.toNat : Int); have := hs.low; omega
   have hd5 := hx.deep
   have hlen := hs.sm.len
   have hbl : (bra (nd s)).length ≤ s.f0.length := by
    rw [bra_length]
    have := runs_length_le (nd s).2 (nd s).1
    have e : (nd s).1.length = s.f0.length := LL_length _
    omega
   rw [brs_cons, List.length_append] at z1 z2 z3 z4
   rw [List.length_cons] at z5
   have hql := bfs_len hX
   rw [List.length_append, ← h0, List.length_map] at hql
   obtain ⟨Lt1, Mo1, Fi1, Rs1, n1, e1, a1, a2, a3, a4, a5, a6⟩ := put_l0 keep (nd s).2 (by omega) s.f0.length s.f0 [] 49 Lt Mo Fi Rs (Nat.le_refl _) hs.sm hx.up (fun y hy => by cases hy) (by omega) (by omega) (by omega) (by omega) (by simp only [List.length_nil]; omega)
   have hbr : (LL s.f0, (nd s).2) = nd s := rfl
   rw [hbr] at a1 a2 a4 a5
   have hsz : ∀ {a b : ByteArray} {l : List UInt8}, L a = L b ++ l → a.size = b.size + l.length := fun {a b l} h => by rw [size_L, size_L, h, List.length_append]
   have b1 := hsz a1
   have b2 := hsz a2
   have b3 := hsz a3
   have b4 : Rs1.length = Rs.length + (((bra (nd s)).filter leaf).map (rest keep)).length := by rw [← LL_length, a4, List.length_append, LL_length]
   have b5 : n1.length = (Trie.conts (nd s)).length := by have := congrArg List.length a5; simpa using this
   rw [List.length_map] at b1 b2 b4
   have b6 : (marks 49 (runs (nd s).2 (LL s.f0)).length).length = (bra (nd s)).length := by rw [marks_49, fst1_length, bra_length]; rfl
   have b7 := List.length_filter_le leaf (bra (nd s))
   obtain ⟨Lt', Mo', Fi', Rs', e2, c1, c2, c3, c4⟩ := ih (([] ++ t) ++ n1) Lt1 Mo1 Fi1 Rs1 (by rw [List.nil_append, List.map_append, h0, a5]; rfl)
    (fun y hy => by
     rw [List.nil_append] at hy
     rcases List.mem_append.1 hy with hy | hy
     ·exact hN y (by simp [hy])
     ·exact a6 y hy)
    (fun y hy => hO y (by simp [hy])) (by omega) (by omega) (by omega) (by omega) (by omega)
   refine ⟨Lt', Mo', Fi', Rs', ev_succ ?_, ?_, ?_, ?_, ?_⟩
   ·simp only [spec_SieveOf.l0]
    have hr : rd_T79 (s :: t) 0 = s := rfl
    rw [hr, hd]
    refine ev_pos (by simp only [List.length_cons]; omega) (ev_pos (by simp only [List.length_cons]; omega) (Ev.bind (a := (Lt1, Mo1, Fi1, Rs1, (keep : Int), n1)) e1 (ev_bindc rfl (ev_pos (by simp only [List.length_cons]; omega) (ev_bindc rfl (ev_pos ?_ (ev_bindc rfl (ev_pos ?_ e2))))))))
    ·simp only [List.length_nil, List.drop_succ_cons, List.drop_zero]; omega
    ·simp only [List.nil_append, List.drop_succ_cons, List.drop_zero]; omega
   ·rw [c1, a1, List.append_assoc]; unfold encL; rw [brs_cons, List.map_append]
   ·rw [c2, a2, List.append_assoc]; unfold encM; rw [brs_cons, List.map_append]
   ·rw [c3, a3, List.append_assoc, marks_49]; unfold encF; rw [List.flatMap_cons]; rfl
   ·rw [c4, a4, List.append_assoc]; unfold encR; rw [brs_cons, List.filter_append, List.map_append]
open Classical in
noncomputable def lvls (K : List Key) : List Nd := if h : (∀ k ∈ K, KOk k) ∧ K.Pairwise (· < ·) then Classical.choose (Lvl.ex h.1 h.2) else []
theorem lvls_is {K : List Key} (h : KsOk K) : Lvl K (lvls K) ∧ (lvls K).length ≤ K.length * 6 + 1 := by
 have h' : (∀ k ∈ K, KOk k) ∧ K.Pairwise (· < ·) := ⟨h.ok, h.sorted⟩
 unfold lvls
 rw [dif_pos h']
 exact Classical.choose_spec (Lvl.ex h'.1 h'.2)
def keepOk (a : Int) : Prop := 0 ≤ a ∧ a ≤ 5
instance (a : Int) : Decidable (keepOk a) := inferInstanceAs (Decidable (0 ≤ a ∧ a ≤ 5))
abbrev SvT := ByteArray × ByteArray × ByteArray × List ByteArray × Int × Bool
noncomputable def encT (X : List Nd) (keep : Int) : SvT := (mkS (encL X), mkS (encM X), mkS (encF X), (encR keep.toNat X).map mkS, keep, true)
noncomputable def sieveV (K : List Key) (keep : Int) : SvT := if keysB K = true ∧ keepOk keep then encT (lvls K) keep else ((⟨#[]⟩ : ByteArray), (⟨#[]⟩ : ByteArray), (⟨#[]⟩ : ByteArray), ([] : List ByteArray), 0, false)
theorem brs_few {K : List Key} {X : List Nd} (h : Lvl K X) (hn : K.length ≤ 24) (hl : X.length ≤ K.length * 6 + 1) : (brs X).length ≤ 1000 := by
 have := size_eq h.eq
 simp only at this
 omega
theorem encT_of {X : List Nd} {keep : Nat} {a b c : ByteArray} {d : List ByteArray} (h1 : L a = encL X) (h2 : L b = encM X) (h3 : L c = encF X) (h4 : LL d = encR keep X) : (a, b, c, d, (keep : Int), true) = encT X (keep : Int) := by
 unfold encT
 rw [← h1, ← h2, ← h3, mkS_L, mkS_L, mkS_L]
 have : ((keep : Int)).toNat = keep := by omega
 rw [this, ← h4]
 congr 4
 unfold LL
 rw [List.map_map]
 conv => lhs; rw [← List.map_id d]
 apply List.map_congr_left
 intro s _
 exact (mkS_L s).symm
theorem ksok_sm {l : List ByteArray} (h : KsOk (LL l)) : Sm l := by
 refine ⟨by have := h.few; rw [LL_length] at this; omega, fun s hm => ?_⟩
 have := (h.ok (L s) (List.mem_map_of_mem hm)).len
 rw [size_L]; omega
theorem spec_SieveOf_ev (l : List ByteArray) (hl : SzL l) (a : Int) : Ev (fun k => spec_SieveOf.f k l a) (sieveV (LL l) a) := by
 unfold spec_SieveOf.f sieveV
 refine Ev.bind (spec_KeysOk_ev l hl) ?_
 by_cases c : keysB (LL l) = true
 ·refine ev_pos c (ev_bindc (spec_l6In_eq a 0 5) (ev_succ ?_))
  by_cases g : keepOk a
  ·simp only [spec_SieveOf.j0]
   rw [if_pos ⟨c, g⟩]
   refine ev_neg (by simp [decide_eq_true (show 0 ≤ a ∧ a ≤ 5 from g)]) ?_
   have hk := keysB_iff.1 c
   obtain ⟨hL, hX⟩ := lvls_is hk
   have hfew := hk.few
   have hb := brs_few hL hfew hX
   obtain ⟨keep, rfl⟩ : ∃ n : Nat, a = (n : Int) := ⟨a.toNat, by have := g.1; omega⟩
   obtain ⟨Lt, Mo, Fi, Rs, e, a1, a2, a3, a4⟩ := of_l0 keep hL.bfs [⟨l, 0⟩] (⟨#[]⟩ : ByteArray) (⟨#[]⟩ : ByteArray) (⟨#[]⟩ : ByteArray) [] rfl
    (fun s hs => by
     rw [List.mem_singleton.1 hs]
     exact ⟨ksok_sm hk, by show (0 : Int) ≤ 0; omega, by show (0 : Int) ≤ 900; omega⟩)
    (fun x hx => (hL.nodes x hx).2) (by show 0 + _ ≤ _; omega) (by show 0 + _ ≤ _; omega) (by show 0 + _ ≤ _; omega) (by show 0 + _ ≤ _; omega) (by omega)
   refine ev_eq e (encT_of ?_ ?_ ?_ ?_)
   ·rw [a1]; rfl
   ·rw [a2]; rfl
   ·rw [a3]; rfl
   ·rw [a4]; rfl
  ·simp only [spec_SieveOf.j0]
   rw [if_neg (fun h => g h.2)]
   exact ev_pos (by simp [decide_eq_false (show ¬ (0 ≤ a ∧ a ≤ 5) from g)]) (ev_some rfl)
 ·refine ev_neg c (ev_succ ?_)
  simp only [spec_SieveOf.j0]
  rw [if_neg (fun h => c h.1)]
  exact ev_pos (by simp) (ev_some rfl)
theorem label_eq (a : ByteArray) (d : Nat) (hd : d ≤ (L a).length) : impl_label.f a (d : Int) = some ((lab (L a) d).toNat : Int) := by
 unfold impl_label.f
 have hs := size_L a
 by_cases c : d = (L a).length
 ·rw [if_pos (by omega), lab_ge (by omega)]; rfl
 ·rw [if_neg (by omega), if_pos (by omega), if_pos (by omega), bt_L, lab_lt (show d < (L a).length by omega), getD_lt _ (by omega)]
def frontN (d : Nat) (r : List ByteArray) : Nat := (r.tail.takeWhile (fun x => labS d x == labS d (r.getD 0 ByteArray.empty))).length + 1
theorem frontN_le {d : Nat} {r : List ByteArray} (h : r ≠ []) : frontN d r ≤ r.length := by
 cases r with
 | nil => exact absurd rfl h
 | cons a t =>
  unfold frontN
  have := (List.takeWhile_sublist (l := t) (fun x => labS d x == labS d ((a :: t).getD 0 ByteArray.empty))).length_le
  simp only [List.tail_cons, List.length_cons]
  omega
theorem takeWhile_at {α : Type} (p : α → Bool) : ∀ (l : List α) (i : Nat) (h : i < l.length), (i < (l.takeWhile p).length → p l[i] = true) ∧ (i = (l.takeWhile p).length → p l[i] = false) := by
 intro l
 induction l with
 | nil => intro i h; simp at h
 | cons a l ih =>
  intro i h
  rw [List.takeWhile_cons]
  by_cases c : p a = true
  ·rw [if_pos c, List.length_cons]
   cases i with
   | zero => exact ⟨fun _ => c, fun q => by omega⟩
   | succ i =>
    have := ih i (by simpa using h)
    exact ⟨fun q => this.1 (by omega), fun q => this.2 (by omega)⟩
  ·rw [if_neg c]
   cases i with
   | zero => exact ⟨fun q => by simp at q, fun _ => by simpa using c⟩
   | succ i => exact ⟨fun q => by simp at q, fun q => by simp at q⟩
theorem l2_ev {Lt Mo Fi : ByteArray} {Rs : List ByteArray} {Q : List S108} {keep i mark : Int} {rest : List ByteArray} {d : Nat} {r : ByteArray × ByteArray × ByteArray × List ByteArray × Int} (hs : Sm rest) (h0 : rest ≠ []) (hd : ∀ s ∈ rest, d ≤ (L s).length)
  (h3 : Ev (fun k => impl_sieveOf.l3 k Lt Mo Fi Rs Q keep i rest (d : Int) mark (frontN d rest : Int)) r) (m : Nat) : ∀ n : Nat, 1 ≤ n → n ≤ frontN d rest → frontN d rest - n = m →
  Ev (fun k => impl_sieveOf.l2 k Lt Mo Fi Rs Q keep i rest (d : Int) mark (n : Int)) r := by
 have hlen := hs.len
 have hf := frontN_le (d := d) h0
 obtain ⟨a, t, rfl⟩ : ∃ a t, rest = a :: t := by
  cases rest with
  | nil => exact absurd rfl h0
  | cons a t => exact ⟨a, t, rfl⟩
 simp only [List.length_cons] at hlen hf
 have hg0 : rdOf ByteArray.empty (a :: t) 0 = a := rfl
 have hat : ∀ n : Nat, n < t.length + 1 → L (rdOf ByteArray.empty (a :: t) (n : Int)) = L ((a :: t).getD n ByteArray.empty) := fun _ _ => rfl
 have hmem : ∀ n : Nat, n < t.length + 1 → d ≤ (L ((a :: t).getD n ByteArray.empty)).length := fun n hn => by
  refine hd _ ?_
  rw [getD_lt _ (by simpa using hn)]
  exact List.getElem_mem _
 have hfr : frontN d (a :: t) = (t.takeWhile (fun x => labS d x == labS d a)).length + 1 := rfl
 have htw := takeWhile_at (fun x => labS d x == labS d a) t
 have hgd : ∀ n : Nat, 1 ≤ n → n < t.length + 1 → ∀ h : n - 1 < t.length, (a :: t).getD n ByteArray.empty = t[n - 1] := fun n h1 h2 h => by
  obtain ⟨j, rfl⟩ : ∃ j, n = j + 1 := ⟨n - 1, by omega⟩
  rw [getD_lt _ (by simpa using h2)]
  rfl
 induction m with
 | zero =>
  intro n h1 h2 h4
  have e : n = frontN d (a :: t) := by omega
  refine ev_succ ?_
  simp only [impl_sieveOf.l2]
  by_cases c : n < t.length + 1
  ·refine ev_pos (by simp only [List.length_cons]; omega) (ev_pos (by omega) ?_)
   have hr : rdOf ByteArray.empty (a :: t) (n : Int) = (a :: t).getD n ByteArray.empty := rfl
   rw [hr, hg0]
   refine ev_bindc (label_eq _ d (hmem n c)) (ev_bindc (label_eq a d (hd a (by simp))) (ev_neg ?_ ?_))
   ·intro q
    have q2 : lab (L ((a :: t).getD n ByteArray.empty)) d = lab (L a) d := UInt8.toNat_inj.1 (by omega)
    have h5 := (htw (n - 1) (by omega)).2 (by omega)
    rw [hgd n h1 c (by omega)] at q2
    unfold labS at h5
    rw [q2] at h5
    simp at h5
   ·rw [e]; exact h3
  ·refine ev_neg (by simp only [List.length_cons]; omega) ?_
   rw [e]; exact h3
 | succ m ih =>
  intro n h1 h2 h4
  have hlt : n < frontN d (a :: t) := by omega
  have c : n < t.length + 1 := by omega
  refine ev_succ ?_
  simp only [impl_sieveOf.l2]
  refine ev_pos (by simp only [List.length_cons]; omega) (ev_pos (by omega) ?_)
  have hr : rdOf ByteArray.empty (a :: t) (n : Int) = (a :: t).getD n ByteArray.empty := rfl
  rw [hr, hg0]
  refine ev_bindc (label_eq _ d (hmem n c)) (ev_bindc (label_eq a d (hd a (by simp))) (ev_pos ?_ ?_))
  ·have h5 := (htw (n - 1) (by omega)).1 (by omega)
   rw [hgd n h1 c (by omega)]
   unfold labS at h5
   rw [beq_iff_eq.1 h5]
  ·rw [w64 (by omega) (by omega)]
   exact ih (n + 1) (by omega) (by omega) (by omega)
theorem frontN_run {d : Nat} {a : ByteArray} {t : List ByteArray} :
  LL ((a :: t).take (frontN d (a :: t))) = L a :: (LL t).takeWhile (fun x => lab x d == lab (L a) d) ∧ LL ((a :: t).drop (frontN d (a :: t))) = (LL t).dropWhile (fun x => lab x d == lab (L a) d) := by
 have hfr : frontN d (a :: t) = (t.takeWhile (fun x => labS d x == labS d a)).length + 1 := rfl
 rw [hfr, List.take_succ_cons, List.drop_succ_cons]
 have e1 : ∀ (p : ByteArray → Bool) (l : List ByteArray), l.take (l.takeWhile p).length = l.takeWhile p ∧ l.drop (l.takeWhile p).length = l.dropWhile p := by
  intro p l
  induction l with
  | nil => exact ⟨rfl, rfl⟩
  | cons b l ih =>
   rw [List.takeWhile_cons, List.dropWhile_cons]
   by_cases c : p b = true
   ·rw [if_pos c, if_pos c, List.length_cons, List.take_succ_cons, List.drop_succ_cons, ih.1, ih.2]; exact ⟨rfl, rfl⟩
   ·rw [if_neg c, if_neg c]; exact ⟨rfl, rfl⟩
 have e2 : ∀ (l : List ByteArray), LL (l.takeWhile (fun x => labS d x == labS d a)) = (LL l).takeWhile (fun x => lab x d == lab (L a) d) ∧ LL (l.dropWhile (fun x => labS d x == labS d a)) = (LL l).dropWhile (fun x => lab x d == lab (L a) d) := by
  intro l
  induction l with
  | nil => exact ⟨rfl, rfl⟩
  | cons b l ih =>
   have hb : LL (b :: l) = L b :: LL l := rfl
   rw [hb, List.takeWhile_cons, List.dropWhile_cons, List.takeWhile_cons, List.dropWhile_cons]
   by_cases c : (labS d b == labS d a) = true
   ·have c' : (lab (L b) d == lab (L a) d) = true := c
    rw [if_pos c, if_pos c, if_pos c', if_pos c']
    refine ⟨?_, ih.2⟩
    show L b :: LL _ = _
    rw [ih.1]
   ·have c' : ¬ (lab (L b) d == lab (L a) d) = true := c
    rw [if_neg c, if_neg c, if_neg c', if_neg c']
    exact ⟨rfl, hb⟩
 refine ⟨?_, ?_⟩
 ·show L a :: LL _ = _
  rw [(e1 _ t).1, (e2 t).1]
 ·rw [(e1 _ t).2, (e2 t).2]
def ndq (s : S108) : Nd := (LL s.f0, s.f1.toNat)
structure Nq (s : S108) : Prop where
 sm : Sm s.f0
 low : 0 ≤ s.f1
 high : s.f1 ≤ 900
theorem mnk (k n : Nat) : mn (k : Int) (n : Int) = ((min k n : Nat) : Int) := by unfold mn; split <;> omega
theorem push_L (s : ByteArray) (c : UInt8) : L (s.push c) = L s ++ [c] := by simp [L]
theorem push_size (s : ByteArray) (c : UInt8) : (s.push c).size = s.size + 1 := by rw [size_L, size_L, push_L]; simp
theorem byte_back (c : UInt8) : ((c.toNat : Int)).toNat.toUInt8 = c := by
 have : ((c.toNat : Int)).toNat = c.toNat := by omega
 rw [this]; exact UInt8.ofNat_toNat
theorem l1_ev (keep d : Nat) (hd : d ≤ 800) (i : Int) (m : Nat) : ∀ (ks : List ByteArray) (Q : List S108) (c : UInt8) (Lt Mo Fi : ByteArray) (Rs : List ByteArray), ks.length ≤ m → Sm ks → (∀ s ∈ ks, d ≤ (L s).length) → (∀ s ∈ Q, Nq s) →
  Lt.size + ks.length ≤ 1000000 → Mo.size + ks.length ≤ 1000000 → Fi.size + ks.length ≤ 1000000 → Rs.length + ks.length ≤ 1000000 → Q.length + ks.length ≤ 1000000 →
  ∃ Lt' Mo' Fi' Rs' x6', (∀ r, Ev (fun k => impl_sieveOf.l0 k Lt' Mo' Fi' Rs' (Q ++ x6') (keep : Int) (wrap64 (i + 1))) r → Ev (fun k => impl_sieveOf.l1 k Lt Mo Fi Rs Q (keep : Int) i ks (d : Int) (c.toNat : Int)) r) ∧
   L Lt' = L Lt ++ (bra (LL ks, d)).map letter ∧ L Mo' = L Mo ++ (bra (LL ks, d)).map bit ∧ L Fi' = L Fi ++ marks c (runs d (LL ks)).length ∧
   LL Rs' = LL Rs ++ ((bra (LL ks, d)).filter leaf).map (rest keep) ∧ x6'.map ndq = conts (LL ks, d) ∧ (∀ s ∈ x6', Nq s) := by
 induction m with
 | zero =>
  intro ks Q c Lt Mo Fi Rs h0 hS hD hN _ _ _ _ _
  have : ks = [] := List.eq_nil_of_length_eq_zero (by omega)
  subst this
  have hr : runs d (LL ([] : List ByteArray)) = [] := runs_nil d
  refine ⟨Lt, Mo, Fi, Rs, [], fun r h => ev_succ ?_, ?_, ?_, ?_, ?_, ?_, fun s hs => by cases hs⟩
  ·simp only [impl_sieveOf.l1]
   rw [List.append_nil] at h
   exact ev_neg (by simp) h
  all_goals simp [bra, hr, marks, Trie.conts]
 | succ m ih =>
  intro ks Q c Lt Mo Fi Rs h0 hS hD hN z1 z2 z3 z4 z5
  cases ks with
  | nil =>
   have hr : runs d (LL ([] : List ByteArray)) = [] := runs_nil d
   refine ⟨Lt, Mo, Fi, Rs, [], fun r h => ev_succ ?_, ?_, ?_, ?_, ?_, ?_, fun s hs => by cases hs⟩
   ·simp only [impl_sieveOf.l1]
    rw [List.append_nil] at h
    exact ev_neg (by simp) h
   all_goals simp [bra, hr, marks, Trie.conts]
  | cons s ks =>
   obtain ⟨f1, f2⟩ := frontN_run (d := d) (a := s) (t := ks)
   have hne : s :: ks ≠ [] := by simp
   have hfl := frontN_le (d := d) hne
   have hf1 : 1 ≤ frontN d (s :: ks) := by unfold frontN; omega
   have hk := hS.len
   simp only [List.length_cons] at hfl z1 z2 z3 z4 z5 h0 hk
   have hGl : ((s :: ks).take (frontN d (s :: ks))).length = frontN d (s :: ks) := by rw [List.length_take, List.length_cons]; omega
   have hrun : runs d (LL (s :: ks)) = LL ((s :: ks).take (frontN d (s :: ks))) :: runs d (LL ((s :: ks).drop (frontN d (s :: ks)))) := by
    have : LL (s :: ks) = L s :: LL ks := rfl
    rw [this, runs_cons, f1, f2]
   have hSd : Sm ((s :: ks).drop (frontN d (s :: ks))) := hS.sub (List.drop_sublist _ _)
   have hgsm : Sm ((s :: ks).take (frontN d (s :: ks))) := hS.sub (List.take_sublist _ _)
   have hDd : ∀ x ∈ (s :: ks).drop (frontN d (s :: ks)), d ≤ (L x).length := fun x hx => hD x (List.mem_of_mem_drop hx)
   have hld : ((s :: ks).drop (frontN d (s :: ks))).length + frontN d (s :: ks) = ks.length + 1 := by rw [List.length_drop, List.length_cons]; omega
   have hcat : ∀ {α : Type} (a : List α) (b : α) (e : List α), (a ++ [b]) ++ e = a ++ (b :: e) := fun a b e => by simp
   have hl2 := fun (r : ByteArray × ByteArray × ByteArray × List ByteArray × Int) (h3 : Ev (fun k => impl_sieveOf.l3 k Lt Mo Fi Rs Q (keep : Int) i (s :: ks) (d : Int) (c.toNat : Int) (frontN d (s :: ks) : Int)) r) => l2_ev (r := r) hS hne hD h3 (frontN d (s :: ks) - 1) 1 (Nat.le_refl _) hf1 rfl
   have hlabel := label_eq s d (hD s (by simp))
   have hg0 : rdOf ByteArray.empty (s :: ks) 0 = s := rfl
   generalize hn : frontN d (s :: ks) = n at *
   have hnt : ((n : Int)).toNat = n := by omega
   have hsz := size_L s
   have hss : s.size ≤ 1000 := hS.sz s (by simp)
   have hcond : Lt.size + 1 ≤ 140737488355328 ∧ Mo.size + 1 ≤ 140737488355328 ∧ Fi.size + 1 ≤ 140737488355328 ∧ 0 ≤ (n : Int) ∧ (n : Int) ≤ ((s :: ks).length : Int) ∧ 0 ≤ (d : Int) ∧ (d : Int) ≤ 1000000000 ∧ 0 ≤ (keep : Int) ∧ Q.length < 4398046511104 ∧ Rs.length < 8796093022208 := by
    refine ⟨by omega, by omega, by omega, by omega, by simp only [List.length_cons]; omega, by omega, by omega, by omega, by omega, by omega⟩
   by_cases q : 1 < n
   ·have hc : cont (LL ((s :: ks).take n)) = true := by simp only [cont, LL_length, hGl, decide_eq_true_eq]; omega
    have hNq : Nq ⟨(s :: ks).take n, wrap64 ((d : Int) + 1)⟩ := by
     rw [w64 (by omega) (by omega)]
     exact ⟨hgsm, by show (0 : Int) ≤ (d : Int) + 1; omega, by show (d : Int) + 1 ≤ 900; omega⟩
    obtain ⟨Lt', Mo', Fi', Rs', x6', e, a1, a2, a3, a4, a5, a6⟩ := ih ((s :: ks).drop n) (Q ++ [⟨(s :: ks).take n, wrap64 ((d : Int) + 1)⟩]) 48 (Lt.push (lab (L s) d)) (Mo.push 49) (Fi.push c) Rs (by omega) hSd hDd
     (fun y hy => by
      rcases List.mem_append.1 hy with hy | hy
      ·exact hN y hy
      ·rw [List.mem_singleton.1 hy]; exact hNq)
     (by rw [push_size]; omega) (by rw [push_size]; omega) (by rw [push_size]; omega) (by omega) (by simp only [List.length_append, List.length_cons, List.length_nil]; omega)
    refine ⟨Lt', Mo', Fi', Rs', ⟨(s :: ks).take n, wrap64 ((d : Int) + 1)⟩ :: x6', fun r h => ev_succ ?_, ?_, ?_, ?_, ?_, ?_, ?_⟩
    ·simp only [impl_sieveOf.l1]
     refine ev_pos (by simp only [List.length_cons]; omega) (hl2 r (ev_succ ?_))
     simp only [impl_sieveOf.l3]
     rw [hg0]
     refine ev_pos hcond (ev_bindc hlabel (ev_pos (by omega) ?_))
     rw [hnt, byte_back, byte_back]
     refine e r ?_
     rw [hcat]; exact h
    ·rw [a1, push_L]
     unfold bra
     rw [hrun, List.map_cons, List.map_cons, hcat]
     congr 2
     show _ = lab ((LL ((s :: ks).take n)).headD []) d
     rw [f1]; rfl
    ·rw [a2, push_L]
     unfold bra
     rw [hrun, List.map_cons, List.map_cons, hcat]
     congr 2
     show _ = bit (LL ((s :: ks).take n), d)
     unfold bit
     rw [if_pos hc]
    ·rw [a3, push_L, hrun, List.length_cons, marks_48]
     simp [marks]
    ·rw [a4]
     unfold bra
     rw [hrun, List.map_cons, List.filter_cons, if_neg (by simp [leaf, hc])]
    ·rw [List.map_cons, a5]
     unfold Trie.conts
     simp only []
     rw [hrun, List.filter_cons, if_pos hc, List.map_cons]
     congr 1
     show (LL ((s :: ks).take n), (wrap64 ((d : Int) + 1)).toNat) = _
     rw [w64 (by omega) (by omega)]
     congr 1
    ·intro y hy
     rcases List.mem_cons.1 hy with rfl | hy
     ·exact hNq
     ·exact a6 y hy
   ·have hc : cont (LL ((s :: ks).take n)) = false := by simp only [cont, LL_length, hGl, decide_eq_false_iff_not]; omega
    obtain ⟨Lt', Mo', Fi', Rs', x6', e, a1, a2, a3, a4, a5, a6⟩ := ih ((s :: ks).drop n) Q 48 (Lt.push (lab (L s) d)) (Mo.push 48) (Fi.push c) (Rs ++ [(s.extract (mn (wrap64 ((d : Int) + 1)) (s.size : Int)).toNat s.size).extract 0 (mn (keep : Int) ((s.extract (mn (wrap64 ((d : Int) + 1)) (s.size : Int)).toNat s.size).size : Int)).toNat]) (by omega) hSd hDd hN
     (by rw [push_size]; omega) (by rw [push_size]; omega) (by rw [push_size]; omega) (by simp only [List.length_append, List.length_cons, List.length_nil]; omega) (by omega)
    refine ⟨Lt', Mo', Fi', Rs', x6', fun r h => ev_succ ?_, ?_, ?_, ?_, ?_, ?_, a6⟩
    ·simp only [impl_sieveOf.l1]
     refine ev_pos (by simp only [List.length_cons]; omega) (hl2 r (ev_succ ?_))
     simp only [impl_sieveOf.l3]
     rw [hg0]
     refine ev_pos hcond (ev_bindc hlabel (ev_neg (by omega) ?_))
     rw [hnt, byte_back, byte_back]
     exact e r h
    ·rw [a1, push_L]
     unfold bra
     rw [hrun, List.map_cons, List.map_cons, hcat]
     congr 2
     show _ = lab ((LL ((s :: ks).take n)).headD []) d
     rw [f1]; rfl
    ·rw [a2, push_L]
     unfold bra
     rw [hrun, List.map_cons, List.map_cons, hcat]
     congr 2
     show _ = bit (LL ((s :: ks).take n), d)
     unfold bit
     rw [if_neg (by rw [hc]; simp)]
    ·rw [a3, push_L, hrun, List.length_cons, marks_48]
     simp [marks]
    ·rw [a4, LL_append]
     unfold bra
     rw [hrun, List.map_cons, List.filter_cons, if_pos (by simp [leaf, hc]), List.map_cons]
     have : ∀ x : ByteArray, LL [x] = [L x] := fun _ => rfl
     rw [this, hcat]
     congr 2
     show _ = (((LL ((s :: ks).take n)).headD []).drop (d + 1)).take keep
     rw [f1]
     show _ = ((L s).drop (d + 1)).take keep
     have e1 : mn (wrap64 ((d : Int) + 1)) (s.size : Int) = ((min (d + 1) s.size : Nat) : Int) := by
      rw [w64 (by omega) (by omega)]; exact mnk (d + 1) s.size
     rw [e1]
     have e2 : (((min (d + 1) s.size : Nat) : Int)).toNat = min (d + 1) s.size := by omega
     rw [e2, mnk]
     have e3 : ∀ z : Nat, ((z : Nat) : Int).toNat = z := fun z => by omega
     rw [e3, L_extract, L_extract, List.drop_zero, List.take_of_length_le (i := s.size) (by omega)]
     have e4 : (s.extract (min (d + 1) s.size) s.size).size = s.size - min (d + 1) s.size := by
      rw [size_L, L_extract, List.length_drop, List.length_take]; omega
     rw [e4]
     by_cases g : d + 1 ≤ s.size
     ·rw [Nat.min_eq_left g]
      by_cases g2 : keep ≤ s.size - (d + 1)
      ·rw [Nat.min_eq_left g2]
      ·rw [Nat.min_eq_right (by omega), List.take_of_length_le (by rw [List.length_drop]; omega), List.take_of_length_le (by rw [List.length_drop]; omega)]
     ·rw [Nat.min_eq_right (by omega), List.drop_eq_nil_of_le (by omega), List.drop_eq_nil_of_le (by omega)]
      simp
    ·rw [a5]
     unfold Trie.conts
     simp only []
     rw [hrun, List.filter_cons, if_neg (by rw [hc]; simp)]
theorem deep_of {x : Nd} {K : List Key} (hK : ∀ k ∈ K, KOk k) (hI : In K x) (hN : NOk x) : Deep x := fun k hk => Nat.le_trans (hI.dep_ge hK hN hk) (dep_le hK (hN.ok k hk))
theorem l0_ev (keep : Nat) {q X : List Nd} (hB : Bfs q X) : ∀ (Q : List S108) (i : Nat) (Lt Mo Fi : ByteArray) (Rs : List ByteArray), (Q.drop i).map ndq = q → i ≤ Q.length → (∀ s ∈ Q, Nq s) → (∀ x ∈ X, NOk x ∧ Deep x) →
  Lt.size + (brs X).length ≤ 900000 → Mo.size + (brs X).length ≤ 900000 → Fi.size + (brs X).length ≤ 900000 → Rs.length + (brs X).length ≤ 900000 → i + X.length ≤ 900000 →
  ∃ Lt' Mo' Fi' Rs', Ev (fun k => impl_sieveOf.l0 k Lt Mo Fi Rs Q (keep : Int) (i : Int)) (Lt', Mo', Fi', Rs', (keep : Int)) ∧
   L Lt' = L Lt ++ encL X ∧ L Mo' = L Mo ++ encM X ∧ L Fi' = L Fi ++ encF X ∧ LL Rs' = LL Rs ++ encR keep X := by
 induction hB with
 | nil =>
  intro Q i Lt Mo Fi Rs h0 hi _ _ _ _ _ _ _
  have : Q.drop i = [] := List.map_eq_nil_iff.1 h0
  have hl := congrArg List.length this
  rw [List.length_drop] at hl
  simp only [List.length_nil] at hl
  refine ⟨Lt, Mo, Fi, Rs, ev_succ ?_, ?_, ?_, ?_, ?_⟩
  ·simp only [impl_sieveOf.l0]
   exact ev_neg (by omega) (ev_some rfl)
  all_goals simp [encL, encM, encF, encR, brs]
 | cons hX ih =>
  rename_i x q X
  intro Q i Lt Mo Fi Rs h0 hi hN hO z1 z2 z3 z4 z5
  cases hQ : Q.drop i with
  | nil => rw [hQ] at h0; cases h0
  | cons s t =>
   rw [hQ, List.map_cons, List.cons.injEq] at h0
   obtain ⟨rfl, h0⟩ := h0
   have hlt : i < Q.length := by
    have := congrArg List.length hQ
    rw [List.length_drop] at this
    simp only [List.length_cons] at this
    omega
   have hsi : Q[i] = s ∧ Q.drop (i + 1) = t := by
    rw [List.drop_eq_getElem_cons hlt, List.cons.injEq] at hQ; exact hQ
   have hs := hN s (by rw [← hsi.1]; exact List.getElem_mem hlt)
   have hx := hO (ndq s) (by simp)
   have hd : s.f1 = ((ndq s).2 : Int) := by show s.f1 = (s.f1.toNat : Int); have := hs.low; omega
   have hd5 := hx.1.deep
   have hlen := hs.sm.len
   have hbl : (bra (ndq s)).length ≤ s.f0.length := by
    rw [bra_length]
    have := runs_length_le (ndq s).2 (ndq s).1
    have e : (ndq s).1.length = s.f0.length := LL_length _
    omega
   rw [brs_cons, List.length_append] at z1 z2 z3 z4
   rw [List.length_cons] at z5
   have hql := bfs_len hX
   rw [List.length_append, ← h0, List.length_map] at hql
   have htl : t.length + (i + 1) = Q.length := by
    have := congrArg List.length hsi.2
    rw [List.length_drop] at this; omega
   obtain ⟨Lt1, Mo1, Fi1, Rs1, n1, e1, a1, a2, a3, a4, a5, a6⟩ := l1_ev keep (ndq s).2 (by omega) (i : Int) s.f0.length s.f0 Q 49 Lt Mo Fi Rs (Nat.le_refl _) hs.sm (fun y hy => hx.2 (L y) (List.mem_map_of_mem hy)) hN (by omega) (by omega) (by omega) (by omega) (by omega)
   have hbr : (LL s.f0, (ndq s).2) = ndq s := rfl
   rw [hbr] at a1 a2 a4 a5
   have hsz : ∀ {a b : ByteArray} {l : List UInt8}, L a = L b ++ l → a.size = b.size + l.length := fun {a b l} h => by rw [size_L, size_L, h, List.length_append]
   have b1 := hsz a1
   have b2 := hsz a2
   have b3 := hsz a3
   have b4 : Rs1.length = Rs.length + (((bra (ndq s)).filter leaf).map (rest keep)).length := by rw [← LL_length, a4, List.length_append, LL_length]
   rw [List.length_map] at b1 b2 b4
   have b6 : (marks 49 (runs (ndq s).2 (LL s.f0)).length).length = (bra (ndq s)).length := by rw [marks_49, fst1_length, bra_length]; rfl
   have b7 := List.length_filter_le leaf (bra (ndq s))
   obtain ⟨Lt', Mo', Fi', Rs', e2, c1, c2, c3, c4⟩ := ih (Q ++ n1) (i + 1) Lt1 Mo1 Fi1 Rs1 (by rw [List.drop_append_of_le_length (by omega), hsi.2, List.map_append, h0, a5]) (by rw [List.length_append]; omega)
    (fun y hy => by
     rcases List.mem_append.1 hy with hy | hy
     ·exact hN y hy
     ·exact a6 y hy)
    (fun y hy => hO y (by simp [hy])) (by omega) (by omega) (by omega) (by omega) (by omega)
   refine ⟨Lt', Mo', Fi', Rs', ev_succ ?_, ?_, ?_, ?_, ?_⟩
   ·simp only [impl_sieveOf.l0]
    have hr : rd_T108 Q (i : Int) = s := by
     show Q.getD i z108 = s
     rw [getD_lt _ hlt]; exact hsi.1
    rw [hr, hd]
    refine ev_pos (by omega) (ev_pos (by omega) (e1 _ ?_))
    rw [w64 (by omega) (by omega)]
    exact e2
   ·rw [c1, a1, List.append_assoc]; unfold encL; rw [brs_cons, List.map_append]
   ·rw [c2, a2, List.append_assoc]; unfold encM; rw [brs_cons, List.map_append]
   ·rw [c3, a3, List.append_assoc, marks_49]; unfold encF; rw [List.flatMap_cons]; rfl
   ·rw [c4, a4, List.append_assoc]; unfold encR; rw [brs_cons, List.filter_append, List.map_append]
theorem isKeep_eq (a : Int) : impl_isKeep.f a = some (decide (keepOk a)) := by
 unfold impl_isKeep.f
 rw [impl_in_eq]; rfl
theorem impl_SieveOf_ev (l : List ByteArray) (hl : SzL l) (a : Int) : Ev (fun k => impl_SieveOf.f k l a) (sieveV (LL l) a) := by
 unfold impl_SieveOf.f sieveV
 refine Ev.bind (impl_KeysOk_ev l hl) ?_
 by_cases c : keysB (LL l) = true
 ·refine ev_pos c (ev_bindc (isKeep_eq a) ?_)
  by_cases g : keepOk a
  ·rw [if_pos ⟨c, g⟩]
   refine ev_pos (decide_eq_true g) ?_
   have hk := keysB_iff.1 c
   obtain ⟨hL, hX⟩ := lvls_is hk
   have hfew := hk.few
   have hb := brs_few hL hfew hX
   obtain ⟨keep, rfl⟩ : ∃ n : Nat, a = (n : Int) := ⟨a.toNat, by have := g.1; omega⟩
   obtain ⟨Lt, Mo, Fi, Rs, e, a1, a2, a3, a4⟩ := l0_ev keep hL.bfs [⟨l, 0⟩] 0 (⟨#[]⟩ : ByteArray) (⟨#[]⟩ : ByteArray) (⟨#[]⟩ : ByteArray) [] rfl (by simp)
    (fun s hs => by
     rw [List.mem_singleton.1 hs]
     exact ⟨ksok_sm hk, by show (0 : Int) ≤ 0; omega, by show (0 : Int) ≤ 900; omega⟩)
    (fun x hx => ⟨(hL.nodes x hx).2, deep_of hk.ok (hL.nodes x hx).1 (hL.nodes x hx).2⟩) (by show 0 + _ ≤ _; omega) (by show 0 + _ ≤ _; omega) (by show 0 + _ ≤ _; omega) (by show 0 + _ ≤ _; omega) (by omega)
   refine Ev.bind (a := (Lt, Mo, Fi, Rs, (keep : Int))) (by unfold impl_sieveOf.f; exact e) (ev_some (encT_of ?_ ?_ ?_ ?_))
   ·rw [a1]; rfl
   ·rw [a2]; rfl
   ·rw [a3]; rfl
   ·rw [a4]; rfl
  ·rw [if_neg (fun h => g h.2)]
   exact ev_neg (by simp [g]) (ev_some rfl)
 ·refine ev_neg c ?_
  rw [if_neg (fun h => c h.1)]
  exact ev_some rfl
structure Fm (Lt Mo Fi : ByteArray) (Rs : List ByteArray) (n : Nat) : Prop where
 ln : (L Lt).length = n
 mn : (L Mo).length = n
 fn : (L Fi).length = n
 few : n ≤ 400
 mb : (L Mo).all bitc = true
 fb : (L Fi).all bitc = true
 rs : Rs.length = n - onesB (L Mo) n
 sz : ∀ s ∈ Rs, s.size ≤ 1048576
theorem bit_or {l : List UInt8} (h : l.all bitc = true) {i : Nat} (hi : i < l.length) : l.getD i 0 = 48 ∨ l.getD i 0 = 49 := by
 rw [getD_lt _ hi]
 have := List.all_eq_true.1 h _ (List.getElem_mem hi)
 simpa [bitc] using this
theorem pos_succ_ge : ∀ (l : List UInt8) (m : Nat), pos l m < l.length → pos l m + 1 ≤ pos l (m + 1) := by
 intro l
 induction l with
 | nil => intro m h; simp [pos] at h
 | cons c l ih =>
  intro m h
  unfold pos at h ⊢
  simp only [List.length_cons] at h
  by_cases q : c = 49
  ·rw [if_pos q] at h ⊢
   rw [if_pos q, if_neg (show ¬ m + 1 = 0 by omega)]
   by_cases z : m = 0
   ·rw [if_pos z]; omega
   ·rw [if_neg z] at h ⊢
    have e : m + 1 - 1 = (m - 1) + 1 := by omega
    have := ih (m - 1) (by omega)
    rw [e]; omega
  ·rw [if_neg q] at h ⊢
   rw [if_neg q]
   have := ih m (by omega)
   omega
theorem between : ∀ (l : List UInt8) (m i : Nat), pos l m < i → i < pos l (m + 1) → l.getD i 0 ≠ 49 := by
 intro l
 induction l with
 | nil => intro m i h1 h2; simp [pos] at h2
 | cons c l ih =>
  intro m i h1 h2
  unfold pos at h1 h2
  cases i with
  | zero => omega
  | succ i =>
   rw [List.getD_cons_succ]
   by_cases q : c = 49
   ·rw [if_pos q] at h1 h2
    rw [if_neg (show ¬ m + 1 = 0 by omega)] at h2
    by_cases z : m = 0
    ·subst z
     have h3 : i < pos l 0 := by
      simp at h2
      omega
     clear h1 h2 ih
     intro hq
     have : ∀ (l : List UInt8) (i : Nat), i < pos l 0 → l.getD i 0 ≠ 49 := by
      intro l
      induction l with
      | nil => intro i h; simp [pos] at h
      | cons c l ih =>
       intro i h
       unfold pos at h
       by_cases q : c = 49
       ·rw [if_pos q, if_pos rfl] at h; omega
       ·rw [if_neg q] at h
        cases i with
        | zero => simpa using q
        | succ i => rw [List.getD_cons_succ]; exact ih i (by omega)
     exact this l i h3 hq
    ·rw [if_neg z] at h1
     have e : m + 1 - 1 = (m - 1) + 1 := by omega
     rw [e] at h2
     exact ih (m - 1) i (by omega) (by omega)
   ·rw [if_neg q] at h1 h2
    exact ih m i (by omega) (by omega)
section
variable {Lt Mo Fi : ByteArray} {Rs : List ByteArray} {keep : Int} {n : Nat}
theorem branches_l0 (h : Fm Lt Mo Fi Rs n) (m : Nat) (hm : pos (L Fi) m < n) (d : Nat) : ∀ i : Nat, pos (L Fi) m < i → i ≤ pos (L Fi) (m + 1) → pos (L Fi) (m + 1) - i = d →
  Ev (fun k => impl_Sieve_branches.l0 k ((pos (L Fi) m : Nat) : Int) (i : Int) Lt Mo Fi Rs keep) (((pos (L Fi) m : Nat) : Int), ((pos (L Fi) (m + 1) : Nat) : Int)) := by
 have hf := h.fn
 have hs := size_L Fi
 have hle := pos_le (L Fi) (m + 1)
 have hfew := h.few
 induction d with
 | zero =>
  intro i h1 h2 h3
  have e : i = pos (L Fi) (m + 1) := by omega
  refine ev_succ ?_
  simp only [impl_Sieve_branches.l0]
  by_cases c : i < n
  ·have h1' := (pos_one (L Fi) (m + 1) (by omega)).1
   refine ev_pos (by omega) (ev_pos (by omega) (ev_neg ?_ (ev_some (by rw [e]))))
   rw [bt_L, e, h1']
   decide
  ·exact ev_neg (by omega) (ev_some (by rw [e]))
 | succ d ih =>
  intro i h1 h2 h3
  have hlt : i < n := by omega
  refine ev_succ ?_
  simp only [impl_Sieve_branches.l0]
  have hz : (L Fi).getD i 0 = 48 := by
   rcases bit_or h.fb (show i < (L Fi).length by omega) with q | q
   ·exact q
   ·exact absurd q (between _ _ _ h1 (by omega))
  refine ev_pos (by omega) (ev_pos (by omega) (ev_pos ?_ ?_))
  ·rw [bt_L, hz]; rfl
  ·rw [w64 (by omega) (by omega)]
   exact ih (i + 1) (by omega) (by omega) (by omega)
def brI (F : List UInt8) (m : Nat) : Int × Int := if pos F m < F.length then (((pos F m : Nat) : Int), ((pos F (m + 1) : Nat) : Int)) else (0, 0)
theorem branches_ev (h : Fm Lt Mo Fi Rs n) (m : Nat) (hm : m ≤ 1000000) : Ev (fun k => impl_Sieve_branches.f k Lt Mo Fi Rs keep (m : Int)) (brI (L Fi) m) := by
 unfold impl_Sieve_branches.f brI
 have hf := h.fn
 have hs := size_L Fi
 have hfew := h.few
 refine Ev.bind (impl_one_ev Fi (by omega) m (by omega)) ?_
 unfold oneI
 by_cases c : pos (L Fi) m < (L Fi).length
 ·rw [if_pos c, if_pos c]
  refine ev_neg (by omega) ?_
  rw [w64 (by omega) (by omega)]
  exact branches_l0 h m (by omega) _ (pos (L Fi) m + 1) (by omega) (pos_succ_ge _ _ c) rfl
 ·rw [if_neg c, if_neg c]
  exact ev_pos (by omega) (ev_some rfl)
theorem one_L : L (⟨#[49]⟩ : ByteArray) = [49] := rfl
theorem nought_L : L (⟨#[48]⟩ : ByteArray) = [48] := rfl
theorem node_eq (h : Fm Lt Mo Fi Rs n) (i : Nat) (hi : i < n) : impl_Sieve_node.f Lt Mo Fi Rs keep (i : Int) = some ((onesB (L Mo) (i + 1) : Nat) : Int) := by
 unfold impl_Sieve_node.f
 have hf := h.mn
 have hs := size_L Mo
 have hfew := h.few
 rw [w64 (by omega) (by omega), if_pos (by omega), if_pos (by omega), count_L one_L]
 simp only [Option.bind_some]
 rw [L_extract]
 have : ((i : Int) + 1).toNat = i + 1 := by omega
 rw [this, List.drop_zero, onesB_count]
theorem noughts : ∀ (l : List UInt8), l.all bitc = true → ∀ i, i ≤ l.length → (l.take i).count 48 = i - onesB l i := by
 intro l hl i hi
 have h1 : ∀ (l : List UInt8), l.all bitc = true → l.count 48 + l.countP (· == 49) = l.length := by
  intro l
  induction l with
  | nil => intro _; rfl
  | cons c l ih =>
   intro h
   rw [List.all_cons, Bool.and_eq_true] at h
   have := ih h.2
   have hc : c = 48 ∨ c = 49 := by simpa [bitc] using h.1
   rcases hc with rfl | rfl <;> simp <;> omega
 have h2 := h1 (l.take i) (by
  rw [List.all_eq_true] at hl ⊢
  exact fun x hx => hl x (List.mem_of_mem_take hx))
 rw [List.length_take, Nat.min_eq_left hi] at h2
 unfold onesB
 omega
theorem rest_eq (h : Fm Lt Mo Fi Rs n) (i : Nat) (hi : i < n) (h48 : (L Mo).getD i 0 = 48) : impl_Sieve_rest.f Lt Mo Fi Rs keep (i : Int) = some (Rs.getD (i - onesB (L Mo) i) ByteArray.empty) ∧ i - onesB (L Mo) i < Rs.length := by
 have hf := h.mn
 have hs := size_L Mo
 have hfew := h.few
 have hlt : i - onesB (L Mo) i < Rs.length := by
  rw [h.rs]
  have h1 := noughts (L Mo) h.mb i (by omega)
  have h2 := noughts (L Mo) h.mb n (by omega)
  have h3 := noughts (L Mo) h.mb (i + 1) (by omega)
  rw [← h1, ← h2]
  have e : (L Mo).take (i + 1) = (L Mo).take i ++ [48] := by
   rw [List.take_succ_eq_append_getElem (by omega)]
   congr 1
   rw [getD_lt _ (by omega)] at h48
   rw [h48]
  have h4 : ((L Mo).take (i + 1)).count 48 = ((L Mo).take i).count 48 + 1 := by rw [e, List.count_append]; rfl
  have h5 : ((L Mo).take (i + 1)).count 48 ≤ ((L Mo).take n).count 48 := (List.IsPrefix.sublist (List.take_prefix_take_left (by omega))).count_le 48
  omega
 refine ⟨?_, hlt⟩
 unfold impl_Sieve_rest.f
 rw [if_pos (by omega), if_pos (by omega), count_L nought_L]
 simp only [Option.bind_some]
 rw [L_extract]
 have : ((i : Int)).toNat = i := by omega
 rw [this, List.drop_zero, noughts (L Mo) h.mb i (by omega), if_pos (by omega), if_pos (by omega)]
 rfl
theorem complete_eq (h : Fm Lt Mo Fi Rs n) (i : Nat) (hi : i < n) (h48 : (L Mo).getD i 0 = 48) : impl_Sieve_complete.f Lt Mo Fi Rs keep (i : Int) = some (decide ((L Lt).getD i 0 = 45 ∨ ((L (Rs.getD (i - onesB (L Mo) i) ByteArray.empty)).length : Int) < keep)) := by
 unfold impl_Sieve_complete.f
 have hf := h.ln
 have hs := size_L Lt
 rw [if_pos (by omega), if_pos (by omega)]
 have hb : bt Lt (i : Int) = 45 ↔ (L Lt).getD i 0 = 45 := bt_is (n := 45) (by omega)
 by_cases c : (L Lt).getD i 0 = 45
 ·rw [if_pos (hb.2 c), decide_eq_true (.inl c)]
 ·rw [if_neg (fun q => c (hb.1 q)), (rest_eq h i hi h48).1]
  simp only [Option.bind_some]
  rw [size_L]
  congr 1
  rw [Bool.eq_iff_iff, decide_eq_true_eq, decide_eq_true_eq]
  exact ⟨.inr, fun q => q.elim (fun q => absurd q c) id⟩
end
theorem cut_one (a : ByteArray) {i : Nat} (hi : i < (L a).length) : L (a.extract ((i : Int)).toNat ((i : Int) + 1).toNat) = [(L a).getD i 0] := by
 rw [L_extract, getD_lt _ hi]
 have e1 : ((i : Int)).toNat = i := by omega
 have e2 : ((i : Int) + 1).toNat = i + 1 := by omega
 rw [e1, e2, List.drop_take, List.drop_eq_getElem_cons hi]
 have : i + 1 - i = 1 := by omega
 rw [this]; rfl
theorem cut_one_size (a : ByteArray) {i : Nat} (hi : i < (L a).length) : (a.extract ((i : Int)).toNat ((i : Int) + 1).toNat).size = 1 := by rw [size_L, cut_one a hi]; rfl
section
variable {Lt Mo Fi : ByteArray} {Rs : List ByteArray} {keep : Int} {n : Nat}
def cost (Mo Fi : ByteArray) (t a b : Nat) : Nat := rsum (wgt (L Mo) (L Fi) t) a b
theorem cost_leaf {t a b : Nat} (h : a < b) (h48 : (L Mo).getD a 0 = 48) : cost Mo Fi (t + 1) a b = 1 + cost Mo Fi (t + 1) (a + 1) b := by
 unfold cost
 rw [rsum_step _ h]
 congr 1
 show (if (L Mo).getD a 0 = 49 then _ else 1) = 1
 rw [if_neg (by rw [h48]; decide)]
theorem cost_node {t a b : Nat} (h : a < b) (h49 : (L Mo).getD a 0 = 49) : cost Mo Fi (t + 1) a b = cost Mo Fi t (pos (L Fi) (onesB (L Mo) (a + 1))) (pos (L Fi) (onesB (L Mo) (a + 1) + 1)) + cost Mo Fi (t + 1) (a + 1) b := by
 unfold cost
 rw [rsum_step _ h]
 congr 1
 show (if (L Mo).getD a 0 = 49 then _ else 1) = _
 rw [if_pos h49]
def Ts (l : List S93) : Prop := ∀ s ∈ l, s.f0.size ≤ 2000000
theorem Ts.snoc {l : List S93} (h : Ts l) {s : S93} (hs : s.f0.size ≤ 2000000) : Ts (l ++ [s]) := fun x hx => by
 rcases List.mem_append.1 hx with hx | hx
 ·exact h x hx
 ·rw [List.mem_singleton.1 hx]; exact hs
def PartsP (Lt Mo Fi : ByteArray) (Rs : List ByteArray) (keep : Int) (n t : Nat) : Prop :=
 ∀ (m : Nat) (way : ByteArray) (out : List S93), m ≤ 1000000 → pos (L Fi) m < n → n - pos (L Fi) m < t → way.size ≤ 1000 → out.length + cost Mo Fi t (pos (L Fi) m) (pos (L Fi) (m + 1)) ≤ 1000000 → Ts out →
  ∃ r, Ev (fun k => impl_Sieve_parts.f k Lt Mo Fi Rs keep (m : Int) way out) r ∧ (r.2 = true → r.1.length ≤ out.length + cost Mo Fi t (pos (L Fi) m) (pos (L Fi) (m + 1)) ∧ Ts r.1)
theorem parts_l0 (h : Fm Lt Mo Fi Rs n) (t tq : Nat) (hto : tq ≤ n) (hP : PartsP Lt Mo Fi Rs keep n t) (way : ByteArray) (hw : way.size ≤ 5) (d : Nat) : ∀ (i : Nat) (out : List S93), i ≤ tq → tq - i = d → n - i ≤ t → out.length + cost Mo Fi (t + 1) i tq ≤ 1000000 → Ts out →
  ∃ r, Ev (fun k => impl_Sieve_parts.l0 k way out (tq : Int) (i : Int) Lt Mo Fi Rs keep) r ∧ (r.2 = true → r.1.length ≤ out.length + cost Mo Fi (t + 1) i tq ∧ Ts r.1) := by
 have hfew := h.few
 have s1 := size_L Lt
 have s2 := size_L Mo
 have h1l := h.ln
 have h2l := h.mn
 induction d with
 | zero =>
  intro i out g1 g2 g3 g4 g5
  refine ⟨(out, true), ev_succ ?_, fun _ => ⟨by show out.length ≤ _; omega, g5⟩⟩
  simp only [impl_Sieve_parts.l0]
  exact ev_neg (by omega) (ev_some rfl)
 | succ d ih =>
  intro i out g1 g2 g3 g4 g5
  have hlt : i < tq := by omega
  have hin : i < n := by omega
  have hw64 : ∀ _ : Unit, wrap64 ((i : Int) + 1) = ((i + 1 : Nat) : Int) := fun _ => by rw [w64 (by omega) (by omega)]; omega
  have key : ∀ way' : ByteArray, way'.size ≤ 6 → ∃ r, Ev (fun k => impl_Sieve_parts.j1 k way out (tq : Int) (i : Int) way' Lt Mo Fi Rs keep) r ∧ (r.2 = true → r.1.length ≤ out.length + cost Mo Fi (t + 1) i tq ∧ Ts r.1) := by
   intro way' hw'
   rcases bit_or h.mb (show i < (L Mo).length by omega) with h48 | h49
   ·have hc := cost_leaf (Mo := Mo) (Fi := Fi) (t := t) hlt h48
    have hb : bt Mo (i : Int) = 48 := (bt_is (n := 48) (by omega)).2 h48
    obtain ⟨hr1, hr2⟩ := rest_eq (keep := keep) h i hin h48
    have hrs := h.sz _ (show Rs.getD (i - onesB (L Mo) i) ByteArray.empty ∈ Rs by rw [getD_lt _ hr2]; exact List.getElem_mem _)
    have hcm := complete_eq (keep := keep) h i hin h48
    generalize Rs.getD (i - onesB (L Mo) i) ByteArray.empty = rv at hr1 hrs hcm
    generalize decide ((L Lt).getD i 0 = 45 ∨ ((L rv).length : Int) < keep) = cv at hcm
    obtain ⟨r, hr, hb2⟩ := ih (i + 1) (out ++ [⟨way' ++ rv, cv⟩]) (by omega) (by omega) (by omega) (by rw [List.length_append]; simp only [List.length_cons, List.length_nil]; omega) (g5.snoc (by show (way' ++ rv).size ≤ _; rw [ByteArray.size_append]; omega))
    refine ⟨r, ev_succ ?_, fun q => ⟨by have := (hb2 q).1; rw [List.length_append] at this; simp only [List.length_cons, List.length_nil] at this; omega, (hb2 q).2⟩⟩
    simp only [impl_Sieve_parts.j1]
    refine ev_pos (by omega) (ev_pos (by omega) (ev_pos hb ?_))
    simp only [hr1, Option.bind_some]
    refine ev_pos (by omega) ?_
    simp only [hcm, Option.bind_some]
    refine ev_pos (by omega) ?_
    rw [hw64 ()]; exact hr
   ·have hc := cost_node (Mo := Mo) (Fi := Fi) (t := t) hlt h49
    have hb : ¬ bt Mo (i : Int) = 48 := fun q => by
     have := (bt_is (n := 48) (by omega)).1 q
     rw [h49] at this; exact absurd this (by decide)
    have hno : ∀ b : Bool, b = true → Ev (fun k => impl_Sieve_parts.j2 k way out (tq : Int) (i : Int) way' b Lt Mo Fi Rs keep) ([], false) := by
     intro b hb
     refine ev_succ ?_
     simp only [impl_Sieve_parts.j2]
     exact ev_pos hb (ev_some rfl)
    have hone := onesB_le (L Mo) (i + 1)
    have hbr := branches_ev (keep := keep) h (onesB (L Mo) (i + 1)) (by omega)
    have hno' : ∀ b : Bool, b = true → ∃ r, Ev (fun k => impl_Sieve_parts.j2 k way out (tq : Int) (i : Int) way' b Lt Mo Fi Rs keep) r ∧ (r.2 = true → r.1.length ≤ out.length + cost Mo Fi (t + 1) i tq ∧ Ts r.1) := fun b hb => ⟨_, hno b hb, fun q => by cases q⟩
    have hj : ∃ r, Ev (fun k => (if (brI (L Fi) (onesB (L Mo) (i + 1))).1 ≤ (i : Int) then (impl_Sieve_parts.j2 k way out (tq : Int) (i : Int) way' true Lt Mo Fi Rs keep) else (if (i : Int) < (Lt.size : Int) then (impl_Sieve_parts.j2 k way out (tq : Int) (i : Int) way' ((bt Lt (i : Int)) == 45) Lt Mo Fi Rs keep) else none))) r ∧ (r.2 = true → r.1.length ≤ out.length + cost Mo Fi (t + 1) i tq ∧ Ts r.1) := by
     by_cases c : (brI (L Fi) (onesB (L Mo) (i + 1))).1 ≤ (i : Int)
     ·obtain ⟨r, h1, h2⟩ := hno' true rfl
      exact ⟨r, ev_pos c h1, h2⟩
     ·by_cases c2 : ((bt Lt (i : Int)) == 45) = true
      ·obtain ⟨r, h1, h2⟩ := hno' _ c2
       exact ⟨r, ev_neg c (ev_pos (by omega) h1), h2⟩
      ·have hpos : pos (L Fi) (onesB (L Mo) (i + 1)) < n := by
        by_cases z : pos (L Fi) (onesB (L Mo) (i + 1)) < (L Fi).length
        ·have := h.fn; omega
        ·unfold brI at c
         rw [if_neg z] at c
         exact absurd (show (0 : Int) ≤ (i : Int) by omega) c
       have hgt : i < pos (L Fi) (onesB (L Mo) (i + 1)) := by
        unfold brI at c
        rw [if_pos (by have := h.fn; omega)] at c
        simp only at c; omega
       obtain ⟨r1, e1, b1⟩ := hP (onesB (L Mo) (i + 1)) way' out (by omega) hpos (by omega) (by omega) (by omega) g5
       have hfin : ∃ r, Ev (fun k => impl_Sieve_parts.j2 k way out (tq : Int) (i : Int) way' ((bt Lt (i : Int)) == 45) Lt Mo Fi Rs keep) r ∧ (r.2 = true → r.1.length ≤ out.length + cost Mo Fi (t + 1) i tq ∧ Ts r.1) := by
        by_cases q : r1.2 = true
        ·obtain ⟨b1', b1''⟩ := b1 q
         obtain ⟨r, hr, hb2⟩ := ih (i + 1) r1.1 (by omega) (by omega) (by omega) (by omega) b1''
         refine ⟨r, ev_succ ?_, fun q2 => ⟨by have := (hb2 q2).1; omega, (hb2 q2).2⟩⟩
         simp only [impl_Sieve_parts.j2]
         refine ev_neg c2 (ev_bindc (node_eq h i hin) (Ev.bind e1 (ev_pos q ?_)))
         rw [hw64 ()]; exact hr
        ·refine ⟨([], false), ev_succ ?_, fun q2 => by cases q2⟩
         simp only [impl_Sieve_parts.j2]
         exact ev_neg c2 (ev_bindc (node_eq h i hin) (Ev.bind e1 (ev_neg q (ev_some rfl))))
       obtain ⟨r, h1, h2⟩ := hfin
       exact ⟨r, ev_neg c (ev_pos (by omega) h1), h2⟩
    obtain ⟨r, h1, h2⟩ := hj
    refine ⟨r, ev_succ ?_, h2⟩
    simp only [impl_Sieve_parts.j1]
    exact ev_pos (by omega) (ev_pos (by omega) (ev_neg hb (ev_bindc (node_eq h i hin) (Ev.bind hbr h1))))
  by_cases c : bt Lt (i : Int) = 45
  ·obtain ⟨r, h1, h2⟩ := key way (by omega)
   refine ⟨r, ev_succ ?_, h2⟩
   simp only [impl_Sieve_parts.l0]
   exact ev_pos (by omega) (ev_pos (by omega) (ev_pos (by omega) (ev_pos c h1)))
  ·have hz := cut_one_size Lt (show i < (L Lt).length by omega)
   have hw64' : ∀ _ : Unit, wrap64 ((i : Int) + 1) = (i : Int) + 1 := fun _ => w64 (by omega) (by omega)
   obtain ⟨r, h1, h2⟩ := key (way ++ Lt.extract ((i : Int)).toNat ((i : Int) + 1).toNat) (by rw [ByteArray.size_append]; omega)
   refine ⟨r, ev_succ ?_, h2⟩
   simp only [impl_Sieve_parts.l0]
   rw [hw64' ()]
   exact ev_pos (by omega) (ev_pos (by omega) (ev_pos (by omega) (ev_neg c (ev_pos (by omega) (ev_pos (by omega) (ev_pos (by omega) h1))))))
theorem parts_P (h : Fm Lt Mo Fi Rs n) : ∀ t, PartsP Lt Mo Fi Rs keep n t := by
 have hfew := h.few
 intro t
 induction t with
 | zero => intro m way out _ g1 g2; omega
 | succ t ih =>
  intro m way out hm g1 g2 g3 g4 g5
  have hbr := branches_ev (keep := keep) h m hm
  unfold brI at hbr
  rw [if_pos (by have := h.fn; omega)] at hbr
  by_cases c : (way.size : Int) > 5
  ·refine ⟨([], false), ev_succ ?_, fun q => by cases q⟩
   simp only [impl_Sieve_parts.f]
   exact ev_pos c (ev_some rfl)
  ·have hto : pos (L Fi) (m + 1) ≤ n := by have := pos_le (L Fi) (m + 1); have := h.fn; omega
   have hle := pos_mono (L Fi) (show m ≤ m + 1 by omega)
   obtain ⟨r, e1, b1⟩ := parts_l0 h t (pos (L Fi) (m + 1)) hto ih way (by omega) _ (pos (L Fi) m) out hle rfl (by omega) g4 g5
   refine ⟨r, ev_succ ?_, b1⟩
   simp only [impl_Sieve_parts.f]
   exact ev_neg c (Ev.bind hbr e1)
theorem parts_any (h : Fm Lt Mo Fi Rs n) : ∃ r, Ev (fun k => impl_Sieve_parts.f k Lt Mo Fi Rs keep 0 (⟨#[]⟩ : ByteArray) []) r ∧ (r.2 = true → r.1.length ≤ 1000000 ∧ Ts r.1) := by
 have hfew := h.few
 by_cases c : pos (L Fi) 0 < n
 ·have hcost : cost Mo Fi (n + 1) (pos (L Fi) 0) (pos (L Fi) (0 + 1)) ≤ (n + 1) * n := wgt_all _ _ h.mn h.fn _ _ _ (by have := pos_le (L Fi) (0 + 1); have := h.fn; omega)
  have h400 : (n + 1) * n ≤ 401 * 400 := Nat.mul_le_mul (by omega) (by omega)
  obtain ⟨r, e, b⟩ := parts_P (keep := keep) h (n + 1) 0 (⟨#[]⟩ : ByteArray) [] (by omega) c (by omega) (by show 0 ≤ 1000; omega) (by simp only [List.length_nil]; omega) (fun s hs => by cases hs)
  exact ⟨r, e, fun q => ⟨by have := (b q).1; simp only [List.length_nil] at this; omega, (b q).2⟩⟩
 ·refine ⟨([], true), ev_succ ?_, fun _ => ⟨by simp, fun s hs => by cases hs⟩⟩
  have hbr := branches_ev (keep := keep) h 0 (by omega)
  unfold brI at hbr
  rw [if_neg (by have := h.fn; omega)] at hbr
  simp only [impl_Sieve_parts.f]
  refine ev_neg (by show ¬ ((0 : Nat) : Int) > 5; omega) (Ev.bind hbr (ev_succ ?_))
  simp only [impl_Sieve_parts.l0]
  exact ev_neg (by omega) (ev_some rfl)
end
structure Enc (K : List Key) (X : List Nd) (keep : Nat) (Lt Mo Fi : ByteArray) (Rs : List ByteArray) : Prop where
 lv : Lvl K X
 few : K.length ≤ 24
 fewb : (brs X).length ≤ 400
 kp : keep ≤ 5
 l : L Lt = encL X
 m : L Mo = encM X
 f : L Fi = encF X
 r : LL Rs = encR keep X
theorem fst1_bits (n : Nat) : (fst1 n).all bitc = true := by
 cases n with
 | zero => rfl
 | succ n =>
  show (49 :: List.replicate n 48).all bitc = true
  rw [List.all_cons, List.all_replicate]
  simp [bitc]
section
variable {K : List Key} {X : List Nd} {keep : Nat} {Lt Mo Fi : ByteArray} {Rs : List ByteArray}
theorem encR_short (keep : Nat) (X : List Nd) (hX : ∀ x ∈ X, NOk x) : ∀ s ∈ encR keep X, s.length ≤ 5 := by
 intro s hs
 unfold encR at hs
 obtain ⟨b, hb, rfl⟩ := List.mem_map.1 hs
 obtain ⟨x, hx, h1, h2⟩ := mem_brs.1 (List.mem_filter.1 hb).1
 have hk := (hX x hx).ok _ ((runs_sub h1).subset (headD_mem (runs_ne_nil _ _ h1)))
 unfold rest
 rw [List.length_take, List.length_drop]
 have := hk.len
 omega
theorem Enc.fm (h : Enc K X keep Lt Mo Fi Rs) : Fm Lt Mo Fi Rs (brs X).length where
 ln := by rw [h.l, encL_length]
 mn := by rw [h.m, encM_length]
 fn := by rw [h.f, encF_length]
 few := h.fewb
 mb := by
  rw [h.m]; unfold encM
  rw [List.all_map, List.all_eq_true]
  intro b _
  simp only [Function.comp]
  unfold bit
  split <;> rfl
 fb := by
  rw [h.f]; unfold encF
  rw [List.all_flatMap, List.all_eq_true]
  intro x _
  exact fst1_bits _
 rs := by
  rw [← LL_length, h.r, h.m]
  rw [zeros_enc X (Nat.le_refl _), List.take_length]
  unfold encR
  rw [List.length_map, List.countP_eq_length_filter]
 sz := by
  intro s hs
  have h1 : L s ∈ LL Rs := List.mem_map_of_mem hs
  rw [h.r] at h1
  have := encR_short keep X (fun x hx => (h.lv.nodes x hx).2) _ h1
  rw [size_L]; omega
theorem Enc.pos (h : Enc K X keep Lt Mo Fi Rs) (h0 : K ≠ []) {m : Nat} (hm : m ≤ X.length) : Trie.pos (L Fi) m = off X m := by
 rw [h.f]; exact pos_encF X (h.lv.full h0) m hm
theorem off_le (X : List Nd) (m : Nat) : off X m ≤ (brs X).length := by
 have h1 : off X m ≤ off X (max m X.length) := off_mono X (Nat.le_max_left _ _)
 have h2 : off X (max m X.length) = (brs X).length := by
  unfold off
  rw [List.take_of_length_le (Nat.le_max_right _ _)]
 omega
theorem Enc.br (h : Enc K X keep Lt Mo Fi Rs) (h0 : K ≠ []) {m : Nat} (hm : m < X.length) : brI (L Fi) m = (((off X m : Nat) : Int), ((off X (m + 1) : Nat) : Int)) ∧ off X m < (brs X).length := by
 have h1 := off_succ hm
 have h2 := h.lv.full h0 X[m] (List.getElem_mem hm)
 have h3 := off_le X (m + 1)
 refine ⟨?_, by omega⟩
 unfold brI
 rw [h.pos h0 (by omega), h.pos h0 (by omega), if_pos (by have := h.fm.fn; omega)]
noncomputable def pt (K : List Key) (keep : Nat) (k : Key) : S93 := ⟨mkS (Trie.hd K keep k), cpl K keep k⟩
theorem LL_at {l : List ByteArray} {i : Nat} {s : Key} (h : (LL l)[i]? = some s) : L (l.getD i ByteArray.empty) = s := by
 rw [LL_getD, List.getD_eq_getElem?_getD, h]; rfl
def EncP (K : List Key) (X : List Nd) (keep : Nat) (Lt Mo Fi : ByteArray) (Rs : List ByteArray) (t : Nat) : Prop :=
 ∀ (m : Nat) (hm : m < X.length) (way : ByteArray) (out : List S93), X.length - m ≤ t → (∀ k ∈ X[m].1, L way = k.take X[m].2) → out.length + X[m].1.length ≤ 1000000 →
  Ev (fun k => impl_Sieve_parts.f k Lt Mo Fi Rs (keep : Int) (m : Int) way out) (out ++ X[m].1.map (pt K keep), true)
theorem enc_l0 (h : Enc K X keep Lt Mo Fi Rs) (h0 : K ≠ []) (t : Nat) (hP : EncP K X keep Lt Mo Fi Rs t) {m : Nat} (hm : m < X.length) (ht : X.length - m ≤ t + 1) (way : ByteArray) (hway : ∀ k ∈ X[m].1, L way = k.take X[m].2) (d : Nat) :
  ∀ (j : Nat) (out : List S93), j ≤ (runs X[m].2 X[m].1).length → (runs X[m].2 X[m].1).length - j = d → out.length + (((runs X[m].2 X[m].1).drop j).flatten).length ≤ 1000000 →
   Ev (fun k => impl_Sieve_parts.l0 k way out ((off X (m + 1) : Nat) : Int) ((off X m + j : Nat) : Int) Lt Mo Fi Rs (keep : Int)) (out ++ (((runs X[m].2 X[m].1).drop j).flatten).map (pt K keep), true) := by
 have F := h.fm
 have hfew := F.few
 have hoff := off_succ hm
 have hle := off_le X (m + 1)
 have s1 := size_L Lt
 have s2 := size_L Mo
 have l1 := F.ln
 have l2 := F.mn
 have hd5 := (h.lv.nodes X[m] (List.getElem_mem hm)).2.deep
 induction d with
 | zero =>
  intro j out g1 g2 g3
  refine ev_succ ?_
  simp only [impl_Sieve_parts.l0]
  refine ev_neg (by omega) (ev_some ?_)
  rw [List.drop_eq_nil_of_le (by omega)]; simp
 | succ d ih =>
  intro j out g1 g2 g3
  have hj : j < (runs X[m].2 X[m].1).length := by omega
  have hi : off X m + j < (brs X).length := by omega
  have hdrop : (runs X[m].2 X[m].1).drop j = (runs X[m].2 X[m].1)[j] :: (runs X[m].2 X[m].1).drop (j + 1) := List.drop_eq_getElem_cons hj
  rw [hdrop, List.flatten_cons, List.length_append] at g3
  rw [hdrop, List.flatten_cons, List.map_append]
  have hw64 : ∀ _ : Unit, wrap64 (((off X m + j : Nat) : Int) + 1) = ((off X m + (j + 1) : Nat) : Int) := fun _ => by rw [w64 (by omega) (by omega)]; omega
  have hw64' : ∀ _ : Unit, wrap64 (((off X m + j : Nat) : Int) + 1) = ((off X m + j : Nat) : Int) + 1 := fun _ => w64 (by omega) (by omega)
  have hbL : bt Lt ((off X m + j : Nat) : Int) = 45 ↔ (L Lt).getD (off X m + j) 0 = 45 := bt_is (n := 45) (by omega)
  have hbM : bt Mo ((off X m + j : Nat) : Int) = 48 ↔ (L Mo).getD (off X m + j) 0 = 48 := bt_is (n := 48) (by omega)
  have lets : ∀ r, (∀ way' : ByteArray, (L way' = L way ++ (if (L Lt).getD (off X m + j) 0 = 45 then [] else [(L Lt).getD (off X m + j) 0])) → way'.size ≤ 1000 → Ev (fun k => impl_Sieve_parts.j1 k way out ((off X (m + 1) : Nat) : Int) ((off X m + j : Nat) : Int) way' Lt Mo Fi Rs (keep : Int)) r) → way.size ≤ 100 →
    Ev (fun k => impl_Sieve_parts.l0 k way out ((off X (m + 1) : Nat) : Int) ((off X m + j : Nat) : Int) Lt Mo Fi Rs (keep : Int)) r := by
   intro r hr hws
   refine ev_succ ?_
   simp only [impl_Sieve_parts.l0]
   refine ev_pos (by omega) (ev_pos (by omega) (ev_pos (by omega) ?_))
   by_cases c : (L Lt).getD (off X m + j) 0 = 45
   ·refine ev_pos (hbL.2 c) (hr way ?_ (by omega))
    rw [if_pos c, List.append_nil]
   ·have hz := cut_one_size Lt (show off X m + j < (L Lt).length by omega)
    have hcut := cut_one Lt (show off X m + j < (L Lt).length by omega)
    rw [hw64' ()]
    refine ev_neg (fun q => c (hbL.1 q)) (ev_pos (by omega) (ev_pos (by omega) (ev_pos (by omega) (hr _ ?_ (by rw [ByteArray.size_append]; omega)))))
    rw [if_neg c, L_append, hcut]
  by_cases hc : cont (runs X[m].2 X[m].1)[j] = true
  ·obtain ⟨hlt, hX, hmc, hgt, hM, hk⟩ := branch_node h.lv hm hj hc
   have hne := runs_ne_nil _ _ (List.getElem_mem hj)
   obtain ⟨k0, hk0⟩ : ∃ k0, k0 ∈ (runs X[m].2 X[m].1)[j] := ⟨_, headD_mem hne⟩
   have hk0x := (runs_sub (List.getElem_mem hj)).subset hk0
   have hwl : way.size ≤ 5 := by
    rw [size_L, hway k0 hk0x, List.length_take]; omega
   have hbr := branches_ev (keep := (keep : Int)) F (onesB (L Mo) (off X m + j + 1)) (by have := onesB_le (L Mo) (off X m + j + 1); omega)
   have hno := node_eq (keep := (keep : Int)) F (off X m + j) hi
   have hbx := (h.br h0 hlt).1
   rw [← h.m] at hM
   rw [h.m] at hno hbr
   rw [hbx] at hbr
   refine lets _ (fun way' e hz => ev_succ ?_) (by omega)
   simp only [impl_Sieve_parts.j1]
   refine ev_pos (by omega) (ev_pos (by omega) (ev_neg (fun q => ?_) (ev_bindc hno (Ev.bind hbr (ev_neg (by simp only; omega) (ev_pos (by omega) (ev_succ ?_)))))))
   ·rw [hbM.1 q] at hM; exact absurd hM (by decide)
   ·simp only [impl_Sieve_parts.j2]
    refine ev_neg (fun q => ?_) (ev_bindc hno ?_)
    ·have q2 := hbL.1 (by simpa using q)
     rw [h.l] at q2
     rw [(hk k0 hk0).1] at q2
     exact (hk k0 hk0).2.1 q2
    ·have hch : ∀ k ∈ (X[onesB (encM X) (off X m + j + 1)]).1, L way' = k.take (X[onesB (encM X) (off X m + j + 1)]).2 := by
      intro k hkk
      rw [hX] at hkk ⊢
      simp only at hkk ⊢
      have hkx := (runs_sub (List.getElem_mem hj)).subset hkk
      obtain ⟨q1, q2, q3⟩ := hk k hkk
      rw [e, h.l, q1, if_neg q2, hway k hkx, lab_lt q3, ← List.take_succ_eq_append_getElem q3]
     have hrec := hP (onesB (encM X) (off X m + j + 1)) hlt way' out (by omega) hch (by rw [hX]; simp only; omega)
     rw [hX] at hrec
     simp only at hrec
     refine Ev.bind hrec (ev_pos rfl ?_)
     rw [hw64 ()]
     refine ev_eq (ih (j + 1) (out ++ (runs X[m].2 X[m].1)[j].map (pt K keep)) (by omega) (by omega) (by rw [List.length_append, List.length_map]; omega)) ?_
     rw [List.append_assoc]
  ·have hc' : cont (runs X[m].2 X[m].1)[j] = false := by simpa using hc
   obtain ⟨k, hg, hkx, hdep, hL, hM, hR⟩ := branch_leaf h.lv hm hj hc'
   obtain ⟨hkK, hko, _, hkl⟩ := h.lv.key hm hkx
   have hwl : way.size ≤ 5 := by
    rw [size_L, hway k hkx, List.length_take]; omega
   have hR := LL_at (l := Rs) (by rw [h.r]; exact hR keep)
   rw [← h.m] at hR hM
   rw [← h.l] at hL
   have hr := (rest_eq (keep := (keep : Int)) F (off X m + j) hi hM).1
   have hcm := complete_eq (keep := (keep : Int)) F (off X m + j) hi hM
   generalize Rs.getD (off X m + j - onesB (L Mo) (off X m + j)) ByteArray.empty = rv at hR hr hcm
   have hcv : decide ((L Lt).getD (off X m + j) 0 = 45 ∨ ((L rv).length : Int) < (keep : Int)) = cpl K keep k := by
    have h1 := leaf_all hko hdep hkl keep
    rw [hL, hR]
    rw [Bool.eq_iff_iff, decide_eq_true_eq, ← h1]
    constructor
    ·rintro (q | q)
     ·exact .inl q
     ·exact .inr (by omega)
    ·rintro (q | q)
     ·exact .inl q
     ·exact .inr (by omega)
   rw [hcv] at hcm
   have hrvs : rv.size ≤ 5 := by
    rw [size_L, hR, List.length_take, List.length_drop]; have := hko.len; omega
   refine lets _ (fun way' e hz => ev_succ ?_) (by omega)
   simp only [impl_Sieve_parts.j1]
   refine ev_pos (by omega) (ev_pos (by omega) (ev_pos (hbM.2 hM) ?_))
   simp only [hr, Option.bind_some]
   refine ev_pos (by omega) ?_
   simp only [hcm, Option.bind_some]
   rw [hg] at g3 ⊢
   refine ev_pos (by simp only [List.length_cons, List.length_nil] at g3; omega) ?_
   rw [hw64 ()]
   have hpt : (⟨way' ++ rv, cpl K keep k⟩ : S93) = pt K keep k := by
    unfold pt
    congr 1
    apply L_inj
    rw [L_mkS, L_append, e, hL, hR, hway k hkx]
    exact leaf_text hko hdep hkl keep
   rw [hpt]
   refine ev_eq (ih (j + 1) (out ++ [pt K keep k]) (by omega) (by omega) (by rw [List.length_append]; simp only [List.length_cons, List.length_nil] at g3 ⊢; omega)) ?_
   rw [List.append_assoc]; rfl
theorem enc_P (h : Enc K X keep Lt Mo Fi Rs) (h0 : K ≠ []) : ∀ t, EncP K X keep Lt Mo Fi Rs t := by
 intro t
 induction t with
 | zero => intro m hm way out g; omega
 | succ t ih =>
  intro m hm way out g1 g2 g3
  have hfl := runs_flatten X[m].2 X[m].1
  have hd5 := (h.lv.nodes X[m] (List.getElem_mem hm)).2.deep
  have hne : X[m].1 ≠ [] := by
   have := h.lv.full h0 X[m] (List.getElem_mem hm)
   intro q
   rw [q, runs_nil] at this
   simp at this
  obtain ⟨k0, hk0⟩ := List.exists_mem_of_ne_nil _ hne
  have hwl : way.size ≤ 5 := by
   rw [size_L, g2 k0 hk0, List.length_take]; omega
  have hmX : X.length ≤ 1000 := by
   have := size_eq h.lv.eq
   have := h.fewb
   simp only at *
   omega
  have hbr := branches_ev (keep := (keep : Int)) h.fm m (by omega)
  rw [(h.br h0 hm).1] at hbr
  have := enc_l0 h h0 t ih hm g1 way g2 _ 0 out (Nat.zero_le _) rfl (by rw [List.drop_zero, hfl]; exact g3)
  rw [List.drop_zero, hfl] at this
  refine ev_succ ?_
  simp only [impl_Sieve_parts.f]
  exact ev_neg (by omega) (Ev.bind hbr this)
theorem parts_enc (h : Enc K X keep Lt Mo Fi Rs) : Ev (fun k => impl_Sieve_parts.f k Lt Mo Fi Rs (keep : Int) 0 (⟨#[]⟩ : ByteArray) []) (K.map (pt K keep), true) := by
 by_cases h0 : K = []
 ·subst h0
  have hX := lvl_nil h.lv
  subst hX
  have hz : (brs [(([] : List Key), 0)]).length = 0 := by rw [brs_nil]; rfl
  have F := h.fm
  have hbr := branches_ev (keep := (keep : Int)) F 0 (by omega)
  unfold brI at hbr
  rw [if_neg (by have := F.fn; omega)] at hbr
  refine ev_succ ?_
  simp only [impl_Sieve_parts.f]
  refine ev_neg (by show ¬ ((0 : Nat) : Int) > 5; omega) (Ev.bind hbr (ev_succ ?_))
  simp only [impl_Sieve_parts.l0]
  exact ev_neg (by omega) (ev_some rfl)
 ·have hX0 := h.lv.pos_root
  obtain ⟨hlt, hX⟩ := List.getElem?_eq_some_iff.1 hX0
  have := enc_P h h0 X.length 0 hlt (⟨#[]⟩ : ByteArray) [] (by omega) (fun k _ => by rw [hX]; rfl) (by rw [hX]; have := h.few; simp only [List.length_nil]; omega)
  rw [hX] at this
  simpa using this
end
theorem sieveV_few (K : List Key) (a : Int) : (sieveV K a).2.2.2.1.length ≤ 2000000 := by
 unfold sieveV
 split
 ·rename_i h
  have hk := keysB_iff.1 h.1
  obtain ⟨h1, h2⟩ := lvls_is hk
  have hb := brs_few h1 hk.few h2
  unfold encT
  simp only [List.length_map]
  unfold encR
  rw [List.length_map]
  have := List.length_filter_le leaf (brs (lvls K))
  omega
 ·simp
theorem ltSieve_ev (t : SvT) (hf : t.2.2.2.1.length ≤ 2000000) : Ev (fun k => laws_ltSieve.f k t.1 t.2.1 t.2.2.1 t.2.2.2.1 t.2.2.2.2.1 t.1 t.2.1 t.2.2.1 t.2.2.2.1 t.2.2.2.2.1) true := by
 unfold laws_ltSieve.f
 exact ev_pos rfl (ev_pos rfl (ev_pos rfl (ev_pos rfl (Ev.bind (same_ev _ hf) (ev_some rfl)))))
theorem ev_unique {α : Type} {g : Nat → Option α} {a b : α} (ha : Ev g a) (hb : Ev g b) : a = b := by
 obtain ⟨K, h1⟩ := ha
 obtain ⟨K', h2⟩ := hb
 have e1 := h1 (K + K') (by omega)
 have e2 := h2 (K + K') (by omega)
 rw [e1] at e2
 injection e2
theorem bfs_unique {q X Y : List Nd} (h : Bfs q X) (g : Bfs q Y) : X = Y := by
 induction h generalizing Y with
 | nil => cases g; rfl
 | cons _ ih =>
  cases g with
  | cons g => rw [ih g]
theorem heads_ok {K : List Key} (h : KsOk K) (keep : Nat) : KsOk (K.map (Trie.hd K keep)) := by
 refine ⟨fun k hk => ?_, heads_sorted h.ok h.sorted keep, by rw [List.length_map]; exact h.few⟩
 obtain ⟨k', hk', rfl⟩ := List.mem_map.1 hk
 exact (h.ok k' hk').take _
theorem heads_enc {K : List Key} (h : KsOk K) (keep : Nat) : encT (lvls (K.map (Trie.hd K keep))) (keep : Int) = encT (lvls K) (keep : Int) := by
 obtain ⟨h1, _⟩ := lvls_is h
 obtain ⟨h2, _⟩ := lvls_is (heads_ok h keep)
 have hl : ∀ x, In K x ∧ NOk x → ∀ k ∈ x.1, lab (Trie.hd K keep k) x.2 = lab k x.2 := fun x hx => mem_lab h.ok keep hx.1 hx.2
 have hb := bfs_map (f := Trie.hd K keep) (P := fun x => In K x ∧ NOk x) (fun x hx y hy => ⟨hx.1.conts hx.2 hy, (hx.2.conts hy).1⟩) hl h1.bfs (fun x hx => by
  rw [List.mem_singleton] at hx
  subst hx
  exact ⟨h1.rootIn, h1.root⟩)
 have e : lvls (K.map (Trie.hd K keep)) = (lvls K).map (mapN (Trie.hd K keep)) := bfs_unique h2.bfs hb
 rw [e]
 obtain ⟨e1, e2, e3, e4⟩ := enc_heads h.ok keep h1.nodes
 unfold encT
 have : ((keep : Int)).toNat = keep := by omega
 rw [this, e1, e2, e3, e4]
structure Is (K : List Key) (keep : Nat) (Lt Mo Fi : ByteArray) (Rs : List ByteArray) : Prop where
 ok : KsOk K
 kp : keep ≤ 5
 eq : encT (lvls K) (keep : Int) = (Lt, Mo, Fi, Rs, (keep : Int), true)
section
variable {K : List Key} {keep : Nat} {Lt Mo Fi : ByteArray} {Rs : List ByteArray}
theorem Is.enc (h : Is K keep Lt Mo Fi Rs) : Enc K (lvls K) keep Lt Mo Fi Rs := by
 obtain ⟨h1, h2⟩ := lvls_is h.ok
 have e := h.eq
 unfold encT at e
 have e0 : ((keep : Int)).toNat = keep := by omega
 rw [e0] at e
 simp only [Prod.mk.injEq] at e
 obtain ⟨e1, e2, e3, e4, _⟩ := e
 have hb := brs_few h1 h.ok.few h2
 have hs := size_eq h1.eq
 simp only at hs
 have hf := h.ok.few
 refine ⟨h1, h.ok.few, by omega, h.kp, by rw [← e1, L_mkS], by rw [← e2, L_mkS], by rw [← e3, L_mkS], ?_⟩
 rw [← e4]
 exact LL_mkS _
theorem Is.heads (h : Is K keep Lt Mo Fi Rs) : sieveV (K.map (Trie.hd K keep)) (keep : Int) = (Lt, Mo, Fi, Rs, (keep : Int), true) := by
 unfold sieveV
 rw [if_pos ⟨keysB_iff.2 (heads_ok h.ok keep), by constructor <;> have := h.kp <;> omega⟩, heads_enc h.ok keep]
 exact h.eq
theorem is_of {l : List Key} {a : Int} {Lt Mo Fi : ByteArray} {Rs : List ByteArray} {a' : Int} (h : sieveV l a = (Lt, Mo, Fi, Rs, a', true)) : Is l a.toNat Lt Mo Fi Rs ∧ a = (a.toNat : Int) ∧ a' = a := by
 unfold sieveV at h
 by_cases c : keysB l = true ∧ keepOk a
 ·rw [if_pos c] at h
  have e : a = (a.toNat : Int) := by have := c.2.1; omega
  have e2 : a' = a := by
   have h2 := h
   unfold encT at h2
   simp only [Prod.mk.injEq] at h2
   exact h2.2.2.2.2.1.symm
  rw [e2, e] at h
  exact ⟨⟨keysB_iff.1 c.1, by have := c.2.2; omega, h⟩, e, e2⟩
 ·rw [if_neg c] at h
  simp at h
end
theorem bytes_eq {a b : ByteArray} : a.toList = b.toList ↔ a = b := ⟨fun h => L_inj (L_eq_iff.1 h), fun h => by rw [h]⟩
theorem equal_l0 (a b : List ByteArray) (hn : a.length ≤ 2000000) (hl : a.length = b.length) (d : Nat) : ∀ i : Nat, i ≤ a.length → a.length - i = d →
  Ev (fun k => slices_Equal_string_string.l0 k a b (a.length : Int) (i : Int)) (decide (a.drop i = b.drop i)) := by
 induction d with
 | zero =>
  intro i h1 h2
  refine ev_succ ?_
  simp only [slices_Equal_string_string.l0]
  refine ev_neg (by omega) (ev_some ?_)
  rw [List.drop_eq_nil_of_le (by omega), List.drop_eq_nil_of_le (by omega)]; simp
 | succ d ih =>
  intro i h1 h2
  have hlt : i < a.length := by omega
  refine ev_succ ?_
  simp only [slices_Equal_string_string.l0]
  refine ev_pos (by omega) (ev_pos (by omega) (ev_pos (by omega) (ev_pos (by omega) ?_)))
  have e1 : rdOf ByteArray.empty a (i : Int) = a.getD i ByteArray.empty := rfl
  have e2 : rdOf ByteArray.empty b (i : Int) = b.getD i ByteArray.empty := rfl
  rw [e1, e2, drop_cons ByteArray.empty hlt, drop_cons ByteArray.empty (show i < b.length by omega)]
  by_cases c : a.getD i ByteArray.empty = b.getD i ByteArray.empty
  ·refine ev_pos (bytes_eq.2 c) ?_
   rw [w64 (by omega) (by omega)]
   refine ev_eq (ih (i + 1) (by omega) (by omega)) ?_
   rw [Bool.eq_iff_iff, decide_eq_true_eq, decide_eq_true_eq, List.cons.injEq]
   exact ⟨fun h => ⟨c, h⟩, fun h => h.2⟩
  ·refine ev_neg (fun q => c (bytes_eq.1 q)) (ev_some ?_)
   rw [eq_comm, decide_eq_false_iff_not, List.cons.injEq]
   exact fun h => c h.1
theorem equal_ev (a b : List ByteArray) (hn : a.length ≤ 2000000) : Ev (fun k => slices_Equal_string_string.f k a b) (decide (a = b)) := by
 unfold slices_Equal_string_string.f
 by_cases c : a.length = b.length
 ·refine ev_pos (by omega) (ev_eq (equal_l0 a b hn c a.length 0 (by omega) (by omega)) ?_)
  rw [List.drop_zero, List.drop_zero]
 ·refine ev_neg (by omega) (ev_some ?_)
  rw [eq_comm, decide_eq_false_iff_not]
  exact fun h => c (by rw [h])
theorem same_sv_ev (t s : SvT) (hn : t.2.2.2.1.length ≤ 2000000) (ht : t.2.2.2.2.2 = s.2.2.2.2.2) : Ev (fun k => impl_Sieve_same.f k t.1 t.2.1 t.2.2.1 t.2.2.2.1 t.2.2.2.2.1 s.1 s.2.1 s.2.2.1 s.2.2.2.1 s.2.2.2.2.1) (decide (t = s)) := by
 obtain ⟨t1, t2, t3, t4, t5, t6⟩ := t
 obtain ⟨s1, s2, s3, s4, s5, s6⟩ := s
 simp only at ht hn ⊢
 subst ht
 unfold impl_Sieve_same.f
 have no : ∀ {b : Bool}, ¬ ((t1, t2, t3, t4, t5, t6) : SvT) = (s1, s2, s3, s4, s5, t6) → false = decide (((t1, t2, t3, t4, t5, t6) : SvT) = (s1, s2, s3, s4, s5, t6)) := fun h => by
  rw [eq_comm, decide_eq_false_iff_not]; exact h
 by_cases c1 : t1 = s1
 ·refine ev_pos (bytes_eq.2 c1) ?_
  by_cases c2 : t2 = s2
  ·refine ev_pos (bytes_eq.2 c2) ?_
   by_cases c3 : t3 = s3
   ·refine ev_pos (bytes_eq.2 c3) ?_
    by_cases c5 : t5 = s5
    ·refine ev_pos c5 (Ev.bind (equal_ev t4 s4 hn) (ev_some ?_))
     rw [Bool.eq_iff_iff, decide_eq_true_eq, decide_eq_true_eq, c1, c2, c3, c5]
     simp
    ·exact ev_neg c5 (ev_some (no (b := true) (fun h => c5 (by simp only [Prod.mk.injEq] at h; exact h.2.2.2.2.1))))
   ·exact ev_neg (fun q => c3 (bytes_eq.1 q)) (ev_some (no (b := true) (fun h => c3 (by simp only [Prod.mk.injEq] at h; exact h.2.2.1))))
  ·exact ev_neg (fun q => c2 (bytes_eq.1 q)) (ev_some (no (b := true) (fun h => c2 (by simp only [Prod.mk.injEq] at h; exact h.2.1))))
 ·exact ev_neg (fun q => c1 (bytes_eq.1 q)) (ev_some (no (b := true) (fun h => c1 (by simp only [Prod.mk.injEq] at h; exact h.1))))
theorem texts_l0 (l : List S93) (hn : l.length ≤ 2000000) (d : Nat) : ∀ (i : Nat) (x : List ByteArray), i ≤ l.length → l.length - i = d → x.length ≤ i →
  Ev (fun k => impl_texts.l0 k x l (l.length : Int) (i : Int)) (x ++ (l.drop i).map S93.f0) := by
 induction d with
 | zero =>
  intro i x h1 h2 h3
  refine ev_succ ?_
  simp only [impl_texts.l0]
  refine ev_neg (by omega) (ev_some ?_)
  rw [List.drop_eq_nil_of_le (by omega)]; simp
 | succ d ih =>
  intro i x h1 h2 h3
  have hlt : i < l.length := by omega
  refine ev_succ ?_
  simp only [impl_texts.l0]
  refine ev_pos (by omega) (ev_pos (by omega) (ev_pos (by omega) (ev_pos (by omega) ?_)))
  have e1 : rd_T93 l (i : Int) = l.getD i z93 := rfl
  rw [w64 (by omega) (by omega), e1]
  refine ev_eq (ih (i + 1) (x ++ [(l.getD i z93).f0]) (by omega) (by omega) (by rw [List.length_append]; simp only [List.length_cons, List.length_nil]; omega)) ?_
  rw [drop_cons z93 hlt, List.map_cons, List.append_assoc]; rfl
theorem texts_ev (l : List S93) (hn : l.length ≤ 2000000) : Ev (fun k => impl_texts.f k l) (l.map S93.f0) := by
 unfold impl_texts.f
 exact ev_eq (texts_l0 l hn l.length 0 [] (by omega) (by omega) (by simp)) (by simp)
structure SvSz (Lt Mo Fi : ByteArray) (Rs : List ByteArray) : Prop where
 a : Lt.size ≤ 1048576
 b : Mo.size ≤ 1048576
 c : Fi.size ≤ 1048576
 d : Rs.length ≤ 1048576
 e : ∀ s ∈ Rs, s.size ≤ 1048576
theorem heads_ev {Lt Mo Fi : ByteArray} {Rs : List ByteArray} (hz : SvSz Lt Mo Fi Rs) (a : Int) :
  (∃ K keep, a = ((keep : Nat) : Int) ∧ Is K keep Lt Mo Fi Rs ∧ Ev (fun k => impl_Sieve_heads.f k Lt Mo Fi Rs a) (K.map (pt K keep), true)) ∨
  ((∀ K keep, a = ((keep : Nat) : Int) → ¬ Is K keep Lt Mo Fi Rs) ∧ Ev (fun k => impl_Sieve_heads.f k Lt Mo Fi Rs a) ([], false)) := by
 have s1 := size_L Lt
 have s2 := size_L Mo
 have s3 := size_L Fi
 have z1 := hz.a
 have z2 := hz.b
 have z3 := hz.c
 have z4 := hz.d
 have hM := impl_BitsOk_ev Mo (by omega)
 have hF := impl_BitsOk_ev Fi (by omega)
 have hno : Ev (fun k => impl_Sieve_heads.j0 k true Lt Mo Fi Rs a) ([], false) := by
  refine ev_succ ?_
  simp only [impl_Sieve_heads.j0]
  exact ev_pos (by simp) (ev_some rfl)
 have isfm : ∀ K keep, a = ((keep : Nat) : Int) → Is K keep Lt Mo Fi Rs → Fm Lt Mo Fi Rs (L Lt).length ∧ keepOk a := by
  intro K keep ha h
  have h1 := h.enc.fm
  have h2 := h1.ln
  rw [h2]
  refine ⟨h1, ?_, ?_⟩ <;> have := h.kp <;> omega
 have bits : ∀ {s : ByteArray}, bitsB (L s) = true ↔ (L s).all bitc = true ∧ (L s).length ≤ 400 := fun {s} => by
  unfold bitsB; rw [Bool.and_eq_true, decide_eq_true_eq]
 by_cases c1 : bitsB (L Mo) = true
 ·by_cases c2 : bitsB (L Fi) = true
  ·by_cases c3 : (Mo.size : Int) = (Lt.size : Int)
   ·by_cases c4 : (Fi.size : Int) = (Lt.size : Int)
    ·by_cases c5 : keepOk a
     ·have hcnt := count_L (x := Mo) nought_L
      have hnt := noughts (L Mo) (bits.1 c1).1 (L Mo).length (Nat.le_refl _)
      rw [List.take_length] at hnt
      rw [hnt] at hcnt
      have hgo : ∀ r, Ev (fun k => impl_Sieve_heads.j0 k ((Rs.length : Int) != (((L Mo).length - onesB (L Mo) (L Mo).length : Nat) : Int)) Lt Mo Fi Rs a) r → Ev (fun k => impl_Sieve_heads.f k Lt Mo Fi Rs a) r := by
       intro r hr
       unfold impl_Sieve_heads.f
       exact Ev.bind hM (ev_pos c1 (Ev.bind hF (ev_pos c2 (ev_pos c3 (ev_pos c4 (ev_bindc (isKeep_eq a) (ev_pos (decide_eq_true c5) (ev_bindc hcnt hr))))))))
      by_cases c6 : (Rs.length : Int) = (((L Mo).length - onesB (L Mo) (L Mo).length : Nat) : Int)
      ·have hfm : Fm Lt Mo Fi Rs (L Lt).length := by
        have e1 : (L Mo).length = (L Lt).length := by omega
        refine ⟨rfl, e1, by omega, by have := (bits.1 c1).2; omega, (bits.1 c1).1, (bits.1 c2).1, ?_, hz.e⟩
        rw [e1] at c6; omega
       obtain ⟨keep, ha⟩ : ∃ n : Nat, a = (n : Int) := ⟨a.toNat, by have := c5.1; omega⟩
       have hb6 : ((Rs.length : Int) != (((L Mo).length - onesB (L Mo) (L Mo).length : Nat) : Int)) = false := bne_eq_false_iff_eq.2 c6
       rw [hb6] at hgo
       obtain ⟨r, hr, hrb⟩ := parts_any (keep := a) hfm
       obtain ⟨rl, rb⟩ := r
       cases rb with
       | false =>
        right
        refine ⟨fun K kp hk h => ?_, hgo _ (ev_succ ?_)⟩
        ·have h1 := parts_enc h.enc
         rw [← hk] at h1
         have := ev_unique hr h1
         simp at this
        ·simp only [impl_Sieve_heads.j0]
         exact ev_neg (by simp) (Ev.bind hr (ev_neg (by simp) (ev_some rfl)))
       | true =>
        obtain ⟨b1, b2⟩ := hrb rfl
        simp only at b1 b2
        have htx := texts_ev rl (by omega)
        have hsz : SzL (rl.map S93.f0) := by
         refine ⟨by rw [List.length_map]; omega, fun x hx => ?_⟩
         obtain ⟨s, hs, rfl⟩ := List.mem_map.1 hx
         have := b2 s hs
         omega
        have hof := impl_SieveOf_ev (rl.map S93.f0) hsz a
        have hfew := sieveV_few (LL (rl.map S93.f0)) a
        by_cases c7 : (sieveV (LL (rl.map S93.f0)) a).2.2.2.2.2 = true
        ·have hsm := same_sv_ev (sieveV (LL (rl.map S93.f0)) a) (Lt, Mo, Fi, Rs, a, true) hfew c7
         by_cases c8 : sieveV (LL (rl.map S93.f0)) a = (Lt, Mo, Fi, Rs, a, true)
         ·left
          obtain ⟨hI, e1, _⟩ := is_of c8
          have h1 := parts_enc hI.enc
          rw [← e1] at h1
          have e2 := ev_unique hr h1
          simp only [Prod.mk.injEq, and_true] at e2
          refine ⟨_, a.toNat, e1, hI, ?_⟩
          rw [← e2]
          refine hgo _ (ev_succ ?_)
          simp only [impl_Sieve_heads.j0]
          exact ev_neg (by simp) (Ev.bind hr (ev_pos rfl (Ev.bind htx (Ev.bind hof (ev_pos c7 (Ev.bind hsm (ev_pos (by rw [decide_eq_true_eq]; exact c8) (ev_some rfl))))))))
         ·right
          refine ⟨fun K kp hk h => ?_, hgo _ (ev_succ ?_)⟩
          ·have h1 := parts_enc h.enc
           rw [← hk] at h1
           have e2 := ev_unique hr h1
           simp only [Prod.mk.injEq, and_true] at e2
           refine c8 ?_
           have h3 := h.heads
           rw [← hk] at h3
           rw [← h3, e2]
           congr 1
           unfold LL pt
           rw [List.map_map, List.map_map]
           apply List.map_congr_left
           intro x _
           exact L_mkS _
          ·simp only [impl_Sieve_heads.j0]
           exact ev_neg (by simp) (Ev.bind hr (ev_pos rfl (Ev.bind htx (Ev.bind hof (ev_pos c7 (Ev.bind hsm (ev_neg (by rw [decide_eq_true_eq]; exact c8) (ev_some rfl))))))))
        ·right
         refine ⟨fun K kp hk h => ?_, hgo _ (ev_succ ?_)⟩
         ·have h1 := parts_enc h.enc
          rw [← hk] at h1
          have e2 := ev_unique hr h1
          simp only [Prod.mk.injEq, and_true] at e2
          refine c7 ?_
          have h3 := h.heads
          rw [← hk] at h3
          have h4 : LL (rl.map S93.f0) = K.map (Trie.hd K kp) := by
           rw [e2]
           unfold LL pt
           rw [List.map_map, List.map_map]
           apply List.map_congr_left
           intro x _
           exact L_mkS _
          rw [h4, h3]
         ·simp only [impl_Sieve_heads.j0]
          exact ev_neg (by simp) (Ev.bind hr (ev_pos rfl (Ev.bind htx (Ev.bind hof (ev_neg c7 (ev_some rfl))))))
      ·right
       have hb6 : ((Rs.length : Int) != (((L Mo).length - onesB (L Mo) (L Mo).length : Nat) : Int)) = true := bne_iff_ne.2 c6
       rw [hb6] at hgo
       refine ⟨fun K kp hk h => c6 ?_, hgo _ hno⟩
       have h1 := (isfm K kp hk h).1
       have e1 := h1.mn
       have := h1.rs
       rw [← e1] at this
       omega
     ·right
      refine ⟨fun K kp hk h => c5 (isfm K kp hk h).2, ?_⟩
      unfold impl_Sieve_heads.f
      exact Ev.bind hM (ev_pos c1 (Ev.bind hF (ev_pos c2 (ev_pos c3 (ev_pos c4 (ev_bindc (isKeep_eq a) (ev_neg (by rw [decide_eq_true_eq]; exact c5) hno)))))))
    ·right
     refine ⟨fun K kp hk h => c4 ?_, ?_⟩
     ·have := (isfm K kp hk h).1.fn; omega
     ·unfold impl_Sieve_heads.f
      exact Ev.bind hM (ev_pos c1 (Ev.bind hF (ev_pos c2 (ev_pos c3 (ev_neg c4 hno)))))
   ·right
    refine ⟨fun K kp hk h => c3 ?_, ?_⟩
    ·have := (isfm K kp hk h).1.mn; omega
    ·unfold impl_Sieve_heads.f
     exact Ev.bind hM (ev_pos c1 (Ev.bind hF (ev_pos c2 (ev_neg c3 hno))))
  ·right
   refine ⟨fun K kp hk h => c2 (bits.2 ?_), ?_⟩
   ·have h1 := (isfm K kp hk h).1
    exact ⟨h1.fb, by have := h1.fn; have := h1.few; omega⟩
   ·unfold impl_Sieve_heads.f
    exact Ev.bind hM (ev_pos c1 (Ev.bind hF (ev_neg c2 hno)))
 ·right
  refine ⟨fun K kp hk h => c1 (bits.2 ?_), ?_⟩
  ·have h1 := (isfm K kp hk h).1
   exact ⟨h1.mb, by have := h1.mn; have := h1.few; omega⟩
  ·unfold impl_Sieve_heads.f
   exact Ev.bind hM (ev_neg c1 hno)
section
variable {Lt Mo Fi : ByteArray} {Rs : List ByteArray} {keep : Int} {n : Nat}
end
section
variable {K : List Key} {X : List Nd} {keep : Nat} {Lt Mo Fi : ByteArray} {Rs : List ByteArray}
noncomputable def ht (K : List Key) (keep : Nat) (k : Key) : ByteArray := mkS (Trie.hd K keep k)
end
theorem LL_ht (K : List Key) (keep : Nat) : LL (K.map (ht K keep)) = K.map (Trie.hd K keep) := by
 unfold LL ht
 rw [List.map_map]
 apply List.map_congr_left
 intro x _
 exact L_mkS _
theorem pt_text (K : List Key) (keep : Nat) : (K.map (pt K keep)).map S93.f0 = K.map (ht K keep) := by
 rw [List.map_map]; rfl
theorem impl_SieveOk_of {Lt Mo Fi : ByteArray} {Rs : List ByteArray} {a : Int} {l : List S93} {b : Bool} (h : Ev (fun k => impl_Sieve_heads.f k Lt Mo Fi Rs a) (l, b)) : Ev (fun k => impl_SieveOk.f k Lt Mo Fi Rs a) b := by
 unfold impl_SieveOk.f
 exact Ev.bind h (ev_some rfl)
theorem impl_SieveHeads_of {Lt Mo Fi : ByteArray} {Rs : List ByteArray} {a : Int} {l : List S93} {b : Bool} (hl : l.length ≤ 2000000) (h : Ev (fun k => impl_Sieve_heads.f k Lt Mo Fi Rs a) (l, b)) : Ev (fun k => impl_SieveHeads.f k Lt Mo Fi Rs a) (l.map S93.f0) := by
 unfold impl_SieveHeads.f
 exact Ev.bind h (Ev.bind (texts_ev l hl) (ev_some rfl))
end Go.Proofs.Ytifgcajpkgamgaa.Pb
end
