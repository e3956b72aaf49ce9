/- What the law FnExactKeyOk needs, part 4: the kit's printed words, the printed functions with their proofs, and plain facts on them. -/
import Derived.Test.YtdcmoiihgpekhaaChecked
import Derived.Test.YtdcmoiihgpekhaaRows
import Derived.JoinedOf
import Derived.KernelRfl
import Derived.Test.YtdcmoiihgpekhaaProg
import Derived.Below
import Derived.Deep.Draws
import Derived.Deep.AppendLies
import Derived.Maps.AppendAt
import Derived.OwnWalk
import Derived.Laws.BytesArg
import Derived.Laws.MakeOwn
import Derived.Laws.OwnMore
import Derived.Deep.OwnRows
import Derived.Tactics
import Derived.Lib.ConvBytes
import Derived.Laws.Slices
import Derived.WalkKit
import Derived.RowKit3
import Derived.Deep.LoopGhost
import Derived.Deep.QuietTactic
import Derived.BigQuiet
import Derived.WideLaws
import Derived.Deep.DeepCutAuto
import Derived.Deep.CutBlock
import Derived.Deep.RegionHeld3
import Derived.Laws.Rows
import Derived.Lib.AppendStr
import Derived.ArgAppend
import Derived.Laws.IdiomCopy
import Derived.OrdersHeld
import Derived.Laws.BitsLemmas
import Derived.RowKit
import Derived.Test.YtdcmoiihgpekhaaBFnExactKeyOkc
section
namespace Go.Proofs.Ytdcmoiihgpekhaa.Start
open Go Go.Proofs
def nums : List Nat :=
  [104, 97, 114, 110, 101, 115, 115, 32, 51, 48, 98, 53, 99, 101, 56, 52, 51, 50, 51, 52, 54, 102, 54, 49, 56, 57, 55, 55, 49, 50, 48, 100, 57, 102, 56, 56, 54, 57, 56, 57] ++
  [56, 99, 99, 98, 51, 97, 52, 100, 57, 102, 57, 98, 51, 49, 101, 56, 98, 50, 98, 51, 102, 56, 101, 100, 100, 54, 102, 56, 57, 57, 51, 52, 32, 99, 117, 116, 32, 97, 116, 32] ++
  [108, 111, 111, 112, 46, 101, 120, 97, 109, 112, 108, 101, 47, 116, 101, 109, 115, 101, 47, 108, 97, 119, 115, 46, 70, 110, 69, 120, 97, 99, 116, 67, 111, 110, 115, 116, 97, 110, 116, 115] ++
  [32, 108, 111, 111, 112, 46, 101, 120, 97, 109, 112, 108, 101, 47, 116, 101, 109, 115, 101, 47, 108, 97, 119, 115, 46, 70, 110, 69, 120, 97, 99, 116, 75, 101, 121, 66, 101, 103, 105, 110] ++
  [115, 32, 108, 111, 111, 112, 46, 101, 120, 97, 109, 112, 108, 101, 47, 116, 101, 109, 115, 101, 47, 108, 97, 119, 115, 46, 70, 110, 69, 120, 97, 99, 116, 66, 105, 116, 115, 79, 107, 32] ++
  [108, 111, 111, 112, 46, 101, 120, 97, 109, 112, 108, 101, 47, 116, 101, 109, 115, 101, 47, 108, 97, 119, 115, 46, 70, 110, 69, 120, 97, 99, 116, 75, 101, 121, 79, 107, 32, 108, 111, 111] ++
  [112, 46, 101, 120, 97, 109, 112, 108, 101, 47, 116, 101, 109, 115, 101, 47, 108, 97, 119, 115, 46, 70, 110, 69, 120, 97, 99, 116, 66, 105, 116, 115, 78, 101, 120, 116, 32, 108, 111, 111] ++
  [112, 46, 101, 120, 97, 109, 112, 108, 101, 47, 116, 101, 109, 115, 101, 47, 108, 97, 119, 115, 46, 70, 110, 83, 105, 101, 118, 101, 69, 109, 112, 116, 121, 32, 108, 111, 111, 112, 46, 101] ++
  [120, 97, 109, 112, 108, 101, 47, 116, 101, 109, 115, 101, 47, 108, 97, 119, 115, 46, 70, 110, 75, 101, 121, 66, 101, 103, 105, 110, 115, 32, 108, 111, 111, 112, 46, 101, 120, 97, 109, 112] ++
  [108, 101, 47, 116, 101, 109, 115, 101, 47, 108, 97, 119, 115, 46, 70, 110, 69, 120, 97, 99, 116, 66, 105, 116, 115, 79, 110, 101, 32, 108, 111, 111, 112, 46, 101, 120, 97, 109, 112, 108] ++
  [101, 47, 116, 101, 109, 115, 101, 47, 108, 97, 119, 115, 46, 70, 110, 69, 120, 97, 99, 116, 75, 101, 121, 115, 79, 107, 32, 108, 111, 111, 112, 46, 101, 120, 97, 109, 112, 108, 101, 47] ++
  [116, 101, 109, 115, 101, 47, 108, 97, 119, 115, 46, 70, 110, 69, 120, 97, 99, 116, 75, 101, 121, 70, 105, 114, 115, 116]
set_option maxRecDepth 100000 in
theorem word : Try.prog.initOrder = String.ofList (nums.map Char.ofNat) := by kernel_rfl
theorem signs : Try.prog.initOrder.toList = nums.map Char.ofNat := by rw [word, String.toList_ofList]
theorem words_ne : ∀ l : List Char, wordsSigns l ≠ [] := by
  intro l
  cases l with
  | nil => simp [wordsSigns]
  | cons c l =>
    rw [wordsSigns.eq_def]
    split <;> first | (split <;> simp) | simp
theorem words_append (b : List Char) : ∀ a : List Char, wordsSigns (a ++ Char.ofNat 32 :: b) = wordsSigns a ++ wordsSigns b := by
  intro a
  induction a with
  | nil => rfl
  | cons c a ih =>
    rw [List.cons_append, wordsSigns.eq_def (c :: (a ++ Char.ofNat 32 :: b)), wordsSigns.eq_def (c :: a)]
    split
    · rename_i h; cases h
    · rename_i r h
      injection h with h1 h2
      subst h1; subst h2
      simp [ih]
    · rename_i c' r hne h
      injection h with h1 h2
      subst h1; subst h2
      rw [ih]
      have hc : c ≠ Char.ofNat 32 := fun q => hne q
      split
      · rename_i w ws e
        split
        · rename_i h; cases h
        · rename_i r h; injection h with h1 h2; exact absurd h1 hc
        · rename_i c'' r'' hne'' h
          injection h with h1 h2
          subst h1; subst h2
          split
          · rename_i w' ws' e'
            rw [e'] at e
            injection e with e1 e2
            subst e1; rw [← e2]; rfl
          · rename_i e'
            exact absurd e' (words_ne _)
      · rename_i e
        simp at e
        exact absurd e.1 (words_ne _)
def nums1 : List Nat := nums.take 76
def nums2 : List Nat := nums.drop 77
theorem parted : nums.map Char.ofNat = nums1.map Char.ofNat ++ Char.ofNat 32 :: nums2.map Char.ofNat := by kernel_rfl
theorem words : ∃ r, wordsSigns Try.prog.initOrder.toList = "harness".toList :: "30b5ce8432346f618977120d9f8869898ccb3a4d9f9b31e8b2b3f8edd6f89934".toList :: "cut".toList :: r := by
  rw [signs, parted, words_append]
  exact ⟨wordsSigns (nums2.map Char.ofNat), by rw [show wordsSigns (nums1.map Char.ofNat) = ["harness".toList, "30b5ce8432346f618977120d9f8869898ccb3a4d9f9b31e8b2b3f8edd6f89934".toList, "cut".toList] by kernel_rfl]; rfl⟩
theorem behind_of (l : List (List Char)) (h k : List Char) (r : List (List Char)) (e : l = h :: k :: r) (b : ((h == "harness".toList || h == "ownmain".toList) && isSumSigns k) = true) : behindMainWord l = r := by
  subst e
  show (if ((h == "harness".toList || h == "ownmain".toList) && isSumSigns k) = true then r else h :: k :: r) = r
  rw [if_pos b]
theorem behind : ∃ r, behindMainWord (wordsSigns Try.prog.initOrder.toList) = "cut".toList :: r := by
  obtain ⟨r, h⟩ := words
  exact ⟨r, behind_of _ _ _ _ h (by kernel_rfl)⟩
theorem strip_all (c : List Char) (r : List (List Char)) : ∀ l : List String, l.all (fun o => !(c == o.toList)) = true → stripLifts l (c :: r) = ([], c :: r) := by
  intro l
  induction l with
  | nil => intro _; rfl
  | cons o l ih =>
    intro h
    rw [List.all_cons, Bool.and_eq_true] at h
    rw [stripLifts, if_neg (by simpa using h.1), ih h.2]
theorem strip (r : List (List Char)) : stripLifts liftWords ("cut".toList :: r) = ([], "cut".toList :: r) := strip_all _ _ _ (by kernel_rfl)
theorem mayEnter_of (P : Program) (r : List (List Char)) (h : behindMainWord (wordsSigns P.initOrder.toList) = "cut".toList :: r) (h1 : P.laysLater = false) (h2 : P.bearsReflect = false) (h3 : P.doorFits [] = true) : P.mayEnter = true := by
  unfold Program.mayEnter
  rw [h]
  simp only [strip, h1, h2, h3]
  rfl
theorem liftsFinal_of (P : Program) (r : List (List Char)) (h : behindMainWord (wordsSigns P.initOrder.toList) = "cut".toList :: r) : P.liftsFinal = false := by
  unfold Program.liftsFinal Program.headLifts
  rw [h]
  simp only [strip]
  rfl
theorem make_of (P : Program) (r : List (List Char)) (h : behindMainWord (wordsSigns P.initOrder.toList) = "cut".toList :: r) : P.make = some .cut := by
  unfold Program.make
  rw [h]
  rfl
theorem mayEnter : Try.prog.mayEnter = true := by
  obtain ⟨r, h⟩ := behind
  exact mayEnter_of _ r h (by kernel_rfl) (by kernel_rfl) (by kernel_rfl)
theorem liftsFinal : Try.prog.liftsFinal = false := by
  obtain ⟨r, h⟩ := behind
  exact liftsFinal_of _ r h
theorem make : Try.prog.make = some .cut := by
  obtain ⟨r, h⟩ := behind
  exact make_of _ r h
theorem an {a b : Bool} (h : (a && b) = true) : a = true ∧ b = true := by simpa using h
theorem at_ {a b : Bool} (h : a = true) (k : b = true) : (a && b) = true := by simp [h, k]
theorem joined_of (P : Program) (mayEnter : P.mayEnter = true) (liftsFinal : P.liftsFinal = false) (make : P.make = some .cut) (f : FuncId) (fn : Func) (s : ChangeSpec) (c : OpenClaim)
    (h1 : (c.wf (OpenSpec.ofChange s) && laidOutB P && mapsRowed P && fn.params.all (P.readableRec ·) && namedTie P c.named s.vars && (c.stops == []) && (P.stops == []) && (c.knobs == []) && (P.stopKnobs == [])) = true)
    (h2 : (c.inPlace == P.inPlace f) = true) (h3 : (c.unfollowed == P.unfollowed f) = true) (h4 : (c.recurses == P.recurses f) = true) (h5 : (c.named == P.varsNamed f) = true)
    (h6 : ((c.maps == (fn.params.toList ++ s.plain.varTypes P).any (P.mapsRec ·)) && (c.ifaces == (fn.params.toList ++ s.plain.varTypes P).any (P.ifacesRec ·)) && (c.mapsOut == P.mapsAmong fn.resultTypes.toList) && (c.loops == (fn.params.toList ++ s.plain.varTypes P).any (P.loopsFrom ·)) && (c.wideKeys == (fn.params.toList ++ s.plain.varTypes P ++ fn.resultTypes.toList).any (P.wideKeysFrom ·))) = true)
    (h7 : (s.vars.all (P.varReadable ·) && fn.resultTypes.all (fun t => P.readableRec t && decide (t < P.types.size)) && (c.ifacesOut == fn.resultTypes.toList.any (P.ifacesRec ·)) && (c.loopsOut == fn.resultTypes.toList.any (P.loopsFrom ·)) && (c.plainKeys == P.plainKeys) && c.shortTexts.isNone && P.stopsHeard) = true)
    (h8 : c.lifted = false) (h9 : c.make = .cut)
    (h10 : ((c.kinds == (if c.domain.isEmpty then [] else fn.params.toList.map fun t => match P.underlying t with | some (.int k) => some k | _ => none)) && (c.pinned == c.pinnedBy) && (c.veiled == (fn.params.toList ++ s.plain.varTypes P ++ fn.resultTypes.toList).any (P.veiledRec ·)) && c.veiledFits P fn.params.toList (fn.params.toList ++ s.plain.varTypes P ++ fn.resultTypes.toList)) = true) :
    joinedFacts P f fn s c = true := by
  obtain ⟨b14, b5⟩ := an h6
  obtain ⟨b13, b4⟩ := an b14
  obtain ⟨b12, b3⟩ := an b13
  obtain ⟨b1, b2⟩ := an b12
  obtain ⟨c16, c7⟩ := an h7
  obtain ⟨c15, c6⟩ := an c16
  obtain ⟨c14, c5⟩ := an c15
  obtain ⟨c13, c4⟩ := an c14
  obtain ⟨c12, c3⟩ := an c13
  obtain ⟨c1, c2⟩ := an c12
  obtain ⟨d13, d4⟩ := an h10
  obtain ⟨d12, d3⟩ := an d13
  obtain ⟨d1, d2⟩ := an d12
  have hl : (c.lifted == P.liftsFinal) = true := by rw [h8, liftsFinal]; rfl
  have hm : (P.make == some c.make) = true := by rw [make, h9]; kernel_rfl
  unfold joinedFacts
  exact at_ (at_ (at_ (at_ (at_ (at_ (at_ (at_ (at_ (at_ (at_ (at_ (at_ (at_ (at_ (at_ (at_ (at_ (at_ (at_ (at_ (at_ (at_ h1 h2) h3) h4) h5) b1) b2) b3) b4) b5) c1) c2) c3) c4) c5) c6) c7) mayEnter) hl) hm) d1) d2) d3) d4
theorem joined (f : FuncId) (fn : Func) (s : ChangeSpec) (c : OpenClaim)
    (h1 : (c.wf (OpenSpec.ofChange s) && laidOutB Try.prog && mapsRowed Try.prog && fn.params.all (Try.prog.readableRec ·) && namedTie Try.prog c.named s.vars && (c.stops == []) && (Try.prog.stops == []) && (c.knobs == []) && (Try.prog.stopKnobs == [])) = true)
    (h2 : (c.inPlace == Try.prog.inPlace f) = true) (h3 : (c.unfollowed == Try.prog.unfollowed f) = true) (h4 : (c.recurses == Try.prog.recurses f) = true) (h5 : (c.named == Try.prog.varsNamed f) = true)
    (h6 : ((c.maps == (fn.params.toList ++ s.plain.varTypes Try.prog).any (Try.prog.mapsRec ·)) && (c.ifaces == (fn.params.toList ++ s.plain.varTypes Try.prog).any (Try.prog.ifacesRec ·)) && (c.mapsOut == Try.prog.mapsAmong fn.resultTypes.toList) && (c.loops == (fn.params.toList ++ s.plain.varTypes Try.prog).any (Try.prog.loopsFrom ·)) && (c.wideKeys == (fn.params.toList ++ s.plain.varTypes Try.prog ++ fn.resultTypes.toList).any (Try.prog.wideKeysFrom ·))) = true)
    (h7 : (s.vars.all (Try.prog.varReadable ·) && fn.resultTypes.all (fun t => Try.prog.readableRec t && decide (t < Try.prog.types.size)) && (c.ifacesOut == fn.resultTypes.toList.any (Try.prog.ifacesRec ·)) && (c.loopsOut == fn.resultTypes.toList.any (Try.prog.loopsFrom ·)) && (c.plainKeys == Try.prog.plainKeys) && c.shortTexts.isNone && Try.prog.stopsHeard) = true)
    (h8 : c.lifted = false) (h9 : c.make = .cut)
    (h10 : ((c.kinds == (if c.domain.isEmpty then [] else fn.params.toList.map fun t => match Try.prog.underlying t with | some (.int k) => some k | _ => none)) && (c.pinned == c.pinnedBy) && (c.veiled == (fn.params.toList ++ s.plain.varTypes Try.prog ++ fn.resultTypes.toList).any (Try.prog.veiledRec ·)) && c.veiledFits Try.prog fn.params.toList (fn.params.toList ++ s.plain.varTypes Try.prog ++ fn.resultTypes.toList)) = true) :
    joinedFacts Try.prog f fn s c = true := joined_of Try.prog mayEnter liftsFinal make f fn s c h1 h2 h3 h4 h5 h6 h7 h8 h9 h10
end Go.Proofs.Ytdcmoiihgpekhaa.Start
end
section
namespace Go.Proofs.Ytdcmoiihgpekhaa.Q
open Go.RowKit Go.Proofs.YtdcmoiihgpekhaaW.PrintWords Go.Proofs.YtdcmoiihgpekhaaW.PrintLast Go.Proofs.YtdcmoiihgpekhaaW.PrintMore
attribute [local go_sem] max2_int min2_int max_two min_two max_three min_three max_four min_four   
set_option linter.unusedVariables false
set_option linter.unusedSimpArgs false
def errW : Option Int → Value
  | none => .nilIface
  | some c => .iface 0 (.int .i64 c)
theorem errW_none : errW none = .nilIface := rfl
theorem errW_some (c : Int) : errW (some c) = .iface 0 (.int .i64 c) := rfl
theorem info5 : (Try.prog.info? 5).map (fun i => (i.zero, i.size, i.bytes)) = some (some (.int .u8 0), 1, 1) := by kernel_rfl
theorem info9 : (Try.prog.info? 9).map (fun i => (i.zero, i.size, i.bytes)) = some (some (.string ⟨#[]⟩), 1, 16) := by kernel_rfl
end Go.Proofs.Ytdcmoiihgpekhaa.Q
end
section
namespace Go.Proofs.Ytdcmoiihgpekhaa.Q
open Go.RowKit Go.Proofs.YtdcmoiihgpekhaaW.PrintWords Go.Proofs.YtdcmoiihgpekhaaW.PrintLast Go.Proofs.YtdcmoiihgpekhaaW.PrintMore
attribute [local go_sem] max2_int min2_int max_two min_two max_three min_three max_four min_four   
set_option linter.unusedVariables false
set_option linter.unusedSimpArgs false
def spec_l6In.f (a0 : Int) (a1 : Int) (a2 : Int) : Option (Bool) := if a0 ≥ a1 then (some (decide (a0 ≤ a2))) else (some false)
set_option maxHeartbeats 8000000 in
set_option maxRecDepth 100000 in
theorem spec_l6In.calls (a0 : Int) (a1 : Int) (a2 : Int) (r : Bool) (w : World) (h : spec_l6In.f a0 a1 a2 = some r) :
    Calls Try.prog 38 #[.int .i64 a0, .int .i64 a1, .int .i64 a2] w fun e w' => e = .returned (.bool r) ∧ Drawn0 w w' := by
  have H : (if a0 ≥ a1 then (some (decide (a0 ≤ a2))) else (some false)) = some r := h
  clear h
  by_cases c4 : a0 ≥ a1
  · rw [if_pos c4] at H
    have c4b0 : decide (a1 ≤ a0) = true := decide_eq_true c4
    clear c4
    obtain rfl := Option.some.inj H
    go_enter Try.func38, Try.ntmps38
    go_wp2
    go_ret
    exact ⟨by first | rfl | (simp; done) | (simp [*]; done), by repeat (first | exact Drawn0.refl _ | apply Drawn0.step)⟩
  · rw [if_neg c4] at H
    have c4b0 : decide (a1 ≤ a0) = false := decide_eq_false c4
    clear c4
    obtain rfl := Option.some.inj H
    go_enter Try.func38, Try.ntmps38
    go_wp2
    go_ret
    exact ⟨by first | rfl | (simp; done) | (simp [*]; done), by repeat (first | exact Drawn0.refl _ | apply Drawn0.step)⟩
end Go.Proofs.Ytdcmoiihgpekhaa.Q
end
section
namespace Go.Proofs.Ytdcmoiihgpekhaa.Q
open Go.RowKit Go.Proofs.YtdcmoiihgpekhaaW.PrintWords Go.Proofs.YtdcmoiihgpekhaaW.PrintLast Go.Proofs.YtdcmoiihgpekhaaW.PrintMore
attribute [local go_sem] max2_int min2_int max_two min_two max_three min_three max_four min_four   
set_option linter.unusedVariables false
set_option linter.unusedSimpArgs false
def spec_KeyOk.l0 : Nat → ByteArray → Int → Option (Bool)
  | 0, _, _ => none
  | k + 1, x0, x3 => if x3 < (x0.size : Int) then (if 0 ≤ x3 then ((spec_l6In.f (wrap64 (bt x0 x3)) 97 100).bind fun t107 => (if t107 = true then (spec_KeyOk.l0 k x0 (wrap64 (x3 + 1))) else (some false))) else (none)) else (some (decide ((x0.size : Int) ≤ 5)))
def spec_KeyOk.f (k : Nat) (a0 : ByteArray) : Option (Bool) := spec_KeyOk.l0 k a0 0
theorem spec_KeyOk.mono_l : ∀ k, (∀ y0 y1, LeO (spec_KeyOk.l0 k y0 y1) (spec_KeyOk.l0 (k + 1) y0 y1))
  | 0 => fun _ _ r h => by simp [spec_KeyOk.l0] at h
  | k + 1 => by
    have ih0 := spec_KeyOk.mono_l k
    · intro y0 y1
      unfold spec_KeyOk.l0
      repeat' first
      | (with_reducible exact ih0 _ _)
      | (with_reducible exact LeO.refl _)
      | (with_reducible exact LeO.none _)
      | (with_reducible refine LeO.ite ?_ ?_)
      | (with_reducible refine LeO.bind ?_ (fun _ => ?_))
      | exact ih0 _ _
      | exact LeO.none _
      | refine LeO.ite ?_ ?_
      | refine LeO.bind ?_ (fun _ => ?_)
theorem spec_KeyOk.mono : ∀ a0 k, LeO (spec_KeyOk.f k a0) (spec_KeyOk.f (k + 1) a0) := by
  intro a0 k
  have ih0 := spec_KeyOk.mono_l k
  unfold spec_KeyOk.f
  repeat' first
      | (with_reducible exact ih0 _ _)
      | (with_reducible exact LeO.refl _)
      | (with_reducible exact LeO.none _)
      | (with_reducible refine LeO.ite ?_ ?_)
      | (with_reducible refine LeO.bind ?_ (fun _ => ?_))
      | exact ih0 _ _
      | exact LeO.none _
      | refine LeO.ite ?_ ?_
      | refine LeO.bind ?_ (fun _ => ?_)
set_option maxHeartbeats 8000000 in
set_option maxRecDepth 100000 in
theorem spec_KeyOk.calls (k : Nat) (a0 : ByteArray) (r : Bool) (w : World) (h : spec_KeyOk.f k a0 = some r) :
    Calls Try.prog 17 #[.string a0] w fun e w' => e = .returned (.bool r) ∧ Drawn0 w w' := by
  have H : (spec_KeyOk.l0 k a0 0) = some r := h
  clear h
  have H' := Aside0.mk H
  clear H
  go_enter Try.func17, Try.ntmps17
  go_wp2
  go_loopg [3] k (fun kq v3 w' => ∃ (x3_1 : Int), v3 = .int .i64 x3_1 ∧ Aside0 (spec_KeyOk.l0 kq a0 x3_1 = some r) ∧ Aside0 (kq ≤ k) ∧ Drawn0 w w')
  case atStart => exact ⟨(0), (by first | rfl | (simp; done) | (simp [*]; done)), H', ⟨Nat.le_refl _⟩, by repeat (first | exact Drawn0.refl _ | apply Drawn0.step)⟩
  case round =>
    clear H'
    try clear c1
    obtain ⟨x3_1, rfl, HA, HK1, ⟨m1, rfl⟩⟩ := hrel
    cases gk with
    | zero => exact absurd HA.out (by simp [spec_KeyOk.l0])
    | succ k1 =>
      have H := HA.out
      clear HA
      simp only [spec_KeyOk.l0] at H
      by_cases c2 : x3_1 < (a0.size : Int)
      · rw [if_pos c2] at H
        have c2b0 : decide (x3_1 < (a0.size : Int)) = true := decide_eq_true c2
        clear c2
        by_cases c3 : 0 ≤ x3_1
        · rw [if_pos c3] at H
          have c3b0 : decide (0 ≤ x3_1) = true := decide_eq_true c3
          clear c3
          replace H := Option.bind_eq_some_iff.mp H
          obtain ⟨t107, A50, H⟩ := H
          (try dsimp only at H)
          have A5 := Aside0.mk A50
          clear A50
          by_cases c6 : t107 = true
          · subst c6
            have H1 : (spec_KeyOk.l0 k1 a0 (wrap64 (x3_1 + 1))) = some r := by rw [if_pos rfl] at H; exact H
            clear H
            have H := H1
            clear H1
            have H' := Aside0.mk H
            clear H
            have p4 : 0 ≤ (x3_1 : Int) := of_decide_eq_true (by first | (with_reducible assumption) | assumption)
            have q4 : x3_1 < (a0.size : Int) := of_decide_eq_true (by first | (with_reducible assumption) | assumption)
            have hx4 := bt_at a0 x3_1
            replace p4 := eq_true p4
            replace q4 := eq_true q4
            go_wp2_with (first | ((with_reducible refine gate_callee (f := 38) rfl ?_); refine goesL_ (some 14) rfl rfl Try.func38 (by kernel_rfl) rfl #[.int .i64 (wrap64 (bt a0 x3_1)), .int .i64 97, .int .i64 100] rfl (by (try simp only [List.map_toArray, List.map_cons, List.map_nil]); first | done | rfl | (simp only [List.length_drop, List.length_take]; rfl)) ?_; (with_reducible refine (spec_l6In.calls (wrap64 (bt a0 x3_1)) 97 100 true _ A5.out).mono ?_); rintro e w' ⟨rfl, ⟨nd, rfl⟩⟩; refine ⟨_, rfl, ?_⟩))
            go_roundg k1
            case measure => have := HK1.out; omega
            case rel => exact ⟨(wrap64 (x3_1 + 1)), (by first | rfl | (simp; done) | (simp [*]; done)), H', ⟨by have := HK1.out; omega⟩, by repeat (first | exact Drawn0.refl _ | apply Drawn0.step)⟩
          · replace c6 := Bool.eq_false_iff.mpr c6
            subst c6
            have H1 : (some false) = some r := by rw [if_neg (show ¬ (false = true) by decide)] at H; exact H
            clear H
            have H := H1
            clear H1
            obtain rfl := Option.some.inj H
            have p4 : 0 ≤ (x3_1 : Int) := of_decide_eq_true (by first | (with_reducible assumption) | assumption)
            have q4 : x3_1 < (a0.size : Int) := of_decide_eq_true (by first | (with_reducible assumption) | assumption)
            have hx4 := bt_at a0 x3_1
            replace p4 := eq_true p4
            replace q4 := eq_true q4
            go_wp2_with (first | ((with_reducible refine gate_callee (f := 38) rfl ?_); refine goesL_ (some 14) rfl rfl Try.func38 (by kernel_rfl) rfl #[.int .i64 (wrap64 (bt a0 x3_1)), .int .i64 97, .int .i64 100] rfl (by (try simp only [List.map_toArray, List.map_cons, List.map_nil]); first | done | rfl | (simp only [List.length_drop, List.length_take]; rfl)) ?_; (with_reducible refine (spec_l6In.calls (wrap64 (bt a0 x3_1)) 97 100 false _ A5.out).mono ?_); rintro e w' ⟨rfl, ⟨nd, rfl⟩⟩; refine ⟨_, rfl, ?_⟩))
            go_ret
            exact ⟨by first | rfl | (simp; done) | (simp [*]; done), by repeat (first | exact Drawn0.refl _ | apply Drawn0.step)⟩
        · rw [if_neg c3] at H
          exact absurd H (by simp)
      · rw [if_neg c2] at H
        have c2b0 : decide (x3_1 < (a0.size : Int)) = false := decide_eq_false c2
        clear c2
        obtain rfl := Option.some.inj H
        go_wp2
        go_ret
        exact ⟨by first | rfl | (simp; done) | (simp [*]; done), by repeat (first | exact Drawn0.refl _ | apply Drawn0.step)⟩
end Go.Proofs.Ytdcmoiihgpekhaa.Q
end
section
namespace Go.Proofs.Ytdcmoiihgpekhaa.Q
open Go.RowKit Go.Proofs.YtdcmoiihgpekhaaW.PrintWords Go.Proofs.YtdcmoiihgpekhaaW.PrintLast Go.Proofs.YtdcmoiihgpekhaaW.PrintMore
attribute [local go_sem] max2_int min2_int max_two min_two max_three min_three max_four min_four   
set_option linter.unusedVariables false
set_option linter.unusedSimpArgs false
def impl_KeyOk.l0 : Nat → ByteArray → Int → Int → Option (Bool)
  | 0, _, _, _ => none
  | k + 1, x0, x5, x6 => if x6 < x5 then (if 0 ≤ x6 then (if x6 < (x0.size : Int) then (if (bt x0 x6) < 97 then (some false) else (if (bt x0 x6) > 100 then (some false) else (impl_KeyOk.l0 k x0 x5 (wrap64 (x6 + 1))))) else (none)) else (none)) else (some (decide ((x0.size : Int) ≤ 5)))
def impl_KeyOk.f (k : Nat) (a0 : ByteArray) : Option (Bool) := impl_KeyOk.l0 k a0 (a0.size : Int) 0
theorem impl_KeyOk.mono_l : ∀ k, (∀ y0 y1 y2, LeO (impl_KeyOk.l0 k y0 y1 y2) (impl_KeyOk.l0 (k + 1) y0 y1 y2))
  | 0 => fun _ _ _ r h => by simp [impl_KeyOk.l0] at h
  | k + 1 => by
    have ih0 := impl_KeyOk.mono_l k
    · intro y0 y1 y2
      unfold impl_KeyOk.l0
      repeat' first
      | (with_reducible exact ih0 _ _ _)
      | (with_reducible exact LeO.refl _)
      | (with_reducible exact LeO.none _)
      | (with_reducible refine LeO.ite ?_ ?_)
      | (with_reducible refine LeO.bind ?_ (fun _ => ?_))
      | exact ih0 _ _ _
      | exact LeO.none _
      | refine LeO.ite ?_ ?_
      | refine LeO.bind ?_ (fun _ => ?_)
theorem impl_KeyOk.mono : ∀ a0 k, LeO (impl_KeyOk.f k a0) (impl_KeyOk.f (k + 1) a0) := by
  intro a0 k
  have ih0 := impl_KeyOk.mono_l k
  unfold impl_KeyOk.f
  repeat' first
      | (with_reducible exact ih0 _ _ _)
      | (with_reducible exact LeO.refl _)
      | (with_reducible exact LeO.none _)
      | (with_reducible refine LeO.ite ?_ ?_)
      | (with_reducible refine LeO.bind ?_ (fun _ => ?_))
      | exact ih0 _ _ _
      | exact LeO.none _
      | refine LeO.ite ?_ ?_
      | refine LeO.bind ?_ (fun _ => ?_)
set_option maxHeartbeats 8000000 in
set_option maxRecDepth 100000 in
theorem impl_KeyOk.calls (k : Nat) (a0 : ByteArray) (r : Bool) (w : World) (h : impl_KeyOk.f k a0 = some r) :
    Calls Try.prog 18 #[.string a0] w fun e w' => e = .returned (.bool r) ∧ Drawn0 w w' := by
  have H : (impl_KeyOk.l0 k a0 (a0.size : Int) 0) = some r := h
  clear h
  have H' := Aside0.mk H
  clear H
  go_enter Try.func18, Try.ntmps18
  go_wp2
  go_loopg [6] k (fun kq v6 w' => ∃ (x6_1 : Int), v6 = .int .i64 x6_1 ∧ Aside0 (impl_KeyOk.l0 kq a0 (a0.size : Int) x6_1 = some r) ∧ Aside0 (kq ≤ k) ∧ Drawn0 w w')
  case atStart => exact ⟨(0), (by first | rfl | (simp; done) | (simp [*]; done)), H', ⟨Nat.le_refl _⟩, by repeat (first | exact Drawn0.refl _ | apply Drawn0.step)⟩
  case round =>
    clear H'
    try clear c1
    obtain ⟨x6_1, rfl, HA, HK1, ⟨m1, rfl⟩⟩ := hrel
    cases gk with
    | zero => exact absurd HA.out (by simp [impl_KeyOk.l0])
    | succ k1 =>
      have H := HA.out
      clear HA
      simp only [impl_KeyOk.l0] at H
      by_cases c2 : x6_1 < (a0.size : Int)
      · rw [if_pos c2] at H
        have c2b0 : decide (x6_1 < (a0.size : Int)) = true := decide_eq_true c2
        clear c2
        by_cases c3 : 0 ≤ x6_1
        · rw [if_pos c3] at H
          have c3b0 : decide (0 ≤ x6_1) = true := decide_eq_true c3
          clear c3
          by_cases c4 : x6_1 < (a0.size : Int)
          · rw [if_pos c4] at H
            have c4b0 : decide (x6_1 < (a0.size : Int)) = true := decide_eq_true c4
            clear c4
            by_cases c6 : (bt a0 x6_1) < 97
            · rw [if_pos c6] at H
              have c6b0 : decide ((bt a0 x6_1) < 97) = true := decide_eq_true c6
              clear c6
              obtain rfl := Option.some.inj H
              have p5 : 0 ≤ (x6_1 : Int) := of_decide_eq_true (by first | (with_reducible assumption) | assumption)
              have q5 : x6_1 < (a0.size : Int) := of_decide_eq_true (by first | (with_reducible assumption) | assumption)
              have hx5 := bt_at a0 x6_1
              replace p5 := eq_true p5
              replace q5 := eq_true q5
              go_wp2
              go_ret
              exact ⟨by first | rfl | (simp; done) | (simp [*]; done), by repeat (first | exact Drawn0.refl _ | apply Drawn0.step)⟩
            · rw [if_neg c6] at H
              have c6b0 : decide ((bt a0 x6_1) < 97) = false := decide_eq_false c6
              clear c6
              by_cases c8 : (bt a0 x6_1) > 100
              · rw [if_pos c8] at H
                have c8b0 : decide (100 < (bt a0 x6_1)) = true := decide_eq_true c8
                clear c8
                obtain rfl := Option.some.inj H
                have p5 : 0 ≤ (x6_1 : Int) := of_decide_eq_true (by first | (with_reducible assumption) | assumption)
                have q5 : x6_1 < (a0.size : Int) := of_decide_eq_true (by first | (with_reducible assumption) | assumption)
                have hx5 := bt_at a0 x6_1
                replace p5 := eq_true p5
                replace q5 := eq_true q5
                have p7 : 0 ≤ (x6_1 : Int) := of_decide_eq_true (by first | (with_reducible assumption) | assumption)
                have q7 : x6_1 < (a0.size : Int) := of_decide_eq_true (by first | (with_reducible assumption) | assumption)
                have hx7 := bt_at a0 x6_1
                replace p7 := eq_true p7
                replace q7 := eq_true q7
                go_wp2
                go_ret
                exact ⟨by first | rfl | (simp; done) | (simp [*]; done), by repeat (first | exact Drawn0.refl _ | apply Drawn0.step)⟩
              · rw [if_neg c8] at H
                have c8b0 : decide (100 < (bt a0 x6_1)) = false := decide_eq_false c8
                clear c8
                have H' := Aside0.mk H
                clear H
                have p5 : 0 ≤ (x6_1 : Int) := of_decide_eq_true (by first | (with_reducible assumption) | assumption)
                have q5 : x6_1 < (a0.size : Int) := of_decide_eq_true (by first | (with_reducible assumption) | assumption)
                have hx5 := bt_at a0 x6_1
                replace p5 := eq_true p5
                replace q5 := eq_true q5
                have p7 : 0 ≤ (x6_1 : Int) := of_decide_eq_true (by first | (with_reducible assumption) | assumption)
                have q7 : x6_1 < (a0.size : Int) := of_decide_eq_true (by first | (with_reducible assumption) | assumption)
                have hx7 := bt_at a0 x6_1
                replace p7 := eq_true p7
                replace q7 := eq_true q7
                go_wp2
                go_roundg k1
                case measure => have := HK1.out; omega
                case rel => exact ⟨(wrap64 (x6_1 + 1)), (by first | rfl | (simp; done) | (simp [*]; done)), H', ⟨by have := HK1.out; omega⟩, by repeat (first | exact Drawn0.refl _ | apply Drawn0.step)⟩
          · rw [if_neg c4] at H
            exact absurd H (by simp)
        · rw [if_neg c3] at H
          exact absurd H (by simp)
      · rw [if_neg c2] at H
        have c2b0 : decide (x6_1 < (a0.size : Int)) = false := decide_eq_false c2
        clear c2
        obtain rfl := Option.some.inj H
        go_wp2
        go_ret
        exact ⟨by first | rfl | (simp; done) | (simp [*]; done), by repeat (first | exact Drawn0.refl _ | apply Drawn0.step)⟩
end Go.Proofs.Ytdcmoiihgpekhaa.Q
end
section
namespace Go.Proofs.Ytdcmoiihgpekhaa.Q
open Go.RowKit Go.Proofs.YtdcmoiihgpekhaaW.PrintWords Go.Proofs.YtdcmoiihgpekhaaW.PrintLast Go.Proofs.YtdcmoiihgpekhaaW.PrintMore
attribute [local go_sem] max2_int min2_int max_two min_two max_three min_three max_four min_four   
set_option linter.unusedVariables false
set_option linter.unusedSimpArgs false
def laws_FnExactKeyOk.f (k : Nat) (a0 : ByteArray) : Option (Bool) := if (a0.size : Int) > 1048576 then (some true) else ((spec_KeyOk.f k a0).bind fun t108 => ((impl_KeyOk.f k a0).bind fun t109 => (if (t109 != t108) = true then (some false) else (some true))))
theorem laws_FnExactKeyOk.mono : ∀ a0 k, LeO (laws_FnExactKeyOk.f k a0) (laws_FnExactKeyOk.f (k + 1) a0) := by
  intro a0 k
  unfold laws_FnExactKeyOk.f
  repeat' first
      | (with_reducible exact impl_KeyOk.mono _ _)
      | (with_reducible exact spec_KeyOk.mono _ _)
      | (with_reducible exact LeO.refl _)
      | (with_reducible exact LeO.none _)
      | (with_reducible refine LeO.ite ?_ ?_)
      | (with_reducible refine LeO.bind ?_ (fun _ => ?_))
      | exact impl_KeyOk.mono _ _
      | exact spec_KeyOk.mono _ _
      | exact LeO.none _
      | refine LeO.ite ?_ ?_
      | refine LeO.bind ?_ (fun _ => ?_)
set_option maxHeartbeats 8000000 in
set_option maxRecDepth 100000 in
theorem laws_FnExactKeyOk.calls (k : Nat) (a0 : ByteArray) (r : Bool) (w : World) (h : laws_FnExactKeyOk.f k a0 = some r) :
    Calls Try.prog 6 #[.string a0] w fun e w' => e = .returned (.bool r) ∧ Drawn0 w w' := by
  have H : (if (a0.size : Int) > 1048576 then (some true) else ((spec_KeyOk.f k a0).bind fun t108 => ((impl_KeyOk.f k a0).bind fun t109 => (if (t109 != t108) = true then (some false) else (some true))))) = some r := h
  clear h
  by_cases c2 : (a0.size : Int) > 1048576
  · rw [if_pos c2] at H
    have c2b0 : decide (1048576 < (a0.size : Int)) = true := decide_eq_true c2
    have c2b1 : decide (1048576 < a0.size) = true := decide_eq_true (by omega)
    clear c2
    obtain rfl := Option.some.inj H
    go_enter Try.func6, Try.ntmps6
    go_wp2
    go_ret
    exact ⟨by first | rfl | (simp; done) | (simp [*]; done), by repeat (first | exact Drawn0.refl _ | apply Drawn0.step)⟩
  · rw [if_neg c2] at H
    have c2b0 : decide (1048576 < (a0.size : Int)) = false := decide_eq_false c2
    have c2b1 : decide (1048576 < a0.size) = false := decide_eq_false (by omega)
    clear c2
    replace H := Option.bind_eq_some_iff.mp H
    obtain ⟨t108, A30, H⟩ := H
    (try dsimp only at H)
    have A3 := Aside0.mk A30
    clear A30
    replace H := Option.bind_eq_some_iff.mp H
    obtain ⟨t109, A40, H⟩ := H
    (try dsimp only at H)
    have A4 := Aside0.mk A40
    clear A40
    go_enter Try.func6, Try.ntmps6
    go_upto_if 14 with (first | ((with_reducible refine gate_callee (f := 17) rfl ?_); refine goesL_ (some 9) rfl rfl Try.func17 (by kernel_rfl) rfl #[.string a0] rfl (by (try simp only [List.map_toArray, List.map_cons, List.map_nil]); first | done | rfl | (simp only [List.length_drop, List.length_take]; rfl)) ?_; (with_reducible refine (spec_KeyOk.calls k a0 t108 _ A3.out).mono ?_); rintro e w' ⟨rfl, ⟨nd, rfl⟩⟩; refine ⟨_, rfl, ?_⟩) | ((with_reducible refine gate_callee (f := 18) rfl ?_); refine goesL_ (some 11) rfl rfl Try.func18 (by kernel_rfl) rfl #[.string a0] rfl (by (try simp only [List.map_toArray, List.map_cons, List.map_nil]); first | done | rfl | (simp only [List.length_drop, List.length_take]; rfl)) ?_; (with_reducible refine (impl_KeyOk.calls k a0 t109 _ A4.out).mono ?_); rintro e w' ⟨rfl, ⟨nd, rfl⟩⟩; refine ⟨_, rfl, ?_⟩))
    by_cases c5 : (t109 != t108) = true
    · rw [if_pos c5] at H
      have c5b0 : (t109 != t108) = true := c5
      (try (have c5b1 : decide (t109 = t108) = false := by simpa using c5))
      (try (have c5b2 : (t109 == t108) = false := by simpa using c5))
      (try (have c5b3 : ¬ (t109 = t108) := by simpa using c5))
      clear c5
      (first | rw [c5b0] | (simp only [i64_w, i32_w]; rw [c5b0]) | simp only [*, Bool.not_true, Bool.not_false] | skip)
      obtain rfl := Option.some.inj H
      go_wp2
      go_ret
      exact ⟨by first | rfl | (simp; done) | (simp [*]; done), by repeat (first | exact Drawn0.refl _ | apply Drawn0.step)⟩
    · rw [if_neg c5] at H
      have c5b0 : (t109 != t108) = false := by simpa using c5
      (try (have c5b1 : decide (t109 = t108) = true := by simpa using c5))
      (try (have c5b2 : (t109 == t108) = true := by simpa using c5))
      clear c5
      (first | rw [c5b0] | (simp only [i64_w, i32_w]; rw [c5b0]) | simp only [*, Bool.not_true, Bool.not_false] | skip)
      obtain rfl := Option.some.inj H
      go_wp2
      go_ret
      exact ⟨by first | rfl | (simp; done) | (simp [*]; done), by repeat (first | exact Drawn0.refl _ | apply Drawn0.step)⟩
def laws_FnExactKeyOk.Pure : Prop := ∀ (a0 : ByteArray), a0.size ≤ 140737488351232 → ∃ k, laws_FnExactKeyOk.f k a0 = some true
theorem laws_FnExactKeyOk.walk (P : laws_FnExactKeyOk.Pure) (a0 : ByteArray) (w : World) (w0 : a0.size ≤ 140737488351232) :
    Calls Try.prog 6 #[.string a0] w fun e w' => e = .returned (.bool true) ∧ Below w.heap.size w w' := by
  obtain ⟨k, h⟩ := P a0 w0
  refine (laws_FnExactKeyOk.calls k a0 true w h).mono ?_
  rintro e w' ⟨rfl, hd⟩
  exact ⟨rfl, hd.below⟩
def IsS66 (w0 W : World) (g : Nat) (f0 : List Int) (f1 : Int) : Prop := ∃ A0 c0, W.heap[g]? = some (.cells #[.slice A0 f0.length c0, .int .i64 f1] 66 (0, 0)) ∧ w0.heap.size ≤ g ∧ Kd.C (Kd.int .u8) w0 A0 f0.length f0
theorem IsS66.grown {w0 W : World} {g : Nat} {f0 : List Int} {f1 : Int} {W1 : World} {row : Option Nat} (h : IsS66 w0 W g f0 f1) (hw : W.grownBy W1 row) (hne : some g ≠ row) : IsS66 w0 W1 g f0 f1 := by
  obtain ⟨A0, c0, hb, hg, hr0⟩ := h
  exact ⟨A0, c0, blk_grown hb hw hne, hg, hr0⟩
theorem IsS66.own_neN {w0 W : World} {g : Nat} {f0 : List Int} {f1 : Int} {α : Type} {d : Kd α} {e : Nat} {base : Nat} {ok : Nat → Prop} {v : Value} {xs : List α} (h : IsS66 w0 W g f0 f1) (ho : Kd.N d e W base ok v xs) (ht : e ≠ 66) : some g ≠ v.ownBlock := by
  obtain ⟨A0, c0, hb, hg, hr0⟩ := h
  exact Kd.N_ne ho hb ht
theorem IsS66.fresh {w0 W : World} {g : Nat} {f0 : List Int} {f1 : Int} (h : IsS66 w0 W g f0 f1) : ∀ k, W.heap.size ≤ k → k ≠ g := by
  obtain ⟨A0, c0, hb, hg, hr0⟩ := h
  exact Kd.freshB hb
theorem IsS66.kept {w0 W : World} {g : Nat} {f0 : List Int} {f1 : Int} {W1 : World} {S : Nat → Prop} (h : IsS66 w0 W g f0 f1) (hk : Kept W W1 S) (hne : ¬ S g) : IsS66 w0 W1 g f0 f1 := by
  obtain ⟨A0, c0, hb, hg, hr0⟩ := h
  exact ⟨A0, c0, blk_kept hb hk hne, hg, hr0⟩
theorem IsS66.below {w0 W : World} {g : Nat} {f0 : List Int} {f1 : Int} {W1 : World} (h : IsS66 w0 W g f0 f1) (hw : Below W.heap.size W W1) : IsS66 w0 W1 g f0 f1 := h.grown (grown_of_below hw none) (by simp)
theorem IsS66.alloc {w0 W : World} {g : Nat} {f0 : List Int} {f1 : Int} (h : IsS66 w0 W g f0 f1) (o : Obj) : IsS66 w0 (W.alloc o) g f0 f1 := h.below (below_alloc (Below.refl _ _) o)
theorem IsS66.drewN {w0 W : World} {g : Nat} {f0 : List Int} {f1 : Int} (h : IsS66 w0 W g f0 f1) (m : Nat) : IsS66 w0 (W.drewN m) g f0 f1 := h
theorem IsS66.drew {w0 W : World} {g : Nat} {f0 : List Int} {f1 : Int} (h : IsS66 w0 W g f0 f1) : IsS66 w0 W.drew g f0 f1 := h
theorem IsS66.at_ {w0 W : World} {g : Nat} {f0 : List Int} {f1 : Int} {w' : World} {m : Nat} (hq : W.drewN m = w') (h : IsS66 w0 W g f0 f1) : IsS66 w0 w' g f0 f1 := by subst hq; exact IsS66.drewN h m
theorem IsS66.apart {w0 W : World} {g : Nat} {f0 : List Int} {f1 : Int} {α : Type} {d : Kd α} {e : Nat} {base : Nat} {ok : Nat → Prop} {v : Value} {xs : List α} (h : IsS66 w0 W g f0 f1) (ho : d.R e W base ok v xs) (ht : ∀ q, q ∈ e :: d.E → q ≠ 66) : d.R e W base (fun k => ok k ∧ k ≠ g) v xs := by
  obtain ⟨A0, c0, hb, hg, hr0⟩ := h
  exact Kd.R_types ho hb ht
theorem IsS66.own_ne {w0 W : World} {g : Nat} {f0 : List Int} {f1 : Int} {α : Type} {d : Kd α} {e : Nat} {base : Nat} {ok : Nat → Prop} {v : Value} {xs : List α} (h : IsS66 w0 W g f0 f1) (ho : d.R e W base ok v xs) (ht : e ≠ 66) : some g ≠ v.ownBlock := by
  obtain ⟨A0, c0, hb, hg, hr0⟩ := h
  exact Kd.R_ne ho hb ht
theorem IsS66.apartQ {w0 W : World} {g : Nat} {f0 : List Int} {f1 : Int} {α : Type} {d : Kd α} {e : Nat} {base : Nat} {ok : Nat → Prop} {v : Value} {xs : List α} (h : IsS66 w0 W g f0 f1) (ho : d.Q e W base ok v xs) (ht : ∀ q, q ∈ e :: d.E → q ≠ 66) : d.Q e W base (fun k => ok k ∧ k ≠ g) v xs := by
  obtain ⟨A0, c0, hb, hg, hr0⟩ := h
  exact Kd.Q_types ho hb ht
theorem IsS66.own_neQ {w0 W : World} {g : Nat} {f0 : List Int} {f1 : Int} {α : Type} {d : Kd α} {e : Nat} {base : Nat} {ok : Nat → Prop} {v : Value} {xs : List α} (h : IsS66 w0 W g f0 f1) (ho : d.Q e W base ok v xs) (ht : e ≠ 66) : some g ≠ v.ownBlock := by
  obtain ⟨A0, c0, hb, hg, hr0⟩ := h
  exact Kd.Q_ne ho hb ht
theorem IsS66.apartS {w0 W : World} {g : Nat} {f0 : List Int} {f1 : Int} {α : Type} {d : Kd α} {e : Nat} {base : Nat} {ok : Nat → Prop} {v : Value} {xs : List α} (h : IsS66 w0 W g f0 f1) (ho : d.S e W base ok v xs) (ht : ∀ q, q ∈ e :: d.E → q ≠ 66) : d.S e W base (fun k => ok k ∧ k ≠ g) v xs := by
  obtain ⟨A0, c0, hb, hg, hr0⟩ := h
  exact Kd.S_types ho hb ht
theorem IsS66.own_neS {w0 W : World} {g : Nat} {f0 : List Int} {f1 : Int} {α : Type} {d : Kd α} {e : Nat} {base : Nat} {ok : Nat → Prop} {v : Value} {xs : List α} (h : IsS66 w0 W g f0 f1) (ho : d.S e W base ok v xs) (ht : e ≠ 66) : some g ≠ v.ownBlock := by
  obtain ⟨A0, c0, hb, hg, hr0⟩ := h
  exact Kd.S_ne ho hb ht
theorem IsS66.lt {w0 W : World} {g : Nat} {f0 : List Int} {f1 : Int} (h : IsS66 w0 W g f0 f1) : g < W.heap.size := by
  obtain ⟨A0, c0, hb, hg, hr0⟩ := h
  exact blk_lt hb
theorem IsS66.ge {w0 W : World} {g : Nat} {f0 : List Int} {f1 : Int} (h : IsS66 w0 W g f0 f1) : w0.heap.size ≤ g := by
  obtain ⟨A0, c0, hb, hg, hr0⟩ := h
  exact hg
theorem IsS66.ne_blk {w0 W : World} {g : Nat} {f0 : List Int} {f1 : Int} {a : Nat} {cs : Array Value} {t : TypeId} {fr : Nat × Nat} (h : IsS66 w0 W g f0 f1) (hb2 : W.heap[a]? = some (.cells cs t fr)) (ht : t ≠ 66) : g ≠ a := by
  obtain ⟨A0, c0, hb, hg, hr0⟩ := h
  rintro rfl
  rw [hb] at hb2
  injection hb2 with hb2
  injection hb2 with _ ht2
  exact ht ht2.symm
theorem IsS66.far {w0 W : World} {g : Nat} {f0 : List Int} {f1 : Int} {p : Addr} (h : IsS66 w0 W g f0 f1) (hne : g ≠ p.block) (u : Value) : IsS66 w0 (W.setCell p u) g f0 f1 := by
  obtain ⟨A0, c0, hb, hg, hr0⟩ := h
  exact ⟨A0, c0, blk_far hb hne u, hg, hr0⟩
theorem cellS66_0 {W : World} {g : Nat} {A0 : Option Addr} {c0 : Nat} {f0 : List Int} {f1 : Int} (h : W.heap[g]? = some (.cells #[.slice A0 f0.length c0, .int .i64 f1] 66 (0, 0))) : W.cell? ⟨g, 0, none⟩ = some (.slice A0 f0.length c0) := (blk_cell h 0).trans rfl
theorem cellS66_1 {W : World} {g : Nat} {A0 : Option Addr} {c0 : Nat} {f0 : List Int} {f1 : Int} (h : W.heap[g]? = some (.cells #[.slice A0 f0.length c0, .int .i64 f1] 66 (0, 0))) : W.cell? ⟨g, 1, none⟩ = some (.int .i64 f1) := (blk_cell h 1).trans rfl
theorem IsS66.set_1 {w0 W : World} {g : Nat} {f0 : List Int} {f1 : Int} (h : IsS66 w0 W g f0 f1) (x : Int) : IsS66 w0 (W.setCell ⟨g, 1, none⟩ (.int .i64 x)) g f0 x := by
  obtain ⟨A0, c0, hb, hg, hr0⟩ := h
  exact ⟨A0, c0, by simpa using blk_set hb 1 (.int .i64 x), hg, hr0⟩
theorem IsS66.new (w0 W : World) (A0 : Option Addr) (c0 : Nat) (f0 : List Int) (f1 : Int) (hB : Below w0.heap.size w0 W) (hr0 : Kd.C (Kd.int .u8) w0 A0 f0.length f0) : IsS66 w0 (W.alloc (.cells #[.slice A0 f0.length c0, .int .i64 f1] 66)) W.heap.size f0 f1 := ⟨A0, c0, by simpa using heap_alloc_new W _, hB.size, hr0⟩
end Go.Proofs.Ytdcmoiihgpekhaa.Q
end
section
namespace Go.Proofs.Ytdcmoiihgpekhaa.Q
open Go.RowKit Go.Proofs.YtdcmoiihgpekhaaW.PrintWords Go.Proofs.YtdcmoiihgpekhaaW.PrintLast Go.Proofs.YtdcmoiihgpekhaaW.PrintMore
attribute [local go_sem] max2_int min2_int max_two min_two max_three min_three max_four min_four   
set_option linter.unusedVariables false
set_option linter.unusedSimpArgs false
def spec_BitsOk.l0 : Nat → ByteArray → Int → Option (Bool)
  | 0, _, _ => none
  | k + 1, x0, x3 => if x3 < (x0.size : Int) then (if 0 ≤ x3 then (if (bt x0 x3) = 48 then (spec_BitsOk.l0 k x0 (wrap64 (x3 + 1))) else (if (bt x0 x3) = 49 then (spec_BitsOk.l0 k x0 (wrap64 (x3 + 1))) else (some false))) else (none)) else (some (decide ((x0.size : Int) ≤ 400)))
def spec_BitsOk.f (k : Nat) (a0 : ByteArray) : Option (Bool) := spec_BitsOk.l0 k a0 0
theorem spec_BitsOk.mono_l : ∀ k, (∀ y0 y1, LeO (spec_BitsOk.l0 k y0 y1) (spec_BitsOk.l0 (k + 1) y0 y1))
  | 0 => fun _ _ r h => by simp [spec_BitsOk.l0] at h
  | k + 1 => by
    have ih0 := spec_BitsOk.mono_l k
    · intro y0 y1
      unfold spec_BitsOk.l0
      repeat' first
      | (with_reducible exact ih0 _ _)
      | (with_reducible exact LeO.refl _)
      | (with_reducible exact LeO.none _)
      | (with_reducible refine LeO.ite ?_ ?_)
      | (with_reducible refine LeO.bind ?_ (fun _ => ?_))
      | exact ih0 _ _
      | exact LeO.none _
      | refine LeO.ite ?_ ?_
      | refine LeO.bind ?_ (fun _ => ?_)
theorem spec_BitsOk.mono : ∀ a0 k, LeO (spec_BitsOk.f k a0) (spec_BitsOk.f (k + 1) a0) := by
  intro a0 k
  have ih0 := spec_BitsOk.mono_l k
  unfold spec_BitsOk.f
  repeat' first
      | (with_reducible exact ih0 _ _)
      | (with_reducible exact LeO.refl _)
      | (with_reducible exact LeO.none _)
      | (with_reducible refine LeO.ite ?_ ?_)
      | (with_reducible refine LeO.bind ?_ (fun _ => ?_))
      | exact ih0 _ _
      | exact LeO.none _
      | refine LeO.ite ?_ ?_
      | refine LeO.bind ?_ (fun _ => ?_)
set_option maxHeartbeats 8000000 in
set_option maxRecDepth 100000 in
theorem spec_BitsOk.calls (k : Nat) (a0 : ByteArray) (r : Bool) (w : World) (h : spec_BitsOk.f k a0 = some r) :
    Calls Try.prog 15 #[.string a0] w fun e w' => e = .returned (.bool r) ∧ Drawn0 w w' := by
  have H : (spec_BitsOk.l0 k a0 0) = some r := h
  clear h
  have H' := Aside0.mk H
  clear H
  go_enter Try.func15, Try.ntmps15
  go_wp2
  go_loopg [3] k (fun kq v3 w' => ∃ (x3_1 : Int), v3 = .int .i64 x3_1 ∧ Aside0 (spec_BitsOk.l0 kq a0 x3_1 = some r) ∧ Aside0 (kq ≤ k) ∧ Drawn0 w w')
  case atStart => exact ⟨(0), (by first | rfl | (simp; done) | (simp [*]; done)), H', ⟨Nat.le_refl _⟩, by repeat (first | exact Drawn0.refl _ | apply Drawn0.step)⟩
  case round =>
    clear H'
    try clear c1
    obtain ⟨x3_1, rfl, HA, HK1, ⟨m1, rfl⟩⟩ := hrel
    cases gk with
    | zero => exact absurd HA.out (by simp [spec_BitsOk.l0])
    | succ k1 =>
      have H := HA.out
      clear HA
      simp only [spec_BitsOk.l0] at H
      by_cases c2 : x3_1 < (a0.size : Int)
      · rw [if_pos c2] at H
        have c2b0 : decide (x3_1 < (a0.size : Int)) = true := decide_eq_true c2
        clear c2
        by_cases c3 : 0 ≤ x3_1
        · rw [if_pos c3] at H
          have c3b0 : decide (0 ≤ x3_1) = true := decide_eq_true c3
          clear c3
          by_cases c5 : (bt a0 x3_1) = 48
          · rw [if_pos c5] at H
            have c5b0 : ((bt a0 x3_1) == 48) = true := beq_iff_eq.mpr c5
            have c5b1 : ((bt a0 x3_1) != 48) = false := bne_eq_false_iff_eq.mpr c5
            clear c5
            have H' := Aside0.mk H
            clear H
            have p4 : 0 ≤ (x3_1 : Int) := of_decide_eq_true (by first | (with_reducible assumption) | assumption)
            have q4 : x3_1 < (a0.size : Int) := of_decide_eq_true (by first | (with_reducible assumption) | assumption)
            have hx4 := bt_at a0 x3_1
            replace p4 := eq_true p4
            replace q4 := eq_true q4
            go_wp2
            go_roundg k1
            case measure => have := HK1.out; omega
            case rel => exact ⟨(wrap64 (x3_1 + 1)), (by first | rfl | (simp; done) | (simp [*]; done)), H', ⟨by have := HK1.out; omega⟩, by repeat (first | exact Drawn0.refl _ | apply Drawn0.step)⟩
          · rw [if_neg c5] at H
            have c5b0 : ((bt a0 x3_1) == 48) = false := beq_eq_false_iff_ne.mpr c5
            have c5b1 : ((bt a0 x3_1) != 48) = true := bne_iff_ne.mpr c5
            by_cases c7 : (bt a0 x3_1) = 49
            · rw [if_pos c7] at H
              have c7b0 : ((bt a0 x3_1) == 49) = true := beq_iff_eq.mpr c7
              have c7b1 : ((bt a0 x3_1) != 49) = false := bne_eq_false_iff_eq.mpr c7
              clear c7
              have H' := Aside0.mk H
              clear H
              have p4 : 0 ≤ (x3_1 : Int) := of_decide_eq_true (by first | (with_reducible assumption) | assumption)
              have q4 : x3_1 < (a0.size : Int) := of_decide_eq_true (by first | (with_reducible assumption) | assumption)
              have hx4 := bt_at a0 x3_1
              replace p4 := eq_true p4
              replace q4 := eq_true q4
              have p6 : 0 ≤ (x3_1 : Int) := of_decide_eq_true (by first | (with_reducible assumption) | assumption)
              have q6 : x3_1 < (a0.size : Int) := of_decide_eq_true (by first | (with_reducible assumption) | assumption)
              have hx6 := bt_at a0 x3_1
              replace p6 := eq_true p6
              replace q6 := eq_true q6
              go_wp2
              go_roundg k1
              case measure => have := HK1.out; omega
              case rel => exact ⟨(wrap64 (x3_1 + 1)), (by first | rfl | (simp; done) | (simp [*]; done)), H', ⟨by have := HK1.out; omega⟩, by repeat (first | exact Drawn0.refl _ | apply Drawn0.step)⟩
            · rw [if_neg c7] at H
              have c7b0 : ((bt a0 x3_1) == 49) = false := beq_eq_false_iff_ne.mpr c7
              have c7b1 : ((bt a0 x3_1) != 49) = true := bne_iff_ne.mpr c7
              obtain rfl := Option.some.inj H
              have p4 : 0 ≤ (x3_1 : Int) := of_decide_eq_true (by first | (with_reducible assumption) | assumption)
              have q4 : x3_1 < (a0.size : Int) := of_decide_eq_true (by first | (with_reducible assumption) | assumption)
              have hx4 := bt_at a0 x3_1
              replace p4 := eq_true p4
              replace q4 := eq_true q4
              have p6 : 0 ≤ (x3_1 : Int) := of_decide_eq_true (by first | (with_reducible assumption) | assumption)
              have q6 : x3_1 < (a0.size : Int) := of_decide_eq_true (by first | (with_reducible assumption) | assumption)
              have hx6 := bt_at a0 x3_1
              replace p6 := eq_true p6
              replace q6 := eq_true q6
              go_wp2
              go_ret
              exact ⟨by first | rfl | (simp; done) | (simp [*]; done), by repeat (first | exact Drawn0.refl _ | apply Drawn0.step)⟩
        · rw [if_neg c3] at H
          exact absurd H (by simp)
      · rw [if_neg c2] at H
        have c2b0 : decide (x3_1 < (a0.size : Int)) = false := decide_eq_false c2
        clear c2
        obtain rfl := Option.some.inj H
        go_wp2
        go_ret
        exact ⟨by first | rfl | (simp; done) | (simp [*]; done), by repeat (first | exact Drawn0.refl _ | apply Drawn0.step)⟩
end Go.Proofs.Ytdcmoiihgpekhaa.Q
end
section
namespace Go.Proofs.Ytdcmoiihgpekhaa.Q
open Go.RowKit Go.Proofs.YtdcmoiihgpekhaaW.PrintWords Go.Proofs.YtdcmoiihgpekhaaW.PrintLast Go.Proofs.YtdcmoiihgpekhaaW.PrintMore
attribute [local go_sem] max2_int min2_int max_two min_two max_three min_three max_four min_four   
set_option linter.unusedVariables false
set_option linter.unusedSimpArgs false
def impl_BitsOk.l0 : Nat → ByteArray → Int → Int → Option (Bool)
  | 0, _, _, _ => none
  | k + 1, x0, x5, x6 => if x6 < x5 then (if 0 ≤ x6 then (if x6 < (x0.size : Int) then (if (bt x0 x6) = 48 then (impl_BitsOk.l0 k x0 x5 (wrap64 (x6 + 1))) else (if (bt x0 x6) = 49 then (impl_BitsOk.l0 k x0 x5 (wrap64 (x6 + 1))) else (some false))) else (none)) else (none)) else (some (decide ((x0.size : Int) ≤ 400)))
def impl_BitsOk.f (k : Nat) (a0 : ByteArray) : Option (Bool) := impl_BitsOk.l0 k a0 (a0.size : Int) 0
theorem impl_BitsOk.mono_l : ∀ k, (∀ y0 y1 y2, LeO (impl_BitsOk.l0 k y0 y1 y2) (impl_BitsOk.l0 (k + 1) y0 y1 y2))
  | 0 => fun _ _ _ r h => by simp [impl_BitsOk.l0] at h
  | k + 1 => by
    have ih0 := impl_BitsOk.mono_l k
    · intro y0 y1 y2
      unfold impl_BitsOk.l0
      repeat' first
      | (with_reducible exact ih0 _ _ _)
      | (with_reducible exact LeO.refl _)
      | (with_reducible exact LeO.none _)
      | (with_reducible refine LeO.ite ?_ ?_)
      | (with_reducible refine LeO.bind ?_ (fun _ => ?_))
      | exact ih0 _ _ _
      | exact LeO.none _
      | refine LeO.ite ?_ ?_
      | refine LeO.bind ?_ (fun _ => ?_)
theorem impl_BitsOk.mono : ∀ a0 k, LeO (impl_BitsOk.f k a0) (impl_BitsOk.f (k + 1) a0) := by
  intro a0 k
  have ih0 := impl_BitsOk.mono_l k
  unfold impl_BitsOk.f
  repeat' first
      | (with_reducible exact ih0 _ _ _)
      | (with_reducible exact LeO.refl _)
      | (with_reducible exact LeO.none _)
      | (with_reducible refine LeO.ite ?_ ?_)
      | (with_reducible refine LeO.bind ?_ (fun _ => ?_))
      | exact ih0 _ _ _
      | exact LeO.none _
      | refine LeO.ite ?_ ?_
      | refine LeO.bind ?_ (fun _ => ?_)
set_option maxHeartbeats 8000000 in
set_option maxRecDepth 100000 in
theorem impl_BitsOk.calls (k : Nat) (a0 : ByteArray) (r : Bool) (w : World) (h : impl_BitsOk.f k a0 = some r) :
    Calls Try.prog 16 #[.string a0] w fun e w' => e = .returned (.bool r) ∧ Drawn0 w w' := by
  have H : (impl_BitsOk.l0 k a0 (a0.size : Int) 0) = some r := h
  clear h
  have H' := Aside0.mk H
  clear H
  go_enter Try.func16, Try.ntmps16
  go_wp2
  go_loopg [6] k (fun kq v6 w' => ∃ (x6_1 : Int), v6 = .int .i64 x6_1 ∧ Aside0 (impl_BitsOk.l0 kq a0 (a0.size : Int) x6_1 = some r) ∧ Aside0 (kq ≤ k) ∧ Drawn0 w w')
  case atStart => exact ⟨(0), (by first | rfl | (simp; done) | (simp [*]; done)), H', ⟨Nat.le_refl _⟩, by repeat (first | exact Drawn0.refl _ | apply Drawn0.step)⟩
  case round =>
    clear H'
    try clear c1
    obtain ⟨x6_1, rfl, HA, HK1, ⟨m1, rfl⟩⟩ := hrel
    cases gk with
    | zero => exact absurd HA.out (by simp [impl_BitsOk.l0])
    | succ k1 =>
      have H := HA.out
      clear HA
      simp only [impl_BitsOk.l0] at H
      by_cases c2 : x6_1 < (a0.size : Int)
      · rw [if_pos c2] at H
        have c2b0 : decide (x6_1 < (a0.size : Int)) = true := decide_eq_true c2
        clear c2
        by_cases c3 : 0 ≤ x6_1
        · rw [if_pos c3] at H
          have c3b0 : decide (0 ≤ x6_1) = true := decide_eq_true c3
          clear c3
          by_cases c4 : x6_1 < (a0.size : Int)
          · rw [if_pos c4] at H
            have c4b0 : decide (x6_1 < (a0.size : Int)) = true := decide_eq_true c4
            clear c4
            by_cases c6 : (bt a0 x6_1) = 48
            · rw [if_pos c6] at H
              have c6b0 : ((bt a0 x6_1) == 48) = true := beq_iff_eq.mpr c6
              have c6b1 : ((bt a0 x6_1) != 48) = false := bne_eq_false_iff_eq.mpr c6
              clear c6
              have H' := Aside0.mk H
              clear H
              have p5 : 0 ≤ (x6_1 : Int) := of_decide_eq_true (by first | (with_reducible assumption) | assumption)
              have q5 : x6_1 < (a0.size : Int) := of_decide_eq_true (by first | (with_reducible assumption) | assumption)
              have hx5 := bt_at a0 x6_1
              replace p5 := eq_true p5
              replace q5 := eq_true q5
              go_wp2
              go_roundg k1
              case measure => have := HK1.out; omega
              case rel => exact ⟨(wrap64 (x6_1 + 1)), (by first | rfl | (simp; done) | (simp [*]; done)), H', ⟨by have := HK1.out; omega⟩, by repeat (first | exact Drawn0.refl _ | apply Drawn0.step)⟩
            · rw [if_neg c6] at H
              have c6b0 : ((bt a0 x6_1) == 48) = false := beq_eq_false_iff_ne.mpr c6
              have c6b1 : ((bt a0 x6_1) != 48) = true := bne_iff_ne.mpr c6
              by_cases c8 : (bt a0 x6_1) = 49
              · rw [if_pos c8] at H
                have c8b0 : ((bt a0 x6_1) == 49) = true := beq_iff_eq.mpr c8
                have c8b1 : ((bt a0 x6_1) != 49) = false := bne_eq_false_iff_eq.mpr c8
                clear c8
                have H' := Aside0.mk H
                clear H
                have p5 : 0 ≤ (x6_1 : Int) := of_decide_eq_true (by first | (with_reducible assumption) | assumption)
                have q5 : x6_1 < (a0.size : Int) := of_decide_eq_true (by first | (with_reducible assumption) | assumption)
                have hx5 := bt_at a0 x6_1
                replace p5 := eq_true p5
                replace q5 := eq_true q5
                have p7 : 0 ≤ (x6_1 : Int) := of_decide_eq_true (by first | (with_reducible assumption) | assumption)
                have q7 : x6_1 < (a0.size : Int) := of_decide_eq_true (by first | (with_reducible assumption) | assumption)
                have hx7 := bt_at a0 x6_1
                replace p7 := eq_true p7
                replace q7 := eq_true q7
                go_wp2
                go_roundg k1
                case measure => have := HK1.out; omega
                case rel => exact ⟨(wrap64 (x6_1 + 1)), (by first | rfl | (simp; done) | (simp [*]; done)), H', ⟨by have := HK1.out; omega⟩, by repeat (first | exact Drawn0.refl _ | apply Drawn0.step)⟩
              · rw [if_neg c8] at H
                have c8b0 : ((bt a0 x6_1) == 49) = false := beq_eq_false_iff_ne.mpr c8
                have c8b1 : ((bt a0 x6_1) != 49) = true := bne_iff_ne.mpr c8
                obtain rfl := Option.some.inj H
                have p5 : 0 ≤ (x6_1 : Int) := of_decide_eq_true (by first | (with_reducible assumption) | assumption)
                have q5 : x6_1 < (a0.size : Int) := of_decide_eq_true (by first | (with_reducible assumption) | assumption)
                have hx5 := bt_at a0 x6_1
                replace p5 := eq_true p5
                replace q5 := eq_true q5
                have p7 : 0 ≤ (x6_1 : Int) := of_decide_eq_true (by first | (with_reducible assumption) | assumption)
                have q7 : x6_1 < (a0.size : Int) := of_decide_eq_true (by first | (with_reducible assumption) | assumption)
                have hx7 := bt_at a0 x6_1
                replace p7 := eq_true p7
                replace q7 := eq_true q7
                go_wp2
                go_ret
                exact ⟨by first | rfl | (simp; done) | (simp [*]; done), by repeat (first | exact Drawn0.refl _ | apply Drawn0.step)⟩
          · rw [if_neg c4] at H
            exact absurd H (by simp)
        · rw [if_neg c3] at H
          exact absurd H (by simp)
      · rw [if_neg c2] at H
        have c2b0 : decide (x6_1 < (a0.size : Int)) = false := decide_eq_false c2
        clear c2
        obtain rfl := Option.some.inj H
        go_wp2
        go_ret
        exact ⟨by first | rfl | (simp; done) | (simp [*]; done), by repeat (first | exact Drawn0.refl _ | apply Drawn0.step)⟩
end Go.Proofs.Ytdcmoiihgpekhaa.Q
end
section
namespace Go.Proofs.Ytdcmoiihgpekhaa.Q
open Go.RowKit Go.Proofs.YtdcmoiihgpekhaaW.PrintWords Go.Proofs.YtdcmoiihgpekhaaW.PrintLast Go.Proofs.YtdcmoiihgpekhaaW.PrintMore
attribute [local go_sem] max2_int min2_int max_two min_two max_three min_three max_four min_four   
set_option linter.unusedVariables false
set_option linter.unusedSimpArgs false
mutual
def spec_l1Ones.l0 : Nat → ByteArray → Int → Int → Int → Option (Int)
  | 0, _, _, _, _ => none
  | k + 1, x0, x1, x5, x6 => if x6 < x1 then (spec_l1Ones.j1 k x0 x1 x5 x6 (decide (x6 < (x0.size : Int)))) else (spec_l1Ones.j1 k x0 x1 x5 x6 false)
def spec_l1Ones.j1 : Nat → ByteArray → Int → Int → Int → Bool → Option (Int)
  | 0, _, _, _, _, _ => none
  | k + 1, x0, x1, x5, x6, x15 => if x15 = true then (if 0 ≤ x6 then (if x6 < (x0.size : Int) then (if (bt x0 x6) = 49 then (spec_l1Ones.l0 k x0 x1 (wrap64 (x5 + 1)) (wrap64 (x6 + 1))) else (spec_l1Ones.l0 k x0 x1 x5 (wrap64 (x6 + 1)))) else (none)) else (none)) else (some x5)
end
def spec_l1Ones.f (k : Nat) (a0 : ByteArray) (a1 : Int) : Option (Int) := spec_l1Ones.l0 k a0 a1 0 0
theorem spec_l1Ones.mono_l : ∀ k, (∀ y0 y1 y2 y3, LeO (spec_l1Ones.l0 k y0 y1 y2 y3) (spec_l1Ones.l0 (k + 1) y0 y1 y2 y3)) ∧ (∀ y0 y1 y2 y3 y4, LeO (spec_l1Ones.j1 k y0 y1 y2 y3 y4) (spec_l1Ones.j1 (k + 1) y0 y1 y2 y3 y4))
  | 0 => ⟨fun _ _ _ _ r h => by simp [spec_l1Ones.l0] at h, fun _ _ _ _ _ r h => by simp [spec_l1Ones.j1] at h⟩
  | k + 1 => by
    obtain ⟨ih0, ih1⟩ := spec_l1Ones.mono_l k
    refine ⟨?_, ?_⟩
    · intro y0 y1 y2 y3
      unfold spec_l1Ones.l0
      repeat' first
      | (with_reducible exact ih0 _ _ _ _)
      | (with_reducible exact ih1 _ _ _ _ _)
      | (with_reducible exact LeO.refl _)
      | (with_reducible exact LeO.none _)
      | (with_reducible refine LeO.ite ?_ ?_)
      | (with_reducible refine LeO.bind ?_ (fun _ => ?_))
      | exact ih0 _ _ _ _
      | exact ih1 _ _ _ _ _
      | exact LeO.none _
      | refine LeO.ite ?_ ?_
      | refine LeO.bind ?_ (fun _ => ?_)
    · intro y0 y1 y2 y3 y4
      unfold spec_l1Ones.j1
      repeat' first
      | (with_reducible exact ih0 _ _ _ _)
      | (with_reducible exact ih1 _ _ _ _ _)
      | (with_reducible exact LeO.refl _)
      | (with_reducible exact LeO.none _)
      | (with_reducible refine LeO.ite ?_ ?_)
      | (with_reducible refine LeO.bind ?_ (fun _ => ?_))
      | exact ih0 _ _ _ _
      | exact ih1 _ _ _ _ _
      | exact LeO.none _
      | refine LeO.ite ?_ ?_
      | refine LeO.bind ?_ (fun _ => ?_)
theorem spec_l1Ones.mono : ∀ a0 a1 k, LeO (spec_l1Ones.f k a0 a1) (spec_l1Ones.f (k + 1) a0 a1) := by
  intro a0 a1 k
  obtain ⟨ih0, ih1⟩ := spec_l1Ones.mono_l k
  unfold spec_l1Ones.f
  repeat' first
      | (with_reducible exact ih0 _ _ _ _)
      | (with_reducible exact ih1 _ _ _ _ _)
      | (with_reducible exact LeO.refl _)
      | (with_reducible exact LeO.none _)
      | (with_reducible refine LeO.ite ?_ ?_)
      | (with_reducible refine LeO.bind ?_ (fun _ => ?_))
      | exact ih0 _ _ _ _
      | exact ih1 _ _ _ _ _
      | exact LeO.none _
      | refine LeO.ite ?_ ?_
      | refine LeO.bind ?_ (fun _ => ?_)
set_option maxHeartbeats 8000000 in
set_option maxRecDepth 100000 in
theorem spec_l1Ones.calls (k : Nat) (a0 : ByteArray) (a1 : Int) (r : Int) (w : World) (h : spec_l1Ones.f k a0 a1 = some r) :
    Calls Try.prog 48 #[.string a0, .int .i64 a1] w fun e w' => e = .returned (.int .i64 r) ∧ Drawn0 w w' := by
  have H : (spec_l1Ones.l0 k a0 a1 0 0) = some r := h
  clear h
  have H' := Aside0.mk H
  clear H
  go_enter Try.func48, Try.ntmps48
  go_wp2
  go_loopg [5, 6] k (fun kq v5 v6 w' => ∃ (x5_1 : Int) (x6_1 : Int), v5 = .int .i64 x5_1 ∧ v6 = .int .i64 x6_1 ∧ Aside0 (spec_l1Ones.l0 kq a0 a1 x5_1 x6_1 = some r) ∧ Aside0 (kq ≤ k) ∧ Drawn0 w w')
  case atStart => exact ⟨(0), (0), (by first | rfl | (simp; done) | (simp [*]; done)), (by first | rfl | (simp; done) | (simp [*]; done)), H', ⟨Nat.le_refl _⟩, by repeat (first | exact Drawn0.refl _ | apply Drawn0.step)⟩
  case round =>
    clear H'
    try clear p2
    obtain ⟨x5_1, x6_1, rfl, rfl, HA, HK1, ⟨m1, rfl⟩⟩ := hrel
    cases gk with
    | zero => exact absurd HA.out (by simp [spec_l1Ones.l0])
    | succ k1 =>
      have H := HA.out
      clear HA
      simp only [spec_l1Ones.l0] at H
      have HC3 := Aside0.mk H
      clear H
      go_upto_region 3 with (fail)
      go_cut [15] (fun v15 wc => ∃ (kq : Nat) (x15_2 : Bool), v15 = .bool x15_2 ∧ Aside0 (spec_l1Ones.j1 kq a0 a1 x5_1 x6_1 x15_2 = some r) ∧ Aside0 (kq ≤ k1) ∧ Drawn0 w wc)
      case first =>
        have H := HC3.out
        clear HC3
        by_cases c4 : x6_1 < a1
        · rw [if_pos c4] at H
          have c4b0 : decide (x6_1 < a1) = true := decide_eq_true c4
          clear c4
          (first | rw [c4b0] | (simp only [i64_w, i32_w]; rw [c4b0]) | simp only [*, Bool.not_true, Bool.not_false] | skip)
          have H' := Aside0.mk H
          clear H
          go_wp2
          go_meet
          case rel => exact ⟨_, (decide (x6_1 < (a0.size : Int))), (by first | rfl | (simp; done) | (simp [*]; done)), H', ⟨by have := HK1.out; first | omega | exact Nat.le_refl _⟩, by repeat (first | exact Drawn0.refl _ | apply Drawn0.step)⟩
        · rw [if_neg c4] at H
          have c4b0 : decide (x6_1 < a1) = false := decide_eq_false c4
          clear c4
          (first | rw [c4b0] | (simp only [i64_w, i32_w]; rw [c4b0]) | simp only [*, Bool.not_true, Bool.not_false] | skip)
          have H' := Aside0.mk H
          clear H
          go_wp2
          go_meet
          case rel => exact ⟨_, (false), (by first | rfl | (simp; done) | (simp [*]; done)), H', ⟨by have := HK1.out; first | omega | exact Nat.le_refl _⟩, by repeat (first | exact Drawn0.refl _ | apply Drawn0.step)⟩
      case rest =>
        clear HC3
        try clear p2
        try clear c4
        try clear c4b0
        try clear p2
        obtain ⟨kq, x15_2, rfl, HA, HJ2, ⟨mc2, rfl⟩⟩ := hcut
        cases kq with
        | zero => exact absurd HA.out (by simp [spec_l1Ones.j1])
        | succ kj2 =>
          have H := HA.out
          clear HA
          simp only [spec_l1Ones.j1] at H
          by_cases c5 : x15_2 = true
          · subst c5
            have H1 : (if 0 ≤ x6_1 then (if x6_1 < (a0.size : Int) then (if (bt a0 x6_1) = 49 then (spec_l1Ones.l0 kj2 a0 a1 (wrap64 (x5_1 + 1)) (wrap64 (x6_1 + 1))) else (spec_l1Ones.l0 kj2 a0 a1 x5_1 (wrap64 (x6_1 + 1)))) else (none)) else (none)) = some r := by rw [if_pos rfl] at H; exact H
            clear H
            have H := H1
            clear H1
            by_cases c6 : 0 ≤ x6_1
            · rw [if_pos c6] at H
              have c6b0 : decide (0 ≤ x6_1) = true := decide_eq_true c6
              clear c6
              by_cases c7 : x6_1 < (a0.size : Int)
              · rw [if_pos c7] at H
                have c7b0 : decide (x6_1 < (a0.size : Int)) = true := decide_eq_true c7
                clear c7
                by_cases c9 : (bt a0 x6_1) = 49
                · rw [if_pos c9] at H
                  have c9b0 : ((bt a0 x6_1) == 49) = true := beq_iff_eq.mpr c9
                  have c9b1 : ((bt a0 x6_1) != 49) = false := bne_eq_false_iff_eq.mpr c9
                  clear c9
                  have H' := Aside0.mk H
                  clear H
                  have p8 : 0 ≤ (x6_1 : Int) := of_decide_eq_true (by first | (with_reducible assumption) | assumption)
                  have q8 : x6_1 < (a0.size : Int) := of_decide_eq_true (by first | (with_reducible assumption) | assumption)
                  have hx8 := bt_at a0 x6_1
                  replace p8 := eq_true p8
                  replace q8 := eq_true q8
                  go_wp2
                  go_roundg kj2
                  case measure => have := HK1.out; have := HJ2.out; omega
                  case rel => exact ⟨(wrap64 (x5_1 + 1)), (wrap64 (x6_1 + 1)), (by first | rfl | (simp; done) | (simp [*]; done)), (by first | rfl | (simp; done) | (simp [*]; done)), H', ⟨by have := HK1.out; have := HJ2.out; omega⟩, by repeat (first | exact Drawn0.refl _ | apply Drawn0.step)⟩
                · rw [if_neg c9] at H
                  have c9b0 : ((bt a0 x6_1) == 49) = false := beq_eq_false_iff_ne.mpr c9
                  have c9b1 : ((bt a0 x6_1) != 49) = true := bne_iff_ne.mpr c9
                  have H' := Aside0.mk H
                  clear H
                  have p8 : 0 ≤ (x6_1 : Int) := of_decide_eq_true (by first | (with_reducible assumption) | assumption)
                  have q8 : x6_1 < (a0.size : Int) := of_decide_eq_true (by first | (with_reducible assumption) | assumption)
                  have hx8 := bt_at a0 x6_1
                  replace p8 := eq_true p8
                  replace q8 := eq_true q8
                  go_wp2
                  go_roundg kj2
                  case measure => have := HK1.out; have := HJ2.out; omega
                  case rel => exact ⟨(x5_1), (wrap64 (x6_1 + 1)), (by first | rfl | (simp; done) | (simp [*]; done)), (by first | rfl | (simp; done) | (simp [*]; done)), H', ⟨by have := HK1.out; have := HJ2.out; omega⟩, by repeat (first | exact Drawn0.refl _ | apply Drawn0.step)⟩
              · rw [if_neg c7] at H
                exact absurd H (by simp)
            · rw [if_neg c6] at H
              exact absurd H (by simp)
          · replace c5 := Bool.eq_false_iff.mpr c5
            subst c5
            have H1 : (some x5_1) = some r := by rw [if_neg (show ¬ (false = true) by decide)] at H; exact H
            clear H
            have H := H1
            clear H1
            obtain rfl := Option.some.inj H
            go_wp2
            go_ret
            exact ⟨by first | rfl | (simp; done) | (simp [*]; done), by repeat (first | exact Drawn0.refl _ | apply Drawn0.step)⟩
end Go.Proofs.Ytdcmoiihgpekhaa.Q
end
section
namespace Go.Proofs.Ytdcmoiihgpekhaa.Q
open Go.RowKit Go.Proofs.YtdcmoiihgpekhaaW.PrintWords Go.Proofs.YtdcmoiihgpekhaaW.PrintLast Go.Proofs.YtdcmoiihgpekhaaW.PrintMore
attribute [local go_sem] max2_int min2_int max_two min_two max_three min_three max_four min_four   
set_option linter.unusedVariables false
set_option linter.unusedSimpArgs false
def spec_l1One.l0 : Nat → ByteArray → Int → Int → Option (Int)
  | 0, _, _, _ => none
  | k + 1, x0, x1, x5 => if x5 < (x0.size : Int) then (if 0 ≤ x5 then (if (bt x0 x5) = 49 then (if x1 = 0 then (some x5) else (spec_l1One.l0 k x0 (wrap64 (x1 - 1)) (wrap64 (x5 + 1)))) else (spec_l1One.l0 k x0 x1 (wrap64 (x5 + 1)))) else (none)) else (some (x0.size : Int))
def spec_l1One.f (k : Nat) (a0 : ByteArray) (a1 : Int) : Option (Int) := spec_l1One.l0 k a0 a1 0
theorem spec_l1One.mono_l : ∀ k, (∀ y0 y1 y2, LeO (spec_l1One.l0 k y0 y1 y2) (spec_l1One.l0 (k + 1) y0 y1 y2))
  | 0 => fun _ _ _ r h => by simp [spec_l1One.l0] at h
  | k + 1 => by
    have ih0 := spec_l1One.mono_l k
    · intro y0 y1 y2
      unfold spec_l1One.l0
      repeat' first
      | (with_reducible exact ih0 _ _ _)
      | (with_reducible exact LeO.refl _)
      | (with_reducible exact LeO.none _)
      | (with_reducible refine LeO.ite ?_ ?_)
      | (with_reducible refine LeO.bind ?_ (fun _ => ?_))
      | exact ih0 _ _ _
      | exact LeO.none _
      | refine LeO.ite ?_ ?_
      | refine LeO.bind ?_ (fun _ => ?_)
theorem spec_l1One.mono : ∀ a0 a1 k, LeO (spec_l1One.f k a0 a1) (spec_l1One.f (k + 1) a0 a1) := by
  intro a0 a1 k
  have ih0 := spec_l1One.mono_l k
  unfold spec_l1One.f
  repeat' first
      | (with_reducible exact ih0 _ _ _)
      | (with_reducible exact LeO.refl _)
      | (with_reducible exact LeO.none _)
      | (with_reducible refine LeO.ite ?_ ?_)
      | (with_reducible refine LeO.bind ?_ (fun _ => ?_))
      | exact ih0 _ _ _
      | exact LeO.none _
      | refine LeO.ite ?_ ?_
      | refine LeO.bind ?_ (fun _ => ?_)
set_option maxHeartbeats 8000000 in
set_option maxRecDepth 100000 in
theorem spec_l1One.calls (k : Nat) (a0 : ByteArray) (a1 : Int) (r : Int) (w : World) (h : spec_l1One.f k a0 a1 = some r) :
    Calls Try.prog 54 #[.string a0, .int .i64 a1] w fun e w' => e = .returned (.int .i64 r) ∧ Drawn0 w w' := by
  have H : (spec_l1One.l0 k a0 a1 0) = some r := h
  clear h
  have H' := Aside0.mk H
  clear H
  go_enter Try.func54, Try.ntmps54
  go_wp2
  go_loopg [1, 5] k (fun kq v1 v5 w' => ∃ (x1_1 : Int) (x5_1 : Int), v1 = .int .i64 x1_1 ∧ v5 = .int .i64 x5_1 ∧ Aside0 (spec_l1One.l0 kq a0 x1_1 x5_1 = some r) ∧ Aside0 (kq ≤ k) ∧ Drawn0 w w')
  case atStart => exact ⟨(a1), (0), (by first | rfl | (simp; done) | (simp [*]; done)), (by first | rfl | (simp; done) | (simp [*]; done)), H', ⟨Nat.le_refl _⟩, by repeat (first | exact Drawn0.refl _ | apply Drawn0.step)⟩
  case round =>
    clear H'
    try clear p2
    obtain ⟨x1_1, x5_1, rfl, rfl, HA, HK1, ⟨m1, rfl⟩⟩ := hrel
    cases gk with
    | zero => exact absurd HA.out (by simp [spec_l1One.l0])
    | succ k1 =>
      have H := HA.out
      clear HA
      simp only [spec_l1One.l0] at H
      by_cases c3 : x5_1 < (a0.size : Int)
      · rw [if_pos c3] at H
        have c3b0 : decide (x5_1 < (a0.size : Int)) = true := decide_eq_true c3
        clear c3
        by_cases c4 : 0 ≤ x5_1
        · rw [if_pos c4] at H
          have c4b0 : decide (0 ≤ x5_1) = true := decide_eq_true c4
          clear c4
          by_cases c6 : (bt a0 x5_1) = 49
          · rw [if_pos c6] at H
            have c6b0 : ((bt a0 x5_1) == 49) = true := beq_iff_eq.mpr c6
            have c6b1 : ((bt a0 x5_1) != 49) = false := bne_eq_false_iff_eq.mpr c6
            clear c6
            by_cases c7 : x1_1 = 0
            · rw [if_pos c7] at H
              have c7b0 : (x1_1 == 0) = true := beq_iff_eq.mpr c7
              have c7b1 : (x1_1 != 0) = false := bne_eq_false_iff_eq.mpr c7
              clear c7
              obtain rfl := Option.some.inj H
              have p5 : 0 ≤ (x5_1 : Int) := of_decide_eq_true (by first | (with_reducible assumption) | assumption)
              have q5 : x5_1 < (a0.size : Int) := of_decide_eq_true (by first | (with_reducible assumption) | assumption)
              have hx5 := bt_at a0 x5_1
              replace p5 := eq_true p5
              replace q5 := eq_true q5
              go_wp2
              go_ret
              exact ⟨by first | rfl | (simp; done) | (simp [*]; done), by repeat (first | exact Drawn0.refl _ | apply Drawn0.step)⟩
            · rw [if_neg c7] at H
              have c7b0 : (x1_1 == 0) = false := beq_eq_false_iff_ne.mpr c7
              have c7b1 : (x1_1 != 0) = true := bne_iff_ne.mpr c7
              have H' := Aside0.mk H
              clear H
              have p5 : 0 ≤ (x5_1 : Int) := of_decide_eq_true (by first | (with_reducible assumption) | assumption)
              have q5 : x5_1 < (a0.size : Int) := of_decide_eq_true (by first | (with_reducible assumption) | assumption)
              have hx5 := bt_at a0 x5_1
              replace p5 := eq_true p5
              replace q5 := eq_true q5
              go_wp2
              go_roundg k1
              case measure => have := HK1.out; omega
              case rel => exact ⟨(wrap64 (x1_1 - 1)), (wrap64 (x5_1 + 1)), (by first | rfl | (simp; done) | (simp [*]; done)), (by first | rfl | (simp; done) | (simp [*]; done)), H', ⟨by have := HK1.out; omega⟩, by repeat (first | exact Drawn0.refl _ | apply Drawn0.step)⟩
          · rw [if_neg c6] at H
            have c6b0 : ((bt a0 x5_1) == 49) = false := beq_eq_false_iff_ne.mpr c6
            have c6b1 : ((bt a0 x5_1) != 49) = true := bne_iff_ne.mpr c6
            have H' := Aside0.mk H
            clear H
            have p5 : 0 ≤ (x5_1 : Int) := of_decide_eq_true (by first | (with_reducible assumption) | assumption)
            have q5 : x5_1 < (a0.size : Int) := of_decide_eq_true (by first | (with_reducible assumption) | assumption)
            have hx5 := bt_at a0 x5_1
            replace p5 := eq_true p5
            replace q5 := eq_true q5
            go_wp2
            go_roundg k1
            case measure => have := HK1.out; omega
            case rel => exact ⟨(x1_1), (wrap64 (x5_1 + 1)), (by first | rfl | (simp; done) | (simp [*]; done)), (by first | rfl | (simp; done) | (simp [*]; done)), H', ⟨by have := HK1.out; omega⟩, by repeat (first | exact Drawn0.refl _ | apply Drawn0.step)⟩
        · rw [if_neg c4] at H
          exact absurd H (by simp)
      · rw [if_neg c3] at H
        have c3b0 : decide (x5_1 < (a0.size : Int)) = false := decide_eq_false c3
        clear c3
        obtain rfl := Option.some.inj H
        go_wp2
        go_ret
        exact ⟨by first | rfl | (simp; done) | (simp [*]; done), by repeat (first | exact Drawn0.refl _ | apply Drawn0.step)⟩
end Go.Proofs.Ytdcmoiihgpekhaa.Q
end
section
namespace Go.Proofs.Ytdcmoiihgpekhaa.Q
open Go.RowKit Go.Proofs.YtdcmoiihgpekhaaW.PrintWords Go.Proofs.YtdcmoiihgpekhaaW.PrintLast Go.Proofs.YtdcmoiihgpekhaaW.PrintMore
attribute [local go_sem] max2_int min2_int max_two min_two max_three min_three max_four min_four   
set_option linter.unusedVariables false
set_option linter.unusedSimpArgs false
def impl_one.l0 : Nat → ByteArray → Int → Int → Int → Option (Int)
  | 0, _, _, _, _ => none
  | k + 1, x0, x1, x7, x8 => if x8 < x7 then (if 0 ≤ x8 then (if x8 < (x0.size : Int) then (if (bt x0 x8) = 49 then (if x1 = 0 then (some x8) else (impl_one.l0 k x0 (wrap64 (x1 - 1)) x7 (wrap64 (x8 + 1)))) else (impl_one.l0 k x0 x1 x7 (wrap64 (x8 + 1)))) else (none)) else (none)) else (some (-1))
def impl_one.f (k : Nat) (a0 : ByteArray) (a1 : Int) : Option (Int) := impl_one.l0 k a0 a1 (a0.size : Int) 0
theorem impl_one.mono_l : ∀ k, (∀ y0 y1 y2 y3, LeO (impl_one.l0 k y0 y1 y2 y3) (impl_one.l0 (k + 1) y0 y1 y2 y3))
  | 0 => fun _ _ _ _ r h => by simp [impl_one.l0] at h
  | k + 1 => by
    have ih0 := impl_one.mono_l k
    · intro y0 y1 y2 y3
      unfold impl_one.l0
      repeat' first
      | (with_reducible exact ih0 _ _ _ _)
      | (with_reducible exact LeO.refl _)
      | (with_reducible exact LeO.none _)
      | (with_reducible refine LeO.ite ?_ ?_)
      | (with_reducible refine LeO.bind ?_ (fun _ => ?_))
      | exact ih0 _ _ _ _
      | exact LeO.none _
      | refine LeO.ite ?_ ?_
      | refine LeO.bind ?_ (fun _ => ?_)
theorem impl_one.mono : ∀ a0 a1 k, LeO (impl_one.f k a0 a1) (impl_one.f (k + 1) a0 a1) := by
  intro a0 a1 k
  have ih0 := impl_one.mono_l k
  unfold impl_one.f
  repeat' first
      | (with_reducible exact ih0 _ _ _ _)
      | (with_reducible exact LeO.refl _)
      | (with_reducible exact LeO.none _)
      | (with_reducible refine LeO.ite ?_ ?_)
      | (with_reducible refine LeO.bind ?_ (fun _ => ?_))
      | exact ih0 _ _ _ _
      | exact LeO.none _
      | refine LeO.ite ?_ ?_
      | refine LeO.bind ?_ (fun _ => ?_)
set_option maxHeartbeats 8000000 in
set_option maxRecDepth 100000 in
theorem impl_one.calls (k : Nat) (a0 : ByteArray) (a1 : Int) (r : Int) (w : World) (h : impl_one.f k a0 a1 = some r) :
    Calls Try.prog 55 #[.string a0, .int .i64 a1] w fun e w' => e = .returned (.int .i64 r) ∧ Drawn0 w w' := by
  have H : (impl_one.l0 k a0 a1 (a0.size : Int) 0) = some r := h
  clear h
  have H' := Aside0.mk H
  clear H
  go_enter Try.func55, Try.ntmps55
  go_wp2
  go_loopg [1, 8] k (fun kq v1 v8 w' => ∃ (x1_1 : Int) (x8_1 : Int), v1 = .int .i64 x1_1 ∧ v8 = .int .i64 x8_1 ∧ Aside0 (impl_one.l0 kq a0 x1_1 (a0.size : Int) x8_1 = some r) ∧ Aside0 (kq ≤ k) ∧ Drawn0 w w')
  case atStart => exact ⟨(a1), (0), (by first | rfl | (simp; done) | (simp [*]; done)), (by first | rfl | (simp; done) | (simp [*]; done)), H', ⟨Nat.le_refl _⟩, by repeat (first | exact Drawn0.refl _ | apply Drawn0.step)⟩
  case round =>
    clear H'
    try clear p2
    obtain ⟨x1_1, x8_1, rfl, rfl, HA, HK1, ⟨m1, rfl⟩⟩ := hrel
    cases gk with
    | zero => exact absurd HA.out (by simp [impl_one.l0])
    | succ k1 =>
      have H := HA.out
      clear HA
      simp only [impl_one.l0] at H
      by_cases c3 : x8_1 < (a0.size : Int)
      · rw [if_pos c3] at H
        have c3b0 : decide (x8_1 < (a0.size : Int)) = true := decide_eq_true c3
        clear c3
        by_cases c4 : 0 ≤ x8_1
        · rw [if_pos c4] at H
          have c4b0 : decide (0 ≤ x8_1) = true := decide_eq_true c4
          clear c4
          by_cases c5 : x8_1 < (a0.size : Int)
          · rw [if_pos c5] at H
            have c5b0 : decide (x8_1 < (a0.size : Int)) = true := decide_eq_true c5
            clear c5
            by_cases c7 : (bt a0 x8_1) = 49
            · rw [if_pos c7] at H
              have c7b0 : ((bt a0 x8_1) == 49) = true := beq_iff_eq.mpr c7
              have c7b1 : ((bt a0 x8_1) != 49) = false := bne_eq_false_iff_eq.mpr c7
              clear c7
              by_cases c8 : x1_1 = 0
              · rw [if_pos c8] at H
                have c8b0 : (x1_1 == 0) = true := beq_iff_eq.mpr c8
                have c8b1 : (x1_1 != 0) = false := bne_eq_false_iff_eq.mpr c8
                clear c8
                obtain rfl := Option.some.inj H
                have p6 : 0 ≤ (x8_1 : Int) := of_decide_eq_true (by first | (with_reducible assumption) | assumption)
                have q6 : x8_1 < (a0.size : Int) := of_decide_eq_true (by first | (with_reducible assumption) | assumption)
                have hx6 := bt_at a0 x8_1
                replace p6 := eq_true p6
                replace q6 := eq_true q6
                go_wp2
                go_ret
                exact ⟨by first | rfl | (simp; done) | (simp [*]; done), by repeat (first | exact Drawn0.refl _ | apply Drawn0.step)⟩
              · rw [if_neg c8] at H
                have c8b0 : (x1_1 == 0) = false := beq_eq_false_iff_ne.mpr c8
                have c8b1 : (x1_1 != 0) = true := bne_iff_ne.mpr c8
                have H' := Aside0.mk H
                clear H
                have p6 : 0 ≤ (x8_1 : Int) := of_decide_eq_true (by first | (with_reducible assumption) | assumption)
                have q6 : x8_1 < (a0.size : Int) := of_decide_eq_true (by first | (with_reducible assumption) | assumption)
                have hx6 := bt_at a0 x8_1
                replace p6 := eq_true p6
                replace q6 := eq_true q6
                go_wp2
                go_roundg k1
                case measure => have := HK1.out; omega
                case rel => exact ⟨(wrap64 (x1_1 - 1)), (wrap64 (x8_1 + 1)), (by first | rfl | (simp; done) | (simp [*]; done)), (by first | rfl | (simp; done) | (simp [*]; done)), H', ⟨by have := HK1.out; omega⟩, by repeat (first | exact Drawn0.refl _ | apply Drawn0.step)⟩
            · rw [if_neg c7] at H
              have c7b0 : ((bt a0 x8_1) == 49) = false := beq_eq_false_iff_ne.mpr c7
              have c7b1 : ((bt a0 x8_1) != 49) = true := bne_iff_ne.mpr c7
              have H' := Aside0.mk H
              clear H
              have p6 : 0 ≤ (x8_1 : Int) := of_decide_eq_true (by first | (with_reducible assumption) | assumption)
              have q6 : x8_1 < (a0.size : Int) := of_decide_eq_true (by first | (with_reducible assumption) | assumption)
              have hx6 := bt_at a0 x8_1
              replace p6 := eq_true p6
              replace q6 := eq_true q6
              go_wp2
              go_roundg k1
              case measure => have := HK1.out; omega
              case rel => exact ⟨(x1_1), (wrap64 (x8_1 + 1)), (by first | rfl | (simp; done) | (simp [*]; done)), (by first | rfl | (simp; done) | (simp [*]; done)), H', ⟨by have := HK1.out; omega⟩, by repeat (first | exact Drawn0.refl _ | apply Drawn0.step)⟩
          · rw [if_neg c5] at H
            exact absurd H (by simp)
        · rw [if_neg c4] at H
          exact absurd H (by simp)
      · rw [if_neg c3] at H
        have c3b0 : decide (x8_1 < (a0.size : Int)) = false := decide_eq_false c3
        clear c3
        obtain rfl := Option.some.inj H
        go_wp2
        go_ret
        exact ⟨by first | rfl | (simp; done) | (simp [*]; done), by repeat (first | exact Drawn0.refl _ | apply Drawn0.step)⟩
end Go.Proofs.Ytdcmoiihgpekhaa.Q
end
section
set_option linter.unusedVariables false
set_option linter.unusedSimpArgs false
namespace Go.Proofs.Ytdcmoiihgpekhaa.Pb
open Go Go.RowKit Go.Proofs.YtdcmoiihgpekhaaW.PrintWords Go.Proofs.YtdcmoiihgpekhaaW.PrintLast Go.Proofs.YtdcmoiihgpekhaaW.PrintMore Go.Proofs.Ytdcmoiihgpekhaa.Trie Go.Proofs.Ytdcmoiihgpekhaa.Q
def bitc (c : UInt8) : Bool := c == 48 || c == 49
def bitsB (l : List UInt8) : Bool := l.all bitc && decide (l.length ≤ 400)
theorem bitc_48 {c : UInt8} (h : c = 48) : bitc c = true := by subst h; rfl
theorem bitc_49 {c : UInt8} (h : c = 49) : bitc c = true := by subst h; rfl
theorem bitc_no {c : UInt8} (h : ¬ c = 48) (h2 : ¬ c = 49) : bitc c = false := by simp [bitc, h, h2]
theorem bt_is {s : ByteArray} {i : Nat} {n : Nat} (hn : n < 256) : bt s (i : Int) = (n : Int) ↔ (L s).getD i 0 = UInt8.ofNat n := by
  rw [bt_L]
  constructor
  · intro h
    have h1 : ((L s).getD i 0).toNat = n := by omega
    rw [← h1]; simp
  · intro h
    rw [h]
    simp; omega
theorem all_drop {p : UInt8 → Bool} {l : List UInt8} {i : Nat} (h : i < l.length) : (l.drop i).all p = (p (l.getD i 0) && (l.drop (i + 1)).all p) := by
  rw [drop_cons 0 h, List.all_cons]
theorem spec_BitsOk_l0 (x : ByteArray) (hx : x.size ≤ 140737488355328) (d : Nat) : ∀ i : Nat, i ≤ (L x).length → (L x).length - i = d →
    Ev (fun k => spec_BitsOk.l0 k x (i : Int)) (((L x).drop i).all bitc && decide ((L x).length ≤ 400)) := by
  have hs := size_L x
  induction d with
  | zero =>
    intro i h1 h2
    refine ev_succ ?_
    simp only [spec_BitsOk.l0]
    refine ev_neg (by omega) (ev_some ?_)
    rw [List.drop_eq_nil_of_le (by omega)]
    simp only [List.all_nil, Bool.true_and]
    rw [hs]; congr 1; simp; omega
  | succ d ih =>
    intro i h1 h2
    have hi : i < (L x).length := by omega
    refine ev_succ ?_
    simp only [spec_BitsOk.l0]
    refine ev_pos (by omega) (ev_pos (by omega) ?_)
    rw [w64 (by omega) (by omega), all_drop hi]
    have := ih (i + 1) (by omega) (by omega)
    by_cases c1 : (L x).getD i 0 = 48
    · refine ev_pos ((bt_is (n := 48) (by omega)).2 c1) ?_
      rw [bitc_48 c1, Bool.true_and]
      exact this
    · refine ev_neg (fun q => c1 ((bt_is (n := 48) (by omega)).1 q)) ?_
      by_cases c2 : (L x).getD i 0 = 49
      · refine ev_pos ((bt_is (n := 49) (by omega)).2 c2) ?_
        rw [bitc_49 c2, Bool.true_and]
        exact this
      · refine ev_neg (fun q => c2 ((bt_is (n := 49) (by omega)).1 q)) (ev_some ?_)
        rw [bitc_no c1 c2]; rfl
theorem spec_BitsOk_ev (x : ByteArray) (hx : x.size ≤ 140737488355328) : Ev (fun k => spec_BitsOk.f k x) (bitsB (L x)) := by
  have := spec_BitsOk_l0 x hx (L x).length 0 (by omega) (by omega)
  simpa [spec_BitsOk.f, bitsB] using this
theorem impl_BitsOk_l0 (x : ByteArray) (hx : x.size ≤ 140737488355328) (d : Nat) : ∀ i : Nat, i ≤ (L x).length → (L x).length - i = d →
    Ev (fun k => impl_BitsOk.l0 k x ((L x).length : Int) (i : Int)) (((L x).drop i).all bitc && decide ((L x).length ≤ 400)) := by
  have hs := size_L x
  induction d with
  | zero =>
    intro i h1 h2
    refine ev_succ ?_
    simp only [impl_BitsOk.l0]
    refine ev_neg (by omega) (ev_some ?_)
    rw [List.drop_eq_nil_of_le (by omega)]
    simp only [List.all_nil, Bool.true_and]
    rw [hs]; congr 1; simp; omega
  | succ d ih =>
    intro i h1 h2
    have hi : i < (L x).length := by omega
    refine ev_succ ?_
    simp only [impl_BitsOk.l0]
    refine ev_pos (by omega) (ev_pos (by omega) (ev_pos (by omega) ?_))
    rw [w64 (by omega) (by omega), all_drop hi]
    have := ih (i + 1) (by omega) (by omega)
    by_cases c1 : (L x).getD i 0 = 48
    · refine ev_pos ((bt_is (n := 48) (by omega)).2 c1) ?_
      rw [bitc_48 c1, Bool.true_and]
      exact this
    · refine ev_neg (fun q => c1 ((bt_is (n := 48) (by omega)).1 q)) ?_
      by_cases c2 : (L x).getD i 0 = 49
      · refine ev_pos ((bt_is (n := 49) (by omega)).2 c2) ?_
        rw [bitc_49 c2, Bool.true_and]
        exact this
      · refine ev_neg (fun q => c2 ((bt_is (n := 49) (by omega)).1 q)) (ev_some ?_)
        rw [bitc_no c1 c2]; rfl
theorem impl_BitsOk_ev (x : ByteArray) (hx : x.size ≤ 140737488355328) : Ev (fun k => impl_BitsOk.f k x) (bitsB (L x)) := by
  have := impl_BitsOk_l0 x hx (L x).length 0 (by omega) (by omega)
  simpa [impl_BitsOk.f, bitsB, size_L] using this
theorem spec_l6In_eq (a b c : Int) : spec_l6In.f a b c = some (decide (b ≤ a ∧ a ≤ c)) := by
  unfold spec_l6In.f
  by_cases h : a ≥ b
  · rw [if_pos h]; congr 1; simp only [decide_eq_decide]; constructor <;> intro q <;> omega
  · rw [if_neg h]; congr 1; symm; simp only [decide_eq_false_iff_not]; omega
theorem onesB_le (l : List UInt8) (n : Nat) : onesB l n ≤ l.length := by
  unfold onesB
  have h1 := List.countP_le_length (p := fun c : UInt8 => c == 49) (l := l.take n)
  have h2 := List.length_take (i := n) (l := l)
  omega
theorem onesB_over (l : List UInt8) {n : Nat} (h : l.length ≤ n) : onesB l n = onesB l l.length := by
  unfold onesB
  rw [List.take_of_length_le h, List.take_of_length_le (Nat.le_refl _)]
theorem onesB_zero (l : List UInt8) : onesB l 0 = 0 := by simp [onesB]
theorem spec_l1Ones_l0 (x : ByteArray) (hx : x.size ≤ 140737488355328) (at_ : Int) (ha : at_ ≤ 9223372036854775807) (d : Nat) : ∀ (i n : Nat), (L x).length - i = d → n ≤ i →
    Ev (fun k => spec_l1Ones.l0 k x at_ (n : Int) (i : Int)) (if (i : Int) < at_ then ((n + onesB (L x) at_.toNat - onesB (L x) i : Nat) : Int) else (n : Int)) := by
  have hs := size_L x
  induction d with
  | zero =>
    intro i n h2 hn
    by_cases q : (i : Int) < at_
    · rw [if_pos q]
      refine ev_succ ?_
      simp only [spec_l1Ones.l0]
      refine ev_pos q ?_
      refine ev_succ ?_
      simp only [spec_l1Ones.j1]
      refine ev_neg (by simp; omega) (ev_some ?_)
      rw [onesB_over (L x) (n := i) (by omega), onesB_over (L x) (n := at_.toNat) (by omega)]
      omega
    · rw [if_neg q]
      refine ev_succ ?_
      simp only [spec_l1Ones.l0]
      refine ev_neg q ?_
      refine ev_succ ?_
      simp only [spec_l1Ones.j1]
      exact ev_neg (by simp) (ev_some rfl)
  | succ d ih =>
    intro i n h2 hn
    by_cases q : (i : Int) < at_
    · rw [if_pos q]
      have hi : i < (L x).length := by omega
      refine ev_succ ?_
      simp only [spec_l1Ones.l0]
      refine ev_pos q ?_
      refine ev_succ ?_
      simp only [spec_l1Ones.j1]
      refine ev_pos (by simp; omega) (ev_pos (by omega) (ev_pos (by omega) ?_))
      have hstep := onesB_succ (L x) hi
      have hmono : onesB (L x) (i + 1) ≤ onesB (L x) at_.toNat := by
        unfold onesB
        exact (List.take_prefix_take_left (by omega)).sublist.countP_le
      rw [w64 (i := (i : Int) + 1) (by omega) (by omega)]
      by_cases c : (L x).getD i 0 = 49
      · refine ev_pos ((bt_is (n := 49) (by omega)).2 c) ?_
        rw [getD_lt 0 hi] at c
        rw [if_pos c] at hstep
        rw [w64 (by omega) (by omega)]
        have := ih (i + 1) (n + 1) (by omega) (by omega)
        refine ev_eq this ?_
        by_cases q2 : ((i + 1 : Nat) : Int) < at_
        · rw [if_pos q2]; omega
        · rw [if_neg q2]
          have : at_.toNat = i + 1 := by omega
          rw [this] at hmono ⊢
          omega
      · refine ev_neg (fun q => c ((bt_is (n := 49) (by omega)).1 q)) ?_
        rw [getD_lt 0 hi] at c
        rw [if_neg c] at hstep
        have := ih (i + 1) n (by omega) (by omega)
        refine ev_eq this ?_
        by_cases q2 : ((i + 1 : Nat) : Int) < at_
        · rw [if_pos q2]; omega
        · rw [if_neg q2]
          have : at_.toNat = i + 1 := by omega
          rw [this] at hmono ⊢
          omega
    · rw [if_neg q]
      refine ev_succ ?_
      simp only [spec_l1Ones.l0]
      refine ev_neg q ?_
      refine ev_succ ?_
      simp only [spec_l1Ones.j1]
      exact ev_neg (by simp) (ev_some rfl)
theorem spec_l1Ones_ev (x : ByteArray) (hx : x.size ≤ 140737488355328) (at_ : Int) (ha : at_ ≤ 9223372036854775807) : Ev (fun k => spec_l1Ones.f k x at_) ((onesB (L x) at_.toNat : Nat) : Int) := by
  refine ev_eq (spec_l1Ones_l0 x hx at_ ha (L x).length 0 0 (by omega) (by omega)) ?_
  rw [onesB_zero]
  split
  · omega
  · have : at_.toNat = 0 := by omega
    rw [this, onesB_zero]
theorem onesB_count (l : List UInt8) (n : Nat) : (l.take n).count 49 = onesB l n := rfl
theorem pos_drop : ∀ (l : List UInt8) (i m : Nat), i ≤ l.length → pos l (m + onesB l i) = i + pos (l.drop i) m := by
  intro l
  induction l with
  | nil => intro i m h; simp at h; subst h; simp [onesB]
  | cons c l ih =>
    intro i m h
    cases i with
    | zero => simp [onesB]
    | succ i =>
      have hh : i ≤ l.length := by simpa using h
      rw [List.drop_succ_cons]
      have e : onesB (c :: l) (i + 1) = (if c = 49 then 1 else 0) + onesB l i := by
        unfold onesB
        rw [List.take_succ_cons, List.countP_cons]
        by_cases q : c = 49
        · simp [q]; omega
        · simp [q]
      rw [e, pos]
      by_cases q : c = 49
      · rw [if_pos q, if_pos q, if_neg (by omega)]
        have := ih i m hh
        rw [show m + (1 + onesB l i) - 1 = m + onesB l i by omega, this]
        omega
      · rw [if_neg q, if_neg q]
        have := ih i m hh
        rw [show m + (0 + onesB l i) = m + onesB l i by omega, this]
        omega
theorem spec_l1One_l0 (x : ByteArray) (hx : x.size ≤ 140737488355328) (d : Nat) : ∀ (i m : Nat), i ≤ (L x).length → (L x).length - i = d → (m : Int) ≤ 9223372036854775807 →
    Ev (fun k => spec_l1One.l0 k x (m : Int) (i : Int)) ((i + pos ((L x).drop i) m : Nat) : Int) := by
  have hs := size_L x
  induction d with
  | zero =>
    intro i m h1 h2 hm
    refine ev_succ ?_
    simp only [spec_l1One.l0]
    refine ev_neg (by omega) (ev_some ?_)
    rw [List.drop_eq_nil_of_le (by omega)]
    simp only [pos]; omega
  | succ d ih =>
    intro i m h1 h2 hm
    have hi : i < (L x).length := by omega
    refine ev_succ ?_
    simp only [spec_l1One.l0]
    refine ev_pos (by omega) (ev_pos (by omega) ?_)
    rw [w64 (i := (i : Int) + 1) (by omega) (by omega), drop_cons 0 hi]
    by_cases c : (L x).getD i 0 = 49
    · refine ev_pos ((bt_is (n := 49) (by omega)).2 c) ?_
      rw [pos, if_pos c]
      by_cases q : m = 0
      · refine ev_pos (by omega) (ev_some ?_)
        rw [if_pos q]; omega
      · refine ev_neg (by omega) ?_
        rw [if_neg q, w64 (by omega) (by omega)]
        have := ih (i + 1) (m - 1) (by omega) (by omega) (by omega)
        rw [show ((m - 1 : Nat) : Int) = (m : Int) - 1 by omega] at this
        exact ev_eq this (by omega)
    · refine ev_neg (fun q => c ((bt_is (n := 49) (by omega)).1 q)) ?_
      rw [pos, if_neg c]
      exact ev_eq (ih (i + 1) m (by omega) (by omega) hm) (by omega)
theorem spec_l1One_ev (x : ByteArray) (hx : x.size ≤ 140737488355328) (m : Nat) (hm : (m : Int) ≤ 9223372036854775807) : Ev (fun k => spec_l1One.f k x (m : Int)) ((pos (L x) m : Nat) : Int) := by
  exact ev_eq (spec_l1One_l0 x hx (L x).length 0 m (by omega) (by omega) hm) (by simp)
def oneI (l : List UInt8) (m : Nat) : Int := if pos l m < l.length then (pos l m : Int) else -1
theorem impl_one_l0 (x : ByteArray) (hx : x.size ≤ 140737488355328) (d : Nat) : ∀ (i m : Nat), i ≤ (L x).length → (L x).length - i = d → (m : Int) ≤ 9223372036854775807 →
    Ev (fun k => impl_one.l0 k x (m : Int) ((L x).length : Int) (i : Int)) (if i + pos ((L x).drop i) m < (L x).length then ((i + pos ((L x).drop i) m : Nat) : Int) else -1) := by
  have hs := size_L x
  induction d with
  | zero =>
    intro i m h1 h2 hm
    refine ev_succ ?_
    simp only [impl_one.l0]
    refine ev_neg (by omega) (ev_some ?_)
    rw [if_neg (by omega)]
  | succ d ih =>
    intro i m h1 h2 hm
    have hi : i < (L x).length := by omega
    refine ev_succ ?_
    simp only [impl_one.l0]
    refine ev_pos (by omega) (ev_pos (by omega) (ev_pos (by omega) ?_))
    rw [w64 (i := (i : Int) + 1) (by omega) (by omega), drop_cons 0 hi]
    by_cases c : (L x).getD i 0 = 49
    · refine ev_pos ((bt_is (n := 49) (by omega)).2 c) ?_
      rw [pos, if_pos c]
      by_cases q : m = 0
      · refine ev_pos (by omega) (ev_some ?_)
        rw [if_pos q, if_pos (by omega)]; omega
      · refine ev_neg (by omega) ?_
        rw [if_neg q, w64 (by omega) (by omega)]
        have := ih (i + 1) (m - 1) (by omega) (by omega) (by omega)
        rw [show ((m - 1 : Nat) : Int) = (m : Int) - 1 by omega] at this
        refine ev_eq this ?_
        rw [show i + (1 + pos ((L x).drop (i + 1)) (m - 1)) = i + 1 + pos ((L x).drop (i + 1)) (m - 1) by omega]
    · refine ev_neg (fun q => c ((bt_is (n := 49) (by omega)).1 q)) ?_
      rw [pos, if_neg c]
      refine ev_eq (ih (i + 1) m (by omega) (by omega) hm) ?_
      rw [show i + (1 + pos ((L x).drop (i + 1)) m) = i + 1 + pos ((L x).drop (i + 1)) m by omega]
theorem impl_one_ev (x : ByteArray) (hx : x.size ≤ 140737488355328) (m : Nat) (hm : (m : Int) ≤ 9223372036854775807) : Ev (fun k => impl_one.f k x (m : Int)) (oneI (L x) m) := by
  have := impl_one_l0 x hx (L x).length 0 m (by omega) (by omega) hm
  have e : impl_one.f = fun k x m => impl_one.l0 k x m ((L x).length : Int) 0 := by
    funext k x m
    unfold impl_one.f
    rw [size_L]
  rw [e]
  refine ev_eq this ?_
  unfold oneI
  simp
end Go.Proofs.Ytdcmoiihgpekhaa.Pb
end
section
set_option linter.unusedVariables false
set_option linter.unusedSimpArgs false
namespace Go.Proofs.Ytdcmoiihgpekhaa.Pb
open Go Go.RowKit Go.Proofs.YtdcmoiihgpekhaaW.PrintWords Go.Proofs.YtdcmoiihgpekhaaW.PrintLast Go.Proofs.YtdcmoiihgpekhaaW.PrintMore Go.Proofs.Ytdcmoiihgpekhaa.Trie Go.Proofs.Ytdcmoiihgpekhaa.Q
def letc (c : UInt8) : Bool := decide (97 ≤ c.toNat) && decide (c.toNat ≤ 100)
def kokB (l : List UInt8) : Bool := l.all letc && decide (l.length ≤ 5)
theorem kokB_iff {l : List UInt8} : kokB l = true ↔ KOk l := by
  unfold kokB
  rw [Bool.and_eq_true, List.all_eq_true, decide_eq_true_eq]
  constructor
  · rintro ⟨h1, h2⟩
    exact ⟨h2, fun c hc => by have := h1 c hc; simpa [letc] using this⟩
  · rintro ⟨h1, h2⟩
    exact ⟨fun c hc => by have := h2 c hc; simpa [letc] using this, h1⟩
theorem spec_KeyOk_l0 (x : ByteArray) (hx : x.size ≤ 140737488355328) (d : Nat) : ∀ i : Nat, i ≤ (L x).length → (L x).length - i = d →
    Ev (fun k => spec_KeyOk.l0 k x (i : Int)) (((L x).drop i).all letc && decide ((L x).length ≤ 5)) := by
  have hs := size_L x
  induction d with
  | zero =>
    intro i h1 h2
    refine ev_succ ?_
    simp only [spec_KeyOk.l0]
    refine ev_neg (by omega) (ev_some ?_)
    rw [List.drop_eq_nil_of_le (by omega)]
    simp only [List.all_nil, Bool.true_and]
    rw [hs]; congr 1; simp; omega
  | succ d ih =>
    intro i h1 h2
    have hi : i < (L x).length := by omega
    refine ev_succ ?_
    simp only [spec_KeyOk.l0]
    refine ev_pos (by omega) (ev_pos (by omega) ?_)
    have hr := bt_range x (i : Int)
    rw [w64 (i := bt x (i : Int)) (by omega) (by omega), w64 (i := (i : Int) + 1) (by omega) (by omega), all_drop hi]
    have := ih (i + 1) (by omega) (by omega)
    have e := bt_L x i
    refine ev_bindc (spec_l6In_eq _ _ _) ?_
    by_cases c1 : 97 ≤ bt x (i : Int) ∧ bt x (i : Int) ≤ 100
    · refine ev_pos (by simpa using c1) ?_
      have hc : letc ((L x).getD i 0) = true := by simp only [letc, Bool.and_eq_true, decide_eq_true_eq]; omega
      rw [hc, Bool.true_and]
      exact this
    · refine ev_neg (by simpa using c1) (ev_some ?_)
      have hc : letc ((L x).getD i 0) = false := by
        rw [Bool.eq_false_iff]
        simp only [letc, ne_eq, Bool.and_eq_true, decide_eq_true_eq]; omega
      rw [hc]; rfl
theorem spec_KeyOk_ev (x : ByteArray) (hx : x.size ≤ 140737488355328) : Ev (fun k => spec_KeyOk.f k x) (kokB (L x)) := by
  have := spec_KeyOk_l0 x hx (L x).length 0 (by omega) (by omega)
  simpa [spec_KeyOk.f, kokB] using this
theorem impl_KeyOk_l0 (x : ByteArray) (hx : x.size ≤ 140737488355328) (d : Nat) : ∀ i : Nat, i ≤ (L x).length → (L x).length - i = d →
    Ev (fun k => impl_KeyOk.l0 k x ((L x).length : Int) (i : Int)) (((L x).drop i).all letc && decide ((L x).length ≤ 5)) := by
  have hs := size_L x
  induction d with
  | zero =>
    intro i h1 h2
    refine ev_succ ?_
    simp only [impl_KeyOk.l0]
    refine ev_neg (by omega) (ev_some ?_)
    rw [List.drop_eq_nil_of_le (by omega)]
    simp only [List.all_nil, Bool.true_and]
    rw [hs]; congr 1; simp; omega
  | succ d ih =>
    intro i h1 h2
    have hi : i < (L x).length := by omega
    refine ev_succ ?_
    simp only [impl_KeyOk.l0]
    refine ev_pos (by omega) (ev_pos (by omega) (ev_pos (by omega) ?_))
    rw [w64 (i := (i : Int) + 1) (by omega) (by omega), all_drop hi]
    have := ih (i + 1) (by omega) (by omega)
    have e := bt_L x i
    by_cases c1 : bt x (i : Int) < 97
    · refine ev_pos c1 (ev_some ?_)
      have hc : letc ((L x).getD i 0) = false := by
        rw [Bool.eq_false_iff]
        simp only [letc, ne_eq, Bool.and_eq_true, decide_eq_true_eq]; omega
      rw [hc]; rfl
    · refine ev_neg c1 ?_
      by_cases c2 : bt x (i : Int) > 100
      · refine ev_pos c2 (ev_some ?_)
        have hc : letc ((L x).getD i 0) = false := by
          rw [Bool.eq_false_iff]
          simp only [letc, ne_eq, Bool.and_eq_true, decide_eq_true_eq]; omega
        rw [hc]; rfl
      · refine ev_neg c2 ?_
        have hc : letc ((L x).getD i 0) = true := by simp only [letc, Bool.and_eq_true, decide_eq_true_eq]; omega
        rw [hc, Bool.true_and]
        exact this
theorem impl_KeyOk_ev (x : ByteArray) (hx : x.size ≤ 140737488355328) : Ev (fun k => impl_KeyOk.f k x) (kokB (L x)) := by
  have := impl_KeyOk_l0 x hx (L x).length 0 (by omega) (by omega)
  simpa [impl_KeyOk.f, kokB, size_L] using this
def goB : Option Key → List Key → Bool
  | _, [] => true
  | p, k :: t => kokB k && (match p with | none => true | some q => decide (q < k)) && goB (some k) t
def keysB (K : List Key) : Bool := goB none K && decide (K.length ≤ 24)
theorem goB_some {p : Key} {l : List Key} : goB (some p) l = true ↔ (∀ k ∈ l, KOk k) ∧ (p :: l).Pairwise (· < ·) := by
  induction l generalizing p with
  | nil => simp [goB]
  | cons k t ih =>
    unfold goB
    simp only [Bool.and_eq_true, decide_eq_true_eq]
    rw [ih, kokB_iff]
    constructor
    · rintro ⟨⟨h1, h2⟩, h3, h4⟩
      refine ⟨fun x hx => ?_, ?_⟩
      · rcases List.mem_cons.1 hx with rfl | hx
        · exact h1
        · exact h3 x hx
      · refine List.pairwise_cons.2 ⟨fun x hx => ?_, h4⟩
        rcases List.mem_cons.1 hx with rfl | hx
        · exact h2
        · exact key_trans h2 ((List.pairwise_cons.1 h4).1 x hx)
    · rintro ⟨h1, h2⟩
      have h3 := List.pairwise_cons.1 h2
      exact ⟨⟨h1 k (by simp), h3.1 k (by simp)⟩, fun x hx => h1 x (by simp [hx]), h3.2⟩
structure KsOk (K : List Key) : Prop where
  ok : ∀ k ∈ K, KOk k
  sorted : K.Pairwise (· < ·)
  few : K.length ≤ 24
theorem keysB_iff {K : List Key} : keysB K = true ↔ KsOk K := by
  unfold keysB
  rw [Bool.and_eq_true, decide_eq_true_eq]
  have h : goB none K = true ↔ (∀ k ∈ K, KOk k) ∧ K.Pairwise (· < ·) := by
    cases K with
    | nil => simp [goB]
    | cons k t =>
      unfold goB
      simp only [Bool.and_eq_true, Bool.and_true]
      rw [goB_some, kokB_iff]
      constructor
      · rintro ⟨h1, h2, h3⟩
        refine ⟨fun x hx => ?_, h3⟩
        rcases List.mem_cons.1 hx with rfl | hx
        · exact h1
        · exact h2 x hx
      · rintro ⟨h1, h2⟩
        exact ⟨h1 k (by simp), fun x hx => h1 x (by simp [hx]), h2⟩
  rw [h]
  exact ⟨fun ⟨⟨a, b⟩, c⟩ => ⟨a, b, c⟩, fun ⟨a, b, c⟩ => ⟨⟨a, b⟩, c⟩⟩
structure SzL (l : List ByteArray) : Prop where
  len : l.length ≤ 8796093022208
  each : ∀ s ∈ l, s.size ≤ 140737488355328
theorem SzL.getD {l : List ByteArray} (h : SzL l) (i : Nat) : (l.getD i ByteArray.empty).size ≤ 140737488355328 := by
  by_cases hi : i < l.length
  · rw [getD_lt _ hi]; exact h.each _ (List.getElem_mem hi)
  · rw [List.getD_eq_getElem?_getD, List.getElem?_eq_none (by omega)]
    exact Nat.zero_le _
theorem rdOf_nat (l : List ByteArray) (i : Nat) : rdOf ByteArray.empty l (i : Int) = l.getD i ByteArray.empty := rfl
theorem L_rd (l : List ByteArray) (i : Nat) : L (rdOf ByteArray.empty l (i : Int)) = (LL l).getD i [] := by
  rw [rdOf_nat, LL_getD]
theorem rd_size {l : List ByteArray} (h : SzL l) (i : Nat) : (rdOf ByteArray.empty l (i : Int)).size ≤ 140737488355328 := by
  rw [rdOf_nat]; exact h.getD i
def prev (K : List Key) (i : Nat) : Option Key := if i = 0 then none else some (K.getD (i - 1) [])
theorem goB_drop {K : List Key} {i : Nat} (hi : i < K.length) : goB (prev K i) (K.drop i) = (kokB (K.getD i []) && (if i = 0 then true else decide (K.getD (i - 1) [] < K.getD i [])) && goB (prev K (i + 1)) (K.drop (i + 1))) := by
  rw [drop_cons [] hi]
  unfold prev
  by_cases q : i = 0
  · subst q
    simp [goB]
  · simp only [if_neg q, if_neg (show ¬ i + 1 = 0 by omega), Nat.add_sub_cancel]
    rw [goB]
end Go.Proofs.Ytdcmoiihgpekhaa.Pb
end
section
set_option linter.unusedVariables false
set_option linter.unusedSimpArgs false
namespace Go.Proofs.Ytdcmoiihgpekhaa.Pure
open Go Go.RowKit Go.Proofs.YtdcmoiihgpekhaaW.PrintWords Go.Proofs.YtdcmoiihgpekhaaW.PrintLast Go.Proofs.YtdcmoiihgpekhaaW.PrintMore Go.Proofs.Ytdcmoiihgpekhaa.Trie Go.Proofs.Ytdcmoiihgpekhaa.Q Go.Proofs.Ytdcmoiihgpekhaa.Pb
theorem FnExactKeyOk : laws_FnExactKeyOk.Pure := by
  intro a0 h0
  refine Ev.rounds ?_
  unfold laws_FnExactKeyOk.f
  by_cases c : (a0.size : Int) > 1048576
  · exact ev_pos c (ev_some rfl)
  · refine ev_neg c (Ev.bind (spec_KeyOk_ev a0 (by omega)) (Ev.bind (impl_KeyOk_ev a0 (by omega)) ?_))
    exact ev_neg (by simp) (ev_some rfl)
end Go.Proofs.Ytdcmoiihgpekhaa.Pure
end
