/- What the law FnExactSieveOf needs, part 2: the kit's printed words, the printed functions with their proofs, and plain facts on them. -/
import Derived.Test.YtonagfbadoacjaaChecked
import Derived.Test.YtonagfbadoacjaaRows
import Derived.JoinedOf
import Derived.KernelRfl
import Derived.Test.YtonagfbadoacjaaProg
import Derived.Below
import Derived.Deep.Draws
import Derived.Deep.AppendLies
import Derived.Maps.AppendAt
import Derived.OwnWalk
import Derived.Laws.BytesArg
import Derived.Laws.MakeOwn
import Derived.Laws.OwnMore
import Derived.Deep.OwnRows
import Derived.Tactics
import Derived.Lib.ConvBytes
import Derived.Laws.Slices
import Derived.WalkKit
import Derived.RowKit3
import Derived.Deep.LoopGhost
import Derived.Deep.QuietTactic
import Derived.BigQuiet
import Derived.WideLaws
import Derived.Deep.DeepCutAuto
import Derived.Deep.CutBlock
import Derived.Deep.RegionHeld3
import Derived.Laws.Rows
import Derived.Lib.AppendStr
import Derived.ArgAppend
import Derived.Laws.IdiomCopy
import Derived.OrdersHeld
import Derived.Laws.BitsLemmas
import Derived.RowKit
import Derived.Shelf.Strings.Count
import Derived.Shelf.Small.Strs
import Derived.Test.YtonagfbadoacjaaBFnExactSieveOfa
section
namespace Go.Proofs.Ytonagfbadoacjaa.Start
open Go Go.Proofs
def nums : List Nat :=
  [104, 97, 114, 110, 101, 115, 115, 32, 97, 48, 100, 48, 49, 49, 52, 50, 101, 53, 102, 55, 49, 52, 99, 54, 51, 98, 57, 48, 54, 48, 55, 51, 97, 52, 50, 98, 49, 97, 50, 100] ++
  [54, 56, 51, 100, 48, 54, 101, 57, 52, 97, 52, 101, 102, 102, 102, 57, 50, 53, 99, 50, 102, 53, 101, 49, 52, 49, 49, 98, 54, 50, 101, 100, 32, 99, 117, 116, 32, 97, 116, 32] ++
  [108, 111, 111, 112, 46, 101, 120, 97, 109, 112, 108, 101, 47, 116, 101, 109, 115, 101, 47, 108, 97, 119, 115, 46, 70, 110, 69, 120, 97, 99, 116, 66, 105, 116, 115, 78, 101, 120, 116, 32] ++
  [108, 111, 111, 112, 46, 101, 120, 97, 109, 112, 108, 101, 47, 116, 101, 109, 115, 101, 47, 108, 97, 119, 115, 46, 70, 110, 83, 105, 101, 118, 101, 69, 109, 112, 116, 121, 32, 108, 111, 111] ++
  [112, 46, 101, 120, 97, 109, 112, 108, 101, 47, 116, 101, 109, 115, 101, 47, 108, 97, 119, 115, 46, 70, 110, 69, 120, 97, 99, 116, 75, 101, 121, 115, 79, 107, 32, 108, 111, 111, 112, 46] ++
  [101, 120, 97, 109, 112, 108, 101, 47, 116, 101, 109, 115, 101, 47, 108, 97, 119, 115, 46, 70, 110, 69, 120, 97, 99, 116, 75, 101, 121, 70, 105, 114, 115, 116, 32, 108, 111, 111, 112, 46] ++
  [101, 120, 97, 109, 112, 108, 101, 47, 116, 101, 109, 115, 101, 47, 108, 97, 119, 115, 46, 70, 110, 83, 105, 101, 118, 101, 77, 101, 101, 116, 115, 32, 108, 111, 111, 112, 46, 101, 120, 97] ++
  [109, 112, 108, 101, 47, 116, 101, 109, 115, 101, 47, 108, 97, 119, 115, 46, 70, 110, 69, 120, 97, 99, 116, 66, 105, 116, 115, 79, 110, 101, 115, 32, 108, 111, 111, 112, 46, 101, 120, 97] ++
  [109, 112, 108, 101, 47, 116, 101, 109, 115, 101, 47, 108, 97, 119, 115, 46, 70, 110, 75, 101, 121, 70, 105, 114, 115, 116, 32, 108, 111, 111, 112, 46, 101, 120, 97, 109, 112, 108, 101, 47] ++
  [116, 101, 109, 115, 101, 47, 108, 97, 119, 115, 46, 70, 110, 66, 105, 116, 115, 79, 110, 101, 115, 32, 108, 111, 111, 112, 46, 101, 120, 97, 109, 112, 108, 101, 47, 116, 101, 109, 115, 101] ++
  [47, 108, 97, 119, 115, 46, 70, 110, 66, 105, 116, 115, 66, 97, 99, 107, 32, 108, 111, 111, 112, 46, 101, 120, 97, 109, 112, 108, 101, 47, 116, 101, 109, 115, 101, 47, 108, 97, 119, 115] ++
  [46, 70, 110, 66, 105, 116, 115, 78, 101, 120, 116, 32, 108, 111, 111, 112, 46, 101, 120, 97, 109, 112, 108, 101, 47, 116, 101, 109, 115, 101, 47, 108, 97, 119, 115, 46, 70, 110, 83, 105] ++
  [101, 118, 101, 77, 111, 114, 101, 32, 108, 111, 111, 112, 46, 101, 120, 97, 109, 112, 108, 101, 47, 116, 101, 109, 115, 101, 47, 108, 97, 119, 115, 46, 70, 110, 66, 105, 116, 115, 79, 110] ++
  [101, 32, 108, 111, 111, 112, 46, 101, 120, 97, 109, 112, 108, 101, 47, 116, 101, 109, 115, 101, 47, 108, 97, 119, 115, 46, 70, 110, 69, 120, 97, 99, 116, 83, 105, 101, 118, 101, 79, 102] ++
  [32, 108, 111, 111, 112, 46, 101, 120, 97, 109, 112, 108, 101, 47, 116, 101, 109, 115, 101, 47, 108, 97, 119, 115, 46, 70, 110, 69, 120, 97, 99, 116, 75, 101, 121, 115, 83, 111, 114, 116] ++
  [32, 108, 111, 111, 112, 46, 101, 120, 97, 109, 112, 108, 101, 47, 116, 101, 109, 115, 101, 47, 108, 97, 119, 115, 46, 70, 110, 83, 105, 101, 118, 101, 65, 112, 97, 114, 116, 32, 108, 111] ++
  [111, 112, 46, 101, 120, 97, 109, 112, 108, 101, 47, 116, 101, 109, 115, 101, 47, 108, 97, 119, 115, 46, 70, 110, 83, 105, 101, 118, 101, 72, 101, 97, 100, 115, 32, 108, 111, 111, 112, 46] ++
  [101, 120, 97, 109, 112, 108, 101, 47, 116, 101, 109, 115, 101, 47, 108, 97, 119, 115, 46, 70, 110, 75, 101, 121, 115, 66, 111, 116, 104, 32, 108, 111, 111, 112, 46, 101, 120, 97, 109, 112] ++
  [108, 101, 47, 116, 101, 109, 115, 101, 47, 108, 97, 119, 115, 46, 70, 110, 75, 101, 121, 115, 79, 107, 32, 108, 111, 111, 112, 46, 101, 120, 97, 109, 112, 108, 101, 47, 116, 101, 109, 115] ++
  [101, 47, 108, 97, 119, 115, 46, 70, 110, 75, 101, 121, 115, 83, 111, 114, 116, 32, 108, 111, 111, 112, 46, 101, 120, 97, 109, 112, 108, 101, 47, 116, 101, 109, 115, 101, 47, 108, 97, 119] ++
  [115, 46, 70, 110, 83, 105, 101, 118, 101, 83, 101, 101, 107, 75, 101, 121, 32, 108, 111, 111, 112, 46, 101, 120, 97, 109, 112, 108, 101, 47, 116, 101, 109, 115, 101, 47, 108, 97, 119, 115] ++
  [46, 70, 110, 83, 105, 101, 118, 101, 75, 101, 101, 112, 32, 108, 111, 111, 112, 46, 101, 120, 97, 109, 112, 108, 101, 47, 116, 101, 109, 115, 101, 47, 108, 97, 119, 115, 46, 70, 110, 69] ++
  [120, 97, 99, 116, 83, 105, 101, 118, 101, 79, 107, 32, 108, 111, 111, 112, 46, 101, 120, 97, 109, 112, 108, 101, 47, 116, 101, 109, 115, 101, 47, 108, 97, 119, 115, 46, 70, 110, 83, 105] ++
  [101, 118, 101, 69, 120, 97, 99, 116, 32, 108, 111, 111, 112, 46, 101, 120, 97, 109, 112, 108, 101, 47, 116, 101, 109, 115, 101, 47, 108, 97, 119, 115, 46, 70, 110, 83, 105, 101, 118, 101] ++
  [87, 104, 111, 108, 101, 32, 108, 111, 111, 112, 46, 101, 120, 97, 109, 112, 108, 101, 47, 116, 101, 109, 115, 101, 47, 108, 97, 119, 115, 46, 70, 110, 83, 105, 101, 118, 101, 78, 101, 118] ++
  [101, 114, 32, 108, 111, 111, 112, 46, 101, 120, 97, 109, 112, 108, 101, 47, 116, 101, 109, 115, 101, 47, 108, 97, 119, 115, 46, 70, 110, 69, 120, 97, 99, 116, 83, 105, 101, 118, 101, 83] ++
  [105, 122, 101, 32, 108, 111, 111, 112, 46, 101, 120, 97, 109, 112, 108, 101, 47, 116, 101, 109, 115, 101, 47, 108, 97, 119, 115, 46, 70, 110, 69, 120, 97, 99, 116, 83, 105, 101, 118, 101] ++
  [72, 101, 97, 100, 115, 32, 108, 111, 111, 112, 46, 101, 120, 97, 109, 112, 108, 101, 47, 116, 101, 109, 115, 101, 47, 108, 97, 119, 115, 46, 70, 110, 83, 105, 101, 118, 101, 79, 107, 32] ++
  [108, 111, 111, 112, 46, 101, 120, 97, 109, 112, 108, 101, 47, 116, 101, 109, 115, 101, 47, 108, 97, 119, 115, 46, 70, 110, 83, 105, 101, 118, 101, 83, 105, 122, 101, 32, 108, 111, 111, 112] ++
  [46, 101, 120, 97, 109, 112, 108, 101, 47, 116, 101, 109, 115, 101, 47, 108, 97, 119, 115, 46, 70, 110, 83, 105, 101, 118, 101, 83, 97, 109, 101, 32, 108, 111, 111, 112, 46, 101, 120, 97] ++
  [109, 112, 108, 101, 47, 116, 101, 109, 115, 101, 47, 108, 97, 119, 115, 46, 70, 110, 69, 120, 97, 99, 116, 83, 105, 101, 118, 101, 83, 101, 101, 107, 32, 108, 111, 111, 112, 46, 101, 120] ++
  [97, 109, 112, 108, 101, 47, 116, 101, 109, 115, 101, 47, 108, 97, 119, 115, 46, 70, 110, 69, 120, 97, 99, 116, 83, 105, 101, 118, 101, 77, 101, 101, 116, 115, 32, 108, 111, 111, 112, 46] ++
  [101, 120, 97, 109, 112, 108, 101, 47, 116, 101, 109, 115, 101, 47, 108, 97, 119, 115, 46, 70, 110, 69, 120, 97, 99, 116, 83, 105, 101, 118, 101, 72, 97, 115, 32, 108, 111, 111, 112, 46] ++
  [101, 120, 97, 109, 112, 108, 101, 47, 116, 101, 109, 115, 101, 47, 108, 97, 119, 115, 46, 70, 110, 83, 105, 101, 118, 101, 77, 101, 101, 116, 115, 77, 111, 114, 101, 32, 108, 111, 111, 112] ++
  [46, 101, 120, 97, 109, 112, 108, 101, 47, 116, 101, 109, 115, 101, 47, 108, 97, 119, 115, 46, 70, 110, 83, 105, 101, 118, 101, 83, 101, 101, 107, 32, 108, 111, 111, 112, 46, 101, 120, 97] ++
  [109, 112, 108, 101, 47, 116, 101, 109, 115, 101, 47, 108, 97, 119, 115, 46, 70, 110, 83, 105, 101, 118, 101, 72, 97, 115, 32, 108, 111, 111, 112, 46, 101, 120, 97, 109, 112, 108, 101, 47] ++
  [116, 101, 109, 115, 101, 47, 108, 97, 119, 115, 46, 70, 110, 83, 105, 101, 118, 101, 77, 101, 101, 116, 115, 72, 97, 115, 32, 108, 111, 111, 112, 46, 101, 120, 97, 109, 112, 108, 101, 47] ++
  [116, 101, 109, 115, 101, 47, 108, 97, 119, 115, 46, 70, 110, 83, 105, 101, 118, 101, 71, 97, 112]
set_option maxRecDepth 100000 in
theorem word : Try.prog.initOrder = String.ofList (nums.map Char.ofNat) := by kernel_rfl
theorem signs : Try.prog.initOrder.toList = nums.map Char.ofNat := by rw [word, String.toList_ofList]
theorem words_ne : ∀ l : List Char, wordsSigns l ≠ [] := by
  intro l
  cases l with
  | nil => simp [wordsSigns]
  | cons c l =>
    rw [wordsSigns.eq_def]
    split <;> first | (split <;> simp) | simp
theorem words_append (b : List Char) : ∀ a : List Char, wordsSigns (a ++ Char.ofNat 32 :: b) = wordsSigns a ++ wordsSigns b := by
  intro a
  induction a with
  | nil => rfl
  | cons c a ih =>
    rw [List.cons_append, wordsSigns.eq_def (c :: (a ++ Char.ofNat 32 :: b)), wordsSigns.eq_def (c :: a)]
    split
    · rename_i h; cases h
    · rename_i r h
      injection h with h1 h2
      subst h1; subst h2
      simp [ih]
    · rename_i c' r hne h
      injection h with h1 h2
      subst h1; subst h2
      rw [ih]
      have hc : c ≠ Char.ofNat 32 := fun q => hne q
      split
      · rename_i w ws e
        split
        · rename_i h; cases h
        · rename_i r h; injection h with h1 h2; exact absurd h1 hc
        · rename_i c'' r'' hne'' h
          injection h with h1 h2
          subst h1; subst h2
          split
          · rename_i w' ws' e'
            rw [e'] at e
            injection e with e1 e2
            subst e1; rw [← e2]; rfl
          · rename_i e'
            exact absurd e' (words_ne _)
      · rename_i e
        simp at e
        exact absurd e.1 (words_ne _)
def nums1 : List Nat := nums.take 76
def nums2 : List Nat := nums.drop 77
theorem parted : nums.map Char.ofNat = nums1.map Char.ofNat ++ Char.ofNat 32 :: nums2.map Char.ofNat := by kernel_rfl
theorem words : ∃ r, wordsSigns Try.prog.initOrder.toList = "harness".toList :: "a0d01142e5f714c63b906073a42b1a2d683d06e94a4efff925c2f5e1411b62ed".toList :: "cut".toList :: r := by
  rw [signs, parted, words_append]
  exact ⟨wordsSigns (nums2.map Char.ofNat), by rw [show wordsSigns (nums1.map Char.ofNat) = ["harness".toList, "a0d01142e5f714c63b906073a42b1a2d683d06e94a4efff925c2f5e1411b62ed".toList, "cut".toList] by kernel_rfl]; rfl⟩
theorem behind_of (l : List (List Char)) (h k : List Char) (r : List (List Char)) (e : l = h :: k :: r) (b : ((h == "harness".toList || h == "ownmain".toList) && isSumSigns k) = true) : behindMainWord l = r := by
  subst e
  show (if ((h == "harness".toList || h == "ownmain".toList) && isSumSigns k) = true then r else h :: k :: r) = r
  rw [if_pos b]
theorem behind : ∃ r, behindMainWord (wordsSigns Try.prog.initOrder.toList) = "cut".toList :: r := by
  obtain ⟨r, h⟩ := words
  exact ⟨r, behind_of _ _ _ _ h (by kernel_rfl)⟩
theorem strip_all (c : List Char) (r : List (List Char)) : ∀ l : List String, l.all (fun o => !(c == o.toList)) = true → stripLifts l (c :: r) = ([], c :: r) := by
  intro l
  induction l with
  | nil => intro _; rfl
  | cons o l ih =>
    intro h
    rw [List.all_cons, Bool.and_eq_true] at h
    rw [stripLifts, if_neg (by simpa using h.1), ih h.2]
theorem strip (r : List (List Char)) : stripLifts liftWords ("cut".toList :: r) = ([], "cut".toList :: r) := strip_all _ _ _ (by kernel_rfl)
theorem mayEnter_of (P : Program) (r : List (List Char)) (h : behindMainWord (wordsSigns P.initOrder.toList) = "cut".toList :: r) (h1 : P.laysLater = false) (h2 : P.bearsReflect = false) (h3 : P.doorFits [] = true) : P.mayEnter = true := by
  unfold Program.mayEnter
  rw [h]
  simp only [strip, h1, h2, h3]
  rfl
theorem liftsFinal_of (P : Program) (r : List (List Char)) (h : behindMainWord (wordsSigns P.initOrder.toList) = "cut".toList :: r) : P.liftsFinal = false := by
  unfold Program.liftsFinal Program.headLifts
  rw [h]
  simp only [strip]
  rfl
theorem make_of (P : Program) (r : List (List Char)) (h : behindMainWord (wordsSigns P.initOrder.toList) = "cut".toList :: r) : P.make = some .cut := by
  unfold Program.make
  rw [h]
  rfl
theorem mayEnter : Try.prog.mayEnter = true := by
  obtain ⟨r, h⟩ := behind
  exact mayEnter_of _ r h (by kernel_rfl) (by kernel_rfl) (by kernel_rfl)
theorem liftsFinal : Try.prog.liftsFinal = false := by
  obtain ⟨r, h⟩ := behind
  exact liftsFinal_of _ r h
theorem make : Try.prog.make = some .cut := by
  obtain ⟨r, h⟩ := behind
  exact make_of _ r h
theorem an {a b : Bool} (h : (a && b) = true) : a = true ∧ b = true := by simpa using h
theorem at_ {a b : Bool} (h : a = true) (k : b = true) : (a && b) = true := by simp [h, k]
theorem joined_of (P : Program) (mayEnter : P.mayEnter = true) (liftsFinal : P.liftsFinal = false) (make : P.make = some .cut) (f : FuncId) (fn : Func) (s : ChangeSpec) (c : OpenClaim)
    (h1 : (c.wf (OpenSpec.ofChange s) && laidOutB P && mapsRowed P && fn.params.all (P.readableRec ·) && namedTie P c.named s.vars && (c.stops == []) && (P.stops == []) && (c.knobs == []) && (P.stopKnobs == [])) = true)
    (h2 : (c.inPlace == P.inPlace f) = true) (h3 : (c.unfollowed == P.unfollowed f) = true) (h4 : (c.recurses == P.recurses f) = true) (h5 : (c.named == P.varsNamed f) = true)
    (h6 : ((c.maps == (fn.params.toList ++ s.plain.varTypes P).any (P.mapsRec ·)) && (c.ifaces == (fn.params.toList ++ s.plain.varTypes P).any (P.ifacesRec ·)) && (c.mapsOut == P.mapsAmong fn.resultTypes.toList) && (c.loops == (fn.params.toList ++ s.plain.varTypes P).any (P.loopsFrom ·)) && (c.wideKeys == (fn.params.toList ++ s.plain.varTypes P ++ fn.resultTypes.toList).any (P.wideKeysFrom ·))) = true)
    (h7 : (s.vars.all (P.varReadable ·) && fn.resultTypes.all (fun t => P.readableRec t && decide (t < P.types.size)) && (c.ifacesOut == fn.resultTypes.toList.any (P.ifacesRec ·)) && (c.loopsOut == fn.resultTypes.toList.any (P.loopsFrom ·)) && (c.plainKeys == P.plainKeys) && c.shortTexts.isNone && P.stopsHeard) = true)
    (h8 : c.lifted = false) (h9 : c.make = .cut)
    (h10 : ((c.kinds == (if c.domain.isEmpty then [] else fn.params.toList.map fun t => match P.underlying t with | some (.int k) => some k | _ => none)) && (c.pinned == c.pinnedBy) && (c.veiled == (fn.params.toList ++ s.plain.varTypes P ++ fn.resultTypes.toList).any (P.veiledRec ·)) && c.veiledFits P fn.params.toList (fn.params.toList ++ s.plain.varTypes P ++ fn.resultTypes.toList)) = true) :
    joinedFacts P f fn s c = true := by
  obtain ⟨b14, b5⟩ := an h6
  obtain ⟨b13, b4⟩ := an b14
  obtain ⟨b12, b3⟩ := an b13
  obtain ⟨b1, b2⟩ := an b12
  obtain ⟨c16, c7⟩ := an h7
  obtain ⟨c15, c6⟩ := an c16
  obtain ⟨c14, c5⟩ := an c15
  obtain ⟨c13, c4⟩ := an c14
  obtain ⟨c12, c3⟩ := an c13
  obtain ⟨c1, c2⟩ := an c12
  obtain ⟨d13, d4⟩ := an h10
  obtain ⟨d12, d3⟩ := an d13
  obtain ⟨d1, d2⟩ := an d12
  have hl : (c.lifted == P.liftsFinal) = true := by rw [h8, liftsFinal]; rfl
  have hm : (P.make == some c.make) = true := by rw [make, h9]; kernel_rfl
  unfold joinedFacts
  exact at_ (at_ (at_ (at_ (at_ (at_ (at_ (at_ (at_ (at_ (at_ (at_ (at_ (at_ (at_ (at_ (at_ (at_ (at_ (at_ (at_ (at_ (at_ h1 h2) h3) h4) h5) b1) b2) b3) b4) b5) c1) c2) c3) c4) c5) c6) c7) mayEnter) hl) hm) d1) d2) d3) d4
theorem joined (f : FuncId) (fn : Func) (s : ChangeSpec) (c : OpenClaim)
    (h1 : (c.wf (OpenSpec.ofChange s) && laidOutB Try.prog && mapsRowed Try.prog && fn.params.all (Try.prog.readableRec ·) && namedTie Try.prog c.named s.vars && (c.stops == []) && (Try.prog.stops == []) && (c.knobs == []) && (Try.prog.stopKnobs == [])) = true)
    (h2 : (c.inPlace == Try.prog.inPlace f) = true) (h3 : (c.unfollowed == Try.prog.unfollowed f) = true) (h4 : (c.recurses == Try.prog.recurses f) = true) (h5 : (c.named == Try.prog.varsNamed f) = true)
    (h6 : ((c.maps == (fn.params.toList ++ s.plain.varTypes Try.prog).any (Try.prog.mapsRec ·)) && (c.ifaces == (fn.params.toList ++ s.plain.varTypes Try.prog).any (Try.prog.ifacesRec ·)) && (c.mapsOut == Try.prog.mapsAmong fn.resultTypes.toList) && (c.loops == (fn.params.toList ++ s.plain.varTypes Try.prog).any (Try.prog.loopsFrom ·)) && (c.wideKeys == (fn.params.toList ++ s.plain.varTypes Try.prog ++ fn.resultTypes.toList).any (Try.prog.wideKeysFrom ·))) = true)
    (h7 : (s.vars.all (Try.prog.varReadable ·) && fn.resultTypes.all (fun t => Try.prog.readableRec t && decide (t < Try.prog.types.size)) && (c.ifacesOut == fn.resultTypes.toList.any (Try.prog.ifacesRec ·)) && (c.loopsOut == fn.resultTypes.toList.any (Try.prog.loopsFrom ·)) && (c.plainKeys == Try.prog.plainKeys) && c.shortTexts.isNone && Try.prog.stopsHeard) = true)
    (h8 : c.lifted = false) (h9 : c.make = .cut)
    (h10 : ((c.kinds == (if c.domain.isEmpty then [] else fn.params.toList.map fun t => match Try.prog.underlying t with | some (.int k) => some k | _ => none)) && (c.pinned == c.pinnedBy) && (c.veiled == (fn.params.toList ++ s.plain.varTypes Try.prog ++ fn.resultTypes.toList).any (Try.prog.veiledRec ·)) && c.veiledFits Try.prog fn.params.toList (fn.params.toList ++ s.plain.varTypes Try.prog ++ fn.resultTypes.toList)) = true) :
    joinedFacts Try.prog f fn s c = true := joined_of Try.prog mayEnter liftsFinal make f fn s c h1 h2 h3 h4 h5 h6 h7 h8 h9 h10
end Go.Proofs.Ytonagfbadoacjaa.Start
end
section
namespace Go.Proofs.Ytonagfbadoacjaa.Q
open Go.RowKit Go.Proofs.YtonagfbadoacjaaW.PrintWords Go.Proofs.YtonagfbadoacjaaW.PrintLast Go.Proofs.YtonagfbadoacjaaW.PrintMore
attribute [local go_sem] max2_int min2_int max_two min_two max_three min_three max_four min_four   
set_option linter.unusedVariables false
set_option linter.unusedSimpArgs false
def errW : Option Int → Value
  | none => .nilIface
  | some c => .iface 0 (.int .i64 c)
theorem errW_none : errW none = .nilIface := rfl
theorem errW_some (c : Int) : errW (some c) = .iface 0 (.int .i64 c) := rfl
theorem info5 : (Try.prog.info? 5).map (fun i => (i.zero, i.size, i.bytes)) = some (some (.int .u8 0), 1, 1) := by kernel_rfl
theorem info9 : (Try.prog.info? 9).map (fun i => (i.zero, i.size, i.bytes)) = some (some (.string ⟨#[]⟩), 1, 16) := by kernel_rfl
theorem info89 : (Try.prog.info? 89).map (fun i => (i.zero, i.size, i.bytes)) = some (some (.agg #[(.slice none 0 0), (.int .i64 0)]), 2, 32) := by kernel_rfl
def rd_L3 (xs : List (List ByteArray)) (i : Int) : (List ByteArray) := xs.getD i.toNat ([] : List ByteArray)
structure S89 where
  f0 : (List ByteArray)
  f1 : Int
def z89 : S89 := ⟨([] : List ByteArray), (0 : Int)⟩
def k89 : Kd S89 := Kd.iso (Kd.pair (Kd.slice 9 Kd.string) (Kd.int .i64)) (fun x : S89 => (x.f0, x.f1))
theorem k89_open {w : World} {x : S89} {cs : List Value} (h : k89.K w x cs) : ∃ A0 c0, cs = [.slice A0 x.f0.length c0, .int .i64 x.f1] ∧ x.f0.length ≤ c0 ∧ Kd.string.C w A0 x.f0.length x.f0 := by
  obtain ⟨_, _, rfl, ⟨A0, c0, rfl, l0, g0⟩, rfl⟩ := h
  exact ⟨A0, c0, rfl, l0, g0⟩
theorem k89_mk (w : World) (x : S89) {A0 : Option Addr} {c0 : Nat} (l0 : x.f0.length ≤ c0) (g0 : Kd.string.C w A0 x.f0.length x.f0) : k89.K w x [.slice A0 x.f0.length c0, .int .i64 x.f1] := ⟨[.slice A0 x.f0.length c0], [.int .i64 x.f1], rfl, ⟨A0, c0, rfl, l0, g0⟩, rfl⟩
theorem k89_openF {W : World} {ok : Nat → Prop} {x : S89} {cs : List Value} (h : Kd.FK k89 W ok x cs) : ∃ A0 c0, cs = [.slice A0 x.f0.length c0, .int .i64 x.f1] ∧ x.f0.length ≤ c0 ∧ Kd.F Kd.string W ok A0 x.f0.length x.f0 := by
  obtain ⟨A0, c0, rfl, l0, _⟩ := k89_open (Kd.FK_now h)
  exact ⟨A0, c0, rfl, l0, (fun W' hW => by obtain ⟨A0_, c0_, he, l0_, g0_⟩ := k89_open (h W' hW); injection (Option.some.inj (show some (Value.slice A0 x.f0.length c0) = some (Value.slice A0_ x.f0.length c0_) from congrArg (fun l => l[0]?) he)) with ha_ _ _; rw [ha_]; exact g0_)⟩
theorem k89_mkF (W : World) (ok : Nat → Prop) (x : S89) {A0 : Option Addr} {c0 : Nat} (l0 : x.f0.length ≤ c0) (g0 : Kd.F Kd.string W ok A0 x.f0.length x.f0) : Kd.FK k89 W ok x [.slice A0 x.f0.length c0, .int .i64 x.f1] := fun W2 hW => k89_mk W2 x l0 (g0 W2 hW)
def rd_T89 (xs : List S89) (i : Int) : S89 := xs.getD i.toNat z89
theorem at_T89 {w : World} {A : Option Addr} {n : Nat} {xs : List S89} (h : Kd.C k89 w A n xs) (i : Int) (h0 : 0 ≤ i) (h1 : i < n) : ∃ ad A0 c0, A = some ad ∧ w.cell? (ad.add (i.toNat * 2)) = some (.slice A0 (rd_T89 xs i).f0.length c0) ∧ w.cell? ⟨(ad.add (i.toNat * 2)).block, (ad.add (i.toNat * 2)).off + 1, none⟩ = some (.int .i64 (rd_T89 xs i).f1) ∧ (rd_T89 xs i).f0.length ≤ c0 ∧ Kd.string.C w A0 (rd_T89 xs i).f0.length (rd_T89 xs i).f0 := by
  obtain ⟨ad, c, e, _, hK, hc0⟩ := Kd.C_get h z89 i h0 h1
  have hc : ∀ j u, c[j]? = some u → w.cell? (ad.add (i.toNat * 2 + j)) = some u := hc0
  obtain ⟨A0, c0, rfl, l0, g0⟩ := k89_open hK
  exact ⟨ad, A0, c0, e, hc 0 _ rfl, by rw [← add_field _ _ 1 (by omega)]; exact hc 1 _ rfl, l0, g0⟩
structure S28 where
  f0 : ByteArray
  f1 : ByteArray
  f2 : ByteArray
  f3 : (List ByteArray)
  f4 : Int
def z28 : S28 := ⟨(⟨#[]⟩ : ByteArray), (⟨#[]⟩ : ByteArray), (⟨#[]⟩ : ByteArray), ([] : List ByteArray), (0 : Int)⟩
def k28 : Kd S28 := Kd.iso (Kd.pair Kd.string (Kd.pair Kd.string (Kd.pair Kd.string (Kd.pair (Kd.slice 9 Kd.string) (Kd.int .i64))))) (fun x : S28 => (x.f0, x.f1, x.f2, x.f3, x.f4))
def rd_T28 (xs : List S28) (i : Int) : S28 := xs.getD i.toNat z28
structure S119 where
  f0 : (List ByteArray)
  f1 : Int
def z119 : S119 := ⟨([] : List ByteArray), (0 : Int)⟩
def k119 : Kd S119 := Kd.iso (Kd.pair (Kd.slice 9 Kd.string) (Kd.int .i64)) (fun x : S119 => (x.f0, x.f1))
theorem k119_open {w : World} {x : S119} {cs : List Value} (h : k119.K w x cs) : ∃ A0 c0, cs = [.slice A0 x.f0.length c0, .int .i64 x.f1] ∧ x.f0.length ≤ c0 ∧ Kd.string.C w A0 x.f0.length x.f0 := by
  obtain ⟨_, _, rfl, ⟨A0, c0, rfl, l0, g0⟩, rfl⟩ := h
  exact ⟨A0, c0, rfl, l0, g0⟩
theorem k119_mk (w : World) (x : S119) {A0 : Option Addr} {c0 : Nat} (l0 : x.f0.length ≤ c0) (g0 : Kd.string.C w A0 x.f0.length x.f0) : k119.K w x [.slice A0 x.f0.length c0, .int .i64 x.f1] := ⟨[.slice A0 x.f0.length c0], [.int .i64 x.f1], rfl, ⟨A0, c0, rfl, l0, g0⟩, rfl⟩
def rd_T119 (xs : List S119) (i : Int) : S119 := xs.getD i.toNat z119
structure S106 where
  f0 : ByteArray
  f1 : Bool
def z106 : S106 := ⟨(⟨#[]⟩ : ByteArray), false⟩
def k106 : Kd S106 := Kd.iso (Kd.pair Kd.string Kd.bool) (fun x : S106 => (x.f0, x.f1))
def rd_T106 (xs : List S106) (i : Int) : S106 := xs.getD i.toNat z106
end Go.Proofs.Ytonagfbadoacjaa.Q
end
section
namespace Go.Proofs
open Go.Shelf
def Try.lays138_ren : Go.Shelf.Ren := ⟨fun | 138 => 120 | 195 => 149 | 218 => 150 | 143 => 151 | 219 => 159 | 217 => 134 | 225 => 173 | 224 => 174 | 267 => 175 | 266 => 157 | 314 => 182 | n => n, fun | 9 => 9 | 3 => 3 | 4 => 4 | 5 => 5 | 0 => 0 | 46 => 131 | 146 => 153 | 51 => 142 | n => n, fun | 1 => 0 | n => n⟩
end Go.Proofs
end
section
namespace Go.Proofs
open Go.Shelf
def Try.lays137_ren : Go.Shelf.Ren := ⟨fun | 137 => 101 | 217 => 134 | 266 => 157 | n => n, fun | 9 => 9 | 5 => 5 | 3 => 3 | n => n, fun | n => n⟩
theorem Try.lays137 : Go.Proofs.Lays.n137 Try.prog Try.lays137_ren := {
  mixed := by kernel_rfl
  f137 := Try.func101.trans (congrArg some (by kernel_rfl))
  f217 := Try.func134.trans (congrArg some (by kernel_rfl))
  f266 := Try.func157.trans (congrArg some (by kernel_rfl))
  t3 := Try.underlying3
  a3 := Try.isAgg3
  z3 := Try.sizeOf3
  v3 := Try.zeroValue3
  t5 := Try.underlying5
  a5 := Try.isAgg5
  z5 := Try.sizeOf5
  v5 := Try.zeroValue5
  t9 := Try.underlying9
  a9 := Try.isAgg9
  z9 := Try.sizeOf9
  v9 := Try.zeroValue9 }
open Go.RowKit in
theorem Try.strings_IndexByte (s : ByteArray) (c : Int) (w : World) :
    Calls Try.prog 101 #[.string s, .int .u8 c] w fun e w' => e = .returned (.int .i64 (Lib.indexByte s.data.toList c.toNat.toUInt8)) ∧ w' = w := Any.strings_IndexByte Try.lays137 s c w
end Go.Proofs
end
section
namespace Go.Proofs.Ytonagfbadoacjaa.Q
open Go.RowKit Go.Proofs.YtonagfbadoacjaaW.PrintWords Go.Proofs.YtonagfbadoacjaaW.PrintLast Go.Proofs.YtonagfbadoacjaaW.PrintMore
attribute [local go_sem] max2_int min2_int max_two min_two max_three min_three max_four min_four   
set_option linter.unusedVariables false
set_option linter.unusedSimpArgs false
def spec_BitsOk.l0 : Nat → ByteArray → Int → Option (Bool)
  | 0, _, _ => none
  | k + 1, x0, x3 => if x3 < (x0.size : Int) then (if 0 ≤ x3 then (if (bt x0 x3) = 48 then (spec_BitsOk.l0 k x0 (wrap64 (x3 + 1))) else (if (bt x0 x3) = 49 then (spec_BitsOk.l0 k x0 (wrap64 (x3 + 1))) else (some false))) else (none)) else (some (decide ((x0.size : Int) ≤ 400)))
def spec_BitsOk.f (k : Nat) (a0 : ByteArray) : Option (Bool) := spec_BitsOk.l0 k a0 0
def spec_l6In.f (a0 : Int) (a1 : Int) (a2 : Int) : Option (Bool) := if a0 ≥ a1 then (some (decide (a0 ≤ a2))) else (some false)
mutual
def spec_BitsNext.j0 : Nat → ByteArray → Int → Bool → Option (Int × Bool)
  | 0, _, _, _ => none
  | k + 1, x0, x1, x16 => if x16 = true then (some (0, false)) else (spec_BitsNext.l0 k x0 x1)
def spec_BitsNext.l0 : Nat → ByteArray → Int → Option (Int × Bool)
  | 0, _, _ => none
  | k + 1, x0, x6 => if x6 < (x0.size : Int) then (if 0 ≤ x6 then (if (bt x0 x6) = 49 then (some (x6, true)) else (spec_BitsNext.l0 k x0 (wrap64 (x6 + 1)))) else (none)) else (some (0, false))
end
def spec_BitsNext.f (k : Nat) (a0 : ByteArray) (a1 : Int) : Option (Int × Bool) := (spec_BitsOk.f k a0).bind fun t101 => (if t101 = true then ((spec_l6In.f a1 0 (a0.size : Int)).bind fun t102 => (spec_BitsNext.j0 k a0 a1 (!t102))) else (spec_BitsNext.j0 k a0 a1 true))
def impl_BitsOk.l0 : Nat → ByteArray → Int → Int → Option (Bool)
  | 0, _, _, _ => none
  | k + 1, x0, x5, x6 => if x6 < x5 then (if 0 ≤ x6 then (if x6 < (x0.size : Int) then (if (bt x0 x6) = 48 then (impl_BitsOk.l0 k x0 x5 (wrap64 (x6 + 1))) else (if (bt x0 x6) = 49 then (impl_BitsOk.l0 k x0 x5 (wrap64 (x6 + 1))) else (some false))) else (none)) else (none)) else (some (decide ((x0.size : Int) ≤ 400)))
def impl_BitsOk.f (k : Nat) (a0 : ByteArray) : Option (Bool) := impl_BitsOk.l0 k a0 (a0.size : Int) 0
def impl_in.f (a0 : Int) (a1 : Int) (a2 : Int) : Option (Bool) := if a1 ≤ a0 then (some (decide (a0 ≤ a2))) else (some false)
def strings_IndexByte.f (a0 : ByteArray) (a1 : Int) : Option (Int) := some (Lib.indexByte a0.data.toList a1.toNat.toUInt8)
def impl_BitsNext.j0 : Nat → ByteArray → Int → Bool → Option (Int × Bool)
  | 0, _, _, _ => none
  | k + 1, x0, x1, x16 => if x16 = true then (some (0, false)) else (if 0 ≤ x1 then (if x1 ≤ (x0.size : Int) then ((strings_IndexByte.f (x0.extract (x1 : Int).toNat x0.size) 49).bind fun t105 => (if t105 < 0 then (some (0, false)) else (some (wrap64 (x1 + t105), true)))) else (none)) else (none))
def impl_BitsNext.f (k : Nat) (a0 : ByteArray) (a1 : Int) : Option (Int × Bool) := (impl_BitsOk.f k a0).bind fun t103 => (if t103 = true then ((impl_in.f a1 0 (a0.size : Int)).bind fun t104 => (impl_BitsNext.j0 k a0 a1 (!t104))) else (impl_BitsNext.j0 k a0 a1 true))
def laws_FnExactBitsNext.f (k : Nat) (a0 : ByteArray) (a1 : Int) : Option (Bool) := if (a0.size : Int) > 1048576 then (some true) else ((spec_BitsNext.f k a0 a1).bind fun bt106 => ((impl_BitsNext.f k a0 a1).bind fun bt108 => (if bt108.1 = bt106.1 then (if (bt108.2 != bt106.2) = true then (some false) else (some true)) else (some false))))
def laws_FnExactBitsNext.Pure : Prop := ∀ (a0 : ByteArray) (a1 : Int), a0.size ≤ 140737488351232 → (Lit.int .i64 a1).wf = true → ∃ k, laws_FnExactBitsNext.f k a0 a1 = some true
def spec_l6Open.f (l0 : List Int) : Option (List Int × Int) := if (l0.length : Int) > 2000 then (if 2000 ≤ (l0.length : Int) then (some (l0.take 2000, 0)) else (none)) else (some (l0, 0))
def spec_l6Rd_pick.j0 : Nat → Int → Bool → List Int → Int → Option (Int × Int)
  | 0, _, _, _, _ => none
  | k + 1, x1, x24, x1000, x1001 => if x24 = true then (some (0, x1001)) else (if (wrap64 (x1001 - 1)) < (x1000.length : Int) then (if 0 ≤ (wrap64 (x1001 - 1)) then (if x1 = 0 then (none) else (some (Int.tmod (wrap64 (rd x1000 (wrap64 (x1001 - 1)))) x1, x1001))) else (none)) else (if (x1000.length : Int) = 0 then (none) else (if 0 ≤ (Int.tmod (wrap64 (x1001 - 1)) (x1000.length : Int)) then (if (Int.tmod (wrap64 (x1001 - 1)) (x1000.length : Int)) < (x1000.length : Int) then (if 0 ≤ (Int.tmod (wrap64 ((wrap64 ((wrap64 (x1001 - 1)) * 7)) + 3)) (x1000.length : Int)) then (if (Int.tmod (wrap64 ((wrap64 ((wrap64 (x1001 - 1)) * 7)) + 3)) (x1000.length : Int)) < (x1000.length : Int) then (if x1 = 0 then (none) else (some (Int.tmod (Go.bits .xor .i64 (wrap64 ((wrap64 ((wrap64 ((wrap64 ((wrap64 (rd x1000 (Int.tmod (wrap64 (x1001 - 1)) (x1000.length : Int)))) * 131)) + (wrap64 ((wrap64 (rd x1000 (Int.tmod (wrap64 ((wrap64 ((wrap64 (x1001 - 1)) * 7)) + 3)) (x1000.length : Int)))) * 1117)))) + (wrap64 ((wrap64 (x1001 - 1)) * 29)))) + (wrap64 ((wrap64 (Int.tdiv (wrap64 (x1001 - 1)) (x1000.length : Int))) * 53)))) (wrap64 (Int.tdiv (wrap64 ((wrap64 ((wrap64 ((wrap64 ((wrap64 (rd x1000 (Int.tmod (wrap64 (x1001 - 1)) (x1000.length : Int)))) * 131)) + (wrap64 ((wrap64 (rd x1000 (Int.tmod (wrap64 ((wrap64 ((wrap64 (x1001 - 1)) * 7)) + 3)) (x1000.length : Int)))) * 1117)))) + (wrap64 ((wrap64 (x1001 - 1)) * 29)))) + (wrap64 ((wrap64 (Int.tdiv (wrap64 (x1001 - 1)) (x1000.length : Int))) * 53)))) 64))) x1, x1001))) else (none)) else (none)) else (none)) else (none))))
def spec_l6Rd_pick.f (k : Nat) (s0_0 : List Int) (s0_1 : Int) (a1 : Int) : Option (Int × Int) := if a1 < 1 then (spec_l6Rd_pick.j0 k a1 true s0_0 (wrap64 (s0_1 + 1))) else (spec_l6Rd_pick.j0 k a1 ((s0_0.length : Int) == 0) s0_0 (wrap64 (s0_1 + 1)))
def spec_KeyOk.l0 : Nat → ByteArray → Int → Option (Bool)
  | 0, _, _ => none
  | k + 1, x0, x3 => if x3 < (x0.size : Int) then (if 0 ≤ x3 then ((spec_l6In.f (wrap64 (bt x0 x3)) 97 100).bind fun t116 => (if t116 = true then (spec_KeyOk.l0 k x0 (wrap64 (x3 + 1))) else (some false))) else (none)) else (some (decide ((x0.size : Int) ≤ 5)))
def spec_KeyOk.f (k : Nat) (a0 : ByteArray) : Option (Bool) := spec_KeyOk.l0 k a0 0
def spec_KeysOk.l0 : Nat → List ByteArray → Int → Option (Bool)
  | 0, _, _ => none
  | k + 1, x0, x3 => if x3 < (x0.length : Int) then (if 0 ≤ x3 then ((spec_KeyOk.f k (rdOf ByteArray.empty x0 x3)).bind fun t118 => (if t118 = true then (if x3 > 0 then (if 0 ≤ (wrap64 (x3 - 1)) then (if (wrap64 (x3 - 1)) < (x0.length : Int) then (if ((Op.bytesLess ((rdOf ByteArray.empty x0 (wrap64 (x3 - 1))).toList) ((rdOf ByteArray.empty x0 x3).toList)) = true) then (spec_KeysOk.l0 k x0 (wrap64 (x3 + 1))) else (some false)) else (none)) else (none)) else (spec_KeysOk.l0 k x0 (wrap64 (x3 + 1)))) else (some false))) else (none)) else (some (decide ((x0.length : Int) ≤ 24)))
def spec_KeysOk.f (k : Nat) (l0 : List ByteArray) : Option (Bool) := spec_KeysOk.l0 k l0 0
def spec_l3Letter.f (a0 : ByteArray) (a1 : Int) : Option (ByteArray) := if a1 ≥ (a0.size : Int) then (some (⟨#[45]⟩ : ByteArray)) else (if 0 ≤ a1 then (if a1 ≤ (wrap64 (a1 + 1)) then (if (wrap64 (a1 + 1)) ≤ (a0.size : Int) then (some (a0.extract (a1 : Int).toNat ((wrap64 (a1 + 1)) : Int).toNat)) else (none)) else (none)) else (none))
def spec_l3Group.l0 : Nat → List ByteArray → Int → List ByteArray → Int → Option (List ByteArray)
  | 0, _, _, _, _ => none
  | k + 1, x3, x4, x122000, x122001 => if x4 < (x122000.length : Int) then (if 0 ≤ x4 then ((spec_l3Letter.f (rdOf ByteArray.empty x122000 x4) x122001).bind fun t126 => (if 0 < (x122000.length : Int) then ((spec_l3Letter.f (rdOf ByteArray.empty x122000 0) x122001).bind fun t128 => (if t126.toList = t128.toList then (if x3.length < 8796093022208 then (spec_l3Group.l0 k (x3 ++ [rdOf ByteArray.empty x122000 x4]) (wrap64 (x4 + 1)) x122000 x122001) else (none)) else (spec_l3Group.l0 k x3 (wrap64 (x4 + 1)) x122000 x122001))) else (none))) else (none)) else (some x3)
def spec_l3Group.f (k : Nat) (l0_0 : List ByteArray) (a0_1 : Int) : Option (List ByteArray) := spec_l3Group.l0 k (([] : List ByteArray)) 0 l0_0 a0_1
def spec_l3Rest.f (a0 : ByteArray) (a1 : Int) (a2 : Int) : Option (ByteArray) := if 0 ≤ a1 ∧ 0 ≤ a2 then (if (a0.size : Int) ≤ a1 then (some (⟨#[]⟩ : ByteArray)) else (some ((a0.extract a1.toNat a0.size).extract 0 (if a2 < ((a0.size - a1.toNat : Nat) : Int) then a2 else ((a0.size - a1.toNat : Nat) : Int)).toNat))) else none
def spec_l3Put.l0 : Nat → List (S89) → ByteArray → ByteArray → ByteArray → ByteArray → List ByteArray → Int → List ByteArray → Int → Option (ByteArray × ByteArray × ByteArray × List ByteArray × Int × (List (S89)))
  | 0, _, _, _, _, _, _, _, _, _ => none
  | k + 1, x6, x7, x134000, x134001, x134002, x134003, x134004, x135000, x135001 => if (x135000.length : Int) > 0 then ((spec_l3Group.f k x135000 x135001).bind fun t139 => (if 0 < (t139.length : Int) then ((spec_l3Letter.f (rdOf ByteArray.empty t139 0) x135001).bind fun t143 => (if x134000.size + t143.size ≤ 9223372036854775807 then (if x134002.size + x7.size ≤ 9223372036854775807 then (if (t139.length : Int) > 1 then (if x134001.size + 1 ≤ 9223372036854775807 then (if x6.length < 4398046511104 then (if 0 ≤ (t139.length : Int) then (if (t139.length : Int) ≤ (x135000.length : Int) then (spec_l3Put.l0 k (x6 ++ [(⟨t139, wrap64 (x135001 + 1)⟩ : S89)]) (⟨#[48]⟩ : ByteArray) (x134000 ++ t143) (x134001 ++ (⟨#[49]⟩ : ByteArray)) (x134002 ++ x7) x134003 x134004 (x135000.drop ((t139.length : Int) : Int).toNat) x135001) else (none)) else (none)) else (none)) else (none)) else (if x134001.size + 1 ≤ 9223372036854775807 then ((spec_l3Rest.f (rdOf ByteArray.empty t139 0) (wrap64 (x135001 + 1)) x134004).bind fun t153 => (if x134003.length < 8796093022208 then (if 0 ≤ (t139.length : Int) then (if (t139.length : Int) ≤ (x135000.length : Int) then (spec_l3Put.l0 k x6 (⟨#[48]⟩ : ByteArray) (x134000 ++ t143) (x134001 ++ (⟨#[48]⟩ : ByteArray)) (x134002 ++ x7) (x134003 ++ [t153]) x134004 (x135000.drop ((t139.length : Int) : Int).toNat) x135001) else (none)) else (none)) else (none))) else (none))) else (none)) else (none))) else (none))) else (some (x134000, x134001, x134002, x134003, x134004, x6))
def spec_l3Put.f (k : Nat) (a0_0 : ByteArray) (a0_1 : ByteArray) (a0_2 : ByteArray) (l0_3 : List ByteArray) (a0_4 : Int) (l1_0 : List ByteArray) (a1_1 : Int) : Option (ByteArray × ByteArray × ByteArray × List ByteArray × Int × (List (S89))) := spec_l3Put.l0 k (([] : List (S89))) (⟨#[49]⟩ : ByteArray) a0_0 a0_1 a0_2 l0_3 a0_4 l1_0 a1_1
mutual
def spec_SieveOf.j0 : Nat → List ByteArray → Int → Bool → Option (ByteArray × ByteArray × ByteArray × List ByteArray × Int × Bool)
  | 0, _, _, _ => none
  | k + 1, x0, x1, x16 => if x16 = true then (some ((⟨#[]⟩ : ByteArray), (⟨#[]⟩ : ByteArray), (⟨#[]⟩ : ByteArray), ([] : List ByteArray), 0, false)) else (spec_SieveOf.l0 k (([(⟨x0, 0⟩ : S89)] : List (S89))) (⟨#[]⟩ : ByteArray) (⟨#[]⟩ : ByteArray) (⟨#[]⟩ : ByteArray) (([] : List ByteArray)) x1)
def spec_SieveOf.l0 : Nat → List (S89) → ByteArray → ByteArray → ByteArray → List ByteArray → Int → Option (ByteArray × ByteArray × ByteArray × List ByteArray × Int × Bool)
  | 0, _, _, _, _, _, _ => none
  | k + 1, x7, x169000, x169001, x169002, x169003, x169004 => if (x7.length : Int) > 0 then (if 0 < (x7.length : Int) then ((spec_l3Put.f k x169000 x169001 x169002 x169003 x169004 ((rd_T89 x7 0).f0) ((rd_T89 x7 0).f1)).bind fun bt176 => ((some (([] : List (S89)) : List (S89))).bind fun y186 => (if 1 ≤ (x7.length : Int) then ((some (x7.drop 1 : List (S89))).bind fun y189 => (if y186.length + y189.length < 4398046511104 then ((some (y186 ++ y189 : List (S89))).bind fun y194 => (if y194.length + bt176.2.2.2.2.2.length < 4398046511104 then (spec_SieveOf.l0 k (y194 ++ bt176.2.2.2.2.2) bt176.1 bt176.2.1 bt176.2.2.1 bt176.2.2.2.1 bt176.2.2.2.2.1) else (none))) else (none))) else (none)))) else (none)) else (some (x169000, x169001, x169002, x169003, x169004, true))
end
def spec_SieveOf.f (k : Nat) (l0 : List ByteArray) (a1 : Int) : Option (ByteArray × ByteArray × ByteArray × List ByteArray × Int × Bool) := (spec_KeysOk.f k l0).bind fun t163 => (if t163 = true then ((spec_l6In.f a1 0 5).bind fun t164 => (spec_SieveOf.j0 k l0 a1 (!t164))) else (spec_SieveOf.j0 k l0 a1 true))
def spec_l6Rd_of.f (k : Nat) (s0_0 : List Int) (s0_1 : Int) (l1 : List ByteArray) : Option (ByteArray × Int) := (spec_l6Rd_pick.f k s0_0 s0_1 (l1.length : Int)).bind fun bt200 => (if 0 ≤ bt200.1 then (if bt200.1 < (l1.length : Int) then (some (rdOf ByteArray.empty l1 bt200.1, bt200.2)) else (none)) else (none))
def spec_l71Key.l0 : Nat → ByteArray → Int → List Int → Int → Option (ByteArray × Int)
  | 0, _, _, _, _ => none
  | k + 1, x3, x4, x1000, x1001 => if x4 > 0 then ((spec_l6Rd_of.f k x1000 x1001 (([(⟨#[97]⟩ : ByteArray), (⟨#[98]⟩ : ByteArray), (⟨#[97]⟩ : ByteArray), (⟨#[99]⟩ : ByteArray), (⟨#[100]⟩ : ByteArray)] : List ByteArray))).bind fun bt208 => (if x3.size + bt208.1.size ≤ 9223372036854775807 then (spec_l71Key.l0 k (x3 ++ bt208.1) (wrap64 (x4 - 1)) x1000 bt208.2) else (none))) else (some (x3, x1001))
def spec_l71Key.f (k : Nat) (s0_0 : List Int) (s0_1 : Int) : Option (ByteArray × Int) := (spec_l6Rd_pick.f k s0_0 s0_1 6).bind fun bt203 => (spec_l71Key.l0 k (⟨#[]⟩ : ByteArray) bt203.1 s0_0 bt203.2)
def spec_l71Near.j0 : Nat → List ByteArray → Bool → List Int → Int → Option (ByteArray × Int)
  | 0, _, _, _, _ => none
  | k + 1, x1, x13, x1000, x1001 => if x13 = true then ((spec_l71Key.f k x1000 x1001).bind fun bt212 => (some (bt212.1, bt212.2))) else ((spec_l6Rd_pick.f k x1000 x1001 (x1.length : Int)).bind fun bt214 => (if 0 ≤ bt214.1 then (if bt214.1 < (x1.length : Int) then ((spec_l6Rd_pick.f k x1000 bt214.2 4).bind fun bt217 => (if bt217.1 = 0 then ((spec_l6Rd_pick.f k x1000 bt217.2 (wrap64 (((rdOf ByteArray.empty x1 bt214.1).size : Int) + 1))).bind fun bt219 => (if 0 ≤ bt219.1 then (if bt219.1 ≤ ((rdOf ByteArray.empty x1 bt214.1).size : Int) then (some ((rdOf ByteArray.empty x1 bt214.1).extract 0 (bt219.1 : Int).toNat, bt219.2)) else (none)) else (none))) else (if bt217.1 = 1 then (if ((rdOf ByteArray.empty x1 bt214.1).size : Int) < 5 then ((spec_l6Rd_of.f k x1000 bt217.2 (([(⟨#[97]⟩ : ByteArray), (⟨#[98]⟩ : ByteArray), (⟨#[100]⟩ : ByteArray)] : List ByteArray))).bind fun bt224 => (if (rdOf ByteArray.empty x1 bt214.1).size + bt224.1.size ≤ 9223372036854775807 then (some ((rdOf ByteArray.empty x1 bt214.1) ++ bt224.1, bt224.2)) else (none))) else (some (rdOf ByteArray.empty x1 bt214.1, bt217.2))) else (some (rdOf ByteArray.empty x1 bt214.1, bt217.2))))) else (none)) else (none)))
def spec_l71Near.f (k : Nat) (s0_0 : List Int) (s0_1 : Int) (l1 : List ByteArray) : Option (ByteArray × Int) := if (l1.length : Int) = 0 then (spec_l71Near.j0 k l1 true s0_0 s0_1) else ((spec_l6Rd_pick.f k s0_0 s0_1 4).bind fun bt210 => (spec_l71Near.j0 k l1 (bt210.1 == 0) s0_0 bt210.2))
def spec_l2Put.l0 : Nat → List ByteArray → ByteArray → List ByteArray → Bool → Int → Option (List ByteArray)
  | 0, _, _, _, _, _ => none
  | k + 1, x0, x1, x5, x6, x7 => if x7 < (x0.length : Int) then (if 0 ≤ x7 then (if (rdOf ByteArray.empty x0 x7).toList = x1.toList then (some x0) else (if x6 = true then (if x5.length < 8796093022208 then (spec_l2Put.l0 k x0 x1 (x5 ++ [rdOf ByteArray.empty x0 x7]) x6 (wrap64 (x7 + 1))) else (none)) else (if (Op.bytesLess x1.toList ((rdOf ByteArray.empty x0 x7).toList)) = true then (if x5.length < 8796093022208 then ((some (x5 ++ [x1] : List ByteArray)).bind fun y238 => (if y238.length < 8796093022208 then (spec_l2Put.l0 k x0 x1 (y238 ++ [rdOf ByteArray.empty x0 x7]) true (wrap64 (x7 + 1))) else (none))) else (none)) else (if x5.length < 8796093022208 then (spec_l2Put.l0 k x0 x1 (x5 ++ [rdOf ByteArray.empty x0 x7]) x6 (wrap64 (x7 + 1))) else (none))))) else (none)) else (if x6 = true then (some x5) else (if x5.length < 8796093022208 then (some (x5 ++ [x1])) else (none)))
def spec_l2Put.f (k : Nat) (l0 : List ByteArray) (a1 : ByteArray) : Option (List ByteArray) := spec_l2Put.l0 k l0 a1 (([] : List ByteArray)) false 0
def spec_l71Keys.l0 : Nat → List ByteArray → Int → List Int → Int → Option (List ByteArray × Int)
  | 0, _, _, _, _ => none
  | k + 1, x5, x6, x1000, x1001 => if x6 > 0 then ((spec_l71Near.f k x1000 x1001 x5).bind fun bt254 => ((spec_l2Put.f k x5 bt254.1).bind fun t256 => (spec_l71Keys.l0 k t256 (wrap64 (x6 - 1)) x1000 bt254.2))) else (some (x5, x1001))
def spec_l71Keys.f (k : Nat) (s0_0 : List Int) (s0_1 : Int) (a1 : Int) : Option (List ByteArray × Int) := (spec_l6Rd_pick.f k s0_0 s0_1 (wrap64 (a1 + 1))).bind fun bt252 => (spec_l71Keys.l0 k (([] : List ByteArray)) bt252.1 s0_0 bt252.2)
def spec_l71Sieve.f (k : Nat) (s0_0 : List Int) (s0_1 : Int) : Option (ByteArray × ByteArray × ByteArray × List ByteArray × Int × List ByteArray × Int) := (spec_l71Keys.f k s0_0 s0_1 12).bind fun bt260 => ((some (([0, 0, 1, 1, 2, 5] : List Int) : List Int)).bind fun y264 => ((spec_l6Rd_pick.f k s0_0 bt260.2 6).bind fun bt267 => (if 0 ≤ bt267.1 then (if bt267.1 < (y264.length : Int) then ((spec_SieveOf.f k bt260.1 (rd y264 bt267.1)).bind fun bt270 => (some (bt270.1, bt270.2.1, bt270.2.2.1, bt270.2.2.2.1, bt270.2.2.2.2.1, bt260.1, bt267.2))) else (none)) else (none))))
def spec_l71Bent.f (k : Nat) (s0_0 : List Int) (s0_1 : Int) : Option (ByteArray × ByteArray × ByteArray × List ByteArray × Int × List ByteArray × Int) := (spec_l71Sieve.f k s0_0 s0_1).bind fun bt280 => ((spec_l6Rd_pick.f k s0_0 bt280.2.2.2.2.2.2 10).bind fun bt292 => (if bt292.1 > 0 then (some (bt280.1, bt280.2.1, bt280.2.2.1, bt280.2.2.2.1, bt280.2.2.2.2.1, bt280.2.2.2.2.2.1, bt292.2)) else ((spec_l6Rd_pick.f k s0_0 bt292.2 7).bind fun bt294 => (if bt294.1 = 0 then (if bt280.1.size + 1 ≤ 9223372036854775807 then (some (bt280.1 ++ (⟨#[97]⟩ : ByteArray), bt280.2.1, bt280.2.2.1, bt280.2.2.2.1, bt280.2.2.2.2.1, bt280.2.2.2.2.2.1, bt294.2)) else (none)) else (if bt294.1 = 1 then (if bt280.2.1.size + 1 ≤ 9223372036854775807 then (some (bt280.1, bt280.2.1 ++ (⟨#[49]⟩ : ByteArray), bt280.2.2.1, bt280.2.2.2.1, bt280.2.2.2.2.1, bt280.2.2.2.2.2.1, bt294.2)) else (none)) else (if bt294.1 = 2 then (if 1 + bt280.2.2.1.size ≤ 9223372036854775807 then (some (bt280.1, bt280.2.1, (⟨#[49]⟩ : ByteArray) ++ bt280.2.2.1, bt280.2.2.2.1, bt280.2.2.2.2.1, bt280.2.2.2.2.2.1, bt294.2)) else (none)) else (if bt294.1 = 3 then (if bt280.2.2.2.1.length < 8796093022208 then (some (bt280.1, bt280.2.1, bt280.2.2.1, (bt280.2.2.2.1 ++ [(⟨#[]⟩ : ByteArray)]), bt280.2.2.2.2.1, bt280.2.2.2.2.2.1, bt294.2)) else (none)) else (if bt294.1 = 4 then ((some (([(-1), 6, 3] : List Int) : List Int)).bind fun y299 => ((spec_l6Rd_pick.f k s0_0 bt294.2 3).bind fun bt302 => (if 0 ≤ bt302.1 then (if bt302.1 < (y299.length : Int) then (some (bt280.1, bt280.2.1, bt280.2.2.1, bt280.2.2.2.1, rd y299 bt302.1, bt280.2.2.2.2.2.1, bt302.2)) else (none)) else (none)))) else (if bt294.1 = 5 then (some ((⟨#[97, 98]⟩ : ByteArray), (⟨#[49, 49]⟩ : ByteArray), (⟨#[49, 49]⟩ : ByteArray), ([] : List ByteArray), 1, bt280.2.2.2.2.2.1, bt294.2)) else (if (bt280.2.2.2.1.length : Int) > 0 then (if 0 < (bt280.2.2.2.1.length : Int) then (if (rdOf ByteArray.empty bt280.2.2.2.1 0).size + 4 ≤ 9223372036854775807 then (some (bt280.1, bt280.2.1, bt280.2.2.1, (bt280.2.2.2.1.set (0 : Int).toNat ((rdOf ByteArray.empty bt280.2.2.2.1 0) ++ (⟨#[97, 97, 97, 97]⟩ : ByteArray))), bt280.2.2.2.2.1, bt280.2.2.2.2.2.1, bt294.2)) else (none)) else (none)) else (some (bt280.1, bt280.2.1, bt280.2.2.1, bt280.2.2.2.1, bt280.2.2.2.2.1, bt280.2.2.2.2.2.1, bt294.2))))))))))))
def spec_DrawSieveHas.f (k : Nat) (l0 : List Int) : Option (ByteArray × ByteArray × ByteArray × List ByteArray × Int × ByteArray) := (spec_l6Open.f l0).bind fun bt308 => ((spec_l71Bent.f k bt308.1 bt308.2).bind fun bt311 => ((spec_l71Near.f k bt308.1 bt311.2.2.2.2.2.2 bt311.2.2.2.2.2.1).bind fun bt323 => (some (bt311.1, bt311.2.1, bt311.2.2.1, bt311.2.2.2.1, bt311.2.2.2.2.1, bt323.1))))
def impl_KeyOk.l0 : Nat → ByteArray → Int → Int → Option (Bool)
  | 0, _, _, _ => none
  | k + 1, x0, x5, x6 => if x6 < x5 then (if 0 ≤ x6 then (if x6 < (x0.size : Int) then (if (bt x0 x6) < 97 then (some false) else (if (bt x0 x6) > 100 then (some false) else (impl_KeyOk.l0 k x0 x5 (wrap64 (x6 + 1))))) else (none)) else (none)) else (some (decide ((x0.size : Int) ≤ 5)))
def impl_KeyOk.f (k : Nat) (a0 : ByteArray) : Option (Bool) := impl_KeyOk.l0 k a0 (a0.size : Int) 0
def impl_KeysOk.l0 : Nat → List ByteArray → List ByteArray → Int → Int → Option (Bool)
  | 0, _, _, _, _ => none
  | k + 1, x0, x5, x6, x7 => if x7 < x6 then (if 0 ≤ x7 then (if x7 < (x5.length : Int) then ((impl_KeyOk.f k (rdOf ByteArray.empty x5 x7)).bind fun t326 => (if t326 = true then (if x7 > 0 then (if 0 ≤ (wrap64 (x7 - 1)) then (if (wrap64 (x7 - 1)) < (x0.length : Int) then (if ((Op.bytesLess ((rdOf ByteArray.empty x0 (wrap64 (x7 - 1))).toList) ((rdOf ByteArray.empty x5 x7).toList)) = true) then (impl_KeysOk.l0 k x0 x5 x6 (wrap64 (x7 + 1))) else (some false)) else (none)) else (none)) else (impl_KeysOk.l0 k x0 x5 x6 (wrap64 (x7 + 1)))) else (some false))) else (none)) else (none)) else (some (decide ((x0.length : Int) ≤ 24)))
def impl_KeysOk.f (k : Nat) (l0 : List ByteArray) : Option (Bool) := impl_KeysOk.l0 k l0 l0 (l0.length : Int) 0
def impl_isKeep.f (a0 : Int) : Option (Bool) := (impl_in.f a0 0 5).bind fun t328 => (some t328)
def impl_label.f (a0 : ByteArray) (a1 : Int) : Option (Int) := if (a0.size : Int) = a1 then (some 45) else (if 0 ≤ a1 then (if a1 < (a0.size : Int) then (some (bt a0 a1)) else (none)) else (none))
mutual
def impl_sieveOf.l0 : Nat → ByteArray → ByteArray → ByteArray → List ByteArray → List S119 → Int → Int → Option (ByteArray × ByteArray × ByteArray × List ByteArray × Int)
  | 0, _, _, _, _, _, _, _ => none
  | k + 1, L, M, F, R, Q, keep, i => if i < (Q.length : Int) then (if 0 ≤ i then (impl_sieveOf.l1 k L M F R Q keep i (rd_T119 Q i).f0 (rd_T119 Q i).f1 49) else (none)) else (some (L, M, F, R, keep))
def impl_sieveOf.l1 : Nat → ByteArray → ByteArray → ByteArray → List ByteArray → List S119 → Int → Int → List ByteArray → Int → Int → Option (ByteArray × ByteArray × ByteArray × List ByteArray × Int)
  | 0, _, _, _, _, _, _, _, _, _, _ => none
  | k + 1, L, M, F, R, Q, keep, i, rest, depth, mark => if (rest.length : Int) > 0 then (impl_sieveOf.l2 k L M F R Q keep i rest depth mark 1) else (impl_sieveOf.l0 k L M F R Q keep (wrap64 (i + 1)))
def impl_sieveOf.l2 : Nat → ByteArray → ByteArray → ByteArray → List ByteArray → List S119 → Int → Int → List ByteArray → Int → Int → Int → Option (ByteArray × ByteArray × ByteArray × List ByteArray × Int)
  | 0, _, _, _, _, _, _, _, _, _, _, _ => none
  | k + 1, L, M, F, R, Q, keep, i, rest, depth, mark, n => if n < (rest.length : Int) then (if 0 ≤ n then ((impl_label.f (rdOf ByteArray.empty rest n) depth).bind fun a => ((impl_label.f (rdOf ByteArray.empty rest 0) depth).bind fun b => (if a = b then (impl_sieveOf.l2 k L M F R Q keep i rest depth mark (wrap64 (n + 1))) else (impl_sieveOf.l3 k L M F R Q keep i rest depth mark n)))) else (none)) else (impl_sieveOf.l3 k L M F R Q keep i rest depth mark n)
def impl_sieveOf.l3 : Nat → ByteArray → ByteArray → ByteArray → List ByteArray → List S119 → Int → Int → List ByteArray → Int → Int → Int → Option (ByteArray × ByteArray × ByteArray × List ByteArray × Int)
  | 0, _, _, _, _, _, _, _, _, _, _, _ => none
  | k + 1, L, M, F, R, Q, keep, i, rest, depth, mark, n => if L.size + 1 ≤ 140737488355328 ∧ M.size + 1 ≤ 140737488355328 ∧ F.size + 1 ≤ 140737488355328 ∧ 0 ≤ n ∧ n ≤ (rest.length : Int) ∧ 0 ≤ depth ∧ depth ≤ 1000000000 ∧ 0 ≤ keep ∧ Q.length < 4398046511104 ∧ R.length < 8796093022208 then ((impl_label.f (rdOf ByteArray.empty rest 0) depth).bind fun c => (if n > 1 then (impl_sieveOf.l1 k (L.push c.toNat.toUInt8) (M.push 49) (F.push mark.toNat.toUInt8) R (Q ++ [⟨rest.take n.toNat, wrap64 (depth + 1)⟩]) keep i (rest.drop n.toNat) depth 48) else (impl_sieveOf.l1 k (L.push c.toNat.toUInt8) (M.push 48) (F.push mark.toNat.toUInt8) (R ++ [((rdOf ByteArray.empty rest 0).extract (mn (wrap64 (depth + 1)) ((rdOf ByteArray.empty rest 0).size : Int)).toNat (rdOf ByteArray.empty rest 0).size).extract 0 (mn keep (((rdOf ByteArray.empty rest 0).extract (mn (wrap64 (depth + 1)) ((rdOf ByteArray.empty rest 0).size : Int)).toNat (rdOf ByteArray.empty rest 0).size).size : Int)).toNat]) Q keep i (rest.drop n.toNat) depth 48))) else (none)
end
def impl_sieveOf.f (k : Nat) (l0 : List ByteArray) (a1 : Int) : Option (ByteArray × ByteArray × ByteArray × List ByteArray × Int) := impl_sieveOf.l0 k (⟨#[]⟩ : ByteArray) (⟨#[]⟩ : ByteArray) (⟨#[]⟩ : ByteArray) [] [⟨l0, 0⟩] a1 0
def impl_SieveOf.f (k : Nat) (l0 : List ByteArray) (a1 : Int) : Option (ByteArray × ByteArray × ByteArray × List ByteArray × Int × Bool) := (impl_KeysOk.f k l0).bind fun t330 => (if t330 = true then ((impl_isKeep.f a1).bind fun t331 => (if t331 = true then ((impl_sieveOf.f k l0 a1).bind fun bt332 => (some (bt332.1, bt332.2.1, bt332.2.2.1, bt332.2.2.2.1, bt332.2.2.2.2, true))) else (some ((⟨#[]⟩ : ByteArray), (⟨#[]⟩ : ByteArray), (⟨#[]⟩ : ByteArray), ([] : List ByteArray), 0, false)))) else (some ((⟨#[]⟩ : ByteArray), (⟨#[]⟩ : ByteArray), (⟨#[]⟩ : ByteArray), ([] : List ByteArray), 0, false)))
def strings_Count.f (a0 : ByteArray) (a1 : ByteArray) : Option (Int) := if a1.size = 1 then (some ((a0.data.toList.count (a1.data.toList.headD 0) : Nat) : Int)) else (none)
def impl_texts.l0 : Nat → List ByteArray → List (S106) → Int → Int → Option (List ByteArray)
  | 0, _, _, _, _ => none
  | k + 1, x3, x6, x7, x8 => if x8 < x7 then (if 0 ≤ x8 then (if x8 < (x6.length : Int) then (if x3.length < 8796093022208 then (impl_texts.l0 k (x3 ++ [(rd_T106 x6 x8).f0]) x6 x7 (wrap64 (x8 + 1))) else (none)) else (none)) else (none)) else (some x3)
def impl_texts.f (k : Nat) (l0 : List (S106)) : Option (List ByteArray) := impl_texts.l0 k ([] : List ByteArray) l0 (l0.length : Int) 0
def impl_one.l0 : Nat → ByteArray → Int → Int → Int → Option (Int)
  | 0, _, _, _, _ => none
  | k + 1, x0, x1, x7, x8 => if x8 < x7 then (if 0 ≤ x8 then (if x8 < (x0.size : Int) then (if (bt x0 x8) = 49 then (if x1 = 0 then (some x8) else (impl_one.l0 k x0 (wrap64 (x1 - 1)) x7 (wrap64 (x8 + 1)))) else (impl_one.l0 k x0 x1 x7 (wrap64 (x8 + 1)))) else (none)) else (none)) else (some (-1))
def impl_one.f (k : Nat) (a0 : ByteArray) (a1 : Int) : Option (Int) := impl_one.l0 k a0 a1 (a0.size : Int) 0
def impl_Sieve_branches.l0 : Nat → Int → Int → ByteArray → ByteArray → ByteArray → List ByteArray → Int → Option (Int × Int)
  | 0, _, _, _, _, _, _, _ => none
  | k + 1, x6, x7, x347000, x347001, x347002, x347003, x347004 => if x7 < (x347002.size : Int) then (if 0 ≤ x7 then (if (bt x347002 x7) = 48 then (impl_Sieve_branches.l0 k x6 (wrap64 (x7 + 1)) x347000 x347001 x347002 x347003 x347004) else (some (x6, x7))) else (none)) else (some (x6, x7))
def impl_Sieve_branches.f (k : Nat) (a0_0 : ByteArray) (a0_1 : ByteArray) (a0_2 : ByteArray) (l0_3 : List ByteArray) (a0_4 : Int) (a1 : Int) : Option (Int × Int) := (impl_one.f k a0_2 a1).bind fun t347 => (if t347 < 0 then (some (0, 0)) else (impl_Sieve_branches.l0 k t347 (wrap64 (t347 + 1)) a0_0 a0_1 a0_2 l0_3 a0_4))
def impl_Sieve_node.f (a0_0 : ByteArray) (a0_1 : ByteArray) (a0_2 : ByteArray) (l0_3 : List ByteArray) (a0_4 : Int) (a1 : Int) : Option (Int) := if 0 ≤ (wrap64 (a1 + 1)) then (if (wrap64 (a1 + 1)) ≤ (a0_1.size : Int) then ((strings_Count.f (a0_1.extract 0 ((wrap64 (a1 + 1)) : Int).toNat) (⟨#[49]⟩ : ByteArray)).bind fun t349 => (some t349)) else (none)) else (none)
def impl_Sieve_rest.f (a0_0 : ByteArray) (a0_1 : ByteArray) (a0_2 : ByteArray) (l0_3 : List ByteArray) (a0_4 : Int) (a1 : Int) : Option (ByteArray) := if 0 ≤ a1 then (if a1 ≤ (a0_1.size : Int) then ((strings_Count.f (a0_1.extract 0 (a1 : Int).toNat) (⟨#[48]⟩ : ByteArray)).bind fun t351 => (if 0 ≤ t351 then (if t351 < (l0_3.length : Int) then (some (rdOf ByteArray.empty l0_3 t351)) else (none)) else (none))) else (none)) else (none)
def impl_Sieve_complete.f (a0_0 : ByteArray) (a0_1 : ByteArray) (a0_2 : ByteArray) (l0_3 : List ByteArray) (a0_4 : Int) (a1 : Int) : Option (Bool) := if 0 ≤ a1 then (if a1 < (a0_0.size : Int) then (if (bt a0_0 a1) = 45 then (some true) else ((impl_Sieve_rest.f a0_0 a0_1 a0_2 l0_3 a0_4 a1).bind fun t354 => (some (decide ((t354.size : Int) < a0_4))))) else (none)) else (none)
mutual
def impl_Sieve_parts.l0 : Nat → ByteArray → List (S106) → Int → Int → ByteArray → ByteArray → ByteArray → List ByteArray → Int → Option ((List (S106)) × Bool)
  | 0, _, _, _, _, _, _, _, _, _ => none
  | k + 1, x2, x3, x11, x12, x356000, x356001, x356002, x356003, x356004 => if x12 < x11 then (if 0 ≤ x12 then (if x12 < (x356000.size : Int) then (if (bt x356000 x12) = 45 then (impl_Sieve_parts.j1 k x2 x3 x11 x12 x2 x356000 x356001 x356002 x356003 x356004) else (if x12 ≤ (wrap64 (x12 + 1)) then (if (wrap64 (x12 + 1)) ≤ (x356000.size : Int) then (if x2.size + (x356000.extract (x12 : Int).toNat ((wrap64 (x12 + 1)) : Int).toNat).size ≤ 9223372036854775807 then (impl_Sieve_parts.j1 k x2 x3 x11 x12 (x2 ++ (x356000.extract (x12 : Int).toNat ((wrap64 (x12 + 1)) : Int).toNat)) x356000 x356001 x356002 x356003 x356004) else (none)) else (none)) else (none))) else (none)) else (none)) else (some (x3, true))
def impl_Sieve_parts.j1 : Nat → ByteArray → List (S106) → Int → Int → ByteArray → ByteArray → ByteArray → ByteArray → List ByteArray → Int → Option ((List (S106)) × Bool)
  | 0, _, _, _, _, _, _, _, _, _, _ => none
  | k + 1, x2, x3, x11, x12, x13, x356000, x356001, x356002, x356003, x356004 => if 0 ≤ x12 then (if x12 < (x356001.size : Int) then (if (bt x356001 x12) = 48 then ((impl_Sieve_rest.f x356000 x356001 x356002 x356003 x356004 x12).bind fun t358 => (if x13.size + t358.size ≤ 9223372036854775807 then ((impl_Sieve_complete.f x356000 x356001 x356002 x356003 x356004 x12).bind fun t359 => (if x3.length < 5864062014805 then (impl_Sieve_parts.l0 k x2 (x3 ++ [(⟨x13 ++ t358, t359⟩ : S106)]) x11 (wrap64 (x12 + 1)) x356000 x356001 x356002 x356003 x356004) else (none))) else (none))) else ((impl_Sieve_node.f x356000 x356001 x356002 x356003 x356004 x12).bind fun t363 => ((impl_Sieve_branches.f k x356000 x356001 x356002 x356003 x356004 t363).bind fun bt364 => (if bt364.1 ≤ x12 then (impl_Sieve_parts.j2 k x2 x3 x11 x12 x13 true x356000 x356001 x356002 x356003 x356004) else (if x12 < (x356000.size : Int) then (impl_Sieve_parts.j2 k x2 x3 x11 x12 x13 ((bt x356000 x12) == 45) x356000 x356001 x356002 x356003 x356004) else (none)))))) else (none)) else (none)
def impl_Sieve_parts.j2 : Nat → ByteArray → List (S106) → Int → Int → ByteArray → Bool → ByteArray → ByteArray → ByteArray → List ByteArray → Int → Option ((List (S106)) × Bool)
  | 0, _, _, _, _, _, _, _, _, _, _, _ => none
  | k + 1, x2, x3, x11, x12, x13, x81, x356000, x356001, x356002, x356003, x356004 => if x81 = true then (some (([] : List (S106)), false)) else ((impl_Sieve_node.f x356000 x356001 x356002 x356003 x356004 x12).bind fun t366 => ((impl_Sieve_parts.f k x356000 x356001 x356002 x356003 x356004 t366 x13 x3).bind fun bt367 => (if bt367.2 = true then (impl_Sieve_parts.l0 k x2 bt367.1 x11 (wrap64 (x12 + 1)) x356000 x356001 x356002 x356003 x356004) else (some (([] : List (S106)), false)))))
def impl_Sieve_parts.f : Nat → ByteArray → ByteArray → ByteArray → List ByteArray → Int → Int → ByteArray → List (S106) → Option ((List (S106)) × Bool)
  | 0, _, _, _, _, _, _, _, _ => none
  | k + 1, a0_0, a0_1, a0_2, l0_3, a0_4, a1, a2, l3 => if (a2.size : Int) > 5 then (some (([] : List (S106)), false)) else ((impl_Sieve_branches.f k a0_0 a0_1 a0_2 l0_3 a0_4 a1).bind fun bt356 => (impl_Sieve_parts.l0 k a2 l3 bt356.2 bt356.1 a0_0 a0_1 a0_2 l0_3 a0_4))
end
def slices_Equal_string_string.l0 : Nat → List ByteArray → List ByteArray → Int → Int → Option (Bool)
  | 0, _, _, _, _ => none
  | k + 1, x0, x1, x12, x13 => if x13 < x12 then (if 0 ≤ x13 then (if x13 < (x0.length : Int) then (if x13 < (x1.length : Int) then (if (rdOf ByteArray.empty x0 x13).toList = (rdOf ByteArray.empty x1 x13).toList then (slices_Equal_string_string.l0 k x0 x1 x12 (wrap64 (x13 + 1))) else (some false)) else (none)) else (none)) else (none)) else (some true)
def slices_Equal_string_string.f (k : Nat) (l0 : List ByteArray) (l1 : List ByteArray) : Option (Bool) := if (l0.length : Int) = (l1.length : Int) then (slices_Equal_string_string.l0 k l0 l1 (l0.length : Int) 0) else (some false)
def impl_Sieve_same.f (k : Nat) (a0_0 : ByteArray) (a0_1 : ByteArray) (a0_2 : ByteArray) (l0_3 : List ByteArray) (a0_4 : Int) (a1_0 : ByteArray) (a1_1 : ByteArray) (a1_2 : ByteArray) (l1_3 : List ByteArray) (a1_4 : Int) : Option (Bool) := if a0_0.toList = a1_0.toList then (if a0_1.toList = a1_1.toList then (if a0_2.toList = a1_2.toList then (if a0_4 = a1_4 then ((slices_Equal_string_string.f k l0_3 l1_3).bind fun t375 => (some t375)) else (some false)) else (some false)) else (some false)) else (some false)
def impl_Sieve_heads.j0 : Nat → Bool → ByteArray → ByteArray → ByteArray → List ByteArray → Int → Option ((List (S106)) × Bool)
  | 0, _, _, _, _, _, _ => none
  | k + 1, x49, x377000, x377001, x377002, x377003, x377004 => if x49 = true then (some (([] : List (S106)), false)) else ((impl_Sieve_parts.f k x377000 x377001 x377002 x377003 x377004 0 (⟨#[]⟩ : ByteArray) ([] : List (S106))).bind fun bt381 => (if bt381.2 = true then ((impl_texts.f k bt381.1).bind fun t385 => ((impl_SieveOf.f k t385 x377004).bind fun bt388 => (if bt388.2.2.2.2.2 = true then ((impl_Sieve_same.f k bt388.1 bt388.2.1 bt388.2.2.1 bt388.2.2.2.1 bt388.2.2.2.2.1 x377000 x377001 x377002 x377003 x377004).bind fun t397 => (if t397 = true then (some (bt381.1, true)) else (some (([] : List (S106)), false)))) else (some (([] : List (S106)), false))))) else (some (([] : List (S106)), false))))
def impl_Sieve_heads.f (k : Nat) (a0_0 : ByteArray) (a0_1 : ByteArray) (a0_2 : ByteArray) (l0_3 : List ByteArray) (a0_4 : Int) : Option ((List (S106)) × Bool) := (impl_BitsOk.f k a0_1).bind fun t377 => (if t377 = true then ((impl_BitsOk.f k a0_2).bind fun t378 => (if t378 = true then (if (a0_1.size : Int) = (a0_0.size : Int) then (if (a0_2.size : Int) = (a0_0.size : Int) then ((impl_isKeep.f a0_4).bind fun t379 => (if t379 = true then ((strings_Count.f a0_1 (⟨#[48]⟩ : ByteArray)).bind fun t380 => (impl_Sieve_heads.j0 k ((l0_3.length : Int) != t380) a0_0 a0_1 a0_2 l0_3 a0_4)) else (impl_Sieve_heads.j0 k true a0_0 a0_1 a0_2 l0_3 a0_4))) else (impl_Sieve_heads.j0 k true a0_0 a0_1 a0_2 l0_3 a0_4)) else (impl_Sieve_heads.j0 k true a0_0 a0_1 a0_2 l0_3 a0_4)) else (impl_Sieve_heads.j0 k true a0_0 a0_1 a0_2 l0_3 a0_4))) else (impl_Sieve_heads.j0 k true a0_0 a0_1 a0_2 l0_3 a0_4))
def impl_SieveOk.f (k : Nat) (a0_0 : ByteArray) (a0_1 : ByteArray) (a0_2 : ByteArray) (l0_3 : List ByteArray) (a0_4 : Int) : Option (Bool) := (impl_Sieve_heads.f k a0_0 a0_1 a0_2 l0_3 a0_4).bind fun bt399 => (some bt399.2)
def stringslite_HasPrefix.f (a0 : ByteArray) (a1 : ByteArray) : Option (Bool) := if (a0.size : Int) ≥ (a1.size : Int) then (if 0 ≤ (a1.size : Int) then (if (a1.size : Int) ≤ (a0.size : Int) then (some ((a0.extract 0 ((a1.size : Int) : Int).toNat).toList == a1.toList)) else (none)) else (none)) else (some false)
def strings_HasPrefix.f (a0 : ByteArray) (a1 : ByteArray) : Option (Bool) := (stringslite_HasPrefix.f a0 a1).bind fun t403 => (some t403)
def impl_KeyBegins.f (a0 : ByteArray) (a1 : ByteArray) : Option (Bool) := (strings_HasPrefix.f a0 a1).bind fun t404 => (some t404)
mutual
def impl_Sieve_has.l0 : Nat → ByteArray → Int → Int → ByteArray → ByteArray → ByteArray → List ByteArray → Int → Option (Bool)
  | 0, _, _, _, _, _, _, _, _ => none
  | k + 1, x1, x5, x6, x406000, x406001, x406002, x406003, x406004 => (impl_Sieve_branches.f k x406000 x406001 x406002 x406003 x406004 x5).bind fun bt406 => (impl_Sieve_has.l1 k x1 x6 bt406.2 bt406.1 x406000 x406001 x406002 x406003 x406004)
def impl_Sieve_has.j2 : Nat → ByteArray → Int → Int → Int → ByteArray → ByteArray → ByteArray → List ByteArray → Int → Option (Bool)
  | 0, _, _, _, _, _, _, _, _, _ => none
  | k + 1, x1, x6, x8, x9, x406000, x406001, x406002, x406003, x406004 => if x9 = x8 then (some false) else (if 0 ≤ x9 then (if x9 < (x406001.size : Int) then (if (bt x406001 x9) = 49 then ((impl_Sieve_node.f x406000 x406001 x406002 x406003 x406004 x9).bind fun t409 => (impl_Sieve_has.l0 k x1 t409 (wrap64 (x6 + 1)) x406000 x406001 x406002 x406003 x406004)) else (if 0 ≤ (mn (wrap64 (x6 + 1)) (x1.size : Int)) then (if (mn (wrap64 (x6 + 1)) (x1.size : Int)) ≤ (x1.size : Int) then ((impl_Sieve_complete.f x406000 x406001 x406002 x406003 x406004 x9).bind fun t410 => (if t410 = true then ((impl_Sieve_rest.f x406000 x406001 x406002 x406003 x406004 x9).bind fun t411 => (some ((x1.extract ((mn (wrap64 (x6 + 1)) (x1.size : Int)) : Int).toNat x1.size).toList == t411.toList))) else ((impl_Sieve_rest.f x406000 x406001 x406002 x406003 x406004 x9).bind fun t412 => ((impl_KeyBegins.f (x1.extract ((mn (wrap64 (x6 + 1)) (x1.size : Int)) : Int).toNat x1.size) t412).bind fun t413 => (some t413))))) else (none)) else (none))) else (none)) else (none))
def impl_Sieve_has.l1 : Nat → ByteArray → Int → Int → Int → ByteArray → ByteArray → ByteArray → List ByteArray → Int → Option (Bool)
  | 0, _, _, _, _, _, _, _, _, _ => none
  | k + 1, x1, x6, x8, x9, x406000, x406001, x406002, x406003, x406004 => if x9 < x8 then (if 0 ≤ x9 then (if x9 < (x406000.size : Int) then ((impl_label.f x1 x6).bind fun t408 => (if (bt x406000 x9) = t408 then (impl_Sieve_has.j2 k x1 x6 x8 x9 x406000 x406001 x406002 x406003 x406004) else (impl_Sieve_has.l1 k x1 x6 x8 (wrap64 (x9 + 1)) x406000 x406001 x406002 x406003 x406004))) else (none)) else (none)) else (impl_Sieve_has.j2 k x1 x6 x8 x9 x406000 x406001 x406002 x406003 x406004)
end
def impl_Sieve_has.f (k : Nat) (a0_0 : ByteArray) (a0_1 : ByteArray) (a0_2 : ByteArray) (l0_3 : List ByteArray) (a0_4 : Int) (a1 : ByteArray) : Option (Bool) := impl_Sieve_has.l0 k a1 0 0 a0_0 a0_1 a0_2 l0_3 a0_4
def impl_SieveHas.f (k : Nat) (a0_0 : ByteArray) (a0_1 : ByteArray) (a0_2 : ByteArray) (l0_3 : List ByteArray) (a0_4 : Int) (a1 : ByteArray) : Option (Bool) := (impl_SieveOk.f k a0_0 a0_1 a0_2 l0_3 a0_4).bind fun t415 => (if t415 = true then ((impl_KeyOk.f k a1).bind fun t416 => (if t416 = true then ((impl_Sieve_has.f k a0_0 a0_1 a0_2 l0_3 a0_4 a1).bind fun t417 => (some t417)) else (some false))) else (some false))
def spec_l1One.l0 : Nat → ByteArray → Int → Int → Option (Int)
  | 0, _, _, _ => none
  | k + 1, x0, x1, x5 => if x5 < (x0.size : Int) then (if 0 ≤ x5 then (if (bt x0 x5) = 49 then (if x1 = 0 then (some x5) else (spec_l1One.l0 k x0 (wrap64 (x1 - 1)) (wrap64 (x5 + 1)))) else (spec_l1One.l0 k x0 x1 (wrap64 (x5 + 1)))) else (none)) else (some (x0.size : Int))
def spec_l1One.f (k : Nat) (a0 : ByteArray) (a1 : Int) : Option (Int) := spec_l1One.l0 k a0 a1 0
mutual
def spec_l1Ones.l0 : Nat → ByteArray → Int → Int → Int → Option (Int)
  | 0, _, _, _, _ => none
  | k + 1, x0, x1, x5, x6 => if x6 < x1 then (spec_l1Ones.j1 k x0 x1 x5 x6 (decide (x6 < (x0.size : Int)))) else (spec_l1Ones.j1 k x0 x1 x5 x6 false)
def spec_l1Ones.j1 : Nat → ByteArray → Int → Int → Int → Bool → Option (Int)
  | 0, _, _, _, _, _ => none
  | k + 1, x0, x1, x5, x6, x15 => if x15 = true then (if 0 ≤ x6 then (if x6 < (x0.size : Int) then (if (bt x0 x6) = 49 then (spec_l1Ones.l0 k x0 x1 (wrap64 (x5 + 1)) (wrap64 (x6 + 1))) else (spec_l1Ones.l0 k x0 x1 x5 (wrap64 (x6 + 1)))) else (none)) else (none)) else (some x5)
end
def spec_l1Ones.f (k : Nat) (a0 : ByteArray) (a1 : Int) : Option (Int) := spec_l1Ones.l0 k a0 a1 0 0
def spec_l3Kids.f (k : Nat) (a0_0 : ByteArray) (a0_1 : ByteArray) (a0_2 : ByteArray) (l0_3 : List ByteArray) (a0_4 : Int) (a1 : Int) : Option (Int × Int) := (spec_l1Ones.f k a0_1 (wrap64 (a1 + 1))).bind fun t419 => ((spec_l1One.f k a0_2 t419).bind fun t420 => ((spec_l1One.f k a0_2 (wrap64 (t419 + 1))).bind fun t421 => (some (t420, t421))))
mutual
def spec_l3Add.l0 : Nat → Int → ByteArray → List ByteArray → Int → ByteArray → ByteArray → ByteArray → List ByteArray → Int → Option (List ByteArray)
  | 0, _, _, _, _, _, _, _, _, _ => none
  | k + 1, x2, x3, x4, x11, x423000, x423001, x423002, x423003, x423004 => if x11 < x2 then (if x11 < (x423000.size : Int) then (spec_l3Add.j1 k x2 x3 x4 x11 (decide ((x3.size : Int) ≤ 5)) x423000 x423001 x423002 x423003 x423004) else (spec_l3Add.j1 k x2 x3 x4 x11 false x423000 x423001 x423002 x423003 x423004)) else (spec_l3Add.j1 k x2 x3 x4 x11 false x423000 x423001 x423002 x423003 x423004)
def spec_l3Add.j1 : Nat → Int → ByteArray → List ByteArray → Int → Bool → ByteArray → ByteArray → ByteArray → List ByteArray → Int → Option (List ByteArray)
  | 0, _, _, _, _, _, _, _, _, _, _ => none
  | k + 1, x2, x3, x4, x11, x31, x423000, x423001, x423002, x423003, x423004 => if x31 = true then (if 0 ≤ x11 then (if x11 < (x423000.size : Int) then (if (bt x423000 x11) = 45 then (spec_l3Add.j2 k x2 x3 x4 x11 x3 x423000 x423001 x423002 x423003 x423004) else (if x11 ≤ (wrap64 (x11 + 1)) then (if (wrap64 (x11 + 1)) ≤ (x423000.size : Int) then (if x3.size + (x423000.extract (x11 : Int).toNat ((wrap64 (x11 + 1)) : Int).toNat).size ≤ 9223372036854775807 then (spec_l3Add.j2 k x2 x3 x4 x11 (x3 ++ (x423000.extract (x11 : Int).toNat ((wrap64 (x11 + 1)) : Int).toNat)) x423000 x423001 x423002 x423003 x423004) else (none)) else (none)) else (none))) else (none)) else (none)) else (some x4)
def spec_l3Add.j2 : Nat → Int → ByteArray → List ByteArray → Int → ByteArray → ByteArray → ByteArray → ByteArray → List ByteArray → Int → Option (List ByteArray)
  | 0, _, _, _, _, _, _, _, _, _, _ => none
  | k + 1, x2, x3, x4, x11, x12, x423000, x423001, x423002, x423003, x423004 => if 0 ≤ x11 then (if x11 < (x423001.size : Int) then (if (bt x423001 x11) = 49 then ((spec_l3Kids.f k x423000 x423001 x423002 x423003 x423004 x11).bind fun bt423 => (if bt423.1 ≤ x11 then (some x4) else ((spec_l3Add.f k x423000 x423001 x423002 x423003 x423004 bt423.1 bt423.2 x12 x4).bind fun t425 => (spec_l3Add.l0 k x2 x3 t425 (wrap64 (x11 + 1)) x423000 x423001 x423002 x423003 x423004)))) else ((spec_l1Ones.f k x423001 x11).bind fun t428 => (if (wrap64 (x11 - t428)) < (x423003.length : Int) then (if 0 ≤ (wrap64 (x11 - t428)) then (if x12.size + (rdOf ByteArray.empty x423003 (wrap64 (x11 - t428))).size ≤ 9223372036854775807 then (if x4.length < 8796093022208 then (spec_l3Add.l0 k x2 x3 (x4 ++ [x12 ++ (rdOf ByteArray.empty x423003 (wrap64 (x11 - t428)))]) (wrap64 (x11 + 1)) x423000 x423001 x423002 x423003 x423004) else (none)) else (none)) else (none)) else (spec_l3Add.l0 k x2 x3 x4 (wrap64 (x11 + 1)) x423000 x423001 x423002 x423003 x423004)))) else (none)) else (none)
def spec_l3Add.f : Nat → ByteArray → ByteArray → ByteArray → List ByteArray → Int → Int → Int → ByteArray → List ByteArray → Option (List ByteArray)
  | 0, _, _, _, _, _, _, _, _, _ => none
  | k + 1, a0_0, a0_1, a0_2, l0_3, a0_4, a1, a2, a3, l4 => spec_l3Add.l0 k a2 a3 l4 a1 a0_0 a0_1 a0_2 l0_3 a0_4
end
def spec_l3Heads.f (k : Nat) (a0_0 : ByteArray) (a0_1 : ByteArray) (a0_2 : ByteArray) (l0_3 : List ByteArray) (a0_4 : Int) : Option (List ByteArray) := (spec_l1One.f k a0_2 1).bind fun t434 => ((spec_l3Add.f k a0_0 a0_1 a0_2 l0_3 a0_4 0 t434 (⟨#[]⟩ : ByteArray) (([] : List ByteArray))).bind fun t438 => (some t438))
def spec_l3Form.f (k : Nat) (a0_0 : ByteArray) (a0_1 : ByteArray) (a0_2 : ByteArray) (l0_3 : List ByteArray) (a0_4 : Int) : Option (Bool) := (spec_BitsOk.f k a0_1).bind fun t442 => (if t442 = true then ((spec_BitsOk.f k a0_2).bind fun t443 => (if t443 = true then (if (a0_1.size : Int) = (a0_0.size : Int) then (if (a0_2.size : Int) = (a0_0.size : Int) then ((spec_l1Ones.f k a0_1 (a0_0.size : Int)).bind fun t444 => (if (l0_3.length : Int) = (wrap64 ((a0_0.size : Int) - t444)) then ((spec_l6In.f a0_4 0 5).bind fun t445 => (some t445)) else (some false))) else (some false)) else (some false)) else (some false))) else (some false))
def spec_l3Sames.l0 : Nat → List ByteArray → List ByteArray → Int → Option (Bool)
  | 0, _, _, _ => none
  | k + 1, x0, x1, x5 => if x5 < (x0.length : Int) then (if 0 ≤ x5 then (if x5 < (x1.length : Int) then (if (rdOf ByteArray.empty x0 x5).toList = (rdOf ByteArray.empty x1 x5).toList then (spec_l3Sames.l0 k x0 x1 (wrap64 (x5 + 1))) else (some false)) else (none)) else (none)) else (some true)
def spec_l3Sames.f (k : Nat) (l0 : List ByteArray) (l1 : List ByteArray) : Option (Bool) := if (l0.length : Int) = (l1.length : Int) then (spec_l3Sames.l0 k l0 l1 0) else (some false)
def spec_SieveOk.f (k : Nat) (a0_0 : ByteArray) (a0_1 : ByteArray) (a0_2 : ByteArray) (l0_3 : List ByteArray) (a0_4 : Int) : Option (Bool) := (spec_l3Form.f k a0_0 a0_1 a0_2 l0_3 a0_4).bind fun t449 => (if t449 = true then ((spec_l3Heads.f k a0_0 a0_1 a0_2 l0_3 a0_4).bind fun t450 => ((spec_SieveOf.f k t450 a0_4).bind fun bt453 => (if bt453.2.2.2.2.2 = true then (if bt453.1.toList = a0_0.toList then (if bt453.2.1.toList = a0_1.toList then (if bt453.2.2.1.toList = a0_2.toList then ((spec_l3Sames.f k bt453.2.2.2.1 l0_3).bind fun t462 => (some t462)) else (some false)) else (some false)) else (some false)) else (some false)))) else (some false))
mutual
def spec_l3Walk.l0 : Nat → ByteArray → Int → Int → Int → ByteArray → ByteArray → ByteArray → List ByteArray → Int → Option (Int × Int × Bool)
  | 0, _, _, _, _, _, _, _, _, _ => none
  | k + 1, x1, x7, x8, x9, x464000, x464001, x464002, x464003, x464004 => spec_l3Walk.l1 k x1 x8 x9 (-1) x7 x464000 x464001 x464002 x464003 x464004
def spec_l3Walk.l1 : Nat → ByteArray → Int → Int → Int → Int → ByteArray → ByteArray → ByteArray → List ByteArray → Int → Option (Int × Int × Bool)
  | 0, _, _, _, _, _, _, _, _, _, _ => none
  | k + 1, x1, x8, x9, x10, x11, x464000, x464001, x464002, x464003, x464004 => if x11 < x8 then (spec_l3Walk.j2 k x1 x8 x9 x10 x11 (decide (x11 < (x464000.size : Int))) x464000 x464001 x464002 x464003 x464004) else (spec_l3Walk.j2 k x1 x8 x9 x10 x11 false x464000 x464001 x464002 x464003 x464004)
def spec_l3Walk.j2 : Nat → ByteArray → Int → Int → Int → Int → Bool → ByteArray → ByteArray → ByteArray → List ByteArray → Int → Option (Int × Int × Bool)
  | 0, _, _, _, _, _, _, _, _, _, _, _ => none
  | k + 1, x1, x8, x9, x10, x11, x25, x464000, x464001, x464002, x464003, x464004 => if x25 = true then (if 0 ≤ x11 then (if x11 ≤ (wrap64 (x11 + 1)) then (if (wrap64 (x11 + 1)) ≤ (x464000.size : Int) then ((spec_l3Letter.f x1 x9).bind fun t465 => (if (x464000.extract (x11 : Int).toNat ((wrap64 (x11 + 1)) : Int).toNat).toList = t465.toList then (spec_l3Walk.l1 k x1 x8 x9 x11 (wrap64 (x11 + 1)) x464000 x464001 x464002 x464003 x464004) else (spec_l3Walk.l1 k x1 x8 x9 x10 (wrap64 (x11 + 1)) x464000 x464001 x464002 x464003 x464004))) else (none)) else (none)) else (none)) else (if x10 < 0 then (some (0, 0, false)) else (if 0 ≤ x10 then (if x10 < (x464001.size : Int) then (if (bt x464001 x10) = 48 then (some (x10, mn (wrap64 (x9 + 1)) (x1.size : Int), true)) else ((spec_l3Kids.f k x464000 x464001 x464002 x464003 x464004 x10).bind fun bt466 => (spec_l3Walk.l0 k x1 bt466.1 bt466.2 (wrap64 (x9 + 1)) x464000 x464001 x464002 x464003 x464004))) else (none)) else (none)))
end
def spec_l3Walk.f (k : Nat) (a0_0 : ByteArray) (a0_1 : ByteArray) (a0_2 : ByteArray) (l0_3 : List ByteArray) (a0_4 : Int) (a1 : ByteArray) : Option (Int × Int × Bool) := (spec_l1One.f k a0_2 1).bind fun t464 => (spec_l3Walk.l0 k a1 0 t464 0 a0_0 a0_1 a0_2 l0_3 a0_4)
def spec_l3Whole.f (k : Nat) (a0_0 : ByteArray) (a0_1 : ByteArray) (a0_2 : ByteArray) (l0_3 : List ByteArray) (a0_4 : Int) (a1 : Int) : Option (Bool) := (spec_l1Ones.f k a0_1 a1).bind fun t469 => (if 0 ≤ a1 then (if a1 < (a0_0.size : Int) then (if (bt a0_0 a1) = 45 then (some true) else (if 0 ≤ (wrap64 (a1 - t469)) then (if (wrap64 (a1 - t469)) < (l0_3.length : Int) then (some (decide (((rdOf ByteArray.empty l0_3 (wrap64 (a1 - t469))).size : Int) < a0_4))) else (none)) else (none))) else (none)) else (none))
def spec_KeyBegins.f (a0 : ByteArray) (a1 : ByteArray) : Option (Bool) := if (a1.size : Int) ≤ (a0.size : Int) then (if 0 ≤ (a1.size : Int) then (some ((a0.extract 0 ((a1.size : Int) : Int).toNat).toList == a1.toList)) else (none)) else (some false)
def spec_SieveHas.j0 : Nat → ByteArray → Bool → ByteArray → ByteArray → ByteArray → List ByteArray → Int → Option (Bool)
  | 0, _, _, _, _, _, _, _ => none
  | k + 1, x1, x22, x472000, x472001, x472002, x472003, x472004 => if x22 = true then (some false) else ((spec_l3Walk.f k x472000 x472001 x472002 x472003 x472004 x1).bind fun bt474 => (if bt474.2.2 = true then ((spec_l1Ones.f k x472001 bt474.1).bind fun t477 => (if 0 ≤ (wrap64 (bt474.1 - t477)) then (if (wrap64 (bt474.1 - t477)) < (x472003.length : Int) then ((spec_l3Whole.f k x472000 x472001 x472002 x472003 x472004 bt474.1).bind fun t479 => (if t479 = true then (if 0 ≤ bt474.2.1 then (if bt474.2.1 ≤ (x1.size : Int) then (some ((x1.extract (bt474.2.1 : Int).toNat x1.size).toList == (rdOf ByteArray.empty x472003 (wrap64 (bt474.1 - t477))).toList)) else (none)) else (none)) else (if 0 ≤ bt474.2.1 then (if bt474.2.1 ≤ (x1.size : Int) then ((spec_KeyBegins.f (x1.extract (bt474.2.1 : Int).toNat x1.size) (rdOf ByteArray.empty x472003 (wrap64 (bt474.1 - t477)))).bind fun t480 => (some t480)) else (none)) else (none)))) else (none)) else (none))) else (some false)))
def spec_SieveHas.f (k : Nat) (a0_0 : ByteArray) (a0_1 : ByteArray) (a0_2 : ByteArray) (l0_3 : List ByteArray) (a0_4 : Int) (a1 : ByteArray) : Option (Bool) := (spec_SieveOk.f k a0_0 a0_1 a0_2 l0_3 a0_4).bind fun t472 => (if t472 = true then ((spec_KeyOk.f k a1).bind fun t473 => (if t473 = true then (spec_SieveHas.j0 k a1 ((a0_0.size : Int) == 0) a0_0 a0_1 a0_2 l0_3 a0_4) else (spec_SieveHas.j0 k a1 true a0_0 a0_1 a0_2 l0_3 a0_4))) else (spec_SieveHas.j0 k a1 true a0_0 a0_1 a0_2 l0_3 a0_4))
mutual
def impl_SieveSeek.j0 : Nat → ByteArray → List (S106) → Bool → Option (ByteArray × Bool)
  | 0, _, _, _ => none
  | k + 1, x1, x6, x21 => if x21 = true then (some ((⟨#[]⟩ : ByteArray), false)) else (impl_SieveSeek.l0 k x1 x6 (x6.length : Int) 0)
def impl_SieveSeek.l0 : Nat → ByteArray → List (S106) → Int → Int → Option (ByteArray × Bool)
  | 0, _, _, _, _ => none
  | k + 1, x1, x22, x23, x24 => if x24 < x23 then (if 0 ≤ x24 then (if x24 < (x22.length : Int) then (if ((Op.bytesLess (((rd_T106 x22 x24).f0).toList) x1.toList) = true) then (if ((rd_T106 x22 x24).f1 = true) then (impl_SieveSeek.l0 k x1 x22 x23 (wrap64 (x24 + 1))) else ((impl_KeyBegins.f x1 ((rd_T106 x22 x24).f0)).bind fun t489 => (if t489 = true then (some ((rd_T106 x22 x24).f0, true)) else (impl_SieveSeek.l0 k x1 x22 x23 (wrap64 (x24 + 1)))))) else (some ((rd_T106 x22 x24).f0, true))) else (none)) else (none)) else (some ((⟨#[]⟩ : ByteArray), false))
end
def impl_SieveSeek.f (k : Nat) (a0_0 : ByteArray) (a0_1 : ByteArray) (a0_2 : ByteArray) (l0_3 : List ByteArray) (a0_4 : Int) (a1 : ByteArray) : Option (ByteArray × Bool) := (impl_Sieve_heads.f k a0_0 a0_1 a0_2 l0_3 a0_4).bind fun bt482 => (if bt482.2 = true then ((impl_KeyOk.f k a1).bind fun t486 => (impl_SieveSeek.j0 k a1 bt482.1 (!t486))) else (impl_SieveSeek.j0 k a1 bt482.1 true))
def impl_SieveMeets.f (k : Nat) (a0_0 : ByteArray) (a0_1 : ByteArray) (a0_2 : ByteArray) (l0_3 : List ByteArray) (a0_4 : Int) (a1 : ByteArray) (a2 : ByteArray) : Option (Bool) := (impl_KeyOk.f k a1).bind fun t491 => (if t491 = true then ((impl_KeyOk.f k a2).bind fun t492 => (if t492 = true then (if (Op.bytesLess a2.toList a1.toList) = true then (some false) else ((impl_SieveSeek.f k a0_0 a0_1 a0_2 l0_3 a0_4 a1).bind fun bt493 => (if bt493.2 = true then (some (!(Op.bytesLess a2.toList bt493.1.toList))) else (some false)))) else (some false))) else (some false))
def impl_SieveSize.f (k : Nat) (a0_0 : ByteArray) (a0_1 : ByteArray) (a0_2 : ByteArray) (l0_3 : List ByteArray) (a0_4 : Int) : Option (Int) := (impl_SieveOk.f k a0_0 a0_1 a0_2 l0_3 a0_4).bind fun t496 => (if t496 = true then (some (a0_0.size : Int)) else (some (-1)))
def laws_FnSieveEmpty.f (k : Nat) (l0 : List Int) : Option (Bool) := if (l0.length : Int) > 1048576 then (some true) else ((spec_DrawSieveHas.f k l0).bind fun bt497 => ((impl_SieveHas.f k bt497.1 bt497.2.1 bt497.2.2.1 bt497.2.2.2.1 bt497.2.2.2.2.1 bt497.2.2.2.2.2).bind fun t506 => ((spec_SieveHas.f k bt497.1 bt497.2.1 bt497.2.2.1 bt497.2.2.2.1 bt497.2.2.2.2.1 bt497.2.2.2.2.2).bind fun t507 => (if (t506 != t507) = true then (some false) else ((impl_SieveOf.f k ([] : List ByteArray) 1).bind fun bt508 => ((impl_SieveOf.f k (([bt497.2.2.2.2.2] : List ByteArray)) 0).bind fun bt520 => (if bt520.2.2.2.2.2 = true then (if bt508.2.2.2.2.2 = true then ((impl_SieveHas.f k bt508.1 bt508.2.1 bt508.2.2.1 bt508.2.2.2.1 bt508.2.2.2.2.1 bt497.2.2.2.2.2).bind fun t530 => (if t530 = true then (some false) else ((impl_SieveMeets.f k bt508.1 bt508.2.1 bt508.2.2.1 bt508.2.2.2.1 bt508.2.2.2.2.1 (⟨#[]⟩ : ByteArray) (⟨#[100, 100, 100, 100, 100]⟩ : ByteArray)).bind fun t531 => (if t531 = true then (some false) else ((impl_SieveSize.f k bt508.1 bt508.2.1 bt508.2.2.1 bt508.2.2.2.1 bt508.2.2.2.2.1).bind fun t532 => (if t532 = 0 then ((impl_SieveSize.f k bt520.1 bt520.2.1 bt520.2.2.1 bt520.2.2.2.1 bt520.2.2.2.2.1).bind fun t533 => (if t533 = 1 then ((impl_SieveHas.f k bt520.1 bt520.2.1 bt520.2.2.1 bt520.2.2.2.1 bt520.2.2.2.2.1 bt497.2.2.2.2.2).bind fun t534 => (some t534)) else (some false))) else (some false))))))) else (some false)) else (if bt508.2.2.2.2.2 = true then ((spec_KeyOk.f k bt497.2.2.2.2.2).bind fun t529 => (some (!t529))) else (some false)))))))))
def laws_FnSieveEmpty.Pure : Prop := ∀ (l0 : List Int), l0.length ≤ maxLen → l0.length * 1 ≤ 140737488351232 → (∀ x ∈ l0, (Lit.int .u8 x).wf = true) → ∃ k, laws_FnSieveEmpty.f k l0 = some true
def laws_szStringS.l0 : Nat → List ByteArray → Int → Int → Option (Int)
  | 0, _, _, _ => none
  | k + 1, x0, x1, x5 => if x5 < (x0.length : Int) then (if 0 ≤ x5 then (if (wrap64 (x1 - ((rdOf ByteArray.empty x0 x5).size : Int))) < 0 then (some (-1)) else (laws_szStringS.l0 k x0 (wrap64 (x1 - ((rdOf ByteArray.empty x0 x5).size : Int))) (wrap64 (x5 + 1)))) else (none)) else (some x1)
def laws_szStringS.f (k : Nat) (l0 : List ByteArray) (a1 : Int) : Option (Int) := if (wrap64 (a1 - (l0.length : Int))) < 0 then (some (-1)) else (laws_szStringS.l0 k l0 (wrap64 (a1 - (l0.length : Int))) 0)
def laws_toStringS.l0 : Nat → List ByteArray → List ByteArray → Int → Option (List ByteArray)
  | 0, _, _, _ => none
  | k + 1, x0, x3, x4 => if x4 < (x0.length : Int) then (if 0 ≤ x4 then (if x4 < (x3.length : Int) then (laws_toStringS.l0 k x0 (x3.set (x4 : Int).toNat (rdOf ByteArray.empty x0 x4)) (wrap64 (x4 + 1))) else (none)) else (none)) else (some x3)
def laws_toStringS.f (k : Nat) (l0 : List ByteArray) : Option (List ByteArray) := if 0 ≤ (l0.length : Int) then (if ((l0.length : Int) : Int).toNat ≤ 17592186044416 then (laws_toStringS.l0 k l0 (List.replicate ((l0.length : Int) : Int).toNat (⟨#[]⟩ : ByteArray)) 0) else (none)) else (none)
def laws_eqStringS.l0 : Nat → List ByteArray → List ByteArray → Int → Option (Bool)
  | 0, _, _, _ => none
  | k + 1, x0, x1, x5 => if x5 < (x0.length : Int) then (if 0 ≤ x5 then (if x5 < (x1.length : Int) then (if (rdOf ByteArray.empty x0 x5).toList = (rdOf ByteArray.empty x1 x5).toList then (laws_eqStringS.l0 k x0 x1 (wrap64 (x5 + 1))) else (some false)) else (none)) else (none)) else (some true)
def laws_eqStringS.f (k : Nat) (l0 : List ByteArray) (l1 : List ByteArray) : Option (Bool) := if (l0.length : Int) = (l1.length : Int) then (laws_eqStringS.l0 k l0 l1 0) else (some false)
def laws_FnExactKeysOk.f (k : Nat) (l0 : List ByteArray) : Option (Bool) := (laws_szStringS.f k l0 1048576).bind fun t543 => (if t543 < 0 then (some true) else ((laws_toStringS.f k l0).bind fun t544 => ((spec_KeysOk.f k t544).bind fun t547 => ((laws_toStringS.f k l0).bind fun t548 => ((impl_KeysOk.f k t548).bind fun t551 => (if (t551 != t547) = true then (some false) else ((laws_toStringS.f k l0).bind fun t552 => ((laws_eqStringS.f k t548 t552).bind fun t555 => (if t555 = true then (some true) else (some false))))))))))
mutual
def spec_KeyFirst.l0 : Nat → List ByteArray → ByteArray → Int → Option (ByteArray × Bool)
  | 0, _, _, _ => none
  | k + 1, x0, x1, x6 => if x6 < (x0.length : Int) then ((spec_KeysOk.f k x0).bind fun t556 => (spec_KeyFirst.j1 k x0 x1 x6 t556)) else (spec_KeyFirst.j1 k x0 x1 x6 false)
def spec_KeyFirst.j1 : Nat → List ByteArray → ByteArray → Int → Bool → Option (ByteArray × Bool)
  | 0, _, _, _, _ => none
  | k + 1, x0, x1, x6, x14 => if x14 = true then (if 0 ≤ x6 then (if x6 < (x0.length : Int) then (if ((Op.bytesLess ((rdOf ByteArray.empty x0 x6).toList) x1.toList) = true) then (spec_KeyFirst.l0 k x0 x1 (wrap64 (x6 + 1))) else (some (rdOf ByteArray.empty x0 x6, true))) else (none)) else (none)) else (some ((⟨#[]⟩ : ByteArray), false))
end
def spec_KeyFirst.f (k : Nat) (l0 : List ByteArray) (a1 : ByteArray) : Option (ByteArray × Bool) := spec_KeyFirst.l0 k l0 a1 0
def impl_KeyFirst.l0 : Nat → ByteArray → List ByteArray → Int → Int → Option (ByteArray × Bool)
  | 0, _, _, _, _ => none
  | k + 1, x1, x11, x12, x13 => if x13 < x12 then (if 0 ≤ x13 then (if x13 < (x11.length : Int) then (if ((Op.bytesLess ((rdOf ByteArray.empty x11 x13).toList) x1.toList) = true) then (impl_KeyFirst.l0 k x1 x11 x12 (wrap64 (x13 + 1))) else (some (rdOf ByteArray.empty x11 x13, true))) else (none)) else (none)) else (some ((⟨#[]⟩ : ByteArray), false))
def impl_KeyFirst.f (k : Nat) (l0 : List ByteArray) (a1 : ByteArray) : Option (ByteArray × Bool) := (impl_KeysOk.f k l0).bind fun t559 => (if t559 = true then (impl_KeyFirst.l0 k a1 l0 (l0.length : Int) 0) else (some ((⟨#[]⟩ : ByteArray), false)))
def laws_FnExactKeyFirst.j0 : Nat → List ByteArray → List ByteArray → Bool → Option (Bool)
  | 0, _, _, _ => none
  | k + 1, x0, x8, x41 => if x41 = true then (some false) else ((laws_toStringS.f k x0).bind fun t572 => ((laws_eqStringS.f k x8 t572).bind fun t575 => (if t575 = true then (some true) else (some false))))
def laws_FnExactKeyFirst.f (k : Nat) (l0 : List ByteArray) (a1 : ByteArray) : Option (Bool) := if (a1.size : Int) > 1048576 then (some true) else ((laws_szStringS.f k l0 1048576).bind fun t561 => (if t561 < 0 then (some true) else ((laws_toStringS.f k l0).bind fun t562 => ((spec_KeyFirst.f k t562 a1).bind fun bt565 => ((laws_toStringS.f k l0).bind fun t567 => ((impl_KeyFirst.f k t567 a1).bind fun bt570 => (if bt570.1.toList = bt565.1.toList then (laws_FnExactKeyFirst.j0 k l0 t567 (bt570.2 != bt565.2)) else (laws_FnExactKeyFirst.j0 k l0 t567 true))))))))
def spec_l6Many.l0 : Nat → ByteArray → Int → ByteArray → Option (ByteArray)
  | 0, _, _, _ => none
  | k + 1, x0, x1, x5 => if x1 > 0 then (if (Int.tmod x1 2) = 1 then (if x5.size + x0.size ≤ 9223372036854775807 then (if x0.size + x0.size ≤ 9223372036854775807 then (spec_l6Many.l0 k (x0 ++ x0) (wrap64 (Int.tdiv x1 2)) (x5 ++ x0)) else (none)) else (none)) else (if x0.size + x0.size ≤ 9223372036854775807 then (spec_l6Many.l0 k (x0 ++ x0) (wrap64 (Int.tdiv x1 2)) x5) else (none))) else (some x5)
def spec_l6Many.f (k : Nat) (a0 : ByteArray) (a1 : Int) : Option (ByteArray) := spec_l6Many.l0 k a0 a1 (⟨#[]⟩ : ByteArray)
def spec_l71Mess.l0 : Nat → List ByteArray → Int → List Int → Int → Option (List ByteArray × Int)
  | 0, _, _, _, _ => none
  | k + 1, x3, x4, x1000, x1001 => if x4 < 30 then ((some (([(⟨#[]⟩ : ByteArray), (⟨#[97]⟩ : ByteArray), (⟨#[98]⟩ : ByteArray), (⟨#[99]⟩ : ByteArray), (⟨#[100]⟩ : ByteArray)] : List ByteArray) : List ByteArray)).bind fun y597 => (if 0 ≤ (Int.tmod x4 5) then (if (Int.tmod x4 5) < (y597.length : Int) then (if 1 + (rdOf ByteArray.empty y597 (Int.tmod x4 5)).size ≤ 9223372036854775807 then ((some (([(⟨#[]⟩ : ByteArray), (⟨#[97]⟩ : ByteArray), (⟨#[98]⟩ : ByteArray), (⟨#[99]⟩ : ByteArray), (⟨#[100]⟩ : ByteArray), (⟨#[100, 97]⟩ : ByteArray)] : List ByteArray) : List ByteArray)).bind fun y601 => (if 0 ≤ (wrap64 (Int.tdiv x4 5)) then (if (wrap64 (Int.tdiv x4 5)) < (y601.length : Int) then (if ((⟨#[100]⟩ : ByteArray) ++ (rdOf ByteArray.empty y597 (Int.tmod x4 5))).size + (rdOf ByteArray.empty y601 (wrap64 (Int.tdiv x4 5))).size ≤ 9223372036854775807 then ((spec_l2Put.f k x3 (((⟨#[100]⟩ : ByteArray) ++ (rdOf ByteArray.empty y597 (Int.tmod x4 5))) ++ (rdOf ByteArray.empty y601 (wrap64 (Int.tdiv x4 5))))).bind fun t605 => (spec_l71Mess.l0 k t605 (wrap64 (x4 + 1)) x1000 x1001)) else (none)) else (none)) else (none))) else (none)) else (none)) else (none))) else (some (x3, x1001))
def spec_l71Mess.f (k : Nat) (s0_0 : List Int) (s0_1 : Int) : Option (List ByteArray × Int) := (spec_l71Keys.f k s0_0 s0_1 8).bind fun bt576 => ((spec_l6Rd_pick.f k s0_0 bt576.2 5).bind fun bt580 => (if bt580.1 = 0 then (if bt576.1.length < 8796093022208 then (some ((bt576.1 ++ [(⟨#[97]⟩ : ByteArray)]), bt580.2)) else (none)) else (if bt580.1 = 1 then ((some (([(⟨#[120]⟩ : ByteArray), (⟨#[101]⟩ : ByteArray)] : List ByteArray) : List ByteArray)).bind fun y585 => (if bt576.1.length + y585.length < 8796093022208 then (some ((bt576.1 ++ y585), bt580.2)) else (none))) else (if bt580.1 = 2 then ((spec_l6Rd_pick.f k s0_0 bt580.2 2).bind fun bt591 => ((spec_l6Many.f k (⟨#[100]⟩ : ByteArray) (wrap64 (5 + bt591.1))).bind fun t593 => (if bt576.1.length < 8796093022208 then (some ((bt576.1 ++ [t593]), bt591.2)) else (none)))) else (if bt580.1 = 3 then (spec_l71Mess.l0 k bt576.1 0 s0_0 bt580.2) else (some (bt576.1, bt580.2)))))))
def spec_DrawSieveOf.f (k : Nat) (l0 : List Int) : Option (List ByteArray × Int) := (spec_l6Open.f l0).bind fun bt608 => ((spec_l71Keys.f k bt608.1 bt608.2 12).bind fun bt611 => ((spec_l6Rd_pick.f k bt608.1 bt611.2 12).bind fun bt615 => (if bt615.1 = 0 then ((spec_l71Mess.f k bt608.1 bt615.2).bind fun bt617 => ((some (([0, 0, 1, 1, 2, 5, 6, (-1)] : List Int) : List Int)).bind fun y621 => ((spec_l6Rd_pick.f k bt608.1 bt617.2 8).bind fun bt624 => (if 0 ≤ bt624.1 then (if bt624.1 < (y621.length : Int) then (some (bt617.1, rd y621 bt624.1)) else (none)) else (none))))) else ((some (([0, 0, 1, 1, 2, 5, 6, (-1)] : List Int) : List Int)).bind fun y627 => ((spec_l6Rd_pick.f k bt608.1 bt615.2 8).bind fun bt630 => (if 0 ≤ bt630.1 then (if bt630.1 < (y627.length : Int) then (some (bt611.1, rd y627 bt630.1)) else (none)) else (none)))))))
def spec_DrawSieveMeets.f (k : Nat) (l0 : List Int) : Option (ByteArray × ByteArray × ByteArray × List ByteArray × Int × ByteArray × ByteArray) := (spec_l6Open.f l0).bind fun bt634 => ((spec_l71Bent.f k bt634.1 bt634.2).bind fun bt637 => ((spec_l71Near.f k bt634.1 bt637.2.2.2.2.2.2 bt637.2.2.2.2.2.1).bind fun bt649 => ((spec_l71Near.f k bt634.1 bt649.2 bt637.2.2.2.2.2.1).bind fun bt651 => (if (Op.bytesLess bt651.1.toList bt649.1.toList) = true then ((spec_l6Rd_pick.f k bt634.1 bt651.2 8).bind fun bt653 => (if bt653.1 > 0 then (some (bt637.1, bt637.2.1, bt637.2.2.1, bt637.2.2.2.1, bt637.2.2.2.2.1, bt651.1, bt649.1)) else (some (bt637.1, bt637.2.1, bt637.2.2.1, bt637.2.2.2.1, bt637.2.2.2.2.1, bt649.1, bt651.1)))) else (some (bt637.1, bt637.2.1, bt637.2.2.1, bt637.2.2.2.1, bt637.2.2.2.2.1, bt649.1, bt651.1))))))
def laws_ltSames.l0 : Nat → List ByteArray → List ByteArray → Int → Option (Bool)
  | 0, _, _, _ => none
  | k + 1, x0, x1, x5 => if x5 < (x0.length : Int) then (if 0 ≤ x5 then (if x5 < (x1.length : Int) then (if (rdOf ByteArray.empty x0 x5).toList = (rdOf ByteArray.empty x1 x5).toList then (laws_ltSames.l0 k x0 x1 (wrap64 (x5 + 1))) else (some false)) else (none)) else (none)) else (some true)
def laws_ltSames.f (k : Nat) (l0 : List ByteArray) (l1 : List ByteArray) : Option (Bool) := if (l0.length : Int) = (l1.length : Int) then (laws_ltSames.l0 k l0 l1 0) else (some false)
def laws_ltSieve.f (k : Nat) (a0_0 : ByteArray) (a0_1 : ByteArray) (a0_2 : ByteArray) (l0_3 : List ByteArray) (a0_4 : Int) (a1_0 : ByteArray) (a1_1 : ByteArray) (a1_2 : ByteArray) (l1_3 : List ByteArray) (a1_4 : Int) : Option (Bool) := if a0_0.toList = a1_0.toList then (if a0_1.toList = a1_1.toList then (if a0_2.toList = a1_2.toList then (if a0_4 = a1_4 then ((laws_ltSames.f k l0_3 l1_3).bind fun t659 => (some t659)) else (some false)) else (some false)) else (some false)) else (some false)
def spec_l3Behind.l0 : Nat → List ByteArray → List Bool → ByteArray → Int → Option (Int)
  | 0, _, _, _, _ => none
  | k + 1, x0, x1, x2, x7 => if x7 < (x0.length : Int) then (if 0 ≤ x7 then (if ((Op.bytesLess ((rdOf ByteArray.empty x0 x7).toList) x2.toList) = true) then (if x7 < (x1.length : Int) then (if rdOf false x1 x7 = true then (spec_l3Behind.l0 k x0 x1 x2 (wrap64 (x7 + 1))) else ((spec_KeyBegins.f x2 (rdOf ByteArray.empty x0 x7)).bind fun t663 => (if t663 = true then (some x7) else (spec_l3Behind.l0 k x0 x1 x2 (wrap64 (x7 + 1)))))) else (none)) else (some x7)) else (none)) else (some (x0.length : Int))
def spec_l3Behind.f (k : Nat) (l0 : List ByteArray) (l1 : List Bool) (a2 : ByteArray) : Option (Int) := spec_l3Behind.l0 k l0 l1 a2 0
mutual
def spec_l3Wholes.l0 : Nat → Int → List Bool → Int → ByteArray → ByteArray → ByteArray → List ByteArray → Int → Option (List Bool)
  | 0, _, _, _, _, _, _, _, _ => none
  | k + 1, x2, x3, x9, x665000, x665001, x665002, x665003, x665004 => if x9 < x2 then (spec_l3Wholes.j1 k x2 x3 x9 (decide (x9 < (x665000.size : Int))) x665000 x665001 x665002 x665003 x665004) else (spec_l3Wholes.j1 k x2 x3 x9 false x665000 x665001 x665002 x665003 x665004)
def spec_l3Wholes.j1 : Nat → Int → List Bool → Int → Bool → ByteArray → ByteArray → ByteArray → List ByteArray → Int → Option (List Bool)
  | 0, _, _, _, _, _, _, _, _, _ => none
  | k + 1, x2, x3, x9, x22, x665000, x665001, x665002, x665003, x665004 => if x22 = true then (if 0 ≤ x9 then (if x9 < (x665001.size : Int) then (if (bt x665001 x9) = 49 then ((spec_l3Kids.f k x665000 x665001 x665002 x665003 x665004 x9).bind fun bt665 => ((spec_l3Wholes.f k x665000 x665001 x665002 x665003 x665004 bt665.1 bt665.2 x3).bind fun t667 => (spec_l3Wholes.l0 k x2 t667 (wrap64 (x9 + 1)) x665000 x665001 x665002 x665003 x665004))) else ((spec_l3Whole.f k x665000 x665001 x665002 x665003 x665004 x9).bind fun t670 => (if x3.length < 140737488355328 then (spec_l3Wholes.l0 k x2 (x3 ++ [t670]) (wrap64 (x9 + 1)) x665000 x665001 x665002 x665003 x665004) else (none)))) else (none)) else (none)) else (some x3)
def spec_l3Wholes.f : Nat → ByteArray → ByteArray → ByteArray → List ByteArray → Int → Int → Int → List Bool → Option (List Bool)
  | 0, _, _, _, _, _, _, _, _ => none
  | k + 1, a0_0, a0_1, a0_2, l0_3, a0_4, a1, a2, l3 => spec_l3Wholes.l0 k a2 l3 a1 a0_0 a0_1 a0_2 l0_3 a0_4
end
def spec_SieveMeets.j0 : Nat → ByteArray → ByteArray → Bool → ByteArray → ByteArray → ByteArray → List ByteArray → Int → Option (Bool)
  | 0, _, _, _, _, _, _, _, _ => none
  | k + 1, x1, x2, x26, x675000, x675001, x675002, x675003, x675004 => if x26 = true then (some false) else ((spec_l3Heads.f k x675000 x675001 x675002 x675003 x675004).bind fun t678 => ((spec_l1One.f k x675002 1).bind fun t681 => ((spec_l3Wholes.f k x675000 x675001 x675002 x675003 x675004 0 t681 (([] : List Bool))).bind fun t685 => ((spec_l3Behind.f k t678 t685 x1).bind fun t688 => (if t688 < (t678.length : Int) then (if 0 ≤ t688 then (some (!(Op.bytesLess x2.toList ((rdOf ByteArray.empty t678 t688).toList)))) else (none)) else (some false))))))
def spec_SieveMeets.f (k : Nat) (a0_0 : ByteArray) (a0_1 : ByteArray) (a0_2 : ByteArray) (l0_3 : List ByteArray) (a0_4 : Int) (a1 : ByteArray) (a2 : ByteArray) : Option (Bool) := (spec_SieveOk.f k a0_0 a0_1 a0_2 l0_3 a0_4).bind fun t675 => (if t675 = true then ((spec_KeyOk.f k a1).bind fun t676 => (if t676 = true then ((spec_KeyOk.f k a2).bind fun t677 => (if t677 = true then (spec_SieveMeets.j0 k a1 a2 (Op.bytesLess a2.toList a1.toList) a0_0 a0_1 a0_2 l0_3 a0_4) else (spec_SieveMeets.j0 k a1 a2 true a0_0 a0_1 a0_2 l0_3 a0_4))) else (spec_SieveMeets.j0 k a1 a2 true a0_0 a0_1 a0_2 l0_3 a0_4))) else (spec_SieveMeets.j0 k a1 a2 true a0_0 a0_1 a0_2 l0_3 a0_4))
mutual
def laws_FnSieveMeets.j0 : Nat → List Int → List Int → Bool → Option (Bool)
  | 0, _, _, _ => none
  | k + 1, x0, x1, x23 => if x23 = true then (some true) else ((spec_DrawSieveOf.f k x0).bind fun bt690 => ((spec_DrawSieveMeets.f k x1).bind fun bt694 => ((spec_SieveOf.f k bt690.1 bt690.2).bind fun bt704 => ((impl_SieveOf.f k bt690.1 bt690.2).bind fun bt713 => (if (bt713.2.2.2.2.2 != bt704.2.2.2.2.2) = true then (laws_FnSieveMeets.j1 k bt690.1 bt694.2.2.2.2.2.1 bt694.2.2.2.2.2.2 bt704.2.2.2.2.2 bt713.2.2.2.2.2 true bt704.1 bt704.2.1 bt704.2.2.1 bt704.2.2.2.1 bt704.2.2.2.2.1 bt713.1 bt713.2.1 bt713.2.2.1 bt713.2.2.2.1 bt713.2.2.2.2.1) else ((laws_ltSieve.f k bt713.1 bt713.2.1 bt713.2.2.1 bt713.2.2.2.1 bt713.2.2.2.2.1 bt704.1 bt704.2.1 bt704.2.2.1 bt704.2.2.2.1 bt704.2.2.2.2.1).bind fun t722 => (if t722 = true then (laws_FnSieveMeets.j1 k bt690.1 bt694.2.2.2.2.2.1 bt694.2.2.2.2.2.2 bt704.2.2.2.2.2 bt713.2.2.2.2.2 (!bt713.2.2.2.2.2) bt704.1 bt704.2.1 bt704.2.2.1 bt704.2.2.2.1 bt704.2.2.2.2.1 bt713.1 bt713.2.1 bt713.2.2.1 bt713.2.2.2.1 bt713.2.2.2.2.1) else (laws_FnSieveMeets.j1 k bt690.1 bt694.2.2.2.2.2.1 bt694.2.2.2.2.2.2 bt704.2.2.2.2.2 bt713.2.2.2.2.2 true bt704.1 bt704.2.1 bt704.2.2.1 bt704.2.2.2.1 bt704.2.2.2.2.1 bt713.1 bt713.2.1 bt713.2.2.1 bt713.2.2.2.1 bt713.2.2.2.2.1))))))))
def laws_FnSieveMeets.j1 : Nat → List ByteArray → ByteArray → ByteArray → Bool → Bool → Bool → ByteArray → ByteArray → ByteArray → List ByteArray → Int → ByteArray → ByteArray → ByteArray → List ByteArray → Int → Option (Bool)
  | 0, _, _, _, _, _, _, _, _, _, _, _, _, _, _, _, _ => none
  | k + 1, x5, x8, x9, x11, x13, x59, x713000, x713001, x713002, x713003, x713004, x722000, x722001, x722002, x722003, x722004 => if x59 = true then (if (x13 == x11) = true then ((laws_ltSieve.f k x722000 x722001 x722002 x722003 x722004 x713000 x713001 x713002 x713003 x713004).bind fun t723 => (some t723)) else (some false)) else ((impl_SieveMeets.f k x722000 x722001 x722002 x722003 x722004 x8 x9).bind fun t724 => (laws_FnSieveMeets.l0 k x5 x8 x9 t724 0 x722000 x722001 x722002 x722003 x722004))
def laws_FnSieveMeets.l0 : Nat → List ByteArray → ByteArray → ByteArray → Bool → Int → ByteArray → ByteArray → ByteArray → List ByteArray → Int → Option (Bool)
  | 0, _, _, _, _, _, _, _, _, _, _ => none
  | k + 1, x5, x8, x9, x14, x15, x722000, x722001, x722002, x722003, x722004 => if x15 < (x5.length : Int) then (if 0 ≤ x15 then (if ((Op.bytesLess ((rdOf ByteArray.empty x5 x15).toList) x8.toList) = true) then (laws_FnSieveMeets.l0 k x5 x8 x9 x14 (wrap64 (x15 + 1)) x722000 x722001 x722002 x722003 x722004) else (if ((Op.bytesLess x9.toList ((rdOf ByteArray.empty x5 x15).toList)) = true) then (laws_FnSieveMeets.l0 k x5 x8 x9 x14 (wrap64 (x15 + 1)) x722000 x722001 x722002 x722003 x722004) else (if x14 = true then (laws_FnSieveMeets.l0 k x5 x8 x9 x14 (wrap64 (x15 + 1)) x722000 x722001 x722002 x722003 x722004) else (some false)))) else (none)) else ((spec_SieveMeets.f k x722000 x722001 x722002 x722003 x722004 x8 x9).bind fun t727 => (some (x14 == t727)))
end
def laws_FnSieveMeets.f (k : Nat) (l0 : List Int) (l1 : List Int) : Option (Bool) := if (l0.length : Int) > 1048576 then (laws_FnSieveMeets.j0 k l0 l1 true) else (laws_FnSieveMeets.j0 k l0 l1 (decide ((l1.length : Int) > 1048576)))
def laws_FnSieveMeets.Pure : Prop := ∀ (l0 : List Int) (l1 : List Int), l0.length ≤ maxLen → l0.length * 1 ≤ 140737488351232 → (∀ x ∈ l0, (Lit.int .u8 x).wf = true) → l1.length ≤ maxLen → l1.length * 1 ≤ 140737488351232 → (∀ x ∈ l1, (Lit.int .u8 x).wf = true) → ∃ k, laws_FnSieveMeets.f k l0 l1 = some true
def spec_BitsOnes.f (k : Nat) (a0 : ByteArray) (a1 : Int) : Option (Int) := (spec_BitsOk.f k a0).bind fun t728 => (if t728 = true then ((spec_l6In.f a1 0 (a0.size : Int)).bind fun t729 => (if t729 = true then ((spec_l1Ones.f k a0 a1).bind fun t730 => (some t730)) else (some (-1)))) else (some (-1)))
def impl_BitsOnes.f (k : Nat) (a0 : ByteArray) (a1 : Int) : Option (Int) := (impl_BitsOk.f k a0).bind fun t731 => (if t731 = true then ((impl_in.f a1 0 (a0.size : Int)).bind fun t732 => (if t732 = true then (if 0 ≤ a1 then (if a1 ≤ (a0.size : Int) then ((strings_Count.f (a0.extract 0 (a1 : Int).toNat) (⟨#[49]⟩ : ByteArray)).bind fun t733 => (some t733)) else (none)) else (none)) else (some (-1)))) else (some (-1)))
def laws_FnExactBitsOnes.f (k : Nat) (a0 : ByteArray) (a1 : Int) : Option (Bool) := if (a0.size : Int) > 1048576 then (some true) else ((spec_BitsOnes.f k a0 a1).bind fun t734 => ((impl_BitsOnes.f k a0 a1).bind fun t735 => (if t735 = t734 then (some true) else (some false))))
def laws_FnExactBitsOnes.Pure : Prop := ∀ (a0 : ByteArray) (a1 : Int), a0.size ≤ 140737488351232 → (Lit.int .i64 a1).wf = true → ∃ k, laws_FnExactBitsOnes.f k a0 a1 = some true
def spec_DrawKeyFirst.f (k : Nat) (l0 : List Int) : Option (List ByteArray × ByteArray) := (spec_l6Open.f l0).bind fun bt736 => ((spec_l71Keys.f k bt736.1 bt736.2 10).bind fun bt739 => ((spec_l6Rd_pick.f k bt736.1 bt739.2 12).bind fun bt743 => (if bt743.1 = 0 then ((spec_l71Mess.f k bt736.1 bt743.2).bind fun bt745 => ((spec_l71Near.f k bt736.1 bt745.2 bt745.1).bind fun bt749 => (some (bt745.1, bt749.1)))) else ((spec_l71Near.f k bt736.1 bt743.2 bt739.1).bind fun bt751 => (some (bt739.1, bt751.1))))))
def laws_ltIn.l0 : Nat → List ByteArray → ByteArray → Int → Option (Bool)
  | 0, _, _, _ => none
  | k + 1, x0, x1, x5 => if x5 < (x0.length : Int) then (if 0 ≤ x5 then (if (rdOf ByteArray.empty x0 x5).toList = x1.toList then (some true) else (laws_ltIn.l0 k x0 x1 (wrap64 (x5 + 1)))) else (none)) else (some false)
def laws_ltIn.f (k : Nat) (l0 : List ByteArray) (a1 : ByteArray) : Option (Bool) := laws_ltIn.l0 k l0 a1 0
mutual
def laws_FnKeyFirst.j0 : Nat → List ByteArray → ByteArray → ByteArray → Bool → ByteArray → Bool → Bool → Option (Bool)
  | 0, _, _, _, _, _, _, _ => none
  | k + 1, x3, x4, x5, x6, x7, x8, x42 => if x42 = true then (if (x8 == x6) = true then (some (x7.toList == x5.toList)) else (some false)) else (laws_FnKeyFirst.l0 k x3 x4 x7 x8 0)
def laws_FnKeyFirst.l0 : Nat → List ByteArray → ByteArray → ByteArray → Bool → Int → Option (Bool)
  | 0, _, _, _, _, _ => none
  | k + 1, x3, x4, x7, x8, x9 => if x9 < (x3.length : Int) then (if 0 ≤ x9 then (if ((Op.bytesLess ((rdOf ByteArray.empty x3 x9).toList) x4.toList) = true) then (laws_FnKeyFirst.l0 k x3 x4 x7 x8 (wrap64 (x9 + 1))) else (if x8 = true then (if (Op.bytesLess ((rdOf ByteArray.empty x3 x9).toList) x7.toList) = true then (some false) else (laws_FnKeyFirst.l0 k x3 x4 x7 x8 (wrap64 (x9 + 1)))) else (some false))) else (none)) else (if x8 = true then (if ((Op.bytesLess x7.toList x4.toList) = true) then (some false) else ((laws_ltIn.f k x3 x7).bind fun t765 => (some t765))) else (some true))
end
def laws_FnKeyFirst.f (k : Nat) (l0 : List Int) : Option (Bool) := if (l0.length : Int) > 1048576 then (some true) else ((spec_DrawKeyFirst.f k l0).bind fun bt754 => ((spec_KeyFirst.f k bt754.1 bt754.2).bind fun bt758 => ((impl_KeyFirst.f k bt754.1 bt754.2).bind fun bt760 => (if (bt760.2 != bt758.2) = true then (laws_FnKeyFirst.j0 k bt754.1 bt754.2 bt758.1 bt758.2 bt760.1 bt760.2 true) else (if bt760.1.toList = bt758.1.toList then ((spec_KeysOk.f k bt754.1).bind fun t762 => (laws_FnKeyFirst.j0 k bt754.1 bt754.2 bt758.1 bt758.2 bt760.1 bt760.2 (!t762))) else (laws_FnKeyFirst.j0 k bt754.1 bt754.2 bt758.1 bt758.2 bt760.1 bt760.2 true))))))
def laws_FnKeyFirst.Pure : Prop := ∀ (l0 : List Int), l0.length ≤ maxLen → l0.length * 1 ≤ 140737488351232 → (∀ x ∈ l0, (Lit.int .u8 x).wf = true) → ∃ k, laws_FnKeyFirst.f k l0 = some true
def spec_l71Bits.l0 : Nat → ByteArray → Int → List Int → Int → Option (ByteArray × Int)
  | 0, _, _, _, _ => none
  | k + 1, x3, x4, x1000, x1001 => if x4 > 0 then ((spec_l6Rd_of.f k x1000 x1001 (([(⟨#[48]⟩ : ByteArray), (⟨#[49]⟩ : ByteArray)] : List ByteArray))).bind fun bt771 => (if x3.size + bt771.1.size ≤ 9223372036854775807 then (spec_l71Bits.l0 k (x3 ++ bt771.1) (wrap64 (x4 - 1)) x1000 bt771.2) else (none))) else ((spec_l6Rd_pick.f k x1000 x1001 24).bind fun bt773 => (if bt773.1 = 0 then (if x3.size + 1 ≤ 9223372036854775807 then (some (x3 ++ (⟨#[50]⟩ : ByteArray), bt773.2)) else (none)) else (if bt773.1 = 1 then ((spec_l6Rd_pick.f k x1000 bt773.2 2).bind fun bt775 => ((spec_l6Many.f k (⟨#[49, 48]⟩ : ByteArray) (wrap64 (200 + bt775.1))).bind fun t777 => (some (t777, bt775.2)))) else (some (x3, bt773.2)))))
def spec_l71Bits.f (k : Nat) (s0_0 : List Int) (s0_1 : Int) : Option (ByteArray × Int) := (spec_l6Rd_pick.f k s0_0 s0_1 20).bind fun bt766 => (spec_l71Bits.l0 k (⟨#[]⟩ : ByteArray) bt766.1 s0_0 bt766.2)
def spec_DrawBitsOnes.f (k : Nat) (l0 : List Int) : Option (ByteArray × Int) := (spec_l6Open.f l0).bind fun bt778 => ((spec_l71Bits.f k bt778.1 bt778.2).bind fun bt781 => ((spec_l6Rd_pick.f k bt778.1 bt781.2 (wrap64 ((bt781.1.size : Int) + 2))).bind fun bt783 => ((spec_l6Rd_pick.f k bt778.1 bt783.2 12).bind fun bt785 => (some (bt781.1, wrap64 (bt783.1 - (wrap64 (Int.tdiv bt785.1 11))))))))
def laws_FnBitsOnes.j0 : Nat → ByteArray → Int → Int → Bool → Option (Bool)
  | 0, _, _, _, _ => none
  | k + 1, x3, x4, x5, x26 => if x26 = true then ((spec_BitsOnes.f k x3 x4).bind fun t791 => (some (x5 == t791))) else ((impl_BitsOnes.f k x3 (wrap64 (x4 + 1))).bind fun t792 => (if x4 = (x3.size : Int) then (some (t792 == (-1))) else (if 0 ≤ x4 then (if x4 < (x3.size : Int) then (if (bt x3 x4) = 49 then (some (t792 == (wrap64 (x5 + 1)))) else (if t792 = x5 then ((impl_BitsOnes.f k x3 0).bind fun t793 => (some (t793 == 0))) else (some false))) else (none)) else (none))))
def laws_FnBitsOnes.f (k : Nat) (l0 : List Int) : Option (Bool) := if (l0.length : Int) > 1048576 then (some true) else ((spec_DrawBitsOnes.f k l0).bind fun bt787 => ((impl_BitsOnes.f k bt787.1 bt787.2).bind fun t789 => ((spec_BitsOnes.f k bt787.1 bt787.2).bind fun t790 => (if t789 = t790 then (laws_FnBitsOnes.j0 k bt787.1 bt787.2 t789 (decide (t789 < 0))) else (laws_FnBitsOnes.j0 k bt787.1 bt787.2 t789 true)))))
def laws_FnBitsOnes.Pure : Prop := ∀ (l0 : List Int), l0.length ≤ maxLen → l0.length * 1 ≤ 140737488351232 → (∀ x ∈ l0, (Lit.int .u8 x).wf = true) → ∃ k, laws_FnBitsOnes.f k l0 = some true
def impl_BitsOne.f (k : Nat) (a0 : ByteArray) (a1 : Int) : Option (Int × Bool) := (impl_BitsOk.f k a0).bind fun t794 => (if t794 = true then (if a1 < 0 then (some (0, false)) else ((impl_one.f k a0 a1).bind fun t795 => (some (mx 0 t795, decide (t795 ≥ 0))))) else (some (0, false)))
def laws_FnBitsBack.j0 : Nat → ByteArray → Int → Int → Bool → Option (Bool)
  | 0, _, _, _, _ => none
  | k + 1, x3, x4, x5, x30 => if x30 = true then ((spec_BitsOnes.f k x3 x4).bind fun t800 => (some (x5 == t800))) else ((impl_BitsOnes.f k x3 (x3.size : Int)).bind fun t801 => ((impl_BitsOne.f k x3 t801).bind fun bt802 => ((impl_BitsOne.f k x3 (wrap64 (t801 - 1))).bind fun bt804 => (if bt802.2 = true then (some false) else (if (bt804.2 == (decide (t801 > 0))) = true then (if bt804.2 = true then (some (decide (bt804.1 ≥ (wrap64 (t801 - 1))))) else (some true)) else (some false))))))
def laws_FnBitsBack.f (k : Nat) (l0 : List Int) : Option (Bool) := if (l0.length : Int) > 1048576 then (some true) else ((spec_DrawBitsOnes.f k l0).bind fun bt796 => ((impl_BitsOnes.f k bt796.1 bt796.2).bind fun t798 => ((spec_BitsOnes.f k bt796.1 bt796.2).bind fun t799 => (if t798 = t799 then (laws_FnBitsBack.j0 k bt796.1 bt796.2 t798 (decide (t798 < 0))) else (laws_FnBitsBack.j0 k bt796.1 bt796.2 t798 true)))))
def laws_FnBitsBack.Pure : Prop := ∀ (l0 : List Int), l0.length ≤ maxLen → l0.length * 1 ≤ 140737488351232 → (∀ x ∈ l0, (Lit.int .u8 x).wf = true) → ∃ k, laws_FnBitsBack.f k l0 = some true
def spec_DrawBitsNext.f (k : Nat) (l0 : List Int) : Option (ByteArray × Int) := (spec_l6Open.f l0).bind fun bt806 => ((spec_l71Bits.f k bt806.1 bt806.2).bind fun bt809 => ((spec_l6Rd_pick.f k bt806.1 bt809.2 (wrap64 ((bt809.1.size : Int) + 2))).bind fun bt811 => ((spec_l6Rd_pick.f k bt806.1 bt811.2 12).bind fun bt813 => (some (bt809.1, wrap64 (bt811.1 - (wrap64 (Int.tdiv bt813.1 11))))))))
def laws_FnBitsNext.j0 : Nat → ByteArray → Int → Int → Bool → Int → Bool → Bool → Option (Bool)
  | 0, _, _, _, _, _, _, _ => none
  | k + 1, x3, x4, x5, x6, x7, x8, x53 => if x53 = true then (if (x8 == x6) = true then (some (x7 == x5)) else (some false)) else ((impl_BitsOnes.f k x3 x4).bind fun t822 => ((impl_BitsOne.f k x3 t822).bind fun bt823 => (if (bt823.2 == x8) = true then (if x8 = true then (if bt823.1 = x7 then (some (decide (x7 ≥ x4))) else (some false)) else (some true)) else (some false))))
def laws_FnBitsNext.f (k : Nat) (l0 : List Int) : Option (Bool) := if (l0.length : Int) > 1048576 then (some true) else ((spec_DrawBitsNext.f k l0).bind fun bt815 => ((spec_BitsNext.f k bt815.1 bt815.2).bind fun bt817 => ((impl_BitsNext.f k bt815.1 bt815.2).bind fun bt819 => (if (bt819.2 != bt817.2) = true then (laws_FnBitsNext.j0 k bt815.1 bt815.2 bt817.1 bt817.2 bt819.1 bt819.2 true) else (if bt819.1 = bt817.1 then ((spec_BitsOk.f k bt815.1).bind fun t821 => (if t821 = true then (if bt815.2 < 0 then (laws_FnBitsNext.j0 k bt815.1 bt815.2 bt817.1 bt817.2 bt819.1 bt819.2 true) else (laws_FnBitsNext.j0 k bt815.1 bt815.2 bt817.1 bt817.2 bt819.1 bt819.2 (decide (bt815.2 > (bt815.1.size : Int))))) else (laws_FnBitsNext.j0 k bt815.1 bt815.2 bt817.1 bt817.2 bt819.1 bt819.2 true))) else (laws_FnBitsNext.j0 k bt815.1 bt815.2 bt817.1 bt817.2 bt819.1 bt819.2 true))))))
def laws_FnBitsNext.Pure : Prop := ∀ (l0 : List Int), l0.length ≤ maxLen → l0.length * 1 ≤ 140737488351232 → (∀ x ∈ l0, (Lit.int .u8 x).wf = true) → ∃ k, laws_FnBitsNext.f k l0 = some true
def spec_DrawKeyBegins.f (k : Nat) (l0 : List Int) : Option (ByteArray × ByteArray) := (spec_l6Open.f l0).bind fun bt825 => ((spec_l71Key.f k bt825.1 bt825.2).bind fun bt828 => ((spec_l71Near.f k bt825.1 bt828.2 (([bt828.1] : List ByteArray))).bind fun bt833 => (some (bt828.1, bt833.1))))
def spec_DrawBitsOne.f (k : Nat) (l0 : List Int) : Option (ByteArray × Int) := (spec_l6Open.f l0).bind fun bt1016 => ((spec_l71Bits.f k bt1016.1 bt1016.2).bind fun bt1019 => ((spec_l1Ones.f k bt1019.1 (bt1019.1.size : Int)).bind fun t1021 => ((spec_l6Rd_pick.f k bt1016.1 bt1019.2 (wrap64 (t1021 + 1))).bind fun bt1022 => ((spec_l6Rd_pick.f k bt1016.1 bt1022.2 12).bind fun bt1024 => (some (bt1019.1, wrap64 (bt1022.1 - (wrap64 (Int.tdiv bt1024.1 11)))))))))
def spec_BitsOne.f (k : Nat) (a0 : ByteArray) (a1 : Int) : Option (Int × Bool) := (spec_BitsOk.f k a0).bind fun t1026 => (if t1026 = true then ((spec_l1Ones.f k a0 (a0.size : Int)).bind fun t1027 => ((spec_l6In.f a1 0 (wrap64 (t1027 - 1))).bind fun t1028 => (if t1028 = true then ((spec_l1One.f k a0 a1).bind fun t1029 => (some (t1029, true))) else (some (0, false))))) else (some (0, false)))
def laws_FnBitsOne.f (k : Nat) (l0 : List Int) : Option (Bool) := if (l0.length : Int) > 1048576 then (some true) else ((spec_DrawBitsOne.f k l0).bind fun bt1030 => ((spec_BitsOne.f k bt1030.1 bt1030.2).bind fun bt1032 => ((impl_BitsOne.f k bt1030.1 bt1030.2).bind fun bt1034 => (if (bt1034.2 != bt1032.2) = true then (some false) else (if bt1034.1 = bt1032.1 then (if bt1034.2 = true then (if 0 ≤ bt1034.1 then (if bt1034.1 < (bt1030.1.size : Int) then (if (bt bt1030.1 bt1034.1) = 49 then ((impl_BitsOnes.f k bt1030.1 bt1034.1).bind fun t1036 => (some (t1036 == bt1030.2))) else (some false)) else (none)) else (none)) else (some (bt1034.1 == bt1032.1))) else (some (bt1034.1 == bt1032.1)))))))
def laws_FnBitsOne.Pure : Prop := ∀ (l0 : List Int), l0.length ≤ maxLen → l0.length * 1 ≤ 140737488351232 → (∀ x ∈ l0, (Lit.int .u8 x).wf = true) → ∃ k, laws_FnBitsOne.f k l0 = some true
def laws_eqSieve.f (k : Nat) (a0_0 : ByteArray) (a0_1 : ByteArray) (a0_2 : ByteArray) (l0_3 : List ByteArray) (a0_4 : Int) (a1_0 : ByteArray) (a1_1 : ByteArray) (a1_2 : ByteArray) (l1_3 : List ByteArray) (a1_4 : Int) : Option (Bool) := if a0_0.toList = a1_0.toList then (if a0_1.toList = a1_1.toList then (if a0_2.toList = a1_2.toList then ((laws_eqStringS.f k l0_3 l1_3).bind fun t1039 => (if t1039 = true then (if a0_4 = a1_4 then (some true) else (some false)) else (some false))) else (some false)) else (some false)) else (some false)
def laws_markText.l0 : Nat → Int → ByteArray → Option (ByteArray)
  | 0, _, _ => none
  | k + 1, x0, x3 => if x0 > 0 then ((some (([(wrap64 (48 + (Int.tmod x0 10))) % 256] : List Int) : List Int)).bind fun y1040 => (if (strOfNums y1040).size + x3.size ≤ 9223372036854775807 then (laws_markText.l0 k (wrap64 (Int.tdiv x0 10)) ((strOfNums y1040) ++ x3)) else (none))) else (if 1 + x3.size ≤ 9223372036854775807 then (some ((⟨#[109]⟩ : ByteArray) ++ x3)) else (none))
def laws_markText.f (k : Nat) (a0 : Int) : Option (ByteArray) := if a0 ≤ 0 then (some (⟨#[109, 48]⟩ : ByteArray)) else (laws_markText.l0 k a0 (⟨#[]⟩ : ByteArray))
def laws_markStringS.l0 : Nat → List ByteArray → Int → Int → Option (Int × List ByteArray)
  | 0, _, _, _ => none
  | k + 1, x0, x1, x5 => if x5 < (x0.length : Int) then ((laws_markText.f k x1).bind fun t1043 => (if 0 ≤ x5 then (laws_markStringS.l0 k (x0.set (x5 : Int).toNat t1043) (wrap64 (x1 + 1)) (wrap64 (x5 + 1))) else (none))) else (some (x1, x0))
def laws_markStringS.f (k : Nat) (l0 : List ByteArray) (a1 : Int) : Option (Int × List ByteArray) := laws_markStringS.l0 k l0 a1 0
def laws_markSieve.f (k : Nat) (a0_0 : ByteArray) (a0_1 : ByteArray) (a0_2 : ByteArray) (l0_3 : List ByteArray) (a0_4 : Int) (a1 : Int) : Option (Int × List ByteArray) := (laws_markStringS.f k l0_3 a1).bind fun bt1046 => (some (bt1046.1, bt1046.2))
def laws_heldStringS.l0 : Nat → List ByteArray → Int → Int → Option (Int)
  | 0, _, _, _ => none
  | k + 1, x0, x1, x5 => if x5 < (x0.length : Int) then (if 0 ≤ x5 then ((laws_markText.f k x1).bind fun t1049 => (if (rdOf ByteArray.empty x0 x5).toList = t1049.toList then (laws_heldStringS.l0 k x0 (wrap64 (x1 + 1)) (wrap64 (x5 + 1))) else (some (-1)))) else (none)) else (some x1)
def laws_heldStringS.f (k : Nat) (l0 : List ByteArray) (a1 : Int) : Option (Int) := laws_heldStringS.l0 k l0 a1 0
def laws_heldSieve.f (k : Nat) (a0_0 : ByteArray) (a0_1 : ByteArray) (a0_2 : ByteArray) (l0_3 : List ByteArray) (a0_4 : Int) (a1 : Int) : Option (Int) := (laws_heldStringS.f k l0_3 a1).bind fun t1051 => (if t1051 < 0 then (some (-1)) else (some t1051))
mutual
def laws_FnExactSieveOf.j0 : Nat → List ByteArray → Int → Bool → List ByteArray → Bool → Bool → ByteArray → ByteArray → ByteArray → List ByteArray → Int → ByteArray → ByteArray → ByteArray → List ByteArray → Int → Option (Bool)
  | 0, _, _, _, _, _, _, _, _, _, _, _, _, _, _, _, _ => none
  | k + 1, x0, x1, x7, x8, x10, x44, x1065000, x1065001, x1065002, x1065003, x1065004, x1077000, x1077001, x1077002, x1077003, x1077004 => if x44 = true then (some false) else ((laws_toStringS.f k x0).bind fun t1078 => ((laws_eqStringS.f k x8 t1078).bind fun t1081 => (if t1081 = true then ((laws_markStringS.f k x8 1).bind fun bt1082 => (if bt1082.1 < 0 then (laws_FnExactSieveOf.j1 k x0 x1 x7 true x1065000 x1065001 x1065002 x1065003 x1065004 x1077000 x1077001 x1077002 x1077003 x1077004) else ((laws_eqSieve.f k x1077000 x1077001 x1077002 x1077003 x1077004 x1065000 x1065001 x1065002 x1065003 x1065004).bind fun t1084 => (if t1084 = true then (laws_FnExactSieveOf.j1 k x0 x1 x7 (x10 != x7) x1065000 x1065001 x1065002 x1065003 x1065004 x1077000 x1077001 x1077002 x1077003 x1077004) else (laws_FnExactSieveOf.j1 k x0 x1 x7 true x1065000 x1065001 x1065002 x1065003 x1065004 x1077000 x1077001 x1077002 x1077003 x1077004))))) else (some false))))
def laws_FnExactSieveOf.j1 : Nat → List ByteArray → Int → Bool → Bool → ByteArray → ByteArray → ByteArray → List ByteArray → Int → ByteArray → ByteArray → ByteArray → List ByteArray → Int → Option (Bool)
  | 0, _, _, _, _, _, _, _, _, _, _, _, _, _, _ => none
  | k + 1, x0, x1, x7, x65, x1065000, x1065001, x1065002, x1065003, x1065004, x1077000, x1077001, x1077002, x1077003, x1077004 => if x65 = true then (some false) else ((laws_markSieve.f k x1077000 x1077001 x1077002 x1077003 x1077004 1).bind fun bt1085 => ((laws_heldSieve.f k x1077000 x1077001 x1077002 bt1085.2 x1077004 1).bind fun t1087 => (if t1087 < 0 then (some false) else (if t1087 = bt1085.1 then ((laws_toStringS.f k x0).bind fun t1088 => ((impl_SieveOf.f k t1088 x1).bind fun bt1091 => ((laws_eqSieve.f k bt1091.1 bt1091.2.1 bt1091.2.2.1 bt1091.2.2.2.1 bt1091.2.2.2.2.1 x1065000 x1065001 x1065002 x1065003 x1065004).bind fun t1100 => (if t1100 = true then (laws_FnExactSieveOf.j2 k bt1085.1 (bt1091.2.2.2.2.2 != x7) x1077000 x1077001 x1077002 bt1085.2 x1077004) else (laws_FnExactSieveOf.j2 k bt1085.1 true x1077000 x1077001 x1077002 bt1085.2 x1077004))))) else (some false)))))
def laws_FnExactSieveOf.j2 : Nat → Int → Bool → ByteArray → ByteArray → ByteArray → List ByteArray → Int → Option (Bool)
  | 0, _, _, _, _, _, _, _ => none
  | k + 1, x12, x92, x1077000, x1077001, x1077002, x1077003, x1077004 => if x92 = true then (some false) else ((laws_heldSieve.f k x1077000 x1077001 x1077002 x1077003 x1077004 1).bind fun t1101 => (if t1101 < 0 then (some false) else (if t1101 = x12 then (some true) else (some false))))
end
def laws_FnExactSieveOf.f (k : Nat) (l0 : List ByteArray) (a1 : Int) : Option (Bool) := (laws_szStringS.f k l0 1048576).bind fun t1052 => (if t1052 < 0 then (some true) else ((laws_toStringS.f k l0).bind fun t1053 => ((spec_SieveOf.f k t1053 a1).bind fun bt1056 => ((laws_toStringS.f k l0).bind fun t1065 => ((impl_SieveOf.f k t1065 a1).bind fun bt1068 => ((laws_eqSieve.f k bt1068.1 bt1068.2.1 bt1068.2.2.1 bt1068.2.2.2.1 bt1068.2.2.2.2.1 bt1056.1 bt1056.2.1 bt1056.2.2.1 bt1056.2.2.2.1 bt1056.2.2.2.2.1).bind fun t1077 => (if t1077 = true then (laws_FnExactSieveOf.j0 k l0 a1 bt1056.2.2.2.2.2 t1065 bt1068.2.2.2.2.2 (bt1068.2.2.2.2.2 != bt1056.2.2.2.2.2) bt1056.1 bt1056.2.1 bt1056.2.2.1 bt1056.2.2.2.1 bt1056.2.2.2.2.1 bt1068.1 bt1068.2.1 bt1068.2.2.1 bt1068.2.2.2.1 bt1068.2.2.2.2.1) else (laws_FnExactSieveOf.j0 k l0 a1 bt1056.2.2.2.2.2 t1065 bt1068.2.2.2.2.2 true bt1056.1 bt1056.2.1 bt1056.2.2.1 bt1056.2.2.2.1 bt1056.2.2.2.2.1 bt1068.1 bt1068.2.1 bt1068.2.2.1 bt1068.2.2.2.1 bt1068.2.2.2.2.1))))))))
def spec_KeysSort.l0 : Nat → List ByteArray → List ByteArray → Int → Option (List ByteArray)
  | 0, _, _, _ => none
  | k + 1, x0, x3, x4 => if x4 < (x0.length : Int) then (if 0 ≤ x4 then ((spec_KeyOk.f k (rdOf ByteArray.empty x0 x4)).bind fun t1106 => (if t1106 = true then ((spec_l2Put.f k x3 (rdOf ByteArray.empty x0 x4)).bind fun t1108 => (spec_KeysSort.l0 k x0 t1108 (wrap64 (x4 + 1)))) else (spec_KeysSort.l0 k x0 x3 (wrap64 (x4 + 1))))) else (none)) else (some x3)
def spec_KeysSort.f (k : Nat) (l0 : List ByteArray) : Option (List ByteArray) := spec_KeysSort.l0 k l0 (([] : List ByteArray)) 0
def impl_SieveHeads.f (k : Nat) (a0_0 : ByteArray) (a0_1 : ByteArray) (a0_2 : ByteArray) (l0_3 : List ByteArray) (a0_4 : Int) : Option (List ByteArray) := (impl_Sieve_heads.f k a0_0 a0_1 a0_2 l0_3 a0_4).bind fun bt1144 => ((impl_texts.f k bt1144.1).bind fun t1148 => (some t1148))
mutual
def laws_FnSieveApart.j0 : Nat → List ByteArray → Bool → Bool → Bool → ByteArray → ByteArray → ByteArray → List ByteArray → Int → ByteArray → ByteArray → ByteArray → List ByteArray → Int → Option (Bool)
  | 0, _, _, _, _, _, _, _, _, _, _, _, _, _, _ => none
  | k + 1, x3, x6, x8, x44, x1164000, x1164001, x1164002, x1164003, x1164004, x1173000, x1173001, x1173002, x1173003, x1173004 => if x44 = true then (if (x8 == x6) = true then ((laws_ltSieve.f k x1173000 x1173001 x1173002 x1173003 x1173004 x1164000 x1164001 x1164002 x1164003 x1164004).bind fun t1174 => (some t1174)) else (some false)) else ((impl_SieveHeads.f k x1173000 x1173001 x1173002 x1173003 x1173004).bind fun t1175 => (laws_FnSieveApart.l0 k x3 t1175 0))
def laws_FnSieveApart.l0 : Nat → List ByteArray → List ByteArray → Int → Option (Bool)
  | 0, _, _, _ => none
  | k + 1, x3, x9, x10 => if x10 < (x3.length : Int) then (laws_FnSieveApart.l1 k x3 x9 x10 0) else (some true)
def laws_FnSieveApart.l1 : Nat → List ByteArray → List ByteArray → Int → Int → Option (Bool)
  | 0, _, _, _, _ => none
  | k + 1, x3, x9, x10, x11 => if x11 < (x3.length : Int) then (if x10 = x11 then (laws_FnSieveApart.l1 k x3 x9 x10 (wrap64 (x11 + 1))) else (if 0 ≤ x10 then (if x10 < (x3.length : Int) then (if x10 < (x9.length : Int) then (if (rdOf ByteArray.empty x3 x10).toList = (rdOf ByteArray.empty x9 x10).toList then (laws_FnSieveApart.l1 k x3 x9 x10 (wrap64 (x11 + 1))) else (if 0 ≤ x11 then ((impl_KeyBegins.f (rdOf ByteArray.empty x3 x11) (rdOf ByteArray.empty x9 x10)).bind fun t1182 => (if t1182 = true then (some false) else (laws_FnSieveApart.l1 k x3 x9 x10 (wrap64 (x11 + 1))))) else (none))) else (none)) else (none)) else (none))) else (laws_FnSieveApart.l0 k x3 x9 (wrap64 (x10 + 1)))
end
def laws_FnSieveApart.f (k : Nat) (l0 : List Int) : Option (Bool) := if (l0.length : Int) > 1048576 then (some true) else ((spec_DrawSieveOf.f k l0).bind fun bt1151 => ((spec_SieveOf.f k bt1151.1 bt1151.2).bind fun bt1155 => ((impl_SieveOf.f k bt1151.1 bt1151.2).bind fun bt1164 => (if (bt1164.2.2.2.2.2 != bt1155.2.2.2.2.2) = true then (laws_FnSieveApart.j0 k bt1151.1 bt1155.2.2.2.2.2 bt1164.2.2.2.2.2 true bt1155.1 bt1155.2.1 bt1155.2.2.1 bt1155.2.2.2.1 bt1155.2.2.2.2.1 bt1164.1 bt1164.2.1 bt1164.2.2.1 bt1164.2.2.2.1 bt1164.2.2.2.2.1) else ((laws_ltSieve.f k bt1164.1 bt1164.2.1 bt1164.2.2.1 bt1164.2.2.2.1 bt1164.2.2.2.2.1 bt1155.1 bt1155.2.1 bt1155.2.2.1 bt1155.2.2.2.1 bt1155.2.2.2.2.1).bind fun t1173 => (if t1173 = true then (laws_FnSieveApart.j0 k bt1151.1 bt1155.2.2.2.2.2 bt1164.2.2.2.2.2 (!bt1164.2.2.2.2.2) bt1155.1 bt1155.2.1 bt1155.2.2.1 bt1155.2.2.2.1 bt1155.2.2.2.2.1 bt1164.1 bt1164.2.1 bt1164.2.2.1 bt1164.2.2.2.1 bt1164.2.2.2.2.1) else (laws_FnSieveApart.j0 k bt1151.1 bt1155.2.2.2.2.2 bt1164.2.2.2.2.2 true bt1155.1 bt1155.2.1 bt1155.2.2.1 bt1155.2.2.2.1 bt1155.2.2.2.2.1 bt1164.1 bt1164.2.1 bt1164.2.2.1 bt1164.2.2.2.1 bt1164.2.2.2.2.1)))))))
def laws_FnSieveApart.Pure : Prop := ∀ (l0 : List Int), l0.length ≤ maxLen → l0.length * 1 ≤ 140737488351232 → (∀ x ∈ l0, (Lit.int .u8 x).wf = true) → ∃ k, laws_FnSieveApart.f k l0 = some true
mutual
def laws_FnSieveHeads.j0 : Nat → List ByteArray → Bool → Bool → Bool → ByteArray → ByteArray → ByteArray → List ByteArray → Int → ByteArray → ByteArray → ByteArray → List ByteArray → Int → Option (Bool)
  | 0, _, _, _, _, _, _, _, _, _, _, _, _, _, _ => none
  | k + 1, x3, x6, x8, x43, x1196000, x1196001, x1196002, x1196003, x1196004, x1205000, x1205001, x1205002, x1205003, x1205004 => if x43 = true then (if (x8 == x6) = true then ((laws_ltSieve.f k x1205000 x1205001 x1205002 x1205003 x1205004 x1196000 x1196001 x1196002 x1196003 x1196004).bind fun t1206 => (some t1206)) else (some false)) else ((impl_SieveHeads.f k x1205000 x1205001 x1205002 x1205003 x1205004).bind fun t1207 => (if (t1207.length : Int) = (x3.length : Int) then (laws_FnSieveHeads.l0 k x3 t1207 0) else (some false)))
def laws_FnSieveHeads.l0 : Nat → List ByteArray → List ByteArray → Int → Option (Bool)
  | 0, _, _, _ => none
  | k + 1, x3, x9, x10 => if x10 < (x3.length : Int) then (if 0 ≤ x10 then (if x10 < (x9.length : Int) then ((impl_KeyBegins.f (rdOf ByteArray.empty x3 x10) (rdOf ByteArray.empty x9 x10)).bind fun t1212 => (if t1212 = true then (if x10 > 0 then (if 0 ≤ (wrap64 (x10 - 1)) then (if (wrap64 (x10 - 1)) < (x9.length : Int) then (if ((Op.bytesLess ((rdOf ByteArray.empty x9 (wrap64 (x10 - 1))).toList) ((rdOf ByteArray.empty x9 x10).toList)) = true) then (laws_FnSieveHeads.l0 k x3 x9 (wrap64 (x10 + 1))) else (some false)) else (none)) else (none)) else (laws_FnSieveHeads.l0 k x3 x9 (wrap64 (x10 + 1)))) else (some false))) else (none)) else (none)) else (some true)
end
def laws_FnSieveHeads.f (k : Nat) (l0 : List Int) : Option (Bool) := if (l0.length : Int) > 1048576 then (some true) else ((spec_DrawSieveOf.f k l0).bind fun bt1183 => ((spec_SieveOf.f k bt1183.1 bt1183.2).bind fun bt1187 => ((impl_SieveOf.f k bt1183.1 bt1183.2).bind fun bt1196 => (if (bt1196.2.2.2.2.2 != bt1187.2.2.2.2.2) = true then (laws_FnSieveHeads.j0 k bt1183.1 bt1187.2.2.2.2.2 bt1196.2.2.2.2.2 true bt1187.1 bt1187.2.1 bt1187.2.2.1 bt1187.2.2.2.1 bt1187.2.2.2.2.1 bt1196.1 bt1196.2.1 bt1196.2.2.1 bt1196.2.2.2.1 bt1196.2.2.2.2.1) else ((laws_ltSieve.f k bt1196.1 bt1196.2.1 bt1196.2.2.1 bt1196.2.2.2.1 bt1196.2.2.2.2.1 bt1187.1 bt1187.2.1 bt1187.2.2.1 bt1187.2.2.2.1 bt1187.2.2.2.2.1).bind fun t1205 => (if t1205 = true then (laws_FnSieveHeads.j0 k bt1183.1 bt1187.2.2.2.2.2 bt1196.2.2.2.2.2 (!bt1196.2.2.2.2.2) bt1187.1 bt1187.2.1 bt1187.2.2.1 bt1187.2.2.2.1 bt1187.2.2.2.2.1 bt1196.1 bt1196.2.1 bt1196.2.2.1 bt1196.2.2.2.1 bt1196.2.2.2.2.1) else (laws_FnSieveHeads.j0 k bt1183.1 bt1187.2.2.2.2.2 bt1196.2.2.2.2.2 true bt1187.1 bt1187.2.1 bt1187.2.2.1 bt1187.2.2.2.1 bt1187.2.2.2.2.1 bt1196.1 bt1196.2.1 bt1196.2.2.1 bt1196.2.2.2.1 bt1196.2.2.2.2.1)))))))
def laws_FnSieveHeads.Pure : Prop := ∀ (l0 : List Int), l0.length ≤ maxLen → l0.length * 1 ≤ 140737488351232 → (∀ x ∈ l0, (Lit.int .u8 x).wf = true) → ∃ k, laws_FnSieveHeads.f k l0 = some true
def spec_DrawKeysSort.l0 : Nat → List ByteArray → Int → List Int → Int → Option (List ByteArray)
  | 0, _, _, _, _ => none
  | k + 1, x4, x5, x1218000, x1218001 => if x5 > 0 then ((spec_l71Near.f k x1218000 x1218001 x4).bind fun bt1223 => (if x4.length < 8796093022208 then (spec_DrawKeysSort.l0 k (x4 ++ [bt1223.1]) (wrap64 (x5 - 1)) x1218000 bt1223.2) else (none))) else ((spec_l71Mess.f k x1218000 x1218001).bind fun bt1228 => (if x4.length + bt1228.1.length < 8796093022208 then (some (x4 ++ bt1228.1)) else (none)))
def spec_DrawKeysSort.f (k : Nat) (l0 : List Int) : Option (List ByteArray) := (spec_l6Open.f l0).bind fun bt1215 => ((spec_l6Rd_pick.f k bt1215.1 bt1215.2 10).bind fun bt1221 => (spec_DrawKeysSort.l0 k (([] : List ByteArray)) bt1221.1 bt1215.1 bt1221.2))
def spec_DrawKeysOk.f (k : Nat) (l0 : List Int) : Option (List ByteArray) := (spec_l6Open.f l0).bind fun bt1286 => ((spec_l6Rd_pick.f k bt1286.1 bt1286.2 2).bind fun bt1289 => (if bt1289.1 = 0 then ((spec_l71Keys.f k bt1286.1 bt1289.2 10).bind fun bt1291 => (some bt1291.1)) else ((spec_l71Mess.f k bt1286.1 bt1289.2).bind fun bt1295 => (some bt1295.1))))
mutual
def laws_FnSieveSeekKey.j0 : Nat → List Int → List Int → Bool → Option (Bool)
  | 0, _, _, _ => none
  | k + 1, x0, x1, x24 => if x24 = true then (some true) else ((spec_DrawSieveOf.f k x0).bind fun bt1341 => ((spec_DrawKeyBegins.f k x1).bind fun bt1345 => ((spec_SieveOf.f k bt1341.1 bt1341.2).bind fun bt1347 => ((impl_SieveOf.f k bt1341.1 bt1341.2).bind fun bt1356 => (if (bt1356.2.2.2.2.2 != bt1347.2.2.2.2.2) = true then (laws_FnSieveSeekKey.j1 k bt1341.1 bt1345.1 bt1347.2.2.2.2.2 bt1356.2.2.2.2.2 true bt1347.1 bt1347.2.1 bt1347.2.2.1 bt1347.2.2.2.1 bt1347.2.2.2.2.1 bt1356.1 bt1356.2.1 bt1356.2.2.1 bt1356.2.2.2.1 bt1356.2.2.2.2.1) else ((laws_ltSieve.f k bt1356.1 bt1356.2.1 bt1356.2.2.1 bt1356.2.2.2.1 bt1356.2.2.2.2.1 bt1347.1 bt1347.2.1 bt1347.2.2.1 bt1347.2.2.2.1 bt1347.2.2.2.2.1).bind fun t1365 => (if t1365 = true then (laws_FnSieveSeekKey.j1 k bt1341.1 bt1345.1 bt1347.2.2.2.2.2 bt1356.2.2.2.2.2 (!bt1356.2.2.2.2.2) bt1347.1 bt1347.2.1 bt1347.2.2.1 bt1347.2.2.2.1 bt1347.2.2.2.2.1 bt1356.1 bt1356.2.1 bt1356.2.2.1 bt1356.2.2.2.1 bt1356.2.2.2.2.1) else (laws_FnSieveSeekKey.j1 k bt1341.1 bt1345.1 bt1347.2.2.2.2.2 bt1356.2.2.2.2.2 true bt1347.1 bt1347.2.1 bt1347.2.2.1 bt1347.2.2.2.1 bt1347.2.2.2.2.1 bt1356.1 bt1356.2.1 bt1356.2.2.1 bt1356.2.2.2.1 bt1356.2.2.2.2.1))))))))
def laws_FnSieveSeekKey.j1 : Nat → List ByteArray → ByteArray → Bool → Bool → Bool → ByteArray → ByteArray → ByteArray → List ByteArray → Int → ByteArray → ByteArray → ByteArray → List ByteArray → Int → Option (Bool)
  | 0, _, _, _, _, _, _, _, _, _, _, _, _, _, _, _ => none
  | k + 1, x5, x7, x10, x12, x59, x1356000, x1356001, x1356002, x1356003, x1356004, x1365000, x1365001, x1365002, x1365003, x1365004 => if x59 = true then (if (x12 == x10) = true then ((laws_ltSieve.f k x1365000 x1365001 x1365002 x1365003 x1365004 x1356000 x1356001 x1356002 x1356003 x1356004).bind fun t1366 => (some t1366)) else (some false)) else ((impl_KeyFirst.f k x5 x7).bind fun bt1367 => ((impl_SieveSeek.f k x1365000 x1365001 x1365002 x1365003 x1365004 x7).bind fun bt1369 => (if bt1367.2 = true then (if bt1369.2 = true then (some (!(Op.bytesLess bt1367.1.toList bt1369.1.toList))) else (some false)) else (some true))))
end
def laws_FnSieveSeekKey.f (k : Nat) (l0 : List Int) (l1 : List Int) : Option (Bool) := if (l0.length : Int) > 1048576 then (laws_FnSieveSeekKey.j0 k l0 l1 true) else (laws_FnSieveSeekKey.j0 k l0 l1 (decide ((l1.length : Int) > 1048576)))
def laws_FnSieveSeekKey.Pure : Prop := ∀ (l0 : List Int) (l1 : List Int), l0.length ≤ maxLen → l0.length * 1 ≤ 140737488351232 → (∀ x ∈ l0, (Lit.int .u8 x).wf = true) → l1.length ≤ maxLen → l1.length * 1 ≤ 140737488351232 → (∀ x ∈ l1, (Lit.int .u8 x).wf = true) → ∃ k, laws_FnSieveSeekKey.f k l0 l1 = some true
mutual
def laws_FnSieveKeep.j0 : Nat → List Int → List Int → Bool → Option (Bool)
  | 0, _, _, _ => none
  | k + 1, x0, x1, x22 => if x22 = true then (some true) else ((spec_DrawSieveOf.f k x0).bind fun bt1371 => ((spec_DrawKeyBegins.f k x1).bind fun bt1375 => ((spec_SieveOf.f k bt1371.1 bt1371.2).bind fun bt1377 => ((impl_SieveOf.f k bt1371.1 bt1371.2).bind fun bt1386 => (if (bt1386.2.2.2.2.2 != bt1377.2.2.2.2.2) = true then (laws_FnSieveKeep.j1 k bt1371.1 bt1371.2 bt1375.1 bt1377.2.2.2.2.2 bt1386.2.2.2.2.2 true bt1377.1 bt1377.2.1 bt1377.2.2.1 bt1377.2.2.2.1 bt1377.2.2.2.2.1 bt1386.1 bt1386.2.1 bt1386.2.2.1 bt1386.2.2.2.1 bt1386.2.2.2.2.1) else ((laws_ltSieve.f k bt1386.1 bt1386.2.1 bt1386.2.2.1 bt1386.2.2.2.1 bt1386.2.2.2.2.1 bt1377.1 bt1377.2.1 bt1377.2.2.1 bt1377.2.2.2.1 bt1377.2.2.2.2.1).bind fun t1395 => (if t1395 = true then (laws_FnSieveKeep.j1 k bt1371.1 bt1371.2 bt1375.1 bt1377.2.2.2.2.2 bt1386.2.2.2.2.2 (!bt1386.2.2.2.2.2) bt1377.1 bt1377.2.1 bt1377.2.2.1 bt1377.2.2.2.1 bt1377.2.2.2.2.1 bt1386.1 bt1386.2.1 bt1386.2.2.1 bt1386.2.2.2.1 bt1386.2.2.2.2.1) else (laws_FnSieveKeep.j1 k bt1371.1 bt1371.2 bt1375.1 bt1377.2.2.2.2.2 bt1386.2.2.2.2.2 true bt1377.1 bt1377.2.1 bt1377.2.2.1 bt1377.2.2.2.1 bt1377.2.2.2.2.1 bt1386.1 bt1386.2.1 bt1386.2.2.1 bt1386.2.2.2.1 bt1386.2.2.2.2.1))))))))
def laws_FnSieveKeep.j1 : Nat → List ByteArray → Int → ByteArray → Bool → Bool → Bool → ByteArray → ByteArray → ByteArray → List ByteArray → Int → ByteArray → ByteArray → ByteArray → List ByteArray → Int → Option (Bool)
  | 0, _, _, _, _, _, _, _, _, _, _, _, _, _, _, _, _ => none
  | k + 1, x5, x6, x7, x10, x12, x57, x1386000, x1386001, x1386002, x1386003, x1386004, x1395000, x1395001, x1395002, x1395003, x1395004 => if x57 = true then (if (x12 == x10) = true then ((laws_ltSieve.f k x1395000 x1395001 x1395002 x1395003 x1395004 x1386000 x1386001 x1386002 x1386003 x1386004).bind fun t1396 => (some t1396)) else (some false)) else ((impl_SieveOf.f k x5 (wrap64 (x6 + 1))).bind fun bt1397 => (if bt1397.2.2.2.2.2 = true then ((impl_SieveHas.f k bt1397.1 bt1397.2.1 bt1397.2.2.1 bt1397.2.2.2.1 bt1397.2.2.2.2.1 x7).bind fun t1406 => (if t1406 = true then ((impl_SieveHas.f k x1395000 x1395001 x1395002 x1395003 x1395004 x7).bind fun t1407 => (some t1407)) else (some true))) else (some true)))
end
def laws_FnSieveKeep.f (k : Nat) (l0 : List Int) (l1 : List Int) : Option (Bool) := if (l0.length : Int) > 1048576 then (laws_FnSieveKeep.j0 k l0 l1 true) else (laws_FnSieveKeep.j0 k l0 l1 (decide ((l1.length : Int) > 1048576)))
def laws_FnSieveKeep.Pure : Prop := ∀ (l0 : List Int) (l1 : List Int), l0.length ≤ maxLen → l0.length * 1 ≤ 140737488351232 → (∀ x ∈ l0, (Lit.int .u8 x).wf = true) → l1.length ≤ maxLen → l1.length * 1 ≤ 140737488351232 → (∀ x ∈ l1, (Lit.int .u8 x).wf = true) → ∃ k, laws_FnSieveKeep.f k l0 l1 = some true
def laws_szSieve.f (k : Nat) (a0_0 : ByteArray) (a0_1 : ByteArray) (a0_2 : ByteArray) (l0_3 : List ByteArray) (a0_4 : Int) (a1 : Int) : Option (Int) := if (wrap64 (a1 - (a0_0.size : Int))) < 0 then (some (-1)) else (if (wrap64 ((wrap64 (a1 - (a0_0.size : Int))) - (a0_1.size : Int))) < 0 then (some (-1)) else (if (wrap64 ((wrap64 ((wrap64 (a1 - (a0_0.size : Int))) - (a0_1.size : Int))) - (a0_2.size : Int))) < 0 then (some (-1)) else ((laws_szStringS.f k l0_3 (wrap64 ((wrap64 ((wrap64 (a1 - (a0_0.size : Int))) - (a0_1.size : Int))) - (a0_2.size : Int)))).bind fun t1409 => (if t1409 < 0 then (some (-1)) else (some t1409)))))
def laws_toSieve.f (k : Nat) (a0_0 : ByteArray) (a0_1 : ByteArray) (a0_2 : ByteArray) (l0_3 : List ByteArray) (a0_4 : Int) : Option (ByteArray × ByteArray × ByteArray × List ByteArray × Int) := (laws_toStringS.f k l0_3).bind fun t1413 => (some (a0_0, a0_1, a0_2, t1413, a0_4))
def laws_FnExactSieveOk.f (k : Nat) (a0_0 : ByteArray) (a0_1 : ByteArray) (a0_2 : ByteArray) (l0_3 : List ByteArray) (a0_4 : Int) : Option (Bool) := (laws_szSieve.f k a0_0 a0_1 a0_2 l0_3 a0_4 1048576).bind fun t1417 => (if t1417 < 0 then (some true) else ((laws_toSieve.f k a0_0 a0_1 a0_2 l0_3 a0_4).bind fun bt1418 => ((spec_SieveOk.f k bt1418.1 bt1418.2.1 bt1418.2.2.1 bt1418.2.2.2.1 bt1418.2.2.2.2).bind fun t1425 => ((laws_toSieve.f k a0_0 a0_1 a0_2 l0_3 a0_4).bind fun bt1426 => ((impl_SieveOk.f k bt1426.1 bt1426.2.1 bt1426.2.2.1 bt1426.2.2.2.1 bt1426.2.2.2.2).bind fun t1434 => (if (t1434 != t1425) = true then (some false) else ((laws_toSieve.f k a0_0 a0_1 a0_2 l0_3 a0_4).bind fun bt1435 => ((laws_eqSieve.f k bt1426.1 bt1426.2.1 bt1426.2.2.1 bt1426.2.2.2.1 bt1426.2.2.2.2 bt1435.1 bt1435.2.1 bt1435.2.2.1 bt1435.2.2.2.1 bt1435.2.2.2.2).bind fun t1442 => (if t1442 = true then (some true) else (some false))))))))))
mutual
def laws_FnSieveExact.j0 : Nat → List Int → List Int → Bool → Option (Bool)
  | 0, _, _, _ => none
  | k + 1, x0, x1, x22 => if x22 = true then (some true) else ((spec_DrawSieveOf.f k x0).bind fun bt1443 => ((spec_DrawKeyBegins.f k x1).bind fun bt1447 => ((spec_SieveOf.f k bt1443.1 bt1443.2).bind fun bt1449 => ((impl_SieveOf.f k bt1443.1 bt1443.2).bind fun bt1458 => (if (bt1458.2.2.2.2.2 != bt1449.2.2.2.2.2) = true then (laws_FnSieveExact.j1 k bt1443.1 bt1447.1 bt1449.2.2.2.2.2 bt1458.2.2.2.2.2 true bt1449.1 bt1449.2.1 bt1449.2.2.1 bt1449.2.2.2.1 bt1449.2.2.2.2.1 bt1458.1 bt1458.2.1 bt1458.2.2.1 bt1458.2.2.2.1 bt1458.2.2.2.2.1) else ((laws_ltSieve.f k bt1458.1 bt1458.2.1 bt1458.2.2.1 bt1458.2.2.2.1 bt1458.2.2.2.2.1 bt1449.1 bt1449.2.1 bt1449.2.2.1 bt1449.2.2.2.1 bt1449.2.2.2.2.1).bind fun t1467 => (if t1467 = true then (laws_FnSieveExact.j1 k bt1443.1 bt1447.1 bt1449.2.2.2.2.2 bt1458.2.2.2.2.2 (!bt1458.2.2.2.2.2) bt1449.1 bt1449.2.1 bt1449.2.2.1 bt1449.2.2.2.1 bt1449.2.2.2.2.1 bt1458.1 bt1458.2.1 bt1458.2.2.1 bt1458.2.2.2.1 bt1458.2.2.2.2.1) else (laws_FnSieveExact.j1 k bt1443.1 bt1447.1 bt1449.2.2.2.2.2 bt1458.2.2.2.2.2 true bt1449.1 bt1449.2.1 bt1449.2.2.1 bt1449.2.2.2.1 bt1449.2.2.2.2.1 bt1458.1 bt1458.2.1 bt1458.2.2.1 bt1458.2.2.2.1 bt1458.2.2.2.2.1))))))))
def laws_FnSieveExact.j1 : Nat → List ByteArray → ByteArray → Bool → Bool → Bool → ByteArray → ByteArray → ByteArray → List ByteArray → Int → ByteArray → ByteArray → ByteArray → List ByteArray → Int → Option (Bool)
  | 0, _, _, _, _, _, _, _, _, _, _, _, _, _, _, _ => none
  | k + 1, x5, x7, x10, x12, x57, x1458000, x1458001, x1458002, x1458003, x1458004, x1467000, x1467001, x1467002, x1467003, x1467004 => if x57 = true then (if (x12 == x10) = true then ((laws_ltSieve.f k x1467000 x1467001 x1467002 x1467003 x1467004 x1458000 x1458001 x1458002 x1458003 x1458004).bind fun t1468 => (some t1468)) else (some false)) else ((impl_SieveOf.f k x5 5).bind fun bt1469 => (if bt1469.2.2.2.2.2 = true then ((impl_SieveHas.f k bt1469.1 bt1469.2.1 bt1469.2.2.1 bt1469.2.2.2.1 bt1469.2.2.2.2.1 x7).bind fun t1478 => ((laws_ltIn.f k x5 x7).bind fun t1479 => (some (t1478 == t1479)))) else (some false)))
end
def laws_FnSieveExact.f (k : Nat) (l0 : List Int) (l1 : List Int) : Option (Bool) := if (l0.length : Int) > 1048576 then (laws_FnSieveExact.j0 k l0 l1 true) else (laws_FnSieveExact.j0 k l0 l1 (decide ((l1.length : Int) > 1048576)))
def laws_FnSieveExact.Pure : Prop := ∀ (l0 : List Int) (l1 : List Int), l0.length ≤ maxLen → l0.length * 1 ≤ 140737488351232 → (∀ x ∈ l0, (Lit.int .u8 x).wf = true) → l1.length ≤ maxLen → l1.length * 1 ≤ 140737488351232 → (∀ x ∈ l1, (Lit.int .u8 x).wf = true) → ∃ k, laws_FnSieveExact.f k l0 l1 = some true
def laws_FnSieveWhole.j0 : Nat → List ByteArray → Bool → Bool → Bool → ByteArray → ByteArray → ByteArray → List ByteArray → Int → ByteArray → ByteArray → ByteArray → List ByteArray → Int → Option (Bool)
  | 0, _, _, _, _, _, _, _, _, _, _, _, _, _, _ => none
  | k + 1, x3, x6, x8, x44, x1493000, x1493001, x1493002, x1493003, x1493004, x1502000, x1502001, x1502002, x1502003, x1502004 => if x44 = true then (if (x8 == x6) = true then ((laws_ltSieve.f k x1502000 x1502001 x1502002 x1502003 x1502004 x1493000 x1493001 x1493002 x1493003 x1493004).bind fun t1503 => (some t1503)) else (some false)) else ((impl_SieveOf.f k x3 5).bind fun bt1504 => ((impl_SieveHeads.f k bt1504.1 bt1504.2.1 bt1504.2.2.1 bt1504.2.2.2.1 bt1504.2.2.2.2.1).bind fun t1513 => (if bt1504.2.2.2.2.2 = true then ((laws_ltSames.f k t1513 x3).bind fun t1516 => (if t1516 = true then ((impl_SieveHas.f k bt1504.1 bt1504.2.1 bt1504.2.2.1 bt1504.2.2.2.1 bt1504.2.2.2.2.1 (⟨#[100, 99, 98, 97, 100]⟩ : ByteArray)).bind fun t1517 => (if t1517 = true then ((laws_ltIn.f k x3 (⟨#[100, 99, 98, 97, 100]⟩ : ByteArray)).bind fun t1518 => (if t1518 = true then ((impl_SieveSize.f k bt1504.1 bt1504.2.1 bt1504.2.2.1 bt1504.2.2.2.1 bt1504.2.2.2.2.1).bind fun t1519 => ((impl_SieveSize.f k x1502000 x1502001 x1502002 x1502003 x1502004).bind fun t1520 => (some (t1519 == t1520)))) else (some false))) else ((impl_SieveSize.f k bt1504.1 bt1504.2.1 bt1504.2.2.1 bt1504.2.2.2.1 bt1504.2.2.2.2.1).bind fun t1521 => ((impl_SieveSize.f k x1502000 x1502001 x1502002 x1502003 x1502004).bind fun t1522 => (some (t1521 == t1522)))))) else (some false))) else (some false))))
def laws_FnSieveWhole.f (k : Nat) (l0 : List Int) : Option (Bool) := if (l0.length : Int) > 1048576 then (some true) else ((spec_DrawSieveOf.f k l0).bind fun bt1480 => ((spec_SieveOf.f k bt1480.1 bt1480.2).bind fun bt1484 => ((impl_SieveOf.f k bt1480.1 bt1480.2).bind fun bt1493 => (if (bt1493.2.2.2.2.2 != bt1484.2.2.2.2.2) = true then (laws_FnSieveWhole.j0 k bt1480.1 bt1484.2.2.2.2.2 bt1493.2.2.2.2.2 true bt1484.1 bt1484.2.1 bt1484.2.2.1 bt1484.2.2.2.1 bt1484.2.2.2.2.1 bt1493.1 bt1493.2.1 bt1493.2.2.1 bt1493.2.2.2.1 bt1493.2.2.2.2.1) else ((laws_ltSieve.f k bt1493.1 bt1493.2.1 bt1493.2.2.1 bt1493.2.2.2.1 bt1493.2.2.2.2.1 bt1484.1 bt1484.2.1 bt1484.2.2.1 bt1484.2.2.2.1 bt1484.2.2.2.2.1).bind fun t1502 => (if t1502 = true then (laws_FnSieveWhole.j0 k bt1480.1 bt1484.2.2.2.2.2 bt1493.2.2.2.2.2 (!bt1493.2.2.2.2.2) bt1484.1 bt1484.2.1 bt1484.2.2.1 bt1484.2.2.2.1 bt1484.2.2.2.2.1 bt1493.1 bt1493.2.1 bt1493.2.2.1 bt1493.2.2.2.1 bt1493.2.2.2.2.1) else (laws_FnSieveWhole.j0 k bt1480.1 bt1484.2.2.2.2.2 bt1493.2.2.2.2.2 true bt1484.1 bt1484.2.1 bt1484.2.2.1 bt1484.2.2.2.1 bt1484.2.2.2.2.1 bt1493.1 bt1493.2.1 bt1493.2.2.1 bt1493.2.2.2.1 bt1493.2.2.2.2.1)))))))
def laws_FnSieveWhole.Pure : Prop := ∀ (l0 : List Int), l0.length ≤ maxLen → l0.length * 1 ≤ 140737488351232 → (∀ x ∈ l0, (Lit.int .u8 x).wf = true) → ∃ k, laws_FnSieveWhole.f k l0 = some true
mutual
def laws_FnSieveNever.j0 : Nat → List ByteArray → Bool → Bool → Bool → ByteArray → ByteArray → ByteArray → List ByteArray → Int → ByteArray → ByteArray → ByteArray → List ByteArray → Int → Option (Bool)
  | 0, _, _, _, _, _, _, _, _, _, _, _, _, _, _ => none
  | k + 1, x3, x6, x8, x42, x1536000, x1536001, x1536002, x1536003, x1536004, x1545000, x1545001, x1545002, x1545003, x1545004 => if x42 = true then (if (x8 == x6) = true then ((laws_ltSieve.f k x1545000 x1545001 x1545002 x1545003 x1545004 x1536000 x1536001 x1536002 x1536003 x1536004).bind fun t1546 => (some t1546)) else (some false)) else (laws_FnSieveNever.l0 k x3 0 x1545000 x1545001 x1545002 x1545003 x1545004)
def laws_FnSieveNever.l0 : Nat → List ByteArray → Int → ByteArray → ByteArray → ByteArray → List ByteArray → Int → Option (Bool)
  | 0, _, _, _, _, _, _, _ => none
  | k + 1, x3, x9, x1545000, x1545001, x1545002, x1545003, x1545004 => if x9 < (x3.length : Int) then (if 0 ≤ x9 then ((impl_SieveHas.f k x1545000 x1545001 x1545002 x1545003 x1545004 (rdOf ByteArray.empty x3 x9)).bind fun t1548 => (if t1548 = true then ((impl_SieveMeets.f k x1545000 x1545001 x1545002 x1545003 x1545004 (rdOf ByteArray.empty x3 x9) (rdOf ByteArray.empty x3 x9)).bind fun t1551 => (if t1551 = true then (laws_FnSieveNever.l0 k x3 (wrap64 (x9 + 1)) x1545000 x1545001 x1545002 x1545003 x1545004) else (some false))) else (some false))) else (none)) else (some true)
end
def laws_FnSieveNever.f (k : Nat) (l0 : List Int) : Option (Bool) := if (l0.length : Int) > 1048576 then (some true) else ((spec_DrawSieveOf.f k l0).bind fun bt1523 => ((spec_SieveOf.f k bt1523.1 bt1523.2).bind fun bt1527 => ((impl_SieveOf.f k bt1523.1 bt1523.2).bind fun bt1536 => (if (bt1536.2.2.2.2.2 != bt1527.2.2.2.2.2) = true then (laws_FnSieveNever.j0 k bt1523.1 bt1527.2.2.2.2.2 bt1536.2.2.2.2.2 true bt1527.1 bt1527.2.1 bt1527.2.2.1 bt1527.2.2.2.1 bt1527.2.2.2.2.1 bt1536.1 bt1536.2.1 bt1536.2.2.1 bt1536.2.2.2.1 bt1536.2.2.2.2.1) else ((laws_ltSieve.f k bt1536.1 bt1536.2.1 bt1536.2.2.1 bt1536.2.2.2.1 bt1536.2.2.2.2.1 bt1527.1 bt1527.2.1 bt1527.2.2.1 bt1527.2.2.2.1 bt1527.2.2.2.2.1).bind fun t1545 => (if t1545 = true then (laws_FnSieveNever.j0 k bt1523.1 bt1527.2.2.2.2.2 bt1536.2.2.2.2.2 (!bt1536.2.2.2.2.2) bt1527.1 bt1527.2.1 bt1527.2.2.1 bt1527.2.2.2.1 bt1527.2.2.2.2.1 bt1536.1 bt1536.2.1 bt1536.2.2.1 bt1536.2.2.2.1 bt1536.2.2.2.2.1) else (laws_FnSieveNever.j0 k bt1523.1 bt1527.2.2.2.2.2 bt1536.2.2.2.2.2 true bt1527.1 bt1527.2.1 bt1527.2.2.1 bt1527.2.2.2.1 bt1527.2.2.2.2.1 bt1536.1 bt1536.2.1 bt1536.2.2.1 bt1536.2.2.2.1 bt1536.2.2.2.2.1)))))))
def laws_FnSieveNever.Pure : Prop := ∀ (l0 : List Int), l0.length ≤ maxLen → l0.length * 1 ≤ 140737488351232 → (∀ x ∈ l0, (Lit.int .u8 x).wf = true) → ∃ k, laws_FnSieveNever.f k l0 = some true
def spec_SieveSize.f (k : Nat) (a0_0 : ByteArray) (a0_1 : ByteArray) (a0_2 : ByteArray) (l0_3 : List ByteArray) (a0_4 : Int) : Option (Int) := (spec_SieveOk.f k a0_0 a0_1 a0_2 l0_3 a0_4).bind fun t1553 => (if t1553 = true then (some (a0_0.size : Int)) else (some (-1)))
def laws_FnExactSieveSize.f (k : Nat) (a0_0 : ByteArray) (a0_1 : ByteArray) (a0_2 : ByteArray) (l0_3 : List ByteArray) (a0_4 : Int) : Option (Bool) := (laws_szSieve.f k a0_0 a0_1 a0_2 l0_3 a0_4 1048576).bind fun t1555 => (if t1555 < 0 then (some true) else ((laws_toSieve.f k a0_0 a0_1 a0_2 l0_3 a0_4).bind fun bt1556 => ((spec_SieveSize.f k bt1556.1 bt1556.2.1 bt1556.2.2.1 bt1556.2.2.2.1 bt1556.2.2.2.2).bind fun t1563 => ((laws_toSieve.f k a0_0 a0_1 a0_2 l0_3 a0_4).bind fun bt1564 => ((impl_SieveSize.f k bt1564.1 bt1564.2.1 bt1564.2.2.1 bt1564.2.2.2.1 bt1564.2.2.2.2).bind fun t1572 => (if t1572 = t1563 then ((laws_toSieve.f k a0_0 a0_1 a0_2 l0_3 a0_4).bind fun bt1573 => ((laws_eqSieve.f k bt1564.1 bt1564.2.1 bt1564.2.2.1 bt1564.2.2.2.1 bt1564.2.2.2.2 bt1573.1 bt1573.2.1 bt1573.2.2.1 bt1573.2.2.2.1 bt1573.2.2.2.2).bind fun t1580 => (if t1580 = true then (some true) else (some false)))) else (some false)))))))
def spec_SieveHeads.f (k : Nat) (a0_0 : ByteArray) (a0_1 : ByteArray) (a0_2 : ByteArray) (l0_3 : List ByteArray) (a0_4 : Int) : Option (List ByteArray) := (spec_SieveOk.f k a0_0 a0_1 a0_2 l0_3 a0_4).bind fun t1582 => (if t1582 = true then ((spec_l3Heads.f k a0_0 a0_1 a0_2 l0_3 a0_4).bind fun t1583 => (some t1583)) else (some (([] : List ByteArray))))
def laws_FnExactSieveHeads.j0 : Nat → List ByteArray → List ByteArray → Bool → ByteArray → ByteArray → ByteArray → List ByteArray → Int → Option (Bool)
  | 0, _, _, _, _, _, _, _, _ => none
  | k + 1, x4, x6, x42, x1590000, x1590001, x1590002, x1590003, x1590004 => if x42 = true then (some false) else ((laws_markStringS.f k x6 1).bind fun bt1624 => ((laws_heldStringS.f k bt1624.2 1).bind fun t1626 => (if t1626 < 0 then (some false) else (if t1626 = bt1624.1 then ((laws_toSieve.f k x1590000 x1590001 x1590002 x1590003 x1590004).bind fun bt1627 => ((impl_SieveHeads.f k bt1627.1 bt1627.2.1 bt1627.2.2.1 bt1627.2.2.2.1 bt1627.2.2.2.2).bind fun t1634 => ((laws_eqStringS.f k t1634 x4).bind fun t1637 => (if t1637 = true then ((laws_heldStringS.f k bt1624.2 1).bind fun t1638 => (if t1638 < 0 then (some false) else (if t1638 = bt1624.1 then (some true) else (some false)))) else (some false))))) else (some false)))))
def laws_FnExactSieveHeads.f (k : Nat) (a0_0 : ByteArray) (a0_1 : ByteArray) (a0_2 : ByteArray) (l0_3 : List ByteArray) (a0_4 : Int) : Option (Bool) := (laws_szSieve.f k a0_0 a0_1 a0_2 l0_3 a0_4 1048576).bind fun t1590 => (if t1590 < 0 then (some true) else ((laws_toSieve.f k a0_0 a0_1 a0_2 l0_3 a0_4).bind fun bt1591 => ((spec_SieveHeads.f k bt1591.1 bt1591.2.1 bt1591.2.2.1 bt1591.2.2.2.1 bt1591.2.2.2.2).bind fun t1598 => ((laws_toSieve.f k a0_0 a0_1 a0_2 l0_3 a0_4).bind fun bt1601 => ((impl_SieveHeads.f k bt1601.1 bt1601.2.1 bt1601.2.2.1 bt1601.2.2.2.1 bt1601.2.2.2.2).bind fun t1609 => ((laws_eqStringS.f k t1609 t1598).bind fun t1612 => (if t1612 = true then ((laws_toSieve.f k a0_0 a0_1 a0_2 l0_3 a0_4).bind fun bt1613 => ((laws_eqSieve.f k bt1601.1 bt1601.2.1 bt1601.2.2.1 bt1601.2.2.2.1 bt1601.2.2.2.2 bt1613.1 bt1613.2.1 bt1613.2.2.1 bt1613.2.2.2.1 bt1613.2.2.2.2).bind fun t1620 => (if t1620 = true then ((laws_markSieve.f k bt1601.1 bt1601.2.1 bt1601.2.2.1 bt1601.2.2.2.1 bt1601.2.2.2.2 1).bind fun bt1621 => (if bt1621.1 < 0 then (laws_FnExactSieveHeads.j0 k t1598 t1609 true a0_0 a0_1 a0_2 l0_3 a0_4) else ((laws_eqStringS.f k t1609 t1598).bind fun t1623 => (laws_FnExactSieveHeads.j0 k t1598 t1609 (!t1623) a0_0 a0_1 a0_2 l0_3 a0_4)))) else (some false)))) else (some false))))))))
def spec_DrawSieveOk.j0 : Nat → Bool → List Int → Int → ByteArray → ByteArray → ByteArray → List ByteArray → Int → Option (ByteArray × ByteArray × ByteArray × List ByteArray × Int)
  | 0, _, _, _, _, _, _, _, _ => none
  | k + 1, x22, x1643000, x1643001, x1655000, x1655001, x1655002, x1655003, x1655004 => if x22 = true then ((spec_l6Rd_pick.f k x1643000 x1643001 (x1655000.size : Int)).bind fun bt1657 => (if 0 ≤ bt1657.1 then (if bt1657.1 ≤ (x1655000.size : Int) then ((spec_l6Rd_of.f k x1643000 bt1657.2 (([(⟨#[97]⟩ : ByteArray), (⟨#[100]⟩ : ByteArray), (⟨#[45]⟩ : ByteArray), (⟨#[120]⟩ : ByteArray)] : List ByteArray))).bind fun bt1662 => (if (x1655000.extract 0 (bt1657.1 : Int).toNat).size + bt1662.1.size ≤ 9223372036854775807 then (if 0 ≤ (wrap64 (bt1657.1 + 1)) then (if (wrap64 (bt1657.1 + 1)) ≤ (x1655000.size : Int) then (if ((x1655000.extract 0 (bt1657.1 : Int).toNat) ++ bt1662.1).size + (x1655000.extract ((wrap64 (bt1657.1 + 1)) : Int).toNat x1655000.size).size ≤ 9223372036854775807 then (some (((x1655000.extract 0 (bt1657.1 : Int).toNat) ++ bt1662.1) ++ (x1655000.extract ((wrap64 (bt1657.1 + 1)) : Int).toNat x1655000.size), x1655001, x1655002, x1655003, x1655004)) else (none)) else (none)) else (none)) else (none))) else (none)) else (none))) else (some (x1655000, x1655001, x1655002, x1655003, x1655004))
def spec_DrawSieveOk.f (k : Nat) (l0 : List Int) : Option (ByteArray × ByteArray × ByteArray × List ByteArray × Int) := (spec_l6Open.f l0).bind fun bt1640 => ((spec_l71Bent.f k bt1640.1 bt1640.2).bind fun bt1643 => ((spec_l6Rd_pick.f k bt1640.1 bt1643.2.2.2.2.2.2 3).bind fun bt1655 => (if bt1655.1 = 0 then (spec_DrawSieveOk.j0 k (decide ((bt1643.1.size : Int) > 0)) bt1640.1 bt1655.2 bt1643.1 bt1643.2.1 bt1643.2.2.1 bt1643.2.2.2.1 bt1643.2.2.2.2.1) else (spec_DrawSieveOk.j0 k false bt1640.1 bt1655.2 bt1643.1 bt1643.2.1 bt1643.2.2.1 bt1643.2.2.2.1 bt1643.2.2.2.2.1))))
def laws_FnSieveOk.j0 : Nat → Bool → Bool → ByteArray → ByteArray → ByteArray → List ByteArray → Int → Option (Bool)
  | 0, _, _, _, _, _, _, _ => none
  | k + 1, x4, x20, x1672000, x1672001, x1672002, x1672003, x1672004 => if x20 = true then ((spec_SieveOk.f k x1672000 x1672001 x1672002 x1672003 x1672004).bind fun t1674 => (some (x4 == t1674))) else (if (x1672001.size : Int) = (x1672000.size : Int) then (if (x1672002.size : Int) = (x1672000.size : Int) then ((impl_BitsOnes.f k x1672001 (x1672000.size : Int)).bind fun t1675 => (if (x1672003.length : Int) = (wrap64 ((x1672000.size : Int) - t1675)) then ((impl_BitsOnes.f k x1672002 (x1672000.size : Int)).bind fun t1676 => ((impl_BitsOnes.f k x1672001 (x1672000.size : Int)).bind fun t1677 => (some (t1676 == (wrap64 (t1677 + (mn (x1672000.size : Int) 1))))))) else (some false))) else (some false)) else (some false))
def laws_FnSieveOk.f (k : Nat) (l0 : List Int) : Option (Bool) := if (l0.length : Int) > 1048576 then (some true) else ((spec_DrawSieveOk.f k l0).bind fun bt1664 => ((impl_SieveOk.f k bt1664.1 bt1664.2.1 bt1664.2.2.1 bt1664.2.2.2.1 bt1664.2.2.2.2).bind fun t1672 => ((spec_SieveOk.f k bt1664.1 bt1664.2.1 bt1664.2.2.1 bt1664.2.2.2.1 bt1664.2.2.2.2).bind fun t1673 => (if (t1672 != t1673) = true then (laws_FnSieveOk.j0 k t1672 true bt1664.1 bt1664.2.1 bt1664.2.2.1 bt1664.2.2.2.1 bt1664.2.2.2.2) else (laws_FnSieveOk.j0 k t1672 (!t1672) bt1664.1 bt1664.2.1 bt1664.2.2.1 bt1664.2.2.2.1 bt1664.2.2.2.2)))))
def laws_FnSieveOk.Pure : Prop := ∀ (l0 : List Int), l0.length ≤ maxLen → l0.length * 1 ≤ 140737488351232 → (∀ x ∈ l0, (Lit.int .u8 x).wf = true) → ∃ k, laws_FnSieveOk.f k l0 = some true
def spec_DrawSieveSize.f (k : Nat) (l0 : List Int) : Option (ByteArray × ByteArray × ByteArray × List ByteArray × Int) := (spec_l6Open.f l0).bind fun bt1679 => ((spec_l71Bent.f k bt1679.1 bt1679.2).bind fun bt1682 => (some (bt1682.1, bt1682.2.1, bt1682.2.2.1, bt1682.2.2.2.1, bt1682.2.2.2.2.1)))
mutual
def laws_FnSieveSize.j0 : Nat → Int → Bool → ByteArray → ByteArray → ByteArray → List ByteArray → Int → Option (Bool)
  | 0, _, _, _, _, _, _, _ => none
  | k + 1, x4, x22, x1702000, x1702001, x1702002, x1702003, x1702004 => if x22 = true then ((spec_SieveSize.f k x1702000 x1702001 x1702002 x1702003 x1702004).bind fun t1704 => (some (x4 == t1704))) else ((impl_SieveHeads.f k x1702000 x1702001 x1702002 x1702003 x1702004).bind fun t1705 => (laws_FnSieveSize.l0 k x4 0 t1705 0))
def laws_FnSieveSize.l0 : Nat → Int → Int → List ByteArray → Int → Option (Bool)
  | 0, _, _, _, _ => none
  | k + 1, x4, x5, x6, x7 => if x7 < (x6.length : Int) then (if 0 ≤ x7 then (laws_FnSieveSize.l0 k x4 (wrap64 ((wrap64 (x5 + ((rdOf ByteArray.empty x6 x7).size : Int))) + 1)) x6 (wrap64 (x7 + 1))) else (none)) else (if x4 ≥ (x6.length : Int) then (some (decide (x4 ≤ x5))) else (some false))
end
def laws_FnSieveSize.f (k : Nat) (l0 : List Int) : Option (Bool) := if (l0.length : Int) > 1048576 then (some true) else ((spec_DrawSieveSize.f k l0).bind fun bt1694 => ((impl_SieveSize.f k bt1694.1 bt1694.2.1 bt1694.2.2.1 bt1694.2.2.2.1 bt1694.2.2.2.2).bind fun t1702 => ((spec_SieveSize.f k bt1694.1 bt1694.2.1 bt1694.2.2.1 bt1694.2.2.2.1 bt1694.2.2.2.2).bind fun t1703 => (if t1702 = t1703 then (laws_FnSieveSize.j0 k t1702 (decide (t1702 < 0)) bt1694.1 bt1694.2.1 bt1694.2.2.1 bt1694.2.2.2.1 bt1694.2.2.2.2) else (laws_FnSieveSize.j0 k t1702 true bt1694.1 bt1694.2.1 bt1694.2.2.1 bt1694.2.2.2.1 bt1694.2.2.2.2)))))
def laws_FnSieveSize.Pure : Prop := ∀ (l0 : List Int), l0.length ≤ maxLen → l0.length * 1 ≤ 140737488351232 → (∀ x ∈ l0, (Lit.int .u8 x).wf = true) → ∃ k, laws_FnSieveSize.f k l0 = some true
def spec_DrawSieveHeads.f (k : Nat) (l0 : List Int) : Option (ByteArray × ByteArray × ByteArray × List ByteArray × Int) := (spec_l6Open.f l0).bind fun bt1710 => ((spec_l71Bent.f k bt1710.1 bt1710.2).bind fun bt1713 => (some (bt1713.1, bt1713.2.1, bt1713.2.2.1, bt1713.2.2.2.1, bt1713.2.2.2.2.1)))
def laws_FnSieveSame.j0 : Nat → List ByteArray → Bool → ByteArray → ByteArray → ByteArray → List ByteArray → Int → Option (Bool)
  | 0, _, _, _, _, _, _, _ => none
  | k + 1, x4, x23, x1733000, x1733001, x1733002, x1733003, x1733004 => if x23 = true then ((spec_SieveHeads.f k x1733000 x1733001 x1733002 x1733003 x1733004).bind fun t1741 => ((laws_ltSames.f k x4 t1741).bind fun t1744 => (some t1744))) else ((impl_SieveOf.f k x4 x1733004).bind fun bt1745 => (if bt1745.2.2.2.2.2 = true then ((laws_ltSieve.f k bt1745.1 bt1745.2.1 bt1745.2.2.1 bt1745.2.2.2.1 bt1745.2.2.2.2.1 x1733000 x1733001 x1733002 x1733003 x1733004).bind fun t1754 => (some t1754)) else (some false)))
def laws_FnSieveSame.f (k : Nat) (l0 : List Int) : Option (Bool) := if (l0.length : Int) > 1048576 then (some true) else ((spec_DrawSieveHeads.f k l0).bind fun bt1725 => ((impl_SieveHeads.f k bt1725.1 bt1725.2.1 bt1725.2.2.1 bt1725.2.2.2.1 bt1725.2.2.2.2).bind fun t1733 => ((spec_SieveHeads.f k bt1725.1 bt1725.2.1 bt1725.2.2.1 bt1725.2.2.2.1 bt1725.2.2.2.2).bind fun t1736 => ((laws_ltSames.f k t1733 t1736).bind fun t1739 => (if t1739 = true then ((spec_SieveOk.f k bt1725.1 bt1725.2.1 bt1725.2.2.1 bt1725.2.2.2.1 bt1725.2.2.2.2).bind fun t1740 => (laws_FnSieveSame.j0 k t1733 (!t1740) bt1725.1 bt1725.2.1 bt1725.2.2.1 bt1725.2.2.2.1 bt1725.2.2.2.2)) else (laws_FnSieveSame.j0 k t1733 true bt1725.1 bt1725.2.1 bt1725.2.2.1 bt1725.2.2.2.1 bt1725.2.2.2.2))))))
def laws_FnSieveSame.Pure : Prop := ∀ (l0 : List Int), l0.length ≤ maxLen → l0.length * 1 ≤ 140737488351232 → (∀ x ∈ l0, (Lit.int .u8 x).wf = true) → ∃ k, laws_FnSieveSame.f k l0 = some true
def spec_SieveSeek.j0 : Nat → ByteArray → Bool → ByteArray → ByteArray → ByteArray → List ByteArray → Int → Option (ByteArray × Bool)
  | 0, _, _, _, _, _, _, _ => none
  | k + 1, x1, x15, x1756000, x1756001, x1756002, x1756003, x1756004 => if x15 = true then (some ((⟨#[]⟩ : ByteArray), false)) else ((spec_l3Heads.f k x1756000 x1756001 x1756002 x1756003 x1756004).bind fun t1758 => ((spec_l1One.f k x1756002 1).bind fun t1761 => ((spec_l3Wholes.f k x1756000 x1756001 x1756002 x1756003 x1756004 0 t1761 (([] : List Bool))).bind fun t1765 => ((spec_l3Behind.f k t1758 t1765 x1).bind fun t1768 => (if t1768 ≥ (t1758.length : Int) then (some ((⟨#[]⟩ : ByteArray), false)) else (if 0 ≤ t1768 then (if t1768 < (t1758.length : Int) then (some (rdOf ByteArray.empty t1758 t1768, true)) else (none)) else (none)))))))
def spec_SieveSeek.f (k : Nat) (a0_0 : ByteArray) (a0_1 : ByteArray) (a0_2 : ByteArray) (l0_3 : List ByteArray) (a0_4 : Int) (a1 : ByteArray) : Option (ByteArray × Bool) := (spec_SieveOk.f k a0_0 a0_1 a0_2 l0_3 a0_4).bind fun t1756 => (if t1756 = true then ((spec_KeyOk.f k a1).bind fun t1757 => (spec_SieveSeek.j0 k a1 (!t1757) a0_0 a0_1 a0_2 l0_3 a0_4)) else (spec_SieveSeek.j0 k a1 true a0_0 a0_1 a0_2 l0_3 a0_4))
def laws_FnExactSieveSeek.j0 : Nat → Bool → ByteArray → ByteArray → ByteArray → List ByteArray → Int → ByteArray → ByteArray → ByteArray → List ByteArray → Int → Option (Bool)
  | 0, _, _, _, _, _, _, _, _, _, _, _ => none
  | k + 1, x41, x1771000, x1771001, x1771002, x1771003, x1771004, x1789000, x1789001, x1789002, x1789003, x1789004 => if x41 = true then (some false) else ((laws_toSieve.f k x1771000 x1771001 x1771002 x1771003 x1771004).bind fun bt1791 => ((laws_eqSieve.f k x1789000 x1789001 x1789002 x1789003 x1789004 bt1791.1 bt1791.2.1 bt1791.2.2.1 bt1791.2.2.2.1 bt1791.2.2.2.2).bind fun t1798 => (if t1798 = true then (some true) else (some false))))
def laws_FnExactSieveSeek.f (k : Nat) (a0_0 : ByteArray) (a0_1 : ByteArray) (a0_2 : ByteArray) (l0_3 : List ByteArray) (a0_4 : Int) (a1 : ByteArray) : Option (Bool) := if (a1.size : Int) > 1048576 then (some true) else ((laws_szSieve.f k a0_0 a0_1 a0_2 l0_3 a0_4 1048576).bind fun t1771 => (if t1771 < 0 then (some true) else ((laws_toSieve.f k a0_0 a0_1 a0_2 l0_3 a0_4).bind fun bt1772 => ((spec_SieveSeek.f k bt1772.1 bt1772.2.1 bt1772.2.2.1 bt1772.2.2.2.1 bt1772.2.2.2.2 a1).bind fun bt1779 => ((laws_toSieve.f k a0_0 a0_1 a0_2 l0_3 a0_4).bind fun bt1781 => ((impl_SieveSeek.f k bt1781.1 bt1781.2.1 bt1781.2.2.1 bt1781.2.2.2.1 bt1781.2.2.2.2 a1).bind fun bt1789 => (if bt1789.1.toList = bt1779.1.toList then (laws_FnExactSieveSeek.j0 k (bt1789.2 != bt1779.2) a0_0 a0_1 a0_2 l0_3 a0_4 bt1781.1 bt1781.2.1 bt1781.2.2.1 bt1781.2.2.2.1 bt1781.2.2.2.2) else (laws_FnExactSieveSeek.j0 k true a0_0 a0_1 a0_2 l0_3 a0_4 bt1781.1 bt1781.2.1 bt1781.2.2.1 bt1781.2.2.2.1 bt1781.2.2.2.2))))))))
def laws_FnExactSieveMeets.f (k : Nat) (a0_0 : ByteArray) (a0_1 : ByteArray) (a0_2 : ByteArray) (l0_3 : List ByteArray) (a0_4 : Int) (a1 : ByteArray) (a2 : ByteArray) : Option (Bool) := if (a1.size : Int) > 1048576 then (some true) else (if (a2.size : Int) > 1048576 then (some true) else ((laws_szSieve.f k a0_0 a0_1 a0_2 l0_3 a0_4 1048576).bind fun t1800 => (if t1800 < 0 then (some true) else ((laws_toSieve.f k a0_0 a0_1 a0_2 l0_3 a0_4).bind fun bt1801 => ((spec_SieveMeets.f k bt1801.1 bt1801.2.1 bt1801.2.2.1 bt1801.2.2.2.1 bt1801.2.2.2.2 a1 a2).bind fun t1808 => ((laws_toSieve.f k a0_0 a0_1 a0_2 l0_3 a0_4).bind fun bt1809 => ((impl_SieveMeets.f k bt1809.1 bt1809.2.1 bt1809.2.2.1 bt1809.2.2.2.1 bt1809.2.2.2.2 a1 a2).bind fun t1817 => (if (t1817 != t1808) = true then (some false) else ((laws_toSieve.f k a0_0 a0_1 a0_2 l0_3 a0_4).bind fun bt1818 => ((laws_eqSieve.f k bt1809.1 bt1809.2.1 bt1809.2.2.1 bt1809.2.2.2.1 bt1809.2.2.2.2 bt1818.1 bt1818.2.1 bt1818.2.2.1 bt1818.2.2.2.1 bt1818.2.2.2.2).bind fun t1825 => (if t1825 = true then (some true) else (some false))))))))))))
def laws_FnExactSieveHas.f (k : Nat) (a0_0 : ByteArray) (a0_1 : ByteArray) (a0_2 : ByteArray) (l0_3 : List ByteArray) (a0_4 : Int) (a1 : ByteArray) : Option (Bool) := if (a1.size : Int) > 1048576 then (some true) else ((laws_szSieve.f k a0_0 a0_1 a0_2 l0_3 a0_4 1048576).bind fun t1827 => (if t1827 < 0 then (some true) else ((laws_toSieve.f k a0_0 a0_1 a0_2 l0_3 a0_4).bind fun bt1828 => ((spec_SieveHas.f k bt1828.1 bt1828.2.1 bt1828.2.2.1 bt1828.2.2.2.1 bt1828.2.2.2.2 a1).bind fun t1835 => ((laws_toSieve.f k a0_0 a0_1 a0_2 l0_3 a0_4).bind fun bt1836 => ((impl_SieveHas.f k bt1836.1 bt1836.2.1 bt1836.2.2.1 bt1836.2.2.2.1 bt1836.2.2.2.2 a1).bind fun t1844 => (if (t1844 != t1835) = true then (some false) else ((laws_toSieve.f k a0_0 a0_1 a0_2 l0_3 a0_4).bind fun bt1845 => ((laws_eqSieve.f k bt1836.1 bt1836.2.1 bt1836.2.2.1 bt1836.2.2.2.1 bt1836.2.2.2.2 bt1845.1 bt1845.2.1 bt1845.2.2.1 bt1845.2.2.2.1 bt1845.2.2.2.2).bind fun t1852 => (if t1852 = true then (some true) else (some false)))))))))))
mutual
def laws_FnSieveMeetsMore.j0 : Nat → List Int → List Int → Bool → Option (Bool)
  | 0, _, _, _ => none
  | k + 1, x0, x1, x18 => if x18 = true then (some true) else ((spec_DrawSieveMeets.f k x0).bind fun bt1853 => ((spec_DrawKeyBegins.f k x1).bind fun bt1863 => ((impl_SieveMeets.f k bt1853.1 bt1853.2.1 bt1853.2.2.1 bt1853.2.2.2.1 bt1853.2.2.2.2.1 bt1853.2.2.2.2.2.1 bt1853.2.2.2.2.2.2).bind fun t1865 => ((spec_SieveMeets.f k bt1853.1 bt1853.2.1 bt1853.2.2.1 bt1853.2.2.2.1 bt1853.2.2.2.2.1 bt1853.2.2.2.2.2.1 bt1853.2.2.2.2.2.2).bind fun t1866 => (if (t1865 != t1866) = true then (laws_FnSieveMeetsMore.j1 k bt1853.2.2.2.2.2.1 bt1853.2.2.2.2.2.2 bt1863.1 t1865 true bt1853.1 bt1853.2.1 bt1853.2.2.1 bt1853.2.2.2.1 bt1853.2.2.2.2.1) else (laws_FnSieveMeetsMore.j1 k bt1853.2.2.2.2.2.1 bt1853.2.2.2.2.2.2 bt1863.1 t1865 (!t1865) bt1853.1 bt1853.2.1 bt1853.2.2.1 bt1853.2.2.2.1 bt1853.2.2.2.2.1))))))
def laws_FnSieveMeetsMore.j1 : Nat → ByteArray → ByteArray → ByteArray → Bool → Bool → ByteArray → ByteArray → ByteArray → List ByteArray → Int → Option (Bool)
  | 0, _, _, _, _, _, _, _, _, _, _ => none
  | k + 1, x6, x7, x8, x10, x43, x1863000, x1863001, x1863002, x1863003, x1863004 => if x43 = true then ((spec_SieveMeets.f k x1863000 x1863001 x1863002 x1863003 x1863004 x6 x7).bind fun t1867 => (some (x10 == t1867))) else (if (Op.bytesLess x6.toList x8.toList) = true then (if (Op.bytesLess x8.toList x7.toList) = true then (some true) else ((impl_SieveMeets.f k x1863000 x1863001 x1863002 x1863003 x1863004 x6 x8).bind fun t1868 => (some t1868))) else ((impl_SieveMeets.f k x1863000 x1863001 x1863002 x1863003 x1863004 x8 x7).bind fun t1869 => (if t1869 = true then (if (Op.bytesLess x8.toList x7.toList) = true then (some true) else ((impl_SieveMeets.f k x1863000 x1863001 x1863002 x1863003 x1863004 x6 x8).bind fun t1870 => (some t1870))) else (some false))))
end
def laws_FnSieveMeetsMore.f (k : Nat) (l0 : List Int) (l1 : List Int) : Option (Bool) := if (l0.length : Int) > 1048576 then (laws_FnSieveMeetsMore.j0 k l0 l1 true) else (laws_FnSieveMeetsMore.j0 k l0 l1 (decide ((l1.length : Int) > 1048576)))
def laws_FnSieveMeetsMore.Pure : Prop := ∀ (l0 : List Int) (l1 : List Int), l0.length ≤ maxLen → l0.length * 1 ≤ 140737488351232 → (∀ x ∈ l0, (Lit.int .u8 x).wf = true) → l1.length ≤ maxLen → l1.length * 1 ≤ 140737488351232 → (∀ x ∈ l1, (Lit.int .u8 x).wf = true) → ∃ k, laws_FnSieveMeetsMore.f k l0 l1 = some true
def spec_DrawSieveSeek.f (k : Nat) (l0 : List Int) : Option (ByteArray × ByteArray × ByteArray × List ByteArray × Int × ByteArray) := (spec_DrawSieveHas.f k l0).bind fun bt1872 => (some (bt1872.1, bt1872.2.1, bt1872.2.2.1, bt1872.2.2.2.1, bt1872.2.2.2.2.1, bt1872.2.2.2.2.2))
def laws_FnSieveSeek.j0 : Nat → ByteArray → ByteArray → Bool → ByteArray → Bool → Bool → ByteArray → ByteArray → ByteArray → List ByteArray → Int → Option (Bool)
  | 0, _, _, _, _, _, _, _, _, _, _, _ => none
  | k + 1, x4, x5, x6, x7, x8, x40, x1889000, x1889001, x1889002, x1889003, x1889004 => if x40 = true then (if (x8 == x6) = true then (some (x7.toList == x5.toList)) else (some false)) else ((impl_SieveHeads.f k x1889000 x1889001 x1889002 x1889003 x1889004).bind fun t1893 => ((laws_ltIn.f k t1893 x7).bind fun t1896 => (if t1896 = true then (if ((Op.bytesLess x7.toList x4.toList) = true) then ((impl_KeyBegins.f x4 x7).bind fun t1897 => (if t1897 = true then ((impl_SieveMeets.f k x1889000 x1889001 x1889002 x1889003 x1889004 x4 (⟨#[100, 100, 100, 100, 100]⟩ : ByteArray)).bind fun t1898 => (some t1898)) else (some false))) else ((impl_SieveMeets.f k x1889000 x1889001 x1889002 x1889003 x1889004 x4 (⟨#[100, 100, 100, 100, 100]⟩ : ByteArray)).bind fun t1899 => (some t1899))) else (some false))))
def laws_FnSieveSeek.f (k : Nat) (l0 : List Int) : Option (Bool) := if (l0.length : Int) > 1048576 then (some true) else ((spec_DrawSieveSeek.f k l0).bind fun bt1880 => ((spec_SieveSeek.f k bt1880.1 bt1880.2.1 bt1880.2.2.1 bt1880.2.2.2.1 bt1880.2.2.2.2.1 bt1880.2.2.2.2.2).bind fun bt1889 => ((impl_SieveSeek.f k bt1880.1 bt1880.2.1 bt1880.2.2.1 bt1880.2.2.2.1 bt1880.2.2.2.2.1 bt1880.2.2.2.2.2).bind fun bt1891 => (if (bt1891.2 != bt1889.2) = true then (laws_FnSieveSeek.j0 k bt1880.2.2.2.2.2 bt1889.1 bt1889.2 bt1891.1 bt1891.2 true bt1880.1 bt1880.2.1 bt1880.2.2.1 bt1880.2.2.2.1 bt1880.2.2.2.2.1) else (if bt1891.1.toList = bt1889.1.toList then (laws_FnSieveSeek.j0 k bt1880.2.2.2.2.2 bt1889.1 bt1889.2 bt1891.1 bt1891.2 (!bt1891.2) bt1880.1 bt1880.2.1 bt1880.2.2.1 bt1880.2.2.2.1 bt1880.2.2.2.2.1) else (laws_FnSieveSeek.j0 k bt1880.2.2.2.2.2 bt1889.1 bt1889.2 bt1891.1 bt1891.2 true bt1880.1 bt1880.2.1 bt1880.2.2.1 bt1880.2.2.2.1 bt1880.2.2.2.2.1))))))
def laws_FnSieveSeek.Pure : Prop := ∀ (l0 : List Int), l0.length ≤ maxLen → l0.length * 1 ≤ 140737488351232 → (∀ x ∈ l0, (Lit.int .u8 x).wf = true) → ∃ k, laws_FnSieveSeek.f k l0 = some true
mutual
def laws_FnSieveHas.j0 : Nat → ByteArray → Bool → Bool → ByteArray → ByteArray → ByteArray → List ByteArray → Int → Option (Bool)
  | 0, _, _, _, _, _, _, _, _ => none
  | k + 1, x4, x5, x34, x1909000, x1909001, x1909002, x1909003, x1909004 => if x34 = true then ((spec_SieveHas.f k x1909000 x1909001 x1909002 x1909003 x1909004 x4).bind fun t1913 => (some (x5 == t1913))) else ((impl_SieveHeads.f k x1909000 x1909001 x1909002 x1909003 x1909004).bind fun t1914 => (laws_FnSieveHas.l0 k x4 x5 t1914 false 0))
def laws_FnSieveHas.l0 : Nat → ByteArray → Bool → List ByteArray → Bool → Int → Option (Bool)
  | 0, _, _, _, _, _ => none
  | k + 1, x4, x5, x6, x7, x8 => if x8 < (x6.length : Int) then (if x7 = true then (laws_FnSieveHas.l0 k x4 x5 x6 true (wrap64 (x8 + 1))) else (if 0 ≤ x8 then ((impl_KeyBegins.f x4 (rdOf ByteArray.empty x6 x8)).bind fun t1918 => (laws_FnSieveHas.l0 k x4 x5 x6 t1918 (wrap64 (x8 + 1)))) else (none))) else (if x5 = true then (if x7 = true then ((laws_ltIn.f k x6 x4).bind fun t1919 => (if t1919 = true then (some x5) else (some true))) else (some false)) else ((laws_ltIn.f k x6 x4).bind fun t1920 => (if t1920 = true then (some x5) else (some true))))
end
def laws_FnSieveHas.f (k : Nat) (l0 : List Int) : Option (Bool) := if (l0.length : Int) > 1048576 then (some true) else ((spec_DrawSieveHas.f k l0).bind fun bt1900 => ((impl_SieveHas.f k bt1900.1 bt1900.2.1 bt1900.2.2.1 bt1900.2.2.2.1 bt1900.2.2.2.2.1 bt1900.2.2.2.2.2).bind fun t1909 => ((spec_SieveHas.f k bt1900.1 bt1900.2.1 bt1900.2.2.1 bt1900.2.2.2.1 bt1900.2.2.2.2.1 bt1900.2.2.2.2.2).bind fun t1910 => (if (t1909 != t1910) = true then (laws_FnSieveHas.j0 k bt1900.2.2.2.2.2 t1909 true bt1900.1 bt1900.2.1 bt1900.2.2.1 bt1900.2.2.2.1 bt1900.2.2.2.2.1) else ((spec_SieveOk.f k bt1900.1 bt1900.2.1 bt1900.2.2.1 bt1900.2.2.2.1 bt1900.2.2.2.2.1).bind fun t1911 => (if t1911 = true then ((spec_KeyOk.f k bt1900.2.2.2.2.2).bind fun t1912 => (laws_FnSieveHas.j0 k bt1900.2.2.2.2.2 t1909 (!t1912) bt1900.1 bt1900.2.1 bt1900.2.2.1 bt1900.2.2.2.1 bt1900.2.2.2.2.1)) else (laws_FnSieveHas.j0 k bt1900.2.2.2.2.2 t1909 true bt1900.1 bt1900.2.1 bt1900.2.2.1 bt1900.2.2.2.1 bt1900.2.2.2.2.1)))))))
def laws_FnSieveHas.Pure : Prop := ∀ (l0 : List Int), l0.length ≤ maxLen → l0.length * 1 ≤ 140737488351232 → (∀ x ∈ l0, (Lit.int .u8 x).wf = true) → ∃ k, laws_FnSieveHas.f k l0 = some true
def laws_FnSieveMeetsHas.j0 : Nat → ByteArray → ByteArray → Bool → Bool → ByteArray → ByteArray → ByteArray → List ByteArray → Int → Option (Bool)
  | 0, _, _, _, _, _, _, _, _, _ => none
  | k + 1, x4, x5, x6, x40, x1931000, x1931001, x1931002, x1931003, x1931004 => if x40 = true then ((spec_SieveMeets.f k x1931000 x1931001 x1931002 x1931003 x1931004 x4 x5).bind fun t1936 => (some (x6 == t1936))) else (if (Op.bytesLess x5.toList x4.toList) = true then (if ((Op.bytesLess x5.toList x4.toList) = true) then (some (!x6)) else (some true)) else (if x6 = true then (if ((Op.bytesLess x5.toList x4.toList) = true) then (some (!x6)) else (some true)) else ((impl_SieveHas.f k x1931000 x1931001 x1931002 x1931003 x1931004 x4).bind fun t1937 => (if t1937 = true then (some false) else ((impl_SieveHas.f k x1931000 x1931001 x1931002 x1931003 x1931004 x5).bind fun t1938 => (if t1938 = true then (some false) else (if ((Op.bytesLess x5.toList x4.toList) = true) then (some (!x6)) else (some true))))))))
def laws_FnSieveMeetsHas.f (k : Nat) (l0 : List Int) : Option (Bool) := if (l0.length : Int) > 1048576 then (some true) else ((spec_DrawSieveMeets.f k l0).bind fun bt1921 => ((impl_SieveMeets.f k bt1921.1 bt1921.2.1 bt1921.2.2.1 bt1921.2.2.2.1 bt1921.2.2.2.2.1 bt1921.2.2.2.2.2.1 bt1921.2.2.2.2.2.2).bind fun t1931 => ((spec_SieveMeets.f k bt1921.1 bt1921.2.1 bt1921.2.2.1 bt1921.2.2.2.1 bt1921.2.2.2.2.1 bt1921.2.2.2.2.2.1 bt1921.2.2.2.2.2.2).bind fun t1932 => (if (t1931 != t1932) = true then (laws_FnSieveMeetsHas.j0 k bt1921.2.2.2.2.2.1 bt1921.2.2.2.2.2.2 t1931 true bt1921.1 bt1921.2.1 bt1921.2.2.1 bt1921.2.2.2.1 bt1921.2.2.2.2.1) else ((spec_SieveOk.f k bt1921.1 bt1921.2.1 bt1921.2.2.1 bt1921.2.2.2.1 bt1921.2.2.2.2.1).bind fun t1933 => (if t1933 = true then ((spec_KeyOk.f k bt1921.2.2.2.2.2.1).bind fun t1934 => (if t1934 = true then ((spec_KeyOk.f k bt1921.2.2.2.2.2.2).bind fun t1935 => (laws_FnSieveMeetsHas.j0 k bt1921.2.2.2.2.2.1 bt1921.2.2.2.2.2.2 t1931 (!t1935) bt1921.1 bt1921.2.1 bt1921.2.2.1 bt1921.2.2.2.1 bt1921.2.2.2.2.1)) else (laws_FnSieveMeetsHas.j0 k bt1921.2.2.2.2.2.1 bt1921.2.2.2.2.2.2 t1931 true bt1921.1 bt1921.2.1 bt1921.2.2.1 bt1921.2.2.2.1 bt1921.2.2.2.2.1))) else (laws_FnSieveMeetsHas.j0 k bt1921.2.2.2.2.2.1 bt1921.2.2.2.2.2.2 t1931 true bt1921.1 bt1921.2.1 bt1921.2.2.1 bt1921.2.2.2.1 bt1921.2.2.2.2.1)))))))
def laws_FnSieveMeetsHas.Pure : Prop := ∀ (l0 : List Int), l0.length ≤ maxLen → l0.length * 1 ≤ 140737488351232 → (∀ x ∈ l0, (Lit.int .u8 x).wf = true) → ∃ k, laws_FnSieveMeetsHas.f k l0 = some true
mutual
def laws_FnSieveGap.j0 : Nat → List Int → List Int → Bool → Option (Bool)
  | 0, _, _, _ => none
  | k + 1, x0, x1, x18 => if x18 = true then (some true) else ((spec_DrawSieveMeets.f k x0).bind fun bt1939 => ((spec_DrawKeyBegins.f k x1).bind fun bt1949 => ((impl_SieveMeets.f k bt1939.1 bt1939.2.1 bt1939.2.2.1 bt1939.2.2.2.1 bt1939.2.2.2.2.1 bt1939.2.2.2.2.2.1 bt1939.2.2.2.2.2.2).bind fun t1951 => ((spec_SieveMeets.f k bt1939.1 bt1939.2.1 bt1939.2.2.1 bt1939.2.2.2.1 bt1939.2.2.2.2.1 bt1939.2.2.2.2.2.1 bt1939.2.2.2.2.2.2).bind fun t1952 => (if (t1951 != t1952) = true then (laws_FnSieveGap.j1 k bt1939.2.2.2.2.2.1 bt1939.2.2.2.2.2.2 bt1949.1 t1951 true bt1939.1 bt1939.2.1 bt1939.2.2.1 bt1939.2.2.2.1 bt1939.2.2.2.2.1) else (laws_FnSieveGap.j1 k bt1939.2.2.2.2.2.1 bt1939.2.2.2.2.2.2 bt1949.1 t1951 t1951 bt1939.1 bt1939.2.1 bt1939.2.2.1 bt1939.2.2.2.1 bt1939.2.2.2.2.1))))))
def laws_FnSieveGap.j1 : Nat → ByteArray → ByteArray → ByteArray → Bool → Bool → ByteArray → ByteArray → ByteArray → List ByteArray → Int → Option (Bool)
  | 0, _, _, _, _, _, _, _, _, _, _ => none
  | k + 1, x6, x7, x8, x10, x42, x1949000, x1949001, x1949002, x1949003, x1949004 => if x42 = true then ((spec_SieveMeets.f k x1949000 x1949001 x1949002 x1949003 x1949004 x6 x7).bind fun t1953 => (some (x10 == t1953))) else (if (Op.bytesLess x8.toList x6.toList) = true then (some true) else (if (Op.bytesLess x7.toList x8.toList) = true then (some true) else ((impl_SieveHas.f k x1949000 x1949001 x1949002 x1949003 x1949004 x8).bind fun t1954 => (if t1954 = true then (some false) else ((impl_SieveMeets.f k x1949000 x1949001 x1949002 x1949003 x1949004 x6 x8).bind fun t1955 => (if t1955 = true then (some false) else ((impl_SieveMeets.f k x1949000 x1949001 x1949002 x1949003 x1949004 x8 x7).bind fun t1956 => (some (!t1956)))))))))
end
def laws_FnSieveGap.f (k : Nat) (l0 : List Int) (l1 : List Int) : Option (Bool) := if (l0.length : Int) > 1048576 then (laws_FnSieveGap.j0 k l0 l1 true) else (laws_FnSieveGap.j0 k l0 l1 (decide ((l1.length : Int) > 1048576)))
def laws_FnSieveGap.Pure : Prop := ∀ (l0 : List Int) (l1 : List Int), l0.length ≤ maxLen → l0.length * 1 ≤ 140737488351232 → (∀ x ∈ l0, (Lit.int .u8 x).wf = true) → l1.length ≤ maxLen → l1.length * 1 ≤ 140737488351232 → (∀ x ∈ l1, (Lit.int .u8 x).wf = true) → ∃ k, laws_FnSieveGap.f k l0 l1 = some true
end Go.Proofs.Ytonagfbadoacjaa.Q
end
section
namespace Go.Proofs.Ytonagfbadoacjaa.Q
open Go.RowKit Go.Proofs.YtonagfbadoacjaaW.PrintWords Go.Proofs.YtonagfbadoacjaaW.PrintLast Go.Proofs.YtonagfbadoacjaaW.PrintMore
attribute [local go_sem] max2_int min2_int max_two min_two max_three min_three max_four min_four   
set_option linter.unusedVariables false
set_option linter.unusedSimpArgs false
set_option maxHeartbeats 8000000 in
set_option maxRecDepth 100000 in
theorem spec_l6In.calls (a0 : Int) (a1 : Int) (a2 : Int) (r : Bool) (w : World) (h : spec_l6In.f a0 a1 a2 = some r) :
    Calls Try.prog 98 #[.int .i64 a0, .int .i64 a1, .int .i64 a2] w fun e w' => e = .returned (.bool r) ∧ Drawn0 w w' := by
  have H : (if a0 ≥ a1 then (some (decide (a0 ≤ a2))) else (some false)) = some r := h
  clear h
  by_cases c4 : a0 ≥ a1
  · rw [if_pos c4] at H
    have c4b0 : decide (a1 ≤ a0) = true := decide_eq_true c4
    clear c4
    obtain rfl := Option.some.inj H
    go_enter Try.func98, Try.ntmps98
    go_wp2
    go_ret
    exact ⟨zf, by repeat (first | exact Drawn0.refl _ | apply Drawn0.step)⟩
  · rw [if_neg c4] at H
    have c4b0 : decide (a1 ≤ a0) = false := decide_eq_false c4
    clear c4
    obtain rfl := Option.some.inj H
    go_enter Try.func98, Try.ntmps98
    go_wp2
    go_ret
    exact ⟨zf, by repeat (first | exact Drawn0.refl _ | apply Drawn0.step)⟩
end Go.Proofs.Ytonagfbadoacjaa.Q
end
section
namespace Go.Proofs.Ytonagfbadoacjaa.Q
open Go.RowKit Go.Proofs.YtonagfbadoacjaaW.PrintWords Go.Proofs.YtonagfbadoacjaaW.PrintLast Go.Proofs.YtonagfbadoacjaaW.PrintMore
attribute [local go_sem] max2_int min2_int max_two min_two max_three min_three max_four min_four   
set_option linter.unusedVariables false
set_option linter.unusedSimpArgs false
theorem spec_KeyOk.mono_l : ∀ k, (∀ y0 y1, LeO (spec_KeyOk.l0 k y0 y1) (spec_KeyOk.l0 (k + 1) y0 y1))
  | 0 => fun _ _ r h => by simp [spec_KeyOk.l0] at h
  | k + 1 => by
    have ih0 := spec_KeyOk.mono_l k
    · intro y0 y1
      unfold spec_KeyOk.l0
      repeat' first
      | (with_reducible exact ih0 _ _)
      | (with_reducible exact LeO.refl _)
      | (with_reducible exact LeO.none _)
      | (with_reducible refine LeO.ite ?_ ?_)
      | (with_reducible refine LeO.bind ?_ (fun _ => ?_))
      | exact ih0 _ _
      | exact LeO.none _
      | refine LeO.ite ?_ ?_
      | refine LeO.bind ?_ (fun _ => ?_)
theorem spec_KeyOk.mono : ∀ a0 k, LeO (spec_KeyOk.f k a0) (spec_KeyOk.f (k + 1) a0) := by
  intro a0 k
  have ih0 := spec_KeyOk.mono_l k
  unfold spec_KeyOk.f
  repeat' first
      | (with_reducible exact ih0 _ _)
      | (with_reducible exact LeO.refl _)
      | (with_reducible exact LeO.none _)
      | (with_reducible refine LeO.ite ?_ ?_)
      | (with_reducible refine LeO.bind ?_ (fun _ => ?_))
      | exact ih0 _ _
      | exact LeO.none _
      | refine LeO.ite ?_ ?_
      | refine LeO.bind ?_ (fun _ => ?_)
set_option maxHeartbeats 8000000 in
set_option maxRecDepth 100000 in
theorem spec_KeyOk.calls (k : Nat) (a0 : ByteArray) (r : Bool) (w : World) (h : spec_KeyOk.f k a0 = some r) :
    Calls Try.prog 47 #[.string a0] w fun e w' => e = .returned (.bool r) ∧ Drawn0 w w' := by
  have H : (spec_KeyOk.l0 k a0 0) = some r := h
  clear h
  have H' := Aside0.mk H
  clear H
  go_enter Try.func47, Try.ntmps47
  go_wp2
  go_loopg [3] k (fun kq v3 w' => ∃ (x3_1 : Int), v3 = .int .i64 x3_1 ∧ Aside0 (spec_KeyOk.l0 kq a0 x3_1 = some r) ∧ Aside0 (kq ≤ k) ∧ Drawn0 w w')
  case atStart => exact ⟨(0), zf, H', ⟨Nat.le_refl _⟩, by repeat (first | exact Drawn0.refl _ | apply Drawn0.step)⟩
  case round =>
    clear H'
    obtain ⟨x3_1, rfl, HA, HK1, ⟨m1, rfl⟩⟩ := hrel
    cases gk with
    | zero => exact absurd HA.out (by simp [spec_KeyOk.l0])
    | succ k1 =>
      have H := HA.out
      clear HA
      simp only [spec_KeyOk.l0] at H
      by_cases c2 : x3_1 < (a0.size : Int)
      · rw [if_pos c2] at H
        have c2b0 : decide (x3_1 < (a0.size : Int)) = true := decide_eq_true c2
        clear c2
        by_cases c3 : 0 ≤ x3_1
        · rw [if_pos c3] at H
          have c3b0 : decide (0 ≤ x3_1) = true := decide_eq_true c3
          clear c3
          replace H := Option.bind_eq_some_iff.mp H
          obtain ⟨t116, A50, H⟩ := H
          (try dsimp only at H)
          have A5 := Aside0.mk A50
          clear A50
          by_cases c6 : t116 = true
          · subst c6
            have H1 : (spec_KeyOk.l0 k1 a0 (wrap64 (x3_1 + 1))) = some r := by rw [if_pos rfl] at H; exact H
            clear H
            have H := H1
            clear H1
            have H' := Aside0.mk H
            clear H
            have p4 : 0 ≤ (x3_1 : Int) := zd
            have q4 : x3_1 < (a0.size : Int) := zd
            have hx4 := bt_at a0 x3_1
            replace p4 := eq_true p4
            replace q4 := eq_true q4
            go_wp2_with (first | ((with_reducible refine gate_callee (f := 98) rfl ?_); refine goesL_ (some 14) rfl rfl Try.func98 (by kernel_rfl) rfl #[.int .i64 (wrap64 (bt a0 x3_1)), .int .i64 97, .int .i64 100] rfl (by (try simp only [List.map_toArray, List.map_cons, List.map_nil]); first | done | rfl | (simp only [List.length_drop, List.length_take]; rfl)) ?_; (with_reducible refine (spec_l6In.calls (wrap64 (bt a0 x3_1)) 97 100 true _ A5.out).mono ?_); rintro e w' ⟨rfl, ⟨nd, rfl⟩⟩; refine ⟨_, rfl, ?_⟩))
            go_roundg k1
            case measure => have := HK1.out; omega
            case rel => exact ⟨(wrap64 (x3_1 + 1)), zf, H', ⟨by have := HK1.out; omega⟩, by repeat (first | exact Drawn0.refl _ | apply Drawn0.step)⟩
          · replace c6 := Bool.eq_false_iff.mpr c6
            subst c6
            have H1 : (some false) = some r := by rw [if_neg (show ¬ (false = true) by decide)] at H; exact H
            clear H
            have H := H1
            clear H1
            obtain rfl := Option.some.inj H
            have p4 : 0 ≤ (x3_1 : Int) := zd
            have q4 : x3_1 < (a0.size : Int) := zd
            have hx4 := bt_at a0 x3_1
            replace p4 := eq_true p4
            replace q4 := eq_true q4
            go_wp2_with (first | ((with_reducible refine gate_callee (f := 98) rfl ?_); refine goesL_ (some 14) rfl rfl Try.func98 (by kernel_rfl) rfl #[.int .i64 (wrap64 (bt a0 x3_1)), .int .i64 97, .int .i64 100] rfl (by (try simp only [List.map_toArray, List.map_cons, List.map_nil]); first | done | rfl | (simp only [List.length_drop, List.length_take]; rfl)) ?_; (with_reducible refine (spec_l6In.calls (wrap64 (bt a0 x3_1)) 97 100 false _ A5.out).mono ?_); rintro e w' ⟨rfl, ⟨nd, rfl⟩⟩; refine ⟨_, rfl, ?_⟩))
            go_ret
            exact ⟨zf, by repeat (first | exact Drawn0.refl _ | apply Drawn0.step)⟩
        · rw [if_neg c3] at H
          exact absurd H (by simp)
      · rw [if_neg c2] at H
        have c2b0 : decide (x3_1 < (a0.size : Int)) = false := decide_eq_false c2
        clear c2
        obtain rfl := Option.some.inj H
        go_wp2
        go_ret
        exact ⟨zf, by repeat (first | exact Drawn0.refl _ | apply Drawn0.step)⟩
end Go.Proofs.Ytonagfbadoacjaa.Q
end
section
namespace Go.Proofs.Ytonagfbadoacjaa.Q
open Go.RowKit Go.Proofs.YtonagfbadoacjaaW.PrintWords Go.Proofs.YtonagfbadoacjaaW.PrintLast Go.Proofs.YtonagfbadoacjaaW.PrintMore
attribute [local go_sem] max2_int min2_int max_two min_two max_three min_three max_four min_four   
set_option linter.unusedVariables false
set_option linter.unusedSimpArgs false
theorem spec_KeysOk.mono_l : ∀ k, (∀ y0 y1, LeO (spec_KeysOk.l0 k y0 y1) (spec_KeysOk.l0 (k + 1) y0 y1))
  | 0 => fun _ _ r h => by simp [spec_KeysOk.l0] at h
  | k + 1 => by
    have ih0 := spec_KeysOk.mono_l k
    · intro y0 y1
      unfold spec_KeysOk.l0
      repeat' first
      | (with_reducible exact ih0 _ _)
      | (with_reducible exact spec_KeyOk.mono _ _)
      | (with_reducible exact LeO.refl _)
      | (with_reducible exact LeO.none _)
      | (with_reducible refine LeO.ite ?_ ?_)
      | (with_reducible refine LeO.bind ?_ (fun _ => ?_))
      | exact ih0 _ _
      | exact spec_KeyOk.mono _ _
      | exact LeO.none _
      | refine LeO.ite ?_ ?_
      | refine LeO.bind ?_ (fun _ => ?_)
theorem spec_KeysOk.mono : ∀ a0 k, LeO (spec_KeysOk.f k a0) (spec_KeysOk.f (k + 1) a0) := by
  intro a0 k
  have ih0 := spec_KeysOk.mono_l k
  unfold spec_KeysOk.f
  repeat' first
      | (with_reducible exact ih0 _ _)
      | (with_reducible exact spec_KeyOk.mono _ _)
      | (with_reducible exact LeO.refl _)
      | (with_reducible exact LeO.none _)
      | (with_reducible refine LeO.ite ?_ ?_)
      | (with_reducible refine LeO.bind ?_ (fun _ => ?_))
      | exact ih0 _ _
      | exact spec_KeyOk.mono _ _
      | exact LeO.none _
      | refine LeO.ite ?_ ?_
      | refine LeO.bind ?_ (fun _ => ?_)
set_option maxHeartbeats 8000000 in
set_option maxRecDepth 100000 in
theorem spec_KeysOk.calls (k : Nat) (A0 : Option Addr) (c0 : Nat) (l0 : List ByteArray) (r : Bool) (w : World) (hr0 : Kd.C Kd.string w A0 l0.length l0) (hc0 : l0.length ≤ c0) (h : spec_KeysOk.f k l0 = some r) :
    Calls Try.prog 51 #[.slice A0 l0.length c0] w fun e w' => e = .returned (.bool r) ∧ Drawn0 w w' := by
  have HR0 := Aside0.mk hr0
  have HC0 := Aside0.mk hc0
  clear hr0 hc0
  have H : (spec_KeysOk.l0 k l0 0) = some r := h
  clear h
  have H' := Aside0.mk H
  clear H
  go_enter Try.func51, Try.ntmps51
  go_wp2
  repeat (go_quiet (fail); try go_wp2)
  go_loopg [3] k (fun kq v3 w' => ∃ (x3_1 : Int), v3 = .int .i64 x3_1 ∧ Aside0 (spec_KeysOk.l0 kq l0 x3_1 = some r) ∧ Aside0 (kq ≤ k) ∧ Drawn0 w w')
  case atStart => exact ⟨(0), zf, H', ⟨Nat.le_refl _⟩, by repeat (first | exact Drawn0.refl _ | apply Drawn0.step)⟩
  case round =>
    clear H'
    obtain ⟨x3_1, rfl, HA, HK1, ⟨m1, rfl⟩⟩ := hrel
    cases gk with
    | zero => exact absurd HA.out (by simp [spec_KeysOk.l0])
    | succ k1 =>
      have H := HA.out
      clear HA
      simp only [spec_KeysOk.l0] at H
      by_cases c2 : x3_1 < (l0.length : Int)
      · rw [if_pos c2] at H
        have c2b0 : decide (x3_1 < (l0.length : Int)) = true := decide_eq_true c2
        clear c2
        by_cases c3 : 0 ≤ x3_1
        · rw [if_pos c3] at H
          have c3b0 : decide (0 ≤ x3_1) = true := decide_eq_true c3
          clear c3
          replace H := Option.bind_eq_some_iff.mp H
          obtain ⟨t118, A40, H⟩ := H
          (try dsimp only at H)
          have A4 := Aside0.mk A40
          clear A40
          by_cases c5 : t118 = true
          · subst c5
            have H1 : (if x3_1 > 0 then (if 0 ≤ (wrap64 (x3_1 - 1)) then (if (wrap64 (x3_1 - 1)) < (l0.length : Int) then (if ((Op.bytesLess ((rdOf ByteArray.empty l0 (wrap64 (x3_1 - 1))).toList) ((rdOf ByteArray.empty l0 x3_1).toList)) = true) then (spec_KeysOk.l0 k1 l0 (wrap64 (x3_1 + 1))) else (some false)) else (none)) else (none)) else (spec_KeysOk.l0 k1 l0 (wrap64 (x3_1 + 1)))) = some r := by rw [if_pos rfl] at H; exact H
            clear H
            have H := H1
            clear H1
            by_cases c6 : x3_1 > 0
            · rw [if_pos c6] at H
              have c6b0 : decide (0 < x3_1) = true := decide_eq_true c6
              clear c6
              obtain ⟨ji7, hji7⟩ : ∃ j_ : Int, (wrap64 (x3_1 - 1)) = j_ := ⟨_, rfl⟩
              replace H : (if 0 ≤ (ji7) then (if (ji7) < (l0.length : Int) then (if ((Op.bytesLess ((rdOf ByteArray.empty l0 (ji7)).toList) ((rdOf ByteArray.empty l0 x3_1).toList)) = true) then (spec_KeysOk.l0 k1 l0 (wrap64 (x3_1 + 1))) else (some false)) else (none)) else (none)) = some r := by first | (rw [hji7] at H; exact H) | (simp only [hji7] at H ⊢; exact H)
              (try rw [hji7] at A4)
              have hji7w : (IntKind.i64.wrap (x3_1 - 1)) = ji7 := (i64_w _).trans hji7
              by_cases c8 : 0 ≤ (ji7)
              · rw [if_pos c8] at H
                have c8b0 : decide (0 ≤ (ji7)) = true := decide_eq_true c8
                clear c8
                by_cases c9 : (ji7) < (l0.length : Int)
                · rw [if_pos c9] at H
                  have c9b0 : decide ((ji7) < (l0.length : Int)) = true := decide_eq_true c9
                  clear c9
                  have p117 : 0 ≤ (x3_1 : Int) := zd
                  have q117 : x3_1 < (l0.length : Int) := zd
                  obtain ⟨ad117, e117, hx117_0⟩ := Kd.at_string HR0.out x3_1 p117 q117
                  cases e117
                  replace p117 := eq_true p117
                  replace q117 := eq_true q117
                  go_upto_if 31 with (first | (go_at_call 47; (with_reducible refine (spec_KeyOk.calls k1 (rdOf ByteArray.empty l0 x3_1) true _ A4.out).mono ?_); rintro e w' ⟨rfl, ⟨nd, rfl⟩⟩; (try first | exact ⟨rfl, _, World.drewN_drewN _ _ _⟩ | exact ⟨rfl, _, Eq.trans (World.drewN_drewN _ _ _) (congrArg (World.drewN _) (Nat.add_assoc _ _ _))⟩); have p119 : 0 ≤ ((ji7) : Int) := zd; have q119 : (ji7) < (l0.length : Int) := zd; obtain ⟨ad119, e119, hx119_0⟩ := Kd.at_string HR0.out (ji7) p119 q119; obtain rfl : ad117 = ad119 := (by injection e119); replace p119 := eq_true p119; replace q119 := eq_true q119; have p120 : 0 ≤ (x3_1 : Int) := zd; have q120 : x3_1 < (l0.length : Int) := zd; obtain ⟨ad120, e120, hx120_0⟩ := Kd.at_string HR0.out x3_1 p120 q120; obtain rfl : ad117 = ad120 := (by injection e120); replace p120 := eq_true p120; replace q120 := eq_true q120))
                  repeat (go_quiet (first | (go_at_call 47; (with_reducible refine (spec_KeyOk.calls k1 (rdOf ByteArray.empty l0 x3_1) true _ A4.out).mono ?_); rintro e w' ⟨rfl, ⟨nd, rfl⟩⟩; (try first | exact ⟨rfl, _, World.drewN_drewN _ _ _⟩ | exact ⟨rfl, _, Eq.trans (World.drewN_drewN _ _ _) (congrArg (World.drewN _) (Nat.add_assoc _ _ _))⟩); have p119 : 0 ≤ ((ji7) : Int) := zd; have q119 : (ji7) < (l0.length : Int) := zd; obtain ⟨ad119, e119, hx119_0⟩ := Kd.at_string HR0.out (ji7) p119 q119; obtain rfl : ad117 = ad119 := (by injection e119); replace p119 := eq_true p119; replace q119 := eq_true q119; have p120 : 0 ≤ (x3_1 : Int) := zd; have q120 : x3_1 < (l0.length : Int) := zd; obtain ⟨ad120, e120, hx120_0⟩ := Kd.at_string HR0.out x3_1 p120 q120; obtain rfl : ad117 = ad120 := (by injection e120); replace p120 := eq_true p120; replace q120 := eq_true q120)); go_upto_if 31 with (first | (go_at_call 47; (with_reducible refine (spec_KeyOk.calls k1 (rdOf ByteArray.empty l0 x3_1) true _ A4.out).mono ?_); rintro e w' ⟨rfl, ⟨nd, rfl⟩⟩; (try first | exact ⟨rfl, _, World.drewN_drewN _ _ _⟩ | exact ⟨rfl, _, Eq.trans (World.drewN_drewN _ _ _) (congrArg (World.drewN _) (Nat.add_assoc _ _ _))⟩); have p119 : 0 ≤ ((ji7) : Int) := zd; have q119 : (ji7) < (l0.length : Int) := zd; obtain ⟨ad119, e119, hx119_0⟩ := Kd.at_string HR0.out (ji7) p119 q119; obtain rfl : ad117 = ad119 := (by injection e119); replace p119 := eq_true p119; replace q119 := eq_true q119; have p120 : 0 ≤ (x3_1 : Int) := zd; have q120 : x3_1 < (l0.length : Int) := zd; obtain ⟨ad120, e120, hx120_0⟩ := Kd.at_string HR0.out x3_1 p120 q120; obtain rfl : ad117 = ad120 := (by injection e120); replace p120 := eq_true p120; replace q120 := eq_true q120)))
                  by_cases c10 : ((Op.bytesLess ((rdOf ByteArray.empty l0 (ji7)).toList) ((rdOf ByteArray.empty l0 x3_1).toList)) = true)
                  · rw [if_pos c10] at H
                    have c10b0 : (Op.bytesLess ((rdOf ByteArray.empty l0 (ji7)).toList) ((rdOf ByteArray.empty l0 x3_1).toList)) = true := c10
                    clear c10
                    (first | rw [c10b0] | (simp only [i64_w, i32_w]; rw [c10b0]) | simp only [*, Bool.not_true, Bool.not_false] | skip)
                    have H' := Aside0.mk H
                    clear H
                    go_wp2
                    repeat (go_quiet (fail); try go_wp2)
                    go_roundg k1
                    case measure => have := HK1.out; omega
                    case rel => exact ⟨(wrap64 (x3_1 + 1)), zf, H', ⟨by have := HK1.out; omega⟩, by repeat (first | exact Drawn0.refl _ | apply Drawn0.step)⟩
                  · rw [if_neg c10] at H
                    have c10b0 : (Op.bytesLess ((rdOf ByteArray.empty l0 (ji7)).toList) ((rdOf ByteArray.empty l0 x3_1).toList)) = false := by simpa using c10
                    clear c10
                    (first | rw [c10b0] | (simp only [i64_w, i32_w]; rw [c10b0]) | simp only [*, Bool.not_true, Bool.not_false] | skip)
                    obtain rfl := Option.some.inj H
                    go_wp2
                    repeat (go_quiet (fail); try go_wp2)
                    go_ret
                    exact ⟨by first | rfl | (simp; done) | (simp only [← hji7] <;> (first | rfl | simp)) | (simp [*]; done), by repeat (first | exact Drawn0.refl _ | apply Drawn0.step)⟩
                · rw [if_neg c9] at H
                  exact absurd H (by simp)
              · rw [if_neg c8] at H
                exact absurd H (by simp)
            · rw [if_neg c6] at H
              have c6b0 : decide (0 < x3_1) = false := decide_eq_false c6
              clear c6
              have H' := Aside0.mk H
              clear H
              have p117 : 0 ≤ (x3_1 : Int) := zd
              have q117 : x3_1 < (l0.length : Int) := zd
              obtain ⟨ad117, e117, hx117_0⟩ := Kd.at_string HR0.out x3_1 p117 q117
              cases e117
              replace p117 := eq_true p117
              replace q117 := eq_true q117
              go_wp2_with (first | (go_at_call 47; (with_reducible refine (spec_KeyOk.calls k1 (rdOf ByteArray.empty l0 x3_1) true _ A4.out).mono ?_); rintro e w' ⟨rfl, ⟨nd, rfl⟩⟩; (try first | exact ⟨rfl, _, World.drewN_drewN _ _ _⟩ | exact ⟨rfl, _, Eq.trans (World.drewN_drewN _ _ _) (congrArg (World.drewN _) (Nat.add_assoc _ _ _))⟩)))
              repeat (go_quiet (first | (go_at_call 47; (with_reducible refine (spec_KeyOk.calls k1 (rdOf ByteArray.empty l0 x3_1) true _ A4.out).mono ?_); rintro e w' ⟨rfl, ⟨nd, rfl⟩⟩; (try first | exact ⟨rfl, _, World.drewN_drewN _ _ _⟩ | exact ⟨rfl, _, Eq.trans (World.drewN_drewN _ _ _) (congrArg (World.drewN _) (Nat.add_assoc _ _ _))⟩))); try go_wp2_with (first | (go_at_call 47; (with_reducible refine (spec_KeyOk.calls k1 (rdOf ByteArray.empty l0 x3_1) true _ A4.out).mono ?_); rintro e w' ⟨rfl, ⟨nd, rfl⟩⟩; (try first | exact ⟨rfl, _, World.drewN_drewN _ _ _⟩ | exact ⟨rfl, _, Eq.trans (World.drewN_drewN _ _ _) (congrArg (World.drewN _) (Nat.add_assoc _ _ _))⟩))))
              go_roundg k1
              case measure => have := HK1.out; omega
              case rel => exact ⟨(wrap64 (x3_1 + 1)), zf, H', ⟨by have := HK1.out; omega⟩, by repeat (first | exact Drawn0.refl _ | apply Drawn0.step)⟩
          · replace c5 := Bool.eq_false_iff.mpr c5
            subst c5
            have H1 : (some false) = some r := by rw [if_neg (show ¬ (false = true) by decide)] at H; exact H
            clear H
            have H := H1
            clear H1
            obtain rfl := Option.some.inj H
            have p117 : 0 ≤ (x3_1 : Int) := zd
            have q117 : x3_1 < (l0.length : Int) := zd
            obtain ⟨ad117, e117, hx117_0⟩ := Kd.at_string HR0.out x3_1 p117 q117
            cases e117
            replace p117 := eq_true p117
            replace q117 := eq_true q117
            go_wp2_with (first | (go_at_call 47; (with_reducible refine (spec_KeyOk.calls k1 (rdOf ByteArray.empty l0 x3_1) false _ A4.out).mono ?_); rintro e w' ⟨rfl, ⟨nd, rfl⟩⟩; (try first | exact ⟨rfl, _, World.drewN_drewN _ _ _⟩ | exact ⟨rfl, _, Eq.trans (World.drewN_drewN _ _ _) (congrArg (World.drewN _) (Nat.add_assoc _ _ _))⟩)))
            repeat (go_quiet (first | (go_at_call 47; (with_reducible refine (spec_KeyOk.calls k1 (rdOf ByteArray.empty l0 x3_1) false _ A4.out).mono ?_); rintro e w' ⟨rfl, ⟨nd, rfl⟩⟩; (try first | exact ⟨rfl, _, World.drewN_drewN _ _ _⟩ | exact ⟨rfl, _, Eq.trans (World.drewN_drewN _ _ _) (congrArg (World.drewN _) (Nat.add_assoc _ _ _))⟩))); try go_wp2_with (first | (go_at_call 47; (with_reducible refine (spec_KeyOk.calls k1 (rdOf ByteArray.empty l0 x3_1) false _ A4.out).mono ?_); rintro e w' ⟨rfl, ⟨nd, rfl⟩⟩; (try first | exact ⟨rfl, _, World.drewN_drewN _ _ _⟩ | exact ⟨rfl, _, Eq.trans (World.drewN_drewN _ _ _) (congrArg (World.drewN _) (Nat.add_assoc _ _ _))⟩))))
            go_ret
            exact ⟨zf, by repeat (first | exact Drawn0.refl _ | apply Drawn0.step)⟩
        · rw [if_neg c3] at H
          exact absurd H (by simp)
      · rw [if_neg c2] at H
        have c2b0 : decide (x3_1 < (l0.length : Int)) = false := decide_eq_false c2
        clear c2
        obtain rfl := Option.some.inj H
        go_wp2
        repeat (go_quiet (fail); try go_wp2)
        go_ret
        exact ⟨zf, by repeat (first | exact Drawn0.refl _ | apply Drawn0.step)⟩
end Go.Proofs.Ytonagfbadoacjaa.Q
end
section
namespace Go.Proofs.Ytonagfbadoacjaa.Q
open Go.RowKit Go.Proofs.YtonagfbadoacjaaW.PrintWords Go.Proofs.YtonagfbadoacjaaW.PrintLast Go.Proofs.YtonagfbadoacjaaW.PrintMore
attribute [local go_sem] max2_int min2_int max_two min_two max_three min_three max_four min_four   
set_option linter.unusedVariables false
set_option linter.unusedSimpArgs false
set_option maxHeartbeats 8000000 in
set_option maxRecDepth 100000 in
theorem spec_l3Letter.callsD (a0 : ByteArray) (a1 : Int) (r : ByteArray) (w : World) (h : spec_l3Letter.f a0 a1 = some r) :
    Calls Try.prog 141 #[.string a0, .int .i64 a1] w fun e w' => e = .returned (.string r) ∧ Drawn0 w w' := by
  have H : (if a1 ≥ (a0.size : Int) then (some (⟨#[45]⟩ : ByteArray)) else (if 0 ≤ a1 then (if a1 ≤ (wrap64 (a1 + 1)) then (if (wrap64 (a1 + 1)) ≤ (a0.size : Int) then (some (a0.extract (a1 : Int).toNat ((wrap64 (a1 + 1)) : Int).toNat)) else (none)) else (none)) else (none))) = some r := h
  clear h
  by_cases c3 : a1 ≥ (a0.size : Int)
  · rw [if_pos c3] at H
    have c3b0 : decide ((a0.size : Int) ≤ a1) = true := decide_eq_true c3
    clear c3
    obtain rfl := Option.some.inj H
    go_enter Try.func141, Try.ntmps141
    go_wp2
    go_ret
    exact ⟨zf, by repeat (first | exact Drawn0.refl _ | apply Drawn0.step)⟩
  · rw [if_neg c3] at H
    have c3b0 : decide ((a0.size : Int) ≤ a1) = false := decide_eq_false c3
    clear c3
    by_cases c4 : 0 ≤ a1
    · rw [if_pos c4] at H
      have c4b0 := eq_true c4
      have c4b1 : decide (0 ≤ a1) = true := decide_eq_true c4
      clear c4
      by_cases c5 : a1 ≤ (wrap64 (a1 + 1))
      · rw [if_pos c5] at H
        have c5b0 := eq_true c5
        have c5b1 : decide (a1 ≤ (wrap64 (a1 + 1))) = true := decide_eq_true c5
        by_cases c6 : (wrap64 (a1 + 1)) ≤ (a0.size : Int)
        · rw [if_pos c6] at H
          have c6b0 := eq_true c6
          have c6b1 : decide ((wrap64 (a1 + 1)) ≤ (a0.size : Int)) = true := decide_eq_true c6
          obtain rfl := Option.some.inj H
          go_enter Try.func141, Try.ntmps141
          go_wp2
          go_ret
          exact ⟨zf, by repeat (first | exact Drawn0.refl _ | apply Drawn0.step)⟩
        · rw [if_neg c6] at H
          exact absurd H (by simp)
      · rw [if_neg c5] at H
        exact absurd H (by simp)
    · rw [if_neg c4] at H
      exact absurd H (by simp)
theorem spec_l3Letter.calls (a0 : ByteArray) (a1 : Int) (r : ByteArray) (w : World) (h : spec_l3Letter.f a0 a1 = some r) :
    Calls Try.prog 141 #[.string a0, .int .i64 a1] w fun e w' => e = .returned (.string r) ∧ Below w.heap.size w w' := by
  exact (spec_l3Letter.callsD a0 a1 r w h).mono fun e w' ⟨he, hw⟩ => ⟨he, hw.below⟩
end Go.Proofs.Ytonagfbadoacjaa.Q
end
section
namespace Go.Proofs.Ytonagfbadoacjaa.Q
open Go.RowKit Go.Proofs.YtonagfbadoacjaaW.PrintWords Go.Proofs.YtonagfbadoacjaaW.PrintLast Go.Proofs.YtonagfbadoacjaaW.PrintMore
attribute [local go_sem] max2_int min2_int max_two min_two max_three min_three max_four min_four   
set_option linter.unusedVariables false
set_option linter.unusedSimpArgs false
theorem spec_l3Group.mono_l : ∀ k, (∀ y0 y1 y2 y3, LeO (spec_l3Group.l0 k y0 y1 y2 y3) (spec_l3Group.l0 (k + 1) y0 y1 y2 y3))
  | 0 => fun _ _ _ _ r h => by simp [spec_l3Group.l0] at h
  | k + 1 => by
    have ih0 := spec_l3Group.mono_l k
    · intro y0 y1 y2 y3
      unfold spec_l3Group.l0
      repeat' first
      | (with_reducible exact ih0 _ _ _ _)
      | (with_reducible exact LeO.refl _)
      | (with_reducible exact LeO.none _)
      | (with_reducible refine LeO.ite ?_ ?_)
      | (with_reducible refine LeO.bind ?_ (fun _ => ?_))
      | exact ih0 _ _ _ _
      | exact LeO.none _
      | refine LeO.ite ?_ ?_
      | refine LeO.bind ?_ (fun _ => ?_)
theorem spec_l3Group.mono : ∀ a0 a1 k, LeO (spec_l3Group.f k a0 a1) (spec_l3Group.f (k + 1) a0 a1) := by
  intro a0 a1 k
  have ih0 := spec_l3Group.mono_l k
  unfold spec_l3Group.f
  repeat' first
      | (with_reducible exact ih0 _ _ _ _)
      | (with_reducible exact LeO.refl _)
      | (with_reducible exact LeO.none _)
      | (with_reducible refine LeO.ite ?_ ?_)
      | (with_reducible refine LeO.bind ?_ (fun _ => ?_))
      | exact ih0 _ _ _ _
      | exact LeO.none _
      | refine LeO.ite ?_ ?_
      | refine LeO.bind ?_ (fun _ => ?_)
def spec_l3Group.T5 : Bool × List (List Nat × List Nat) := (true, [([], []), ([0], [0]), ([], []), ([1, 2], [1, 2]), ([3], [3]), ([], []), ([5], [5]), ([4, 6], [4, 6]), ([], []), ([8], [8]), ([9], [9]), ([10], [10]), ([], []), ([12], [12]), ([11, 13, 7], [11, 13]), ([7, 14], [7, 14])])
def spec_l3Group.B5 : List Nat := [0, 1, 0, 7, 15, 0, 32, 127, 0, 256, 768, 1792, 0, 4096, 16383, 32767]
theorem spec_l3Group.tab5 : rtab .any (opsOf Try.f146 5) = spec_l3Group.T5 := by kernel_rfl
theorem spec_l3Group.bits5 : waitsOk spec_l3Group.T5.2 spec_l3Group.B5 = true := by kernel_rfl
set_option maxHeartbeats 8000000 in
set_option maxRecDepth 100000 in
theorem spec_l3Group.calls (k : Nat) (A0_0 : Option Addr) (c0_0 : Nat) (l0_0 : List ByteArray) (a0_1 : Int) (r : List ByteArray) (w : World) (hr0_0 : Kd.C Kd.string w A0_0 l0_0.length l0_0) (hc0_0 : l0_0.length ≤ c0_0) (h : spec_l3Group.f k l0_0 a0_1 = some r) :
    Calls Try.prog 146 #[.agg #[.slice A0_0 l0_0.length c0_0, .int .i64 a0_1]] w fun e w' => ∃ v0_ : Value, e = .returned (v0_) ∧ Kd.R Kd.string 9 w' w.heap.size (fun _ => True) v0_ r ∧ Below w.heap.size w w' := by
  have hu89 := Try.underlying89
  have HR0_0 := Aside0.mk hr0_0
  have HC0_0 := Aside0.mk hc0_0
  clear hr0_0 hc0_0
  have HB := Aside0.mk (Below.refl w.heap.size w)
  have H : (spec_l3Group.l0 k (([] : List ByteArray)) 0 l0_0 a0_1) = some r := h
  clear h
  obtain ⟨y122, hy122⟩ : ∃ y_ : List ByteArray, y_ = (([] : List ByteArray)) := ⟨_, rfl⟩
  replace H : (spec_l3Group.l0 k y122 0 l0_0 a0_1) = some r := by first | (rw [hy122]; with_reducible exact H) | (have H2_ := (Option.bind_some _ _).symm.trans H; rw [hy122]; with_reducible exact H2_) | (have H2_ := (Option.bind_some _ _).symm.trans H; with_reducible exact H2_) | with_reducible exact H | (rw [hy122]; exact H) | exact H
  have Ny122 := Aside0.mk hy122
  clear hy122
  have H' := Aside0.mk H
  clear H
  go_enter Try.func146, Try.ntmps146
  go_wp2_with (first | ((with_reducible refine gate_dst (N := 1) rfl ?_); refine box_event ?hg (N := 1) ?hd (cs := #[.slice A0_0 l0_0.length c0_0, .int .i64 a0_1]) (t := 89) ?hr ?_; (case hd => rfl); (case hg => rfl); (case hr => first | (go_simp; done) | (go_simp; rfl)); intro gb121 hg w2 hbox hb; have n0_ := Aside0.mk (below_step (zb HB.out) hb); have n1_ := Aside0.mk (hbox); have n2_ := Aside0.mk ((by rw [hg]; exact (below_size (zb HB.out)) : w.heap.size ≤ gb121)); have n3_ := Aside0.mk ((by rw [hg]; exact (below_size (zb HB.out)) : w.heap.size ≤ gb121)); clear HB; have HB := n0_; have BK121 := n1_; have GW121 := n2_; have GE121 := n3_; clear n0_ n1_ n2_ n3_; clear hb hbox hg) | ((with_reducible refine gate_dst (N := 5) rfl ?_); refine Kd.R_lit Kd.string _ 9 ?hg (N := 5) ?hd (xs := ([] : List ByteArray)) (inner := []) (ok := fun _ => True) (okp := fun _ => True) ?hr ?hp (fun _ hk => hk) trivial (Below.refl _ _) (Nat.le_refl _) (by simp) ?_; (case hd => rfl); (case hg => rfl); (case hr => first | (go_simp; done) | (go_simp; rfl)); (case hp => exact (Reps.none _ _)); intro v123 w3 ho4 hb hg_ hnew_; clear hg_ hnew_; (first | rw [← Ny122.out] at ho4 | (simp only [Int.reduceToNat] at ho4; rw [← Ny122.out] at ho4)); have n0_ := Aside0.mk (Kd.R_lower ho4 (below_size (by repeat (first | (with_reducible first | exact HB.out | apply below_alloc | apply pw_below_drewN | apply below_drew1 | refine below_set ?_ GE121.out) | exact HB.out)))); have n1_ := Aside0.mk (blk_below (g := gb121) (o := .cells #[.slice A0_0 l0_0.length c0_0, .int .i64 a0_1] 89 (0, 0)) (by (with_reducible repeat (first | refine blk_drewN ?_ _ | refine blk_drew ?_ | refine blk_alloc ?_ _)); exact BK121.out) hb); have n2_ := Aside0.mk (below_step (by repeat (first | (with_reducible first | exact HB.out | apply below_alloc | apply pw_below_drewN | apply below_drew1 | refine below_set ?_ GE121.out) | exact HB.out)) hb); clear BK121; clear HB; have HO124 := n0_; have BK121 := n1_; have HB := n2_; clear n0_ n1_ n2_; clear hb ho4))
  go_loopg [3, 4] k (fun kq v3 v4 w' => ∃ (x3_1 : List ByteArray) (x4_1 : Int), v4 = .int .i64 x4_1 ∧ Aside0 (spec_l3Group.l0 kq x3_1 x4_1 l0_0 a0_1 = some r) ∧ Aside0 (kq ≤ k) ∧ Aside0 (Kd.R Kd.string 9 w' w.heap.size (fun _ => True) v3 x3_1) ∧ Aside0 (w'.heap[gb121]? = some (.cells #[(.slice A0_0 l0_0.length c0_0), .int .i64 a0_1] 89 (0, 0))) ∧ Aside0 (Below w.heap.size w w'))
  case atStart => exact ⟨(y122), (0), zf, H', ⟨Nat.le_refl _⟩, ⟨zr HO124.out⟩, ⟨by (with_reducible repeat (first | refine blk_drewN ?_ _ | refine blk_drew ?_ | refine blk_alloc ?_ _)); exact BK121.out⟩, ⟨by repeat (first | (with_reducible first | exact HB.out | apply below_alloc | apply pw_below_drewN | apply below_drew1 | refine below_set ?_ GE121.out) | exact HB.out)⟩⟩
  case round =>
    clear H'
    try clear c1
    try clear p2
    obtain ⟨x3_1, x4_1, rfl, HA, HK1, HO_3, BK121, HB⟩ := hrel
    cases gk with
    | zero => exact absurd HA.out (by simp [spec_l3Group.l0])
    | succ k1 =>
      have H := HA.out
      clear HA
      simp only [spec_l3Group.l0] at H
      by_cases c5 : x4_1 < (l0_0.length : Int)
      · rw [if_pos c5] at H
        have c5b0 : decide (x4_1 < (l0_0.length : Int)) = true := decide_eq_true c5
        clear c5
        by_cases c6 : 0 ≤ x4_1
        · rw [if_pos c6] at H
          have c6b0 : decide (0 ≤ x4_1) = true := decide_eq_true c6
          clear c6
          replace H := Option.bind_eq_some_iff.mp H
          obtain ⟨t126, A70, H⟩ := H
          (try dsimp only at H)
          have A7 := Aside0.mk A70
          clear A70
          by_cases c8 : 0 < (l0_0.length : Int)
          · rw [if_pos c8] at H
            have c8b0 : decide (0 < (l0_0.length : Int)) = true := decide_eq_true c8
            have c8b1 : decide (0 < l0_0.length) = true := decide_eq_true (by omega)
            clear c8
            replace H := Option.bind_eq_some_iff.mp H
            obtain ⟨t128, A90, H⟩ := H
            (try dsimp only at H)
            have A9 := Aside0.mk A90
            clear A90
            have hcz10_0 : wr.cell? ⟨gb121, 0, none⟩ = some (.slice A0_0 l0_0.length c0_0) := (blk_cell BK121.out 0).trans rfl
            have hcz10_1 : wr.cell? ⟨gb121, 1, none⟩ = some (.int .i64 a0_1) := (blk_cell BK121.out 1).trans rfl
            have hfz10_0 := blk_frozen BK121.out 0
            have hfz10_1 := blk_frozen BK121.out 1
            try go_wp2
            have n0_ := Aside0.mk (Kd.R_drew HO_3.out)
            have n1_ := Aside0.mk (blk_drew BK121.out)
            have n2_ := Aside0.mk (below_drew1 HB.out)
            clear HO_3
            clear BK121
            clear HB
            have HO_3 := n0_
            have BK121 := n1_
            have HB := n2_
            clear n0_ n1_ n2_
            have p125 : 0 ≤ (x4_1 : Int) := zd
            have q125 : x4_1 < (l0_0.length : Int) := zd
            obtain ⟨ad125, e125, hx125_0⟩ := Kd.at_string HR0_0.out x4_1 p125 q125
            have hw125_0 := hx125_0
            cases e125
            replace hx125_0 := (HB.out.cell (World.block_lt_of_cell? w _ hx125_0)).trans hx125_0
            replace p125 := eq_true p125
            replace q125 := eq_true q125
            have p127 : 0 ≤ (0 : Int) := (by omega)
            have q127 : 0 < (l0_0.length : Int) := zd
            obtain ⟨ad127, e127, hx127_0⟩ := Kd.at_string HR0_0.out 0 p127 q127
            have hw127_0 := hx127_0
            (try rw [show ((0 : Int)).toNat = 0 from rfl] at hw127_0)
            (try rw [show 0 * 1 = 0 from rfl] at hw127_0)
            (try rw [Addr.add_zero'] at hw127_0)
            obtain rfl : ad125 = ad127 := (by injection e127)
            have qi127 : (0 < l0_0.length) = True := eq_true (by omega)
            (try rw [show ((0 : Int)).toNat = 0 from rfl] at hx127_0)
            (try rw [Addr.add_zero'] at hx127_0)
            replace hx127_0 := (HB.out.cell (World.block_lt_of_cell? w _ hx127_0)).trans hx127_0
            replace p127 := eq_true p127
            replace q127 := eq_true q127
            refine start_ (n := 16) (S := fun w' => w'.cell? ⟨gb121, 0, none⟩ = some (.slice (some ad125) l0_0.length c0_0) ∧ w'.cell? ⟨gb121, 1, none⟩ = some (.int .i64 a0_1) ∧ w'.cell? (ad125.add (x4_1).toNat) = some (.string (rdOf ByteArray.empty l0_0 x4_1)) ∧ w'.cell? ad125 = some (.string (rdOf ByteArray.empty l0_0 0))) (ds := []) (fb 16 0) (by kernel_rfl) rfl rfl ⟨(blk_cell BK121.out 0).trans rfl, (blk_cell BK121.out 1).trans rfl, ((HB.out.cell (World.block_lt_of_cell? w _ hw125_0)).trans hw125_0), ((HB.out.cell (World.block_lt_of_cell? w _ hw127_0)).trans hw127_0)⟩ (fun hHeld => ?_); refine with_tabW spec_l3Group.tab5 spec_l3Group.bits5 (fun HT_ HW_ => ?_)
            generalize wr.drew = w11 at HO_3 BK121 HB hx125_0 hx127_0 hHeld ⊢
            refine pure_ (i := 0) (N := some 13) (v := ?_) (a' := ?_) (fb 16 1) rfl rfl (any_of HT_.out (by kernel_rfl)) (fun _ _ _ h => h) (Or.inl ⟨by rfl, ?_⟩) ?_ ?_
            rotate_left
            · intro w'
              go_simp
              with_reducible rfl
            rotate_left
            · simp only [Act.put, List.setIfInBounds_toArray, List.set_cons_zero, List.set_cons_succ, i64_w, i32_w]
              rfl
            refine pure_ (i := 2) (N := some 15) (v := ?_) (a' := ?_) (fb 16 5) rfl rfl (any_of HT_.out (by kernel_rfl)) (fun _ _ _ h => h) (Or.inl ⟨by rfl, ?_⟩) ?_ ?_
            rotate_left
            · intro w'
              go_simp
              with_reducible rfl
            rotate_left
            · simp only [Act.put, List.setIfInBounds_toArray, List.set_cons_zero, List.set_cons_succ, i64_w, i32_w]
              rfl
            refine pure_ (i := 5) (N := some 18) (v := ?_) (a' := ?_) (fb 16 37) rfl rfl (any_of HT_.out (by kernel_rfl)) (fun _ _ _ h => h) (Or.inl ⟨by rfl, ?_⟩) ?_ ?_
            rotate_left
            · intro w'
              go_simp
              with_reducible rfl
            rotate_left
            · simp only [Act.put, List.setIfInBounds_toArray, List.set_cons_zero, List.set_cons_succ, i64_w, i32_w]
              rfl
            refine pure_ (i := 8) (N := some 21) (v := ?_) (a' := ?_) (fb 16 293) rfl rfl (any_of HT_.out (by kernel_rfl)) (fun _ _ _ h => h) (Or.inl ⟨by rfl, ?_⟩) ?_ ?_
            rotate_left
            · intro w'
              go_simp
              with_reducible rfl
            rotate_left
            · simp only [Act.put, List.setIfInBounds_toArray, List.set_cons_zero, List.set_cons_succ, i64_w, i32_w]
              rfl
            refine pure_ (i := 12) (N := some 25) (v := ?_) (a' := ?_) (fb 16 4389) rfl rfl (any_of HT_.out (by kernel_rfl)) (fun _ _ _ h => h) (Or.inl ⟨by rfl, ?_⟩) ?_ ?_
            rotate_left
            · intro w'
              go_simp
              with_reducible rfl
            rotate_left
            · simp only [Act.put, List.setIfInBounds_toArray, List.set_cons_zero, List.set_cons_succ, i64_w, i32_w]
              rfl
            refine take_ (i := 1) (N := some 14) (v := ?_) (a' := ?_) (fb 16 4391) rfl rfl (take_ofW HT_.out HW_.out (by kernel_rfl)) (fun _ _ _ h => h) (Or.inl ⟨by rfl, ?_⟩) hHeld ?_ ?_
            rotate_left
            · rintro w' ⟨s0, s1, s2, s3⟩
              go_simp
              with_reducible rfl
            rotate_left
            · simp only [Act.put, List.setIfInBounds_toArray, List.set_cons_zero, List.set_cons_succ, i64_w, i32_w]
              rfl
            refine pure_ (i := 3) (N := some 16) (v := ?_) (a' := ?_) (fb 16 4399) rfl rfl (any_of HT_.out (by kernel_rfl)) (fun _ _ _ h => h) (Or.inl ⟨by rfl, ?_⟩) ?_ ?_
            rotate_left
            · intro w'
              go_simp
              with_reducible rfl
            rotate_left
            · simp only [Act.put, List.setIfInBounds_toArray, List.set_cons_zero, List.set_cons_succ, i64_w, i32_w]
              rfl
            refine take_ (i := 4) (N := some 17) (v := ?_) (a' := ?_) (fb 16 4415) rfl rfl (take_ofW HT_.out HW_.out (by kernel_rfl)) (fun _ _ _ h => h) (Or.inl ⟨by rfl, ?_⟩) hHeld ?_ ?_
            rotate_left
            · rintro w' ⟨s0, s1, s2, s3⟩
              go_simp
              with_reducible rfl
            rotate_left
            · simp only [Act.put, List.setIfInBounds_toArray, List.set_cons_zero, List.set_cons_succ, i64_w, i32_w]
              rfl
            refine take_ (i := 6) (N := some 19) (v := ?_) (a' := ?_) (fb 16 4479) rfl rfl (take_ofW HT_.out HW_.out (by kernel_rfl)) (fun _ _ _ h => h) (Or.inl ⟨by rfl, ?_⟩) hHeld ?_ ?_
            rotate_left
            · rintro w' ⟨s0, s1, s2, s3⟩
              go_simp
              with_reducible rfl
            rotate_left
            · simp only [Act.put, List.setIfInBounds_toArray, List.set_cons_zero, List.set_cons_succ, i64_w, i32_w]
              rfl
            refine take_ (i := 9) (N := some 22) (v := ?_) (a' := ?_) (fb 16 4991) rfl rfl (take_ofW HT_.out HW_.out (by kernel_rfl)) (fun _ _ _ h => h) (Or.inl ⟨by rfl, ?_⟩) hHeld ?_ ?_
            rotate_left
            · rintro w' ⟨s0, s1, s2, s3⟩
              go_simp
              with_reducible rfl
            rotate_left
            · simp only [Act.put, List.setIfInBounds_toArray, List.set_cons_zero, List.set_cons_succ, i64_w, i32_w]
              rfl
            refine pure_ (i := 10) (N := some 23) (v := ?_) (a' := ?_) (fb 16 6015) rfl rfl (any_of HT_.out (by kernel_rfl)) (fun _ _ _ h => h) (Or.inl ⟨by rfl, ?_⟩) ?_ ?_
            rotate_left
            · intro w'
              go_simp
              with_reducible rfl
            rotate_left
            · simp only [Act.put, List.setIfInBounds_toArray, List.set_cons_zero, List.set_cons_succ, i64_w, i32_w]
              rfl
            refine take_ (i := 11) (N := some 24) (v := ?_) (a' := ?_) (fb 16 8063) rfl rfl (take_ofW HT_.out HW_.out (by kernel_rfl)) (fun _ _ _ h => h) (Or.inl ⟨by rfl, ?_⟩) hHeld ?_ ?_
            rotate_left
            · rintro w' ⟨s0, s1, s2, s3⟩
              go_simp
              with_reducible rfl
            rotate_left
            · simp only [Act.put, List.setIfInBounds_toArray, List.set_cons_zero, List.set_cons_succ, i64_w, i32_w]
              rfl
            refine take_ (i := 13) (N := some 26) (v := ?_) (a' := ?_) (fb 16 16255) rfl rfl (take_ofW HT_.out HW_.out (by kernel_rfl)) (fun _ _ _ h => h) (Or.inl ⟨by rfl, ?_⟩) hHeld ?_ ?_
            rotate_left
            · rintro w' ⟨s0, s1, s2, s3⟩
              go_simp
              with_reducible rfl
            rotate_left
            · simp only [Act.put, List.setIfInBounds_toArray, List.set_cons_zero, List.set_cons_succ, i64_w, i32_w]
              rfl
            refine one_ (i := 7) (N := some 20) (fb 16 16383) rfl rfl (one_of HT_.out (by kernel_rfl)) (by decide) (fun K hK => ?_)
            refine goes_ Try.func141 (by kernel_rfl) rfl #[.string (rdOf ByteArray.empty l0_0 x4_1), .int .i64 a0_1] (by rfl) rfl rfl (by (try simp only [List.map_toArray, List.map_cons, List.map_nil]); first | done | rfl | (simp only [List.length_drop, List.length_take]; rfl)) ?_
            with_reducible refine (spec_l3Letter.calls (rdOf ByteArray.empty l0_0 x4_1) a0_1 t126 _ A7.out).mono ?_
            rintro e w12 ⟨rfl, hb⟩
            refine ⟨_, rfl, ?_⟩
            have n0_ := Aside0.mk (Kd.R_below (zr HO_3.out) hb)
            have n1_ := Aside0.mk (blk_below (g := gb121) (o := .cells #[.slice (some ad125) l0_0.length c0_0, .int .i64 a0_1] 89 (0, 0)) (by (with_reducible repeat (first | refine blk_drewN ?_ _ | refine blk_drew ?_ | refine blk_alloc ?_ _)); exact BK121.out) hb)
            have n2_ := Aside0.mk (below_step (by repeat (first | (with_reducible first | exact HB.out | apply below_alloc | apply pw_below_drewN | apply below_drew1 | refine below_set ?_ GE121.out) | exact HB.out)) hb)
            clear HO_3
            clear BK121
            clear HB
            have HO_3 := n0_
            have BK121 := n1_
            have HB := n2_
            clear n0_ n1_ n2_
            (try clear hb)
            (try clear hb2)
            (try clear hk)
            (try clear hi)
            refine hK.out _ _ ⟨(blk_cell BK121.out 0).trans rfl, (blk_cell BK121.out 1).trans rfl, ((HB.out.cell (World.block_lt_of_cell? w _ hw125_0)).trans hw125_0), ((HB.out.cell (World.block_lt_of_cell? w _ hw127_0)).trans hw127_0)⟩ (fun hHeld => ?_)
            clear hK K
            refine norm_ (a' := ?_) ?_ ?_
            rotate_left
            · show Act.put _ (some 20) _ = _
              simp only [Act.put, List.setIfInBounds_toArray, List.set_cons_zero, List.set_cons_succ, i64_w, i32_w]
              rfl
            refine one_ (i := 14) (N := some 27) (fb 16 32767) rfl rfl (one_of HT_.out (by kernel_rfl)) (by decide) (fun K hK => ?_)
            refine goes_ Try.func141 (by kernel_rfl) rfl #[.string (rdOf ByteArray.empty l0_0 0), .int .i64 a0_1] (by rfl) rfl rfl (by (try simp only [List.map_toArray, List.map_cons, List.map_nil]); first | done | rfl | (simp only [List.length_drop, List.length_take]; rfl)) ?_
            with_reducible refine (spec_l3Letter.calls (rdOf ByteArray.empty l0_0 0) a0_1 t128 _ A9.out).mono ?_
            rintro e w13 ⟨rfl, hb⟩
            refine ⟨_, rfl, ?_⟩
            have n0_ := Aside0.mk (Kd.R_below (zr HO_3.out) hb)
            have n1_ := Aside0.mk (blk_below (g := gb121) (o := .cells #[.slice (some ad125) l0_0.length c0_0, .int .i64 a0_1] 89 (0, 0)) (by (with_reducible repeat (first | refine blk_drewN ?_ _ | refine blk_drew ?_ | refine blk_alloc ?_ _)); exact BK121.out) hb)
            have n2_ := Aside0.mk (below_step (by repeat (first | (with_reducible first | exact HB.out | apply below_alloc | apply pw_below_drewN | apply below_drew1 | refine below_set ?_ GE121.out) | exact HB.out)) hb)
            clear HO_3
            clear BK121
            clear HB
            have HO_3 := n0_
            have BK121 := n1_
            have HB := n2_
            clear n0_ n1_ n2_
            (try clear hb)
            (try clear hb2)
            (try clear hk)
            (try clear hi)
            refine hK.out _ _ ⟨(blk_cell BK121.out 0).trans rfl, (blk_cell BK121.out 1).trans rfl, ((HB.out.cell (World.block_lt_of_cell? w _ hw125_0)).trans hw125_0), ((HB.out.cell (World.block_lt_of_cell? w _ hw127_0)).trans hw127_0)⟩ (fun hHeld => ?_)
            clear hK K
            refine norm_ (a' := ?_) ?_ ?_
            rotate_left
            · show Act.put _ (some 27) _ = _
              simp only [Act.put, List.setIfInBounds_toArray, List.set_cons_zero, List.set_cons_succ, i64_w, i32_w]
              rfl
            refine pure_ (i := 15) (N := some 28) (v := ?_) (a' := ?_) (fb 16 65535) rfl rfl (any_of HT_.out (by kernel_rfl)) (fun _ _ _ h => h) (Or.inl ⟨by rfl, ?_⟩) ?_ ?_
            rotate_left
            · intro w'
              go_simp
              with_reducible rfl
            rotate_left
            · simp only [Act.put, List.setIfInBounds_toArray, List.set_cons_zero, List.set_cons_succ, i64_w, i32_w]
              rfl
            refine done_ (done_of HT_.out (by kernel_rfl)) ?_
            go_upto_if 28 with (fail)
            by_cases c14 : t126.toList = t128.toList
            · rw [if_pos c14] at H
              have c14b0 : (t126.toList == t128.toList) = true := beq_iff_eq.mpr c14
              have c14b1 : (t126.toList != t128.toList) = false := bne_eq_false_iff_eq.mpr c14
              clear c14
              (first | rw [c14b0] | (simp only [i64_w, i32_w]; rw [c14b0]) | simp only [*, Bool.not_true, Bool.not_false] | skip)
              by_cases c15 : x3_1.length < 8796093022208
              · rw [if_pos c15] at H
                have LMc15 := Aside0.mk c15
                clear c15
                obtain ⟨y130, hy130⟩ : ∃ y_ : List ByteArray, y_ = (x3_1 ++ [rdOf ByteArray.empty l0_0 x4_1]) := ⟨_, rfl⟩
                replace H : (spec_l3Group.l0 k1 y130 (wrap64 (x4_1 + 1)) l0_0 a0_1) = some r := by first | (rw [hy130]; with_reducible exact H) | (have H2_ := (Option.bind_some _ _).symm.trans H; rw [hy130]; with_reducible exact H2_) | (have H2_ := (Option.bind_some _ _).symm.trans H; with_reducible exact H2_) | with_reducible exact H | (rw [hy130]; exact H) | exact H
                have Ny130 := Aside0.mk hy130
                clear hy130
                have H' := Aside0.mk H
                clear H
                have hcz16_0 : w13.cell? ⟨gb121, 0, none⟩ = some (.slice (some ad125) l0_0.length c0_0) := (blk_cell BK121.out 0).trans rfl
                have hcz16_1 : w13.cell? ⟨gb121, 1, none⟩ = some (.int .i64 a0_1) := (blk_cell BK121.out 1).trans rfl
                have hfz16_0 := blk_frozen BK121.out 0
                have hfz16_1 := blk_frozen BK121.out 1
                have p129 : 0 ≤ (x4_1 : Int) := zd
                have q129 : x4_1 < (l0_0.length : Int) := zd
                obtain ⟨ad129, e129, hx129_0⟩ := Kd.at_string HR0_0.out x4_1 p129 q129
                obtain rfl : ad125 = ad129 := (by injection e129)
                replace hx129_0 := (HB.out.cell (World.block_lt_of_cell? w _ hx129_0)).trans hx129_0
                replace p129 := eq_true p129
                replace q129 := eq_true q129
                go_wp2_with (first | ((with_reducible refine gate_builtin (b := .append) (xs := #[.tmp 29, .tmp 35]) rfl ?_); at_builtin; refine Kd.R_append Kd.string (w0 := w) w.heap.size rfl (.tmp 29) (.tmp 35) 26 9 (.string ⟨#[]⟩) 16 rfl Try.underlying26 info9 rfl (by decide) (by omega) u3 x3_1 (rdOf ByteArray.empty l0_0 x4_1) [.string (rdOf ByteArray.empty l0_0 x4_1)] (fun _ => True) (fun _ => False) rfl rfl ?aP (fun _ hk => hk.elim) ?aF ?aO ?aB ?aS ?aL ?_; (case aP => exact rfl); (case aB => exact (by repeat (first | (with_reducible first | exact HB.out | apply below_alloc | apply pw_below_drewN | apply below_drew1 | refine below_set ?_ GE121.out) | exact HB.out))); (case aF => exact (fun _ _ => trivial)); (case aO => exact (zr HO_3.out)); (case aS => exact (below_size (by repeat (first | (with_reducible first | exact HB.out | apply below_alloc | apply pw_below_drewN | apply below_drew1 | refine below_set ?_ GE121.out) | exact HB.out)))); (case aL => have := LMc15.out; omega); intro v131 w17 ho hb hg hat; rw [← Ny130.out] at ho; have n0_ := Aside0.mk (blk_grown (g := gb121) (o := .cells #[.slice (some ad125) l0_0.length c0_0, .int .i64 a0_1] 89 (0, 0)) (by (with_reducible repeat (first | refine blk_drewN ?_ _ | refine blk_drew ?_ | refine blk_alloc ?_ _)); exact BK121.out) hg (Kd.R_ne HO_3.out BK121.out (by decide))); have n1_ := Aside0.mk (hb); have n2_ := Aside0.mk (ho); clear BK121; clear HB; clear HO_3; have BK121 := n0_; have HB := n1_; have HO132 := n2_; clear n0_ n1_ n2_; clear ho hb hg hat))
                go_roundg k1
                case measure => have := HK1.out; omega
                case rel => exact ⟨(y130), (wrap64 (x4_1 + 1)), zf, H', ⟨by have := HK1.out; omega⟩, ⟨zr HO132.out⟩, ⟨by (with_reducible repeat (first | refine blk_drewN ?_ _ | refine blk_drew ?_ | refine blk_alloc ?_ _)); exact BK121.out⟩, ⟨by repeat (first | (with_reducible first | exact HB.out | apply below_alloc | apply pw_below_drewN | apply below_drew1 | refine below_set ?_ GE121.out) | exact HB.out)⟩⟩
              · rw [if_neg c15] at H
                exact absurd H (by simp)
            · rw [if_neg c14] at H
              have c14b0 : (t126.toList == t128.toList) = false := beq_eq_false_iff_ne.mpr c14
              have c14b1 : (t126.toList != t128.toList) = true := bne_iff_ne.mpr c14
              (first | rw [c14b0] | (simp only [i64_w, i32_w]; rw [c14b0]) | simp only [*, Bool.not_true, Bool.not_false] | skip)
              have H' := Aside0.mk H
              clear H
              go_wp2
              go_roundg k1
              case measure => have := HK1.out; omega
              case rel => exact ⟨(x3_1), (wrap64 (x4_1 + 1)), zf, H', ⟨by have := HK1.out; omega⟩, ⟨zr HO_3.out⟩, ⟨by (with_reducible repeat (first | refine blk_drewN ?_ _ | refine blk_drew ?_ | refine blk_alloc ?_ _)); exact BK121.out⟩, ⟨by repeat (first | (with_reducible first | exact HB.out | apply below_alloc | apply pw_below_drewN | apply below_drew1 | refine below_set ?_ GE121.out) | exact HB.out)⟩⟩
          · rw [if_neg c8] at H
            exact absurd H (by simp)
        · rw [if_neg c6] at H
          exact absurd H (by simp)
      · rw [if_neg c5] at H
        have c5b0 : decide (x4_1 < (l0_0.length : Int)) = false := decide_eq_false c5
        clear c5
        obtain rfl := Option.some.inj H
        have hcz18_0 : wr.cell? ⟨gb121, 0, none⟩ = some (.slice A0_0 l0_0.length c0_0) := (blk_cell BK121.out 0).trans rfl
        have hcz18_1 : wr.cell? ⟨gb121, 1, none⟩ = some (.int .i64 a0_1) := (blk_cell BK121.out 1).trans rfl
        have hfz18_0 := blk_frozen BK121.out 0
        have hfz18_1 := blk_frozen BK121.out 1
        go_wp2
        go_ret
        exact ⟨_, ze, zr HO_3.out, by repeat (first | (with_reducible first | exact HB.out | apply below_alloc | apply pw_below_drewN | apply below_drew1 | refine below_set ?_ GE121.out) | exact HB.out)⟩
end Go.Proofs.Ytonagfbadoacjaa.Q
end
section
namespace Go.Proofs.Ytonagfbadoacjaa.Q
open Go.RowKit Go.Proofs.YtonagfbadoacjaaW.PrintWords Go.Proofs.YtonagfbadoacjaaW.PrintLast Go.Proofs.YtonagfbadoacjaaW.PrintMore
attribute [local go_sem] max2_int min2_int max_two min_two max_three min_three max_four min_four   
set_option linter.unusedVariables false
set_option linter.unusedSimpArgs false
set_option maxHeartbeats 8000000 in
set_option maxRecDepth 100000 in
theorem spec_l3Rest.calls (a0 : ByteArray) (a1 : Int) (a2 : Int) (r : ByteArray) (w : World) (h : spec_l3Rest.f a0 a1 a2 = some r) :
    Calls Try.prog 147 #[.string a0, .int .i64 a1, .int .i64 a2] w fun e w' => e = .returned (.string r) ∧ Below w.heap.size w w' := by
  unfold spec_l3Rest.f at h
  by_cases c0 : 0 ≤ a1 ∧ 0 ≤ a2
  · rw [if_pos c0] at h
    obtain ⟨c1, c2⟩ := c0
    by_cases c3 : (a0.size : Int) ≤ a1
    · rw [if_pos c3] at h
      obtain rfl := Option.some.inj h
      go_enter Try.func147, Try.ntmps147
      go_wp2
      go_ret
      exact ⟨rfl, Below.refl _ _⟩
    · rw [if_neg c3] at h
      have c4 : a1 ≤ (a0.size : Int) := by omega
      by_cases c5 : a2 < ((a0.size - a1.toNat : Nat) : Int)
      · rw [if_pos c5] at h
        obtain rfl := Option.some.inj h
        have c6 : a2 ≤ ((a0.size - a1.toNat : Nat) : Int) := by omega
        go_enter Try.func147, Try.ntmps147
        go_wp2
        go_ret
        exact ⟨rfl, Below.refl _ _⟩
      · rw [if_neg c5] at h
        obtain rfl := Option.some.inj h
        go_enter Try.func147, Try.ntmps147
        go_wp2
        go_ret
        exact ⟨rfl, Below.refl _ _⟩
  · rw [if_neg c0] at h
    cases h
end Go.Proofs.Ytonagfbadoacjaa.Q
end
