/- What the laws of the set SM need: the kit's printed words, the printed functions with their proofs, and plain facts on them. -/
import Derived.Test.YtifgcajpkgamgaaChecked
import Derived.Test.YtifgcajpkgamgaaRows
import Derived.JoinedOf
import Derived.KernelRfl
import Derived.Test.YtifgcajpkgamgaaProg
import Derived.Below
import Derived.Deep.Draws
import Derived.Deep.AppendLies
import Derived.Maps.AppendAt
import Derived.OwnWalk
import Derived.Laws.BytesArg
import Derived.Laws.MakeOwn
import Derived.Laws.OwnMore
import Derived.Deep.OwnRows
import Derived.Tactics
import Derived.Lib.ConvBytes
import Derived.Laws.Slices
import Derived.WalkKit
import Derived.RowKit3
import Derived.Deep.LoopGhost
import Derived.Deep.QuietTactic
import Derived.BigQuiet
import Derived.WideLaws
import Derived.Deep.DeepCutAuto
import Derived.Deep.CutBlock
import Derived.Deep.RegionHeld3
import Derived.Laws.Rows
import Derived.Lib.AppendStr
import Derived.ArgAppend
import Derived.Laws.IdiomCopy
import Derived.OrdersHeld
import Derived.Laws.BitsLemmas
import Derived.RowKit
import Derived.Shelf.Strings.Count
import Derived.Lib.Builder
import Derived.Lib.UnsafeStr
import Derived.Lib.Walk
import Derived.Laws.Externs
import Derived.Test.YtifgcajpkgamgaaBSMb
section
namespace Go.Proofs.Ytifgcajpkgamgaa.Start
open Go Go.Proofs
def nums : List Nat :=
 [104, 97, 114, 110, 101, 115, 115, 32, 49, 54, 101, 101, 56, 52, 51, 98, 52, 52, 50, 49, 101, 51, 98, 56, 52, 99, 100, 50, 52, 53, 53, 48, 52, 99, 101, 52, 57, 101, 101, 98] ++
 [100, 101, 56, 52, 102, 97, 48, 98, 55, 50, 55, 49, 101, 102, 48, 50, 101, 55, 51, 55, 98, 50, 53, 98, 48, 48, 101, 54, 102, 53, 100, 51, 32, 99, 117, 116, 32, 97, 116, 32] ++
 [108, 111, 111, 112, 46, 101, 120, 97, 109, 112, 108, 101, 47, 116, 101, 109, 115, 101, 47, 108, 97, 119, 115, 46, 70, 110, 83, 105, 101, 118, 101, 69, 109, 112, 116, 121, 32, 108, 111, 111] ++
 [112, 46, 101, 120, 97, 109, 112, 108, 101, 47, 116, 101, 109, 115, 101, 47, 108, 97, 119, 115, 46, 70, 110, 83, 105, 101, 118, 101, 77, 101, 101, 116, 115, 32, 108, 111, 111, 112, 46, 101] ++
 [120, 97, 109, 112, 108, 101, 47, 116, 101, 109, 115, 101, 47, 108, 97, 119, 115, 46, 70, 110, 83, 105, 101, 118, 101, 77, 111, 114, 101, 32, 108, 111, 111, 112, 46, 101, 120, 97, 109, 112] ++
 [108, 101, 47, 116, 101, 109, 115, 101, 47, 108, 97, 119, 115, 46, 70, 110, 83, 105, 101, 118, 101, 65, 112, 97, 114, 116, 32, 108, 111, 111, 112, 46, 101, 120, 97, 109, 112, 108, 101, 47] ++
 [116, 101, 109, 115, 101, 47, 108, 97, 119, 115, 46, 70, 110, 83, 105, 101, 118, 101, 72, 101, 97, 100, 115, 32, 108, 111, 111, 112, 46, 101, 120, 97, 109, 112, 108, 101, 47, 116, 101, 109] ++
 [115, 101, 47, 108, 97, 119, 115, 46, 70, 110, 83, 105, 101, 118, 101, 83, 101, 101, 107, 75, 101, 121, 32, 108, 111, 111, 112, 46, 101, 120, 97, 109, 112, 108, 101, 47, 116, 101, 109, 115] ++
 [101, 47, 108, 97, 119, 115, 46, 70, 110, 83, 105, 101, 118, 101, 75, 101, 101, 112, 32, 108, 111, 111, 112, 46, 101, 120, 97, 109, 112, 108, 101, 47, 116, 101, 109, 115, 101, 47, 108, 97] ++
 [119, 115, 46, 70, 110, 69, 120, 97, 99, 116, 83, 105, 101, 118, 101, 79, 107, 32, 108, 111, 111, 112, 46, 101, 120, 97, 109, 112, 108, 101, 47, 116, 101, 109, 115, 101, 47, 108, 97, 119] ++
 [115, 46, 70, 110, 83, 105, 101, 118, 101, 69, 120, 97, 99, 116, 32, 108, 111, 111, 112, 46, 101, 120, 97, 109, 112, 108, 101, 47, 116, 101, 109, 115, 101, 47, 108, 97, 119, 115, 46, 70] ++
 [110, 83, 105, 101, 118, 101, 87, 104, 111, 108, 101, 32, 108, 111, 111, 112, 46, 101, 120, 97, 109, 112, 108, 101, 47, 116, 101, 109, 115, 101, 47, 108, 97, 119, 115, 46, 70, 110, 83, 105] ++
 [101, 118, 101, 78, 101, 118, 101, 114, 32, 108, 111, 111, 112, 46, 101, 120, 97, 109, 112, 108, 101, 47, 116, 101, 109, 115, 101, 47, 108, 97, 119, 115, 46, 70, 110, 69, 120, 97, 99, 116] ++
 [83, 105, 101, 118, 101, 83, 105, 122, 101, 32, 108, 111, 111, 112, 46, 101, 120, 97, 109, 112, 108, 101, 47, 116, 101, 109, 115, 101, 47, 108, 97, 119, 115, 46, 70, 110, 69, 120, 97, 99] ++
 [116, 83, 105, 101, 118, 101, 72, 101, 97, 100, 115, 32, 108, 111, 111, 112, 46, 101, 120, 97, 109, 112, 108, 101, 47, 116, 101, 109, 115, 101, 47, 108, 97, 119, 115, 46, 70, 110, 83, 105] ++
 [101, 118, 101, 79, 107, 32, 108, 111, 111, 112, 46, 101, 120, 97, 109, 112, 108, 101, 47, 116, 101, 109, 115, 101, 47, 108, 97, 119, 115, 46, 70, 110, 83, 105, 101, 118, 101, 83, 105, 122] ++
 [101, 32, 108, 111, 111, 112, 46, 101, 120, 97, 109, 112, 108, 101, 47, 116, 101, 109, 115, 101, 47, 108, 97, 119, 115, 46, 70, 110, 83, 105, 101, 118, 101, 83, 97, 109, 101, 32, 108, 111] ++
 [111, 112, 46, 101, 120, 97, 109, 112, 108, 101, 47, 116, 101, 109, 115, 101, 47, 108, 97, 119, 115, 46, 70, 110, 69, 120, 97, 99, 116, 83, 105, 101, 118, 101, 83, 101, 101, 107, 32, 108] ++
 [111, 111, 112, 46, 101, 120, 97, 109, 112, 108, 101, 47, 116, 101, 109, 115, 101, 47, 108, 97, 119, 115, 46, 70, 110, 69, 120, 97, 99, 116, 83, 105, 101, 118, 101, 77, 101, 101, 116, 115] ++
 [32, 108, 111, 111, 112, 46, 101, 120, 97, 109, 112, 108, 101, 47, 116, 101, 109, 115, 101, 47, 108, 97, 119, 115, 46, 70, 110, 69, 120, 97, 99, 116, 83, 105, 101, 118, 101, 72, 97, 115] ++
 [32, 108, 111, 111, 112, 46, 101, 120, 97, 109, 112, 108, 101, 47, 116, 101, 109, 115, 101, 47, 108, 97, 119, 115, 46, 70, 110, 83, 105, 101, 118, 101, 77, 101, 101, 116, 115, 77, 111, 114] ++
 [101, 32, 108, 111, 111, 112, 46, 101, 120, 97, 109, 112, 108, 101, 47, 116, 101, 109, 115, 101, 47, 108, 97, 119, 115, 46, 70, 110, 83, 105, 101, 118, 101, 83, 101, 101, 107, 32, 108, 111] ++
 [111, 112, 46, 101, 120, 97, 109, 112, 108, 101, 47, 116, 101, 109, 115, 101, 47, 108, 97, 119, 115, 46, 70, 110, 83, 105, 101, 118, 101, 72, 97, 115, 32, 108, 111, 111, 112, 46, 101, 120] ++
 [97, 109, 112, 108, 101, 47, 116, 101, 109, 115, 101, 47, 108, 97, 119, 115, 46, 70, 110, 83, 105, 101, 118, 101, 77, 101, 101, 116, 115, 72, 97, 115, 32, 108, 111, 111, 112, 46, 101, 120] ++
 [97, 109, 112, 108, 101, 47, 116, 101, 109, 115, 101, 47, 108, 97, 119, 115, 46, 70, 110, 83, 105, 101, 118, 101, 71, 97, 112]
set_option maxRecDepth 100000 in
theorem word : Try.prog.initOrder = String.ofList (nums.map Char.ofNat) := by kernel_rfl
theorem signs : Try.prog.initOrder.toList = nums.map Char.ofNat := by rw [word, String.toList_ofList]
theorem words_ne : ∀ l : List Char, wordsSigns l ≠ [] := by
 intro l
 cases l with
 | nil => simp [wordsSigns]
 | cons c l =>
  rw [wordsSigns.eq_def]
  split <;> first | (split <;> simp) | simp
theorem words_append (b : List Char) : ∀ a : List Char, wordsSigns (a ++ Char.ofNat 32 :: b) = wordsSigns a ++ wordsSigns b := by
 intro a
 induction a with
 | nil => rfl
 | cons c a ih =>
  rw [List.cons_append, wordsSigns.eq_def (c :: (a ++ Char.ofNat 32 :: b)), wordsSigns.eq_def (c :: a)]
  split
  ·rename_i h; cases h
  ·rename_i r h
   injection h with h1 h2
   subst h1; subst h2
   simp [ih]
  ·rename_i c' r hne h
   injection h with h1 h2
   subst h1; subst h2
   rw [ih]
   have hc : c ≠ Char.ofNat 32 := fun q => hne q
   split
   ·rename_i w ws e
    split
    ·rename_i h; cases h
    ·rename_i r h; injection h with h1 h2; exact absurd h1 hc
    ·rename_i c'' r'' hne'' h
     injection h with h1 h2
     subst h1; subst h2
     split
     ·rename_i w' ws' e'
      rw [e'] at e
      injection e with e1 e2
      subst e1; rw [← e2]; rfl
     ·rename_i e'
      exact absurd e' (words_ne _)
   ·rename_i e
    simp at e
    exact absurd e.1 (words_ne _)
def nums1 : List Nat := nums.take 76
def nums2 : List Nat := nums.drop 77
theorem parted : nums.map Char.ofNat = nums1.map Char.ofNat ++ Char.ofNat 32 :: nums2.map Char.ofNat := by kernel_rfl
theorem words : ∃ r, wordsSigns Try.prog.initOrder.toList = "harness".toList :: "16ee843b4421e3b84cd245504ce49eebde84fa0b7271ef02e737b25b00e6f5d3".toList :: "cut".toList :: r := by
 rw [signs, parted, words_append]
 exact ⟨wordsSigns (nums2.map Char.ofNat), by rw [show wordsSigns (nums1.map Char.ofNat) = ["harness".toList, "16ee843b4421e3b84cd245504ce49eebde84fa0b7271ef02e737b25b00e6f5d3".toList, "cut".toList] by kernel_rfl]; rfl⟩
theorem behind_of (l : List (List Char)) (h k : List Char) (r : List (List Char)) (e : l = h :: k :: r) (b : ((h == "harness".toList || h == "ownmain".toList) && isSumSigns k) = true) : behindMainWord l = r := by
 subst e
 show (if ((h == "harness".toList || h == "ownmain".toList) && isSumSigns k) = true then r else h :: k :: r) = r
 rw [if_pos b]
theorem behind : ∃ r, behindMainWord (wordsSigns Try.prog.initOrder.toList) = "cut".toList :: r := by
 obtain ⟨r, h⟩ := words
 exact ⟨r, behind_of _ _ _ _ h (by kernel_rfl)⟩
theorem strip_all (c : List Char) (r : List (List Char)) : ∀ l : List String, l.all (fun o => !(c == o.toList)) = true → stripLifts l (c :: r) = ([], c :: r) := by
 intro l
 induction l with
 | nil => intro _; rfl
 | cons o l ih =>
  intro h
  rw [List.all_cons, Bool.and_eq_true] at h
  rw [stripLifts, if_neg (by simpa using h.1), ih h.2]
theorem strip (r : List (List Char)) : stripLifts liftWords ("cut".toList :: r) = ([], "cut".toList :: r) := strip_all _ _ _ (by kernel_rfl)
theorem mayEnter_of (P : Program) (r : List (List Char)) (h : behindMainWord (wordsSigns P.initOrder.toList) = "cut".toList :: r) (h1 : P.laysLater = false) (h2 : P.bearsReflect = false) (h3 : P.doorFits [] = true) : P.mayEnter = true := by
 unfold Program.mayEnter
 rw [h]
 simp only [strip, h1, h2, h3]
 rfl
theorem liftsFinal_of (P : Program) (r : List (List Char)) (h : behindMainWord (wordsSigns P.initOrder.toList) = "cut".toList :: r) : P.liftsFinal = false := by
 unfold Program.liftsFinal Program.headLifts
 rw [h]
 simp only [strip]
 rfl
theorem make_of (P : Program) (r : List (List Char)) (h : behindMainWord (wordsSigns P.initOrder.toList) = "cut".toList :: r) : P.make = some .cut := by
 unfold Program.make
 rw [h]
 rfl
theorem mayEnter : Try.prog.mayEnter = true := by
 obtain ⟨r, h⟩ := behind
 exact mayEnter_of _ r h (by kernel_rfl) (by kernel_rfl) (by kernel_rfl)
theorem liftsFinal : Try.prog.liftsFinal = false := by
 obtain ⟨r, h⟩ := behind
 exact liftsFinal_of _ r h
theorem make : Try.prog.make = some .cut := by
 obtain ⟨r, h⟩ := behind
 exact make_of _ r h
theorem an {a b : Bool} (h : (a && b) = true) : a = true ∧ b = true := by simpa using h
theorem at_ {a b : Bool} (h : a = true) (k : b = true) : (a && b) = true := by simp [h, k]
theorem joined_of (P : Program) (mayEnter : P.mayEnter = true) (liftsFinal : P.liftsFinal = false) (make : P.make = some .cut) (f : FuncId) (fn : Func) (s : ChangeSpec) (c : OpenClaim)
  (h1 : (c.wf (OpenSpec.ofChange s) && laidOutB P && mapsRowed P && fn.params.all (P.readableRec ·) && namedTie P c.named s.vars && (c.stops == []) && (P.stops == []) && (c.knobs == []) && (P.stopKnobs == [])) = true)
  (h2 : (c.inPlace == P.inPlace f) = true) (h3 : (c.unfollowed == P.unfollowed f) = true) (h4 : (c.recurses == P.recurses f) = true) (h5 : (c.named == P.varsNamed f) = true)
  (h6 : ((c.maps == (fn.params.toList ++ s.plain.varTypes P).any (P.mapsRec ·)) && (c.ifaces == (fn.params.toList ++ s.plain.varTypes P).any (P.ifacesRec ·)) && (c.mapsOut == P.mapsAmong fn.resultTypes.toList) && (c.loops == (fn.params.toList ++ s.plain.varTypes P).any (P.loopsFrom ·)) && (c.wideKeys == (fn.params.toList ++ s.plain.varTypes P ++ fn.resultTypes.toList).any (P.wideKeysFrom ·))) = true)
  (h7 : (s.vars.all (P.varReadable ·) && fn.resultTypes.all (fun t => P.readableRec t && decide (t < P.types.size)) && (c.ifacesOut == fn.resultTypes.toList.any (P.ifacesRec ·)) && (c.loopsOut == fn.resultTypes.toList.any (P.loopsFrom ·)) && (c.plainKeys == P.plainKeys) && c.shortTexts.isNone && P.stopsHeard) = true)
  (h8 : c.lifted = false) (h9 : c.make = .cut)
  (h10 : ((c.kinds == (if c.domain.isEmpty then [] else fn.params.toList.map fun t => match P.underlying t with | some (.int k) => some k | _ => none)) && (c.pinned == c.pinnedBy) && (c.veiled == (fn.params.toList ++ s.plain.varTypes P ++ fn.resultTypes.toList).any (P.veiledRec ·)) && c.veiledFits P fn.params.toList (fn.params.toList ++ s.plain.varTypes P ++ fn.resultTypes.toList)) = true) :
  joinedFacts P f fn s c = true := by
 obtain ⟨b14, b5⟩ := an h6
 obtain ⟨b13, b4⟩ := an b14
 obtain ⟨b12, b3⟩ := an b13
 obtain ⟨b1, b2⟩ := an b12
 obtain ⟨c16, c7⟩ := an h7
 obtain ⟨c15, c6⟩ := an c16
 obtain ⟨c14, c5⟩ := an c15
 obtain ⟨c13, c4⟩ := an c14
 obtain ⟨c12, c3⟩ := an c13
 obtain ⟨c1, c2⟩ := an c12
 obtain ⟨d13, d4⟩ := an h10
 obtain ⟨d12, d3⟩ := an d13
 obtain ⟨d1, d2⟩ := an d12
 have hl : (c.lifted == P.liftsFinal) = true := by rw [h8, liftsFinal]; rfl
 have hm : (P.make == some c.make) = true := by rw [make, h9]; kernel_rfl
 unfold joinedFacts
 exact at_ (at_ (at_ (at_ (at_ (at_ (at_ (at_ (at_ (at_ (at_ (at_ (at_ (at_ (at_ (at_ (at_ (at_ (at_ (at_ (at_ (at_ (at_ h1 h2) h3) h4) h5) b1) b2) b3) b4) b5) c1) c2) c3) c4) c5) c6) c7) mayEnter) hl) hm) d1) d2) d3) d4
theorem joined (f : FuncId) (fn : Func) (s : ChangeSpec) (c : OpenClaim)
  (h1 : (c.wf (OpenSpec.ofChange s) && laidOutB Try.prog && mapsRowed Try.prog && fn.params.all (Try.prog.readableRec ·) && namedTie Try.prog c.named s.vars && (c.stops == []) && (Try.prog.stops == []) && (c.knobs == []) && (Try.prog.stopKnobs == [])) = true)
  (h2 : (c.inPlace == Try.prog.inPlace f) = true) (h3 : (c.unfollowed == Try.prog.unfollowed f) = true) (h4 : (c.recurses == Try.prog.recurses f) = true) (h5 : (c.named == Try.prog.varsNamed f) = true)
  (h6 : ((c.maps == (fn.params.toList ++ s.plain.varTypes Try.prog).any (Try.prog.mapsRec ·)) && (c.ifaces == (fn.params.toList ++ s.plain.varTypes Try.prog).any (Try.prog.ifacesRec ·)) && (c.mapsOut == Try.prog.mapsAmong fn.resultTypes.toList) && (c.loops == (fn.params.toList ++ s.plain.varTypes Try.prog).any (Try.prog.loopsFrom ·)) && (c.wideKeys == (fn.params.toList ++ s.plain.varTypes Try.prog ++ fn.resultTypes.toList).any (Try.prog.wideKeysFrom ·))) = true)
  (h7 : (s.vars.all (Try.prog.varReadable ·) && fn.resultTypes.all (fun t => Try.prog.readableRec t && decide (t < Try.prog.types.size)) && (c.ifacesOut == fn.resultTypes.toList.any (Try.prog.ifacesRec ·)) && (c.loopsOut == fn.resultTypes.toList.any (Try.prog.loopsFrom ·)) && (c.plainKeys == Try.prog.plainKeys) && c.shortTexts.isNone && Try.prog.stopsHeard) = true)
  (h8 : c.lifted = false) (h9 : c.make = .cut)
  (h10 : ((c.kinds == (if c.domain.isEmpty then [] else fn.params.toList.map fun t => match Try.prog.underlying t with | some (.int k) => some k | _ => none)) && (c.pinned == c.pinnedBy) && (c.veiled == (fn.params.toList ++ s.plain.varTypes Try.prog ++ fn.resultTypes.toList).any (Try.prog.veiledRec ·)) && c.veiledFits Try.prog fn.params.toList (fn.params.toList ++ s.plain.varTypes Try.prog ++ fn.resultTypes.toList)) = true) :
  joinedFacts Try.prog f fn s c = true := joined_of Try.prog mayEnter liftsFinal make f fn s c h1 h2 h3 h4 h5 h6 h7 h8 h9 h10
end Go.Proofs.Ytifgcajpkgamgaa.Start
end
section
namespace Go.Proofs.Ytifgcajpkgamgaa.Q
open Go.RowKit Go.Proofs.YtifgcajpkgamgaaW.PrintWords Go.Proofs.YtifgcajpkgamgaaW.PrintLast Go.Proofs.YtifgcajpkgamgaaW.PrintMore
attribute [local go_sem] max2_int min2_int max_two min_two max_three min_three max_four min_four   
set_option linter.unusedVariables false
set_option linter.unusedSimpArgs false
def errW : Option Int → Value
 | none => .nilIface
 | some c => .iface 0 (.int .i64 c)
theorem errW_none : errW none = .nilIface := rfl
theorem errW_some (c : Int) : errW (some c) = .iface 0 (.int .i64 c) := rfl
theorem info4 : (Try.prog.info? 4).map (fun i => (i.zero, i.size, i.bytes)) = some (some (.bool false), 1, 1) := by kernel_rfl
theorem info5 : (Try.prog.info? 5).map (fun i => (i.zero, i.size, i.bytes)) = some (some (.int .u8 0), 1, 1) := by kernel_rfl
theorem info9 : (Try.prog.info? 9).map (fun i => (i.zero, i.size, i.bytes)) = some (some (.string ⟨#[]⟩), 1, 16) := by kernel_rfl
theorem info79 : (Try.prog.info? 79).map (fun i => (i.zero, i.size, i.bytes)) = some (some (.agg #[(.slice none 0 0), (.int .i64 0)]), 2, 32) := by kernel_rfl
theorem info93 : (Try.prog.info? 93).map (fun i => (i.zero, i.size, i.bytes)) = some (some (.agg #[(.string ⟨#[]⟩), (.bool false)]), 2, 24) := by kernel_rfl
structure S79 where
 f0 : (List ByteArray)
 f1 : Int
def z79 : S79 := ⟨([] : List ByteArray), (0 : Int)⟩
def k79 : Kd S79 := Kd.iso (Kd.pair (Kd.slice 9 Kd.string) (Kd.int .i64)) (fun x : S79 => (x.f0, x.f1))
theorem k79_open {w : World} {x : S79} {cs : List Value} (h : k79.K w x cs) : ∃ A0 c0, cs = [.slice A0 x.f0.length c0, .int .i64 x.f1] ∧ x.f0.length ≤ c0 ∧ Kd.string.C w A0 x.f0.length x.f0 := by
 obtain ⟨_, _, rfl, ⟨A0, c0, rfl, l0, g0⟩, rfl⟩ := h
 exact ⟨A0, c0, rfl, l0, g0⟩
theorem k79_mk (w : World) (x : S79) {A0 : Option Addr} {c0 : Nat} (l0 : x.f0.length ≤ c0) (g0 : Kd.string.C w A0 x.f0.length x.f0) : k79.K w x [.slice A0 x.f0.length c0, .int .i64 x.f1] := ⟨[.slice A0 x.f0.length c0], [.int .i64 x.f1], rfl, ⟨A0, c0, rfl, l0, g0⟩, rfl⟩
theorem k79_openF {W : World} {ok : Nat → Prop} {x : S79} {cs : List Value} (h : Kd.FK k79 W ok x cs) : ∃ A0 c0, cs = [.slice A0 x.f0.length c0, .int .i64 x.f1] ∧ x.f0.length ≤ c0 ∧ Kd.F Kd.string W ok A0 x.f0.length x.f0 := by
 obtain ⟨A0, c0, rfl, l0, _⟩ := k79_open (Kd.FK_now h)
 exact ⟨A0, c0, rfl, l0, (fun W' hW => by obtain ⟨A0_, c0_, he, l0_, g0_⟩ := k79_open (h W' hW); injection (Option.some.inj (show some (Value.slice A0 x.f0.length c0) = some (Value.slice A0_ x.f0.length c0_) from congrArg (fun l => l[0]?) he)) with ha_ _ _; rw [ha_]; exact g0_)⟩
theorem k79_mkF (W : World) (ok : Nat → Prop) (x : S79) {A0 : Option Addr} {c0 : Nat} (l0 : x.f0.length ≤ c0) (g0 : Kd.F Kd.string W ok A0 x.f0.length x.f0) : Kd.FK k79 W ok x [.slice A0 x.f0.length c0, .int .i64 x.f1] := fun W2 hW => k79_mk W2 x l0 (g0 W2 hW)
def rd_T79 (xs : List S79) (i : Int) : S79 := xs.getD i.toNat z79
theorem at_T79 {w : World} {A : Option Addr} {n : Nat} {xs : List S79} (h : Kd.C k79 w A n xs) (i : Int) (h0 : 0 ≤ i) (h1 : i < n) : ∃ ad A0 c0, A = some ad ∧ w.cell? (ad.add (i.toNat * 2)) = some (.slice A0 (rd_T79 xs i).f0.length c0) ∧ w.cell? ⟨(ad.add (i.toNat * 2)).block, (ad.add (i.toNat * 2)).off + 1, none⟩ = some (.int .i64 (rd_T79 xs i).f1) ∧ (rd_T79 xs i).f0.length ≤ c0 ∧ Kd.string.C w A0 (rd_T79 xs i).f0.length (rd_T79 xs i).f0 := by
 obtain ⟨ad, c, e, _, hK, hc0⟩ := Kd.C_get h z79 i h0 h1
 have hc : ∀ j u, c[j]? = some u → w.cell? (ad.add (i.toNat * 2 + j)) = some u := hc0
 obtain ⟨A0, c0, rfl, l0, g0⟩ := k79_open hK
 exact ⟨ad, A0, c0, e, hc 0 _ rfl, by rw [← add_field _ _ 1 (by omega)]; exact hc 1 _ rfl, l0, g0⟩
structure S108 where
 f0 : (List ByteArray)
 f1 : Int
def z108 : S108 := ⟨([] : List ByteArray), (0 : Int)⟩
def k108 : Kd S108 := Kd.iso (Kd.pair (Kd.slice 9 Kd.string) (Kd.int .i64)) (fun x : S108 => (x.f0, x.f1))
theorem k108_open {w : World} {x : S108} {cs : List Value} (h : k108.K w x cs) : ∃ A0 c0, cs = [.slice A0 x.f0.length c0, .int .i64 x.f1] ∧ x.f0.length ≤ c0 ∧ Kd.string.C w A0 x.f0.length x.f0 := by
 obtain ⟨_, _, rfl, ⟨A0, c0, rfl, l0, g0⟩, rfl⟩ := h
 exact ⟨A0, c0, rfl, l0, g0⟩
theorem k108_mk (w : World) (x : S108) {A0 : Option Addr} {c0 : Nat} (l0 : x.f0.length ≤ c0) (g0 : Kd.string.C w A0 x.f0.length x.f0) : k108.K w x [.slice A0 x.f0.length c0, .int .i64 x.f1] := ⟨[.slice A0 x.f0.length c0], [.int .i64 x.f1], rfl, ⟨A0, c0, rfl, l0, g0⟩, rfl⟩
def rd_T108 (xs : List S108) (i : Int) : S108 := xs.getD i.toNat z108
structure S93 where
 f0 : ByteArray
 f1 : Bool
def z93 : S93 := ⟨(⟨#[]⟩ : ByteArray), false⟩
def k93 : Kd S93 := Kd.iso (Kd.pair Kd.string Kd.bool) (fun x : S93 => (x.f0, x.f1))
theorem k93_open {w : World} {x : S93} {cs : List Value} (h : k93.K w x cs) : cs = [.string x.f0, .bool x.f1] := by
 obtain ⟨_, _, rfl, rfl, rfl⟩ := h
 exact rfl
theorem k93_mkM (w : World) (base : Nat) (ok : Nat → Prop) (x : S93)  : k93.M w base ok x [.string x.f0, .bool x.f1] := ⟨[.string x.f0], [.bool x.f1], rfl, rfl, rfl⟩
def rd_T93 (xs : List S93) (i : Int) : S93 := xs.getD i.toNat z93
theorem at_T93 {w : World} {A : Option Addr} {n : Nat} {xs : List S93} (h : Kd.C k93 w A n xs) (i : Int) (h0 : 0 ≤ i) (h1 : i < n) : ∃ ad , A = some ad ∧ w.cell? (ad.add (i.toNat * 2)) = some (.string (rd_T93 xs i).f0) ∧ w.cell? ⟨(ad.add (i.toNat * 2)).block, (ad.add (i.toNat * 2)).off + 1, none⟩ = some (.bool (rd_T93 xs i).f1) := by
 obtain ⟨ad, c, e, _, hK, hc0⟩ := Kd.C_get h z93 i h0 h1
 have hc : ∀ j u, c[j]? = some u → w.cell? (ad.add (i.toNat * 2 + j)) = some u := hc0
 obtain rfl := k93_open hK
 exact ⟨ad, e, hc 0 _ rfl, by rw [← add_field _ _ 1 (by omega)]; exact hc 1 _ rfl⟩
end Go.Proofs.Ytifgcajpkgamgaa.Q
end
section
namespace Go.Proofs
open Go.Shelf
def Try.lays138_ren : Go.Shelf.Ren := ⟨fun | 138 => 100 | 195 => 122 | 218 => 123 | 143 => 124 | 219 => 139 | 217 => 147 | 225 => 148 | 224 => 149 | 267 => 150 | 266 => 152 | 314 => 153 | n => n, fun | 9 => 9 | 3 => 3 | 4 => 4 | 5 => 5 | 0 => 0 | 46 => 120 | 146 => 147 | 51 => 134 | n => n, fun | 1 => 0 | n => n⟩
theorem Try.lays138 : Go.Proofs.Lays.n138 Try.prog Try.lays138_ren := {
 mixed := by kernel_rfl
 f138 := Try.func100.trans (congrArg some (by kernel_rfl))
 f143 := Try.func124.trans (congrArg some (by kernel_rfl))
 f195 := Try.func122.trans (congrArg some (by kernel_rfl))
 f217 := Try.func147.trans (congrArg some (by kernel_rfl))
 f218 := Try.func123.trans (congrArg some (by kernel_rfl))
 f219 := Try.func139.trans (congrArg some (by kernel_rfl))
 f224 := Try.func149.trans (congrArg some (by kernel_rfl))
 f225 := Try.func148.trans (congrArg some (by kernel_rfl))
 f266 := Try.func152.trans (congrArg some (by kernel_rfl))
 f267 := Try.func150.trans (congrArg some (by kernel_rfl))
 f314 := Try.func153.trans (congrArg some (by kernel_rfl))
 t0 := Try.underlying0
 a0 := Try.isAgg0
 z0 := Try.sizeOf0
 v0 := Try.zeroValue0
 t3 := Try.underlying3
 a3 := Try.isAgg3
 z3 := Try.sizeOf3
 v3 := Try.zeroValue3
 t4 := Try.underlying4
 a4 := Try.isAgg4
 z4 := Try.sizeOf4
 v4 := Try.zeroValue4
 t5 := Try.underlying5
 a5 := Try.isAgg5
 z5 := Try.sizeOf5
 v5 := Try.zeroValue5
 t9 := Try.underlying9
 a9 := Try.isAgg9
 z9 := Try.sizeOf9
 v9 := Try.zeroValue9
 t46 := Try.underlying120
 a46 := Try.isAgg120
 z46 := Try.sizeOf120
 v46 := Try.zeroValue120
 t51 := Try.underlying134
 a51 := Try.isAgg134
 z51 := Try.sizeOf134
 v51 := Try.zeroValue134
 t146 := Try.underlying147
 a146 := Try.isAgg147
 z146 := Try.sizeOf147
 v146 := Try.zeroValue147
 g1 := by kernel_rfl }
open Go.RowKit Go.Lib in
theorem Try.strings_Count_one (s : ByteArray) (c : UInt8) (w : World) :
  Calls Try.prog 100 #[.string s, .string ⟨#[c]⟩] w fun e w' => e = .returned (.int .i64 (Lib.countByte s.data.toList c)) ∧ w' = w := Any.strings_Count_one Try.lays138 s c w
end Go.Proofs
end
section
namespace Go.Proofs.Ytifgcajpkgamgaa.Q
open Go.RowKit Go.Proofs.YtifgcajpkgamgaaW.PrintWords Go.Proofs.YtifgcajpkgamgaaW.PrintLast Go.Proofs.YtifgcajpkgamgaaW.PrintMore
attribute [local go_sem] max2_int min2_int max_two min_two max_three min_three max_four min_four   
set_option linter.unusedVariables false
set_option linter.unusedSimpArgs false
def spec_l6Open.f (l0 : List Int) : Option (List Int × Int) := if (l0.length : Int) > 2000 then (if 2000 ≤ (l0.length : Int) then (some (l0.take 2000, 0)) else (none)) else (some (l0, 0))
def spec_l6Rd_pick.j0 : Nat → Int → Bool → List Int → Int → Option (Int × Int)
 | 0, _, _, _, _ => none
 | k + 1, x1, x24, x1000, x1001 => if x24 = true then (some (0, x1001)) else (if (wrap64 (x1001 - 1)) < (x1000.length : Int) then (if 0 ≤ (wrap64 (x1001 - 1)) then (if x1 = 0 then (none) else (some (Int.tmod (wrap64 (rd x1000 (wrap64 (x1001 - 1)))) x1, x1001))) else (none)) else (if (x1000.length : Int) = 0 then (none) else (if 0 ≤ (Int.tmod (wrap64 (x1001 - 1)) (x1000.length : Int)) then (if (Int.tmod (wrap64 (x1001 - 1)) (x1000.length : Int)) < (x1000.length : Int) then (if 0 ≤ (Int.tmod (wrap64 ((wrap64 ((wrap64 (x1001 - 1)) * 7)) + 3)) (x1000.length : Int)) then (if (Int.tmod (wrap64 ((wrap64 ((wrap64 (x1001 - 1)) * 7)) + 3)) (x1000.length : Int)) < (x1000.length : Int) then (if x1 = 0 then (none) else (some (Int.tmod (Go.bits .xor .i64 (wrap64 ((wrap64 ((wrap64 ((wrap64 ((wrap64 (rd x1000 (Int.tmod (wrap64 (x1001 - 1)) (x1000.length : Int)))) * 131)) + (wrap64 ((wrap64 (rd x1000 (Int.tmod (wrap64 ((wrap64 ((wrap64 (x1001 - 1)) * 7)) + 3)) (x1000.length : Int)))) * 1117)))) + (wrap64 ((wrap64 (x1001 - 1)) * 29)))) + (wrap64 ((wrap64 (Int.tdiv (wrap64 (x1001 - 1)) (x1000.length : Int))) * 53)))) (wrap64 (Int.tdiv (wrap64 ((wrap64 ((wrap64 ((wrap64 ((wrap64 (rd x1000 (Int.tmod (wrap64 (x1001 - 1)) (x1000.length : Int)))) * 131)) + (wrap64 ((wrap64 (rd x1000 (Int.tmod (wrap64 ((wrap64 ((wrap64 (x1001 - 1)) * 7)) + 3)) (x1000.length : Int)))) * 1117)))) + (wrap64 ((wrap64 (x1001 - 1)) * 29)))) + (wrap64 ((wrap64 (Int.tdiv (wrap64 (x1001 - 1)) (x1000.length : Int))) * 53)))) 64))) x1, x1001))) else (none)) else (none)) else (none)) else (none))))
def spec_l6Rd_pick.f (k : Nat) (s0_0 : List Int) (s0_1 : Int) (a1 : Int) : Option (Int × Int) := if a1 < 1 then (spec_l6Rd_pick.j0 k a1 true s0_0 (wrap64 (s0_1 + 1))) else (spec_l6Rd_pick.j0 k a1 ((s0_0.length : Int) == 0) s0_0 (wrap64 (s0_1 + 1)))
def spec_l6In.f (a0 : Int) (a1 : Int) (a2 : Int) : Option (Bool) := if a0 ≥ a1 then (some (decide (a0 ≤ a2))) else (some false)
def spec_KeyOk.l0 : Nat → ByteArray → Int → Option (Bool)
 | 0, _, _ => none
 | k + 1, x0, x3 => if x3 < (x0.size : Int) then (if 0 ≤ x3 then ((spec_l6In.f (wrap64 (bt x0 x3)) 97 100).bind fun t107 => (if t107 = true then (spec_KeyOk.l0 k x0 (wrap64 (x3 + 1))) else (some false))) else (none)) else (some (decide ((x0.size : Int) ≤ 5)))
def spec_KeyOk.f (k : Nat) (a0 : ByteArray) : Option (Bool) := spec_KeyOk.l0 k a0 0
def spec_KeysOk.l0 : Nat → List ByteArray → Int → Option (Bool)
 | 0, _, _ => none
 | k + 1, x0, x3 => if x3 < (x0.length : Int) then (if 0 ≤ x3 then ((spec_KeyOk.f k (rdOf ByteArray.empty x0 x3)).bind fun t109 => (if t109 = true then (if x3 > 0 then (if 0 ≤ (wrap64 (x3 - 1)) then (if (wrap64 (x3 - 1)) < (x0.length : Int) then (if ((Op.bytesLess ((rdOf ByteArray.empty x0 (wrap64 (x3 - 1))).toList) ((rdOf ByteArray.empty x0 x3).toList)) = true) then (spec_KeysOk.l0 k x0 (wrap64 (x3 + 1))) else (some false)) else (none)) else (none)) else (spec_KeysOk.l0 k x0 (wrap64 (x3 + 1)))) else (some false))) else (none)) else (some (decide ((x0.length : Int) ≤ 24)))
def spec_KeysOk.f (k : Nat) (l0 : List ByteArray) : Option (Bool) := spec_KeysOk.l0 k l0 0
def spec_l3Letter.f (a0 : ByteArray) (a1 : Int) : Option (ByteArray) := if a1 ≥ (a0.size : Int) then (some (⟨#[45]⟩ : ByteArray)) else (if 0 ≤ a1 then (if a1 ≤ (wrap64 (a1 + 1)) then (if (wrap64 (a1 + 1)) ≤ (a0.size : Int) then (some (a0.extract (a1 : Int).toNat ((wrap64 (a1 + 1)) : Int).toNat)) else (none)) else (none)) else (none))
def spec_l3Group.l0 : Nat → List ByteArray → Int → List ByteArray → Int → Option (List ByteArray)
 | 0, _, _, _, _ => none
 | k + 1, x3, x4, x113000, x113001 => if x4 < (x113000.length : Int) then (if 0 ≤ x4 then ((spec_l3Letter.f (rdOf ByteArray.empty x113000 x4) x113001).bind fun t117 => (if 0 < (x113000.length : Int) then ((spec_l3Letter.f (rdOf ByteArray.empty x113000 0) x113001).bind fun t119 => (if t117.toList = t119.toList then (if x3.length < 8796093022208 then (spec_l3Group.l0 k (x3 ++ [rdOf ByteArray.empty x113000 x4]) (wrap64 (x4 + 1)) x113000 x113001) else (none)) else (spec_l3Group.l0 k x3 (wrap64 (x4 + 1)) x113000 x113001))) else (none))) else (none)) else (some x3)
def spec_l3Group.f (k : Nat) (l0_0 : List ByteArray) (a0_1 : Int) : Option (List ByteArray) := spec_l3Group.l0 k (([] : List ByteArray)) 0 l0_0 a0_1
def spec_l3Rest.f (a0 : ByteArray) (a1 : Int) (a2 : Int) : Option (ByteArray) := if 0 ≤ a1 ∧ 0 ≤ a2 then (if (a0.size : Int) ≤ a1 then (some (⟨#[]⟩ : ByteArray)) else (some ((a0.extract a1.toNat a0.size).extract 0 (if a2 < ((a0.size - a1.toNat : Nat) : Int) then a2 else ((a0.size - a1.toNat : Nat) : Int)).toNat))) else none
def spec_l3Put.l0 : Nat → List (S79) → ByteArray → ByteArray → ByteArray → ByteArray → List ByteArray → Int → List ByteArray → Int → Option (ByteArray × ByteArray × ByteArray × List ByteArray × Int × (List (S79)))
 | 0, _, _, _, _, _, _, _, _, _ => none
 | k + 1, x6, x7, x125000, x125001, x125002, x125003, x125004, x126000, x126001 => if (x126000.length : Int) > 0 then ((spec_l3Group.f k x126000 x126001).bind fun t130 => (if 0 < (t130.length : Int) then ((spec_l3Letter.f (rdOf ByteArray.empty t130 0) x126001).bind fun t134 => (if x125000.size + t134.size ≤ 9223372036854775807 then (if x125002.size + x7.size ≤ 9223372036854775807 then (if (t130.length : Int) > 1 then (if x125001.size + 1 ≤ 9223372036854775807 then (if x6.length < 4398046511104 then (if 0 ≤ (t130.length : Int) then (if (t130.length : Int) ≤ (x126000.length : Int) then (spec_l3Put.l0 k (x6 ++ [(⟨t130, wrap64 (x126001 + 1)⟩ : S79)]) (⟨#[48]⟩ : ByteArray) (x125000 ++ t134) (x125001 ++ (⟨#[49]⟩ : ByteArray)) (x125002 ++ x7) x125003 x125004 (x126000.drop ((t130.length : Int) : Int).toNat) x126001) else (none)) else (none)) else (none)) else (none)) else (if x125001.size + 1 ≤ 9223372036854775807 then ((spec_l3Rest.f (rdOf ByteArray.empty t130 0) (wrap64 (x126001 + 1)) x125004).bind fun t144 => (if x125003.length < 8796093022208 then (if 0 ≤ (t130.length : Int) then (if (t130.length : Int) ≤ (x126000.length : Int) then (spec_l3Put.l0 k x6 (⟨#[48]⟩ : ByteArray) (x125000 ++ t134) (x125001 ++ (⟨#[48]⟩ : ByteArray)) (x125002 ++ x7) (x125003 ++ [t144]) x125004 (x126000.drop ((t130.length : Int) : Int).toNat) x126001) else (none)) else (none)) else (none))) else (none))) else (none)) else (none))) else (none))) else (some (x125000, x125001, x125002, x125003, x125004, x6))
def spec_l3Put.f (k : Nat) (a0_0 : ByteArray) (a0_1 : ByteArray) (a0_2 : ByteArray) (l0_3 : List ByteArray) (a0_4 : Int) (l1_0 : List ByteArray) (a1_1 : Int) : Option (ByteArray × ByteArray × ByteArray × List ByteArray × Int × (List (S79))) := spec_l3Put.l0 k (([] : List (S79))) (⟨#[49]⟩ : ByteArray) a0_0 a0_1 a0_2 l0_3 a0_4 l1_0 a1_1
mutual
def spec_SieveOf.j0 : Nat → List ByteArray → Int → Bool → Option (ByteArray × ByteArray × ByteArray × List ByteArray × Int × Bool)
 | 0, _, _, _ => none
 | k + 1, x0, x1, x16 => if x16 = true then (some ((⟨#[]⟩ : ByteArray), (⟨#[]⟩ : ByteArray), (⟨#[]⟩ : ByteArray), ([] : List ByteArray), 0, false)) else (spec_SieveOf.l0 k (([(⟨x0, 0⟩ : S79)] : List (S79))) (⟨#[]⟩ : ByteArray) (⟨#[]⟩ : ByteArray) (⟨#[]⟩ : ByteArray) (([] : List ByteArray)) x1)
def spec_SieveOf.l0 : Nat → List (S79) → ByteArray → ByteArray → ByteArray → List ByteArray → Int → Option (ByteArray × ByteArray × ByteArray × List ByteArray × Int × Bool)
 | 0, _, _, _, _, _, _ => none
 | k + 1, x7, x160000, x160001, x160002, x160003, x160004 => if (x7.length : Int) > 0 then (if 0 < (x7.length : Int) then ((spec_l3Put.f k x160000 x160001 x160002 x160003 x160004 ((rd_T79 x7 0).f0) ((rd_T79 x7 0).f1)).bind fun bt167 => ((some (([] : List (S79)) : List (S79))).bind fun y177 => (if 1 ≤ (x7.length : Int) then ((some (x7.drop 1 : List (S79))).bind fun y180 => (if y177.length + y180.length < 4398046511104 then ((some (y177 ++ y180 : List (S79))).bind fun y185 => (if y185.length + bt167.2.2.2.2.2.length < 4398046511104 then (spec_SieveOf.l0 k (y185 ++ bt167.2.2.2.2.2) bt167.1 bt167.2.1 bt167.2.2.1 bt167.2.2.2.1 bt167.2.2.2.2.1) else (none))) else (none))) else (none)))) else (none)) else (some (x160000, x160001, x160002, x160003, x160004, true))
end
def spec_SieveOf.f (k : Nat) (l0 : List ByteArray) (a1 : Int) : Option (ByteArray × ByteArray × ByteArray × List ByteArray × Int × Bool) := (spec_KeysOk.f k l0).bind fun t154 => (if t154 = true then ((spec_l6In.f a1 0 5).bind fun t155 => (spec_SieveOf.j0 k l0 a1 (!t155))) else (spec_SieveOf.j0 k l0 a1 true))
def spec_l6Rd_of.f (k : Nat) (s0_0 : List Int) (s0_1 : Int) (l1 : List ByteArray) : Option (ByteArray × Int) := (spec_l6Rd_pick.f k s0_0 s0_1 (l1.length : Int)).bind fun bt191 => (if 0 ≤ bt191.1 then (if bt191.1 < (l1.length : Int) then (some (rdOf ByteArray.empty l1 bt191.1, bt191.2)) else (none)) else (none))
def spec_l71Key.l0 : Nat → ByteArray → Int → List Int → Int → Option (ByteArray × Int)
 | 0, _, _, _, _ => none
 | k + 1, x3, x4, x1000, x1001 => if x4 > 0 then ((spec_l6Rd_of.f k x1000 x1001 (([(⟨#[97]⟩ : ByteArray), (⟨#[98]⟩ : ByteArray), (⟨#[97]⟩ : ByteArray), (⟨#[99]⟩ : ByteArray), (⟨#[100]⟩ : ByteArray)] : List ByteArray))).bind fun bt199 => (if x3.size + bt199.1.size ≤ 9223372036854775807 then (spec_l71Key.l0 k (x3 ++ bt199.1) (wrap64 (x4 - 1)) x1000 bt199.2) else (none))) else (some (x3, x1001))
def spec_l71Key.f (k : Nat) (s0_0 : List Int) (s0_1 : Int) : Option (ByteArray × Int) := (spec_l6Rd_pick.f k s0_0 s0_1 6).bind fun bt194 => (spec_l71Key.l0 k (⟨#[]⟩ : ByteArray) bt194.1 s0_0 bt194.2)
def spec_l71Near.j0 : Nat → List ByteArray → Bool → List Int → Int → Option (ByteArray × Int)
 | 0, _, _, _, _ => none
 | k + 1, x1, x13, x1000, x1001 => if x13 = true then ((spec_l71Key.f k x1000 x1001).bind fun bt203 => (some (bt203.1, bt203.2))) else ((spec_l6Rd_pick.f k x1000 x1001 (x1.length : Int)).bind fun bt205 => (if 0 ≤ bt205.1 then (if bt205.1 < (x1.length : Int) then ((spec_l6Rd_pick.f k x1000 bt205.2 4).bind fun bt208 => (if bt208.1 = 0 then ((spec_l6Rd_pick.f k x1000 bt208.2 (wrap64 (((rdOf ByteArray.empty x1 bt205.1).size : Int) + 1))).bind fun bt210 => (if 0 ≤ bt210.1 then (if bt210.1 ≤ ((rdOf ByteArray.empty x1 bt205.1).size : Int) then (some ((rdOf ByteArray.empty x1 bt205.1).extract 0 (bt210.1 : Int).toNat, bt210.2)) else (none)) else (none))) else (if bt208.1 = 1 then (if ((rdOf ByteArray.empty x1 bt205.1).size : Int) < 5 then ((spec_l6Rd_of.f k x1000 bt208.2 (([(⟨#[97]⟩ : ByteArray), (⟨#[98]⟩ : ByteArray), (⟨#[100]⟩ : ByteArray)] : List ByteArray))).bind fun bt215 => (if (rdOf ByteArray.empty x1 bt205.1).size + bt215.1.size ≤ 9223372036854775807 then (some ((rdOf ByteArray.empty x1 bt205.1) ++ bt215.1, bt215.2)) else (none))) else (some (rdOf ByteArray.empty x1 bt205.1, bt208.2))) else (some (rdOf ByteArray.empty x1 bt205.1, bt208.2))))) else (none)) else (none)))
def spec_l71Near.f (k : Nat) (s0_0 : List Int) (s0_1 : Int) (l1 : List ByteArray) : Option (ByteArray × Int) := if (l1.length : Int) = 0 then (spec_l71Near.j0 k l1 true s0_0 s0_1) else ((spec_l6Rd_pick.f k s0_0 s0_1 4).bind fun bt201 => (spec_l71Near.j0 k l1 (bt201.1 == 0) s0_0 bt201.2))
def spec_l2Put.l0 : Nat → List ByteArray → ByteArray → List ByteArray → Bool → Int → Option (List ByteArray)
 | 0, _, _, _, _, _ => none
 | k + 1, x0, x1, x5, x6, x7 => if x7 < (x0.length : Int) then (if 0 ≤ x7 then (if (rdOf ByteArray.empty x0 x7).toList = x1.toList then (some x0) else (if x6 = true then (if x5.length < 8796093022208 then (spec_l2Put.l0 k x0 x1 (x5 ++ [rdOf ByteArray.empty x0 x7]) x6 (wrap64 (x7 + 1))) else (none)) else (if (Op.bytesLess x1.toList ((rdOf ByteArray.empty x0 x7).toList)) = true then (if x5.length < 8796093022208 then ((some (x5 ++ [x1] : List ByteArray)).bind fun y229 => (if y229.length < 8796093022208 then (spec_l2Put.l0 k x0 x1 (y229 ++ [rdOf ByteArray.empty x0 x7]) true (wrap64 (x7 + 1))) else (none))) else (none)) else (if x5.length < 8796093022208 then (spec_l2Put.l0 k x0 x1 (x5 ++ [rdOf ByteArray.empty x0 x7]) x6 (wrap64 (x7 + 1))) else (none))))) else (none)) else (if x6 = true then (some x5) else (if x5.length < 8796093022208 then (some (x5 ++ [x1])) else (none)))
def spec_l2Put.f (k : Nat) (l0 : List ByteArray) (a1 : ByteArray) : Option (List ByteArray) := spec_l2Put.l0 k l0 a1 (([] : List ByteArray)) false 0
def spec_l71Keys.l0 : Nat → List ByteArray → Int → List Int → Int → Option (List ByteArray × Int)
 | 0, _, _, _, _ => none
 | k + 1, x5, x6, x1000, x1001 => if x6 > 0 then ((spec_l71Near.f k x1000 x1001 x5).bind fun bt245 => ((spec_l2Put.f k x5 bt245.1).bind fun t247 => (spec_l71Keys.l0 k t247 (wrap64 (x6 - 1)) x1000 bt245.2))) else (some (x5, x1001))
def spec_l71Keys.f (k : Nat) (s0_0 : List Int) (s0_1 : Int) (a1 : Int) : Option (List ByteArray × Int) := (spec_l6Rd_pick.f k s0_0 s0_1 (wrap64 (a1 + 1))).bind fun bt243 => (spec_l71Keys.l0 k (([] : List ByteArray)) bt243.1 s0_0 bt243.2)
def spec_l71Sieve.f (k : Nat) (s0_0 : List Int) (s0_1 : Int) : Option (ByteArray × ByteArray × ByteArray × List ByteArray × Int × List ByteArray × Int) := (spec_l71Keys.f k s0_0 s0_1 12).bind fun bt251 => ((some (([0, 0, 1, 1, 2, 5] : List Int) : List Int)).bind fun y255 => ((spec_l6Rd_pick.f k s0_0 bt251.2 6).bind fun bt258 => (if 0 ≤ bt258.1 then (if bt258.1 < (y255.length : Int) then ((spec_SieveOf.f k bt251.1 (rd y255 bt258.1)).bind fun bt261 => (some (bt261.1, bt261.2.1, bt261.2.2.1, bt261.2.2.2.1, bt261.2.2.2.2.1, bt251.1, bt258.2))) else (none)) else (none))))
def spec_l71Bent.f (k : Nat) (s0_0 : List Int) (s0_1 : Int) : Option (ByteArray × ByteArray × ByteArray × List ByteArray × Int × List ByteArray × Int) := (spec_l71Sieve.f k s0_0 s0_1).bind fun bt271 => ((spec_l6Rd_pick.f k s0_0 bt271.2.2.2.2.2.2 10).bind fun bt283 => (if bt283.1 > 0 then (some (bt271.1, bt271.2.1, bt271.2.2.1, bt271.2.2.2.1, bt271.2.2.2.2.1, bt271.2.2.2.2.2.1, bt283.2)) else ((spec_l6Rd_pick.f k s0_0 bt283.2 7).bind fun bt285 => (if bt285.1 = 0 then (if bt271.1.size + 1 ≤ 9223372036854775807 then (some (bt271.1 ++ (⟨#[97]⟩ : ByteArray), bt271.2.1, bt271.2.2.1, bt271.2.2.2.1, bt271.2.2.2.2.1, bt271.2.2.2.2.2.1, bt285.2)) else (none)) else (if bt285.1 = 1 then (if bt271.2.1.size + 1 ≤ 9223372036854775807 then (some (bt271.1, bt271.2.1 ++ (⟨#[49]⟩ : ByteArray), bt271.2.2.1, bt271.2.2.2.1, bt271.2.2.2.2.1, bt271.2.2.2.2.2.1, bt285.2)) else (none)) else (if bt285.1 = 2 then (if 1 + bt271.2.2.1.size ≤ 9223372036854775807 then (some (bt271.1, bt271.2.1, (⟨#[49]⟩ : ByteArray) ++ bt271.2.2.1, bt271.2.2.2.1, bt271.2.2.2.2.1, bt271.2.2.2.2.2.1, bt285.2)) else (none)) else (if bt285.1 = 3 then (if bt271.2.2.2.1.length < 8796093022208 then (some (bt271.1, bt271.2.1, bt271.2.2.1, (bt271.2.2.2.1 ++ [(⟨#[]⟩ : ByteArray)]), bt271.2.2.2.2.1, bt271.2.2.2.2.2.1, bt285.2)) else (none)) else (if bt285.1 = 4 then ((some (([(-1), 6, 3] : List Int) : List Int)).bind fun y290 => ((spec_l6Rd_pick.f k s0_0 bt285.2 3).bind fun bt293 => (if 0 ≤ bt293.1 then (if bt293.1 < (y290.length : Int) then (some (bt271.1, bt271.2.1, bt271.2.2.1, bt271.2.2.2.1, rd y290 bt293.1, bt271.2.2.2.2.2.1, bt293.2)) else (none)) else (none)))) else (if bt285.1 = 5 then (some ((⟨#[97, 98]⟩ : ByteArray), (⟨#[49, 49]⟩ : ByteArray), (⟨#[49, 49]⟩ : ByteArray), ([] : List ByteArray), 1, bt271.2.2.2.2.2.1, bt285.2)) else (if (bt271.2.2.2.1.length : Int) > 0 then (if 0 < (bt271.2.2.2.1.length : Int) then (if (rdOf ByteArray.empty bt271.2.2.2.1 0).size + 4 ≤ 9223372036854775807 then (some (bt271.1, bt271.2.1, bt271.2.2.1, (bt271.2.2.2.1.set (0 : Int).toNat ((rdOf ByteArray.empty bt271.2.2.2.1 0) ++ (⟨#[97, 97, 97, 97]⟩ : ByteArray))), bt271.2.2.2.2.1, bt271.2.2.2.2.2.1, bt285.2)) else (none)) else (none)) else (some (bt271.1, bt271.2.1, bt271.2.2.1, bt271.2.2.2.1, bt271.2.2.2.2.1, bt271.2.2.2.2.2.1, bt285.2))))))))))))
def impl_KeyOk.l0 : Nat → ByteArray → Int → Int → Option (Bool)
 | 0, _, _, _ => none
 | k + 1, x0, x5, x6 => if x6 < x5 then (if 0 ≤ x6 then (if x6 < (x0.size : Int) then (if (bt x0 x6) < 97 then (some false) else (if (bt x0 x6) > 100 then (some false) else (impl_KeyOk.l0 k x0 x5 (wrap64 (x6 + 1))))) else (none)) else (none)) else (some (decide ((x0.size : Int) ≤ 5)))
def impl_KeyOk.f (k : Nat) (a0 : ByteArray) : Option (Bool) := impl_KeyOk.l0 k a0 (a0.size : Int) 0
def impl_KeysOk.l0 : Nat → List ByteArray → List ByteArray → Int → Int → Option (Bool)
 | 0, _, _, _, _ => none
 | k + 1, x0, x5, x6, x7 => if x7 < x6 then (if 0 ≤ x7 then (if x7 < (x5.length : Int) then ((impl_KeyOk.f k (rdOf ByteArray.empty x5 x7)).bind fun t317 => (if t317 = true then (if x7 > 0 then (if 0 ≤ (wrap64 (x7 - 1)) then (if (wrap64 (x7 - 1)) < (x0.length : Int) then (if ((Op.bytesLess ((rdOf ByteArray.empty x0 (wrap64 (x7 - 1))).toList) ((rdOf ByteArray.empty x5 x7).toList)) = true) then (impl_KeysOk.l0 k x0 x5 x6 (wrap64 (x7 + 1))) else (some false)) else (none)) else (none)) else (impl_KeysOk.l0 k x0 x5 x6 (wrap64 (x7 + 1)))) else (some false))) else (none)) else (none)) else (some (decide ((x0.length : Int) ≤ 24)))
def impl_KeysOk.f (k : Nat) (l0 : List ByteArray) : Option (Bool) := impl_KeysOk.l0 k l0 l0 (l0.length : Int) 0
def impl_in.f (a0 : Int) (a1 : Int) (a2 : Int) : Option (Bool) := if a1 ≤ a0 then (some (decide (a0 ≤ a2))) else (some false)
def impl_isKeep.f (a0 : Int) : Option (Bool) := (impl_in.f a0 0 5).bind fun t319 => (some t319)
def impl_label.f (a0 : ByteArray) (a1 : Int) : Option (Int) := if (a0.size : Int) = a1 then (some 45) else (if 0 ≤ a1 then (if a1 < (a0.size : Int) then (some (bt a0 a1)) else (none)) else (none))
mutual
def impl_sieveOf.l0 : Nat → ByteArray → ByteArray → ByteArray → List ByteArray → List S108 → Int → Int → Option (ByteArray × ByteArray × ByteArray × List ByteArray × Int)
 | 0, _, _, _, _, _, _, _ => none
 | k + 1, L, M, F, R, Q, keep, i => if i < (Q.length : Int) then (if 0 ≤ i then (impl_sieveOf.l1 k L M F R Q keep i (rd_T108 Q i).f0 (rd_T108 Q i).f1 49) else (none)) else (some (L, M, F, R, keep))
def impl_sieveOf.l1 : Nat → ByteArray → ByteArray → ByteArray → List ByteArray → List S108 → Int → Int → List ByteArray → Int → Int → Option (ByteArray × ByteArray × ByteArray × List ByteArray × Int)
 | 0, _, _, _, _, _, _, _, _, _, _ => none
 | k + 1, L, M, F, R, Q, keep, i, rest, depth, mark => if (rest.length : Int) > 0 then (impl_sieveOf.l2 k L M F R Q keep i rest depth mark 1) else (impl_sieveOf.l0 k L M F R Q keep (wrap64 (i + 1)))
def impl_sieveOf.l2 : Nat → ByteArray → ByteArray → ByteArray → List ByteArray → List S108 → Int → Int → List ByteArray → Int → Int → Int → Option (ByteArray × ByteArray × ByteArray × List ByteArray × Int)
 | 0, _, _, _, _, _, _, _, _, _, _, _ => none
 | k + 1, L, M, F, R, Q, keep, i, rest, depth, mark, n => if n < (rest.length : Int) then (if 0 ≤ n then ((impl_label.f (rdOf ByteArray.empty rest n) depth).bind fun a => ((impl_label.f (rdOf ByteArray.empty rest 0) depth).bind fun b => (if a = b then (impl_sieveOf.l2 k L M F R Q keep i rest depth mark (wrap64 (n + 1))) else (impl_sieveOf.l3 k L M F R Q keep i rest depth mark n)))) else (none)) else (impl_sieveOf.l3 k L M F R Q keep i rest depth mark n)
def impl_sieveOf.l3 : Nat → ByteArray → ByteArray → ByteArray → List ByteArray → List S108 → Int → Int → List ByteArray → Int → Int → Int → Option (ByteArray × ByteArray × ByteArray × List ByteArray × Int)
 | 0, _, _, _, _, _, _, _, _, _, _, _ => none
 | k + 1, L, M, F, R, Q, keep, i, rest, depth, mark, n => if L.size + 1 ≤ 140737488355328 ∧ M.size + 1 ≤ 140737488355328 ∧ F.size + 1 ≤ 140737488355328 ∧ 0 ≤ n ∧ n ≤ (rest.length : Int) ∧ 0 ≤ depth ∧ depth ≤ 1000000000 ∧ 0 ≤ keep ∧ Q.length < 4398046511104 ∧ R.length < 8796093022208 then ((impl_label.f (rdOf ByteArray.empty rest 0) depth).bind fun c => (if n > 1 then (impl_sieveOf.l1 k (L.push c.toNat.toUInt8) (M.push 49) (F.push mark.toNat.toUInt8) R (Q ++ [⟨rest.take n.toNat, wrap64 (depth + 1)⟩]) keep i (rest.drop n.toNat) depth 48) else (impl_sieveOf.l1 k (L.push c.toNat.toUInt8) (M.push 48) (F.push mark.toNat.toUInt8) (R ++ [((rdOf ByteArray.empty rest 0).extract (mn (wrap64 (depth + 1)) ((rdOf ByteArray.empty rest 0).size : Int)).toNat (rdOf ByteArray.empty rest 0).size).extract 0 (mn keep (((rdOf ByteArray.empty rest 0).extract (mn (wrap64 (depth + 1)) ((rdOf ByteArray.empty rest 0).size : Int)).toNat (rdOf ByteArray.empty rest 0).size).size : Int)).toNat]) Q keep i (rest.drop n.toNat) depth 48))) else (none)
end
def impl_sieveOf.f (k : Nat) (l0 : List ByteArray) (a1 : Int) : Option (ByteArray × ByteArray × ByteArray × List ByteArray × Int) := impl_sieveOf.l0 k (⟨#[]⟩ : ByteArray) (⟨#[]⟩ : ByteArray) (⟨#[]⟩ : ByteArray) [] [⟨l0, 0⟩] a1 0
def impl_SieveOf.f (k : Nat) (l0 : List ByteArray) (a1 : Int) : Option (ByteArray × ByteArray × ByteArray × List ByteArray × Int × Bool) := (impl_KeysOk.f k l0).bind fun t321 => (if t321 = true then ((impl_isKeep.f a1).bind fun t322 => (if t322 = true then ((impl_sieveOf.f k l0 a1).bind fun bt323 => (some (bt323.1, bt323.2.1, bt323.2.2.1, bt323.2.2.2.1, bt323.2.2.2.2, true))) else (some ((⟨#[]⟩ : ByteArray), (⟨#[]⟩ : ByteArray), (⟨#[]⟩ : ByteArray), ([] : List ByteArray), 0, false)))) else (some ((⟨#[]⟩ : ByteArray), (⟨#[]⟩ : ByteArray), (⟨#[]⟩ : ByteArray), ([] : List ByteArray), 0, false)))
def impl_texts.l0 : Nat → List ByteArray → List (S93) → Int → Int → Option (List ByteArray)
 | 0, _, _, _, _ => none
 | k + 1, x3, x6, x7, x8 => if x8 < x7 then (if 0 ≤ x8 then (if x8 < (x6.length : Int) then (if x3.length < 8796093022208 then (impl_texts.l0 k (x3 ++ [(rd_T93 x6 x8).f0]) x6 x7 (wrap64 (x8 + 1))) else (none)) else (none)) else (none)) else (some x3)
def impl_texts.f (k : Nat) (l0 : List (S93)) : Option (List ByteArray) := impl_texts.l0 k ([] : List ByteArray) l0 (l0.length : Int) 0
def impl_BitsOk.l0 : Nat → ByteArray → Int → Int → Option (Bool)
 | 0, _, _, _ => none
 | k + 1, x0, x5, x6 => if x6 < x5 then (if 0 ≤ x6 then (if x6 < (x0.size : Int) then (if (bt x0 x6) = 48 then (impl_BitsOk.l0 k x0 x5 (wrap64 (x6 + 1))) else (if (bt x0 x6) = 49 then (impl_BitsOk.l0 k x0 x5 (wrap64 (x6 + 1))) else (some false))) else (none)) else (none)) else (some (decide ((x0.size : Int) ≤ 400)))
def impl_BitsOk.f (k : Nat) (a0 : ByteArray) : Option (Bool) := impl_BitsOk.l0 k a0 (a0.size : Int) 0
def strings_Count.f (a0 : ByteArray) (a1 : ByteArray) : Option (Int) := if a1.size = 1 then (some ((a0.data.toList.count (a1.data.toList.headD 0) : Nat) : Int)) else (none)
def impl_one.l0 : Nat → ByteArray → Int → Int → Int → Option (Int)
 | 0, _, _, _, _ => none
 | k + 1, x0, x1, x7, x8 => if x8 < x7 then (if 0 ≤ x8 then (if x8 < (x0.size : Int) then (if (bt x0 x8) = 49 then (if x1 = 0 then (some x8) else (impl_one.l0 k x0 (wrap64 (x1 - 1)) x7 (wrap64 (x8 + 1)))) else (impl_one.l0 k x0 x1 x7 (wrap64 (x8 + 1)))) else (none)) else (none)) else (some (-1))
def impl_one.f (k : Nat) (a0 : ByteArray) (a1 : Int) : Option (Int) := impl_one.l0 k a0 a1 (a0.size : Int) 0
def impl_Sieve_branches.l0 : Nat → Int → Int → ByteArray → ByteArray → ByteArray → List ByteArray → Int → Option (Int × Int)
 | 0, _, _, _, _, _, _, _ => none
 | k + 1, x6, x7, x338000, x338001, x338002, x338003, x338004 => if x7 < (x338002.size : Int) then (if 0 ≤ x7 then (if (bt x338002 x7) = 48 then (impl_Sieve_branches.l0 k x6 (wrap64 (x7 + 1)) x338000 x338001 x338002 x338003 x338004) else (some (x6, x7))) else (none)) else (some (x6, x7))
def impl_Sieve_branches.f (k : Nat) (a0_0 : ByteArray) (a0_1 : ByteArray) (a0_2 : ByteArray) (l0_3 : List ByteArray) (a0_4 : Int) (a1 : Int) : Option (Int × Int) := (impl_one.f k a0_2 a1).bind fun t338 => (if t338 < 0 then (some (0, 0)) else (impl_Sieve_branches.l0 k t338 (wrap64 (t338 + 1)) a0_0 a0_1 a0_2 l0_3 a0_4))
def impl_Sieve_node.f (a0_0 : ByteArray) (a0_1 : ByteArray) (a0_2 : ByteArray) (l0_3 : List ByteArray) (a0_4 : Int) (a1 : Int) : Option (Int) := if 0 ≤ (wrap64 (a1 + 1)) then (if (wrap64 (a1 + 1)) ≤ (a0_1.size : Int) then ((strings_Count.f (a0_1.extract 0 ((wrap64 (a1 + 1)) : Int).toNat) (⟨#[49]⟩ : ByteArray)).bind fun t340 => (some t340)) else (none)) else (none)
def impl_Sieve_rest.f (a0_0 : ByteArray) (a0_1 : ByteArray) (a0_2 : ByteArray) (l0_3 : List ByteArray) (a0_4 : Int) (a1 : Int) : Option (ByteArray) := if 0 ≤ a1 then (if a1 ≤ (a0_1.size : Int) then ((strings_Count.f (a0_1.extract 0 (a1 : Int).toNat) (⟨#[48]⟩ : ByteArray)).bind fun t342 => (if 0 ≤ t342 then (if t342 < (l0_3.length : Int) then (some (rdOf ByteArray.empty l0_3 t342)) else (none)) else (none))) else (none)) else (none)
def impl_Sieve_complete.f (a0_0 : ByteArray) (a0_1 : ByteArray) (a0_2 : ByteArray) (l0_3 : List ByteArray) (a0_4 : Int) (a1 : Int) : Option (Bool) := if 0 ≤ a1 then (if a1 < (a0_0.size : Int) then (if (bt a0_0 a1) = 45 then (some true) else ((impl_Sieve_rest.f a0_0 a0_1 a0_2 l0_3 a0_4 a1).bind fun t345 => (some (decide ((t345.size : Int) < a0_4))))) else (none)) else (none)
mutual
def impl_Sieve_parts.l0 : Nat → ByteArray → List (S93) → Int → Int → ByteArray → ByteArray → ByteArray → List ByteArray → Int → Option ((List (S93)) × Bool)
 | 0, _, _, _, _, _, _, _, _, _ => none
 | k + 1, x2, x3, x11, x12, x347000, x347001, x347002, x347003, x347004 => if x12 < x11 then (if 0 ≤ x12 then (if x12 < (x347000.size : Int) then (if (bt x347000 x12) = 45 then (impl_Sieve_parts.j1 k x2 x3 x11 x12 x2 x347000 x347001 x347002 x347003 x347004) else (if x12 ≤ (wrap64 (x12 + 1)) then (if (wrap64 (x12 + 1)) ≤ (x347000.size : Int) then (if x2.size + (x347000.extract (x12 : Int).toNat ((wrap64 (x12 + 1)) : Int).toNat).size ≤ 9223372036854775807 then (impl_Sieve_parts.j1 k x2 x3 x11 x12 (x2 ++ (x347000.extract (x12 : Int).toNat ((wrap64 (x12 + 1)) : Int).toNat)) x347000 x347001 x347002 x347003 x347004) else (none)) else (none)) else (none))) else (none)) else (none)) else (some (x3, true))
def impl_Sieve_parts.j1 : Nat → ByteArray → List (S93) → Int → Int → ByteArray → ByteArray → ByteArray → ByteArray → List ByteArray → Int → Option ((List (S93)) × Bool)
 | 0, _, _, _, _, _, _, _, _, _, _ => none
 | k + 1, x2, x3, x11, x12, x13, x347000, x347001, x347002, x347003, x347004 => if 0 ≤ x12 then (if x12 < (x347001.size : Int) then (if (bt x347001 x12) = 48 then ((impl_Sieve_rest.f x347000 x347001 x347002 x347003 x347004 x12).bind fun t349 => (if x13.size + t349.size ≤ 9223372036854775807 then ((impl_Sieve_complete.f x347000 x347001 x347002 x347003 x347004 x12).bind fun t350 => (if x3.length < 5864062014805 then (impl_Sieve_parts.l0 k x2 (x3 ++ [(⟨x13 ++ t349, t350⟩ : S93)]) x11 (wrap64 (x12 + 1)) x347000 x347001 x347002 x347003 x347004) else (none))) else (none))) else ((impl_Sieve_node.f x347000 x347001 x347002 x347003 x347004 x12).bind fun t354 => ((impl_Sieve_branches.f k x347000 x347001 x347002 x347003 x347004 t354).bind fun bt355 => (if bt355.1 ≤ x12 then (impl_Sieve_parts.j2 k x2 x3 x11 x12 x13 true x347000 x347001 x347002 x347003 x347004) else (if x12 < (x347000.size : Int) then (impl_Sieve_parts.j2 k x2 x3 x11 x12 x13 ((bt x347000 x12) == 45) x347000 x347001 x347002 x347003 x347004) else (none)))))) else (none)) else (none)
def impl_Sieve_parts.j2 : Nat → ByteArray → List (S93) → Int → Int → ByteArray → Bool → ByteArray → ByteArray → ByteArray → List ByteArray → Int → Option ((List (S93)) × Bool)
 | 0, _, _, _, _, _, _, _, _, _, _, _ => none
 | k + 1, x2, x3, x11, x12, x13, x81, x347000, x347001, x347002, x347003, x347004 => if x81 = true then (some (([] : List (S93)), false)) else ((impl_Sieve_node.f x347000 x347001 x347002 x347003 x347004 x12).bind fun t357 => ((impl_Sieve_parts.f k x347000 x347001 x347002 x347003 x347004 t357 x13 x3).bind fun bt358 => (if bt358.2 = true then (impl_Sieve_parts.l0 k x2 bt358.1 x11 (wrap64 (x12 + 1)) x347000 x347001 x347002 x347003 x347004) else (some (([] : List (S93)), false)))))
def impl_Sieve_parts.f : Nat → ByteArray → ByteArray → ByteArray → List ByteArray → Int → Int → ByteArray → List (S93) → Option ((List (S93)) × Bool)
 | 0, _, _, _, _, _, _, _, _ => none
 | k + 1, a0_0, a0_1, a0_2, l0_3, a0_4, a1, a2, l3 => if (a2.size : Int) > 5 then (some (([] : List (S93)), false)) else ((impl_Sieve_branches.f k a0_0 a0_1 a0_2 l0_3 a0_4 a1).bind fun bt347 => (impl_Sieve_parts.l0 k a2 l3 bt347.2 bt347.1 a0_0 a0_1 a0_2 l0_3 a0_4))
end
def slices_Equal_string_string.l0 : Nat → List ByteArray → List ByteArray → Int → Int → Option (Bool)
 | 0, _, _, _, _ => none
 | k + 1, x0, x1, x12, x13 => if x13 < x12 then (if 0 ≤ x13 then (if x13 < (x0.length : Int) then (if x13 < (x1.length : Int) then (if (rdOf ByteArray.empty x0 x13).toList = (rdOf ByteArray.empty x1 x13).toList then (slices_Equal_string_string.l0 k x0 x1 x12 (wrap64 (x13 + 1))) else (some false)) else (none)) else (none)) else (none)) else (some true)
def slices_Equal_string_string.f (k : Nat) (l0 : List ByteArray) (l1 : List ByteArray) : Option (Bool) := if (l0.length : Int) = (l1.length : Int) then (slices_Equal_string_string.l0 k l0 l1 (l0.length : Int) 0) else (some false)
def impl_Sieve_same.f (k : Nat) (a0_0 : ByteArray) (a0_1 : ByteArray) (a0_2 : ByteArray) (l0_3 : List ByteArray) (a0_4 : Int) (a1_0 : ByteArray) (a1_1 : ByteArray) (a1_2 : ByteArray) (l1_3 : List ByteArray) (a1_4 : Int) : Option (Bool) := if a0_0.toList = a1_0.toList then (if a0_1.toList = a1_1.toList then (if a0_2.toList = a1_2.toList then (if a0_4 = a1_4 then ((slices_Equal_string_string.f k l0_3 l1_3).bind fun t366 => (some t366)) else (some false)) else (some false)) else (some false)) else (some false)
def impl_Sieve_heads.j0 : Nat → Bool → ByteArray → ByteArray → ByteArray → List ByteArray → Int → Option ((List (S93)) × Bool)
 | 0, _, _, _, _, _, _ => none
 | k + 1, x49, x368000, x368001, x368002, x368003, x368004 => if x49 = true then (some (([] : List (S93)), false)) else ((impl_Sieve_parts.f k x368000 x368001 x368002 x368003 x368004 0 (⟨#[]⟩ : ByteArray) ([] : List (S93))).bind fun bt372 => (if bt372.2 = true then ((impl_texts.f k bt372.1).bind fun t376 => ((impl_SieveOf.f k t376 x368004).bind fun bt379 => (if bt379.2.2.2.2.2 = true then ((impl_Sieve_same.f k bt379.1 bt379.2.1 bt379.2.2.1 bt379.2.2.2.1 bt379.2.2.2.2.1 x368000 x368001 x368002 x368003 x368004).bind fun t388 => (if t388 = true then (some (bt372.1, true)) else (some (([] : List (S93)), false)))) else (some (([] : List (S93)), false))))) else (some (([] : List (S93)), false))))
def impl_Sieve_heads.f (k : Nat) (a0_0 : ByteArray) (a0_1 : ByteArray) (a0_2 : ByteArray) (l0_3 : List ByteArray) (a0_4 : Int) : Option ((List (S93)) × Bool) := (impl_BitsOk.f k a0_1).bind fun t368 => (if t368 = true then ((impl_BitsOk.f k a0_2).bind fun t369 => (if t369 = true then (if (a0_1.size : Int) = (a0_0.size : Int) then (if (a0_2.size : Int) = (a0_0.size : Int) then ((impl_isKeep.f a0_4).bind fun t370 => (if t370 = true then ((strings_Count.f a0_1 (⟨#[48]⟩ : ByteArray)).bind fun t371 => (impl_Sieve_heads.j0 k ((l0_3.length : Int) != t371) a0_0 a0_1 a0_2 l0_3 a0_4)) else (impl_Sieve_heads.j0 k true a0_0 a0_1 a0_2 l0_3 a0_4))) else (impl_Sieve_heads.j0 k true a0_0 a0_1 a0_2 l0_3 a0_4)) else (impl_Sieve_heads.j0 k true a0_0 a0_1 a0_2 l0_3 a0_4)) else (impl_Sieve_heads.j0 k true a0_0 a0_1 a0_2 l0_3 a0_4))) else (impl_Sieve_heads.j0 k true a0_0 a0_1 a0_2 l0_3 a0_4))
def stringslite_HasPrefix.f (a0 : ByteArray) (a1 : ByteArray) : Option (Bool) := if (a0.size : Int) ≥ (a1.size : Int) then (if 0 ≤ (a1.size : Int) then (if (a1.size : Int) ≤ (a0.size : Int) then (some ((a0.extract 0 ((a1.size : Int) : Int).toNat).toList == a1.toList)) else (none)) else (none)) else (some false)
def strings_HasPrefix.f (a0 : ByteArray) (a1 : ByteArray) : Option (Bool) := (stringslite_HasPrefix.f a0 a1).bind fun t394 => (some t394)
def impl_KeyBegins.f (a0 : ByteArray) (a1 : ByteArray) : Option (Bool) := (strings_HasPrefix.f a0 a1).bind fun t395 => (some t395)
def spec_l1One.l0 : Nat → ByteArray → Int → Int → Option (Int)
 | 0, _, _, _ => none
 | k + 1, x0, x1, x5 => if x5 < (x0.size : Int) then (if 0 ≤ x5 then (if (bt x0 x5) = 49 then (if x1 = 0 then (some x5) else (spec_l1One.l0 k x0 (wrap64 (x1 - 1)) (wrap64 (x5 + 1)))) else (spec_l1One.l0 k x0 x1 (wrap64 (x5 + 1)))) else (none)) else (some (x0.size : Int))
def spec_l1One.f (k : Nat) (a0 : ByteArray) (a1 : Int) : Option (Int) := spec_l1One.l0 k a0 a1 0
mutual
def spec_l1Ones.l0 : Nat → ByteArray → Int → Int → Int → Option (Int)
 | 0, _, _, _, _ => none
 | k + 1, x0, x1, x5, x6 => if x6 < x1 then (spec_l1Ones.j1 k x0 x1 x5 x6 (decide (x6 < (x0.size : Int)))) else (spec_l1Ones.j1 k x0 x1 x5 x6 false)
def spec_l1Ones.j1 : Nat → ByteArray → Int → Int → Int → Bool → Option (Int)
 | 0, _, _, _, _, _ => none
 | k + 1, x0, x1, x5, x6, x15 => if x15 = true then (if 0 ≤ x6 then (if x6 < (x0.size : Int) then (if (bt x0 x6) = 49 then (spec_l1Ones.l0 k x0 x1 (wrap64 (x5 + 1)) (wrap64 (x6 + 1))) else (spec_l1Ones.l0 k x0 x1 x5 (wrap64 (x6 + 1)))) else (none)) else (none)) else (some x5)
end
def spec_l1Ones.f (k : Nat) (a0 : ByteArray) (a1 : Int) : Option (Int) := spec_l1Ones.l0 k a0 a1 0 0
def spec_l3Kids.f (k : Nat) (a0_0 : ByteArray) (a0_1 : ByteArray) (a0_2 : ByteArray) (l0_3 : List ByteArray) (a0_4 : Int) (a1 : Int) : Option (Int × Int) := (spec_l1Ones.f k a0_1 (wrap64 (a1 + 1))).bind fun t410 => ((spec_l1One.f k a0_2 t410).bind fun t411 => ((spec_l1One.f k a0_2 (wrap64 (t410 + 1))).bind fun t412 => (some (t411, t412))))
mutual
def spec_l3Add.l0 : Nat → Int → ByteArray → List ByteArray → Int → ByteArray → ByteArray → ByteArray → List ByteArray → Int → Option (List ByteArray)
 | 0, _, _, _, _, _, _, _, _, _ => none
 | k + 1, x2, x3, x4, x11, x414000, x414001, x414002, x414003, x414004 => if x11 < x2 then (if x11 < (x414000.size : Int) then (spec_l3Add.j1 k x2 x3 x4 x11 (decide ((x3.size : Int) ≤ 5)) x414000 x414001 x414002 x414003 x414004) else (spec_l3Add.j1 k x2 x3 x4 x11 false x414000 x414001 x414002 x414003 x414004)) else (spec_l3Add.j1 k x2 x3 x4 x11 false x414000 x414001 x414002 x414003 x414004)
def spec_l3Add.j1 : Nat → Int → ByteArray → List ByteArray → Int → Bool → ByteArray → ByteArray → ByteArray → List ByteArray → Int → Option (List ByteArray)
 | 0, _, _, _, _, _, _, _, _, _, _ => none
 | k + 1, x2, x3, x4, x11, x31, x414000, x414001, x414002, x414003, x414004 => if x31 = true then (if 0 ≤ x11 then (if x11 < (x414000.size : Int) then (if (bt x414000 x11) = 45 then (spec_l3Add.j2 k x2 x3 x4 x11 x3 x414000 x414001 x414002 x414003 x414004) else (if x11 ≤ (wrap64 (x11 + 1)) then (if (wrap64 (x11 + 1)) ≤ (x414000.size : Int) then (if x3.size + (x414000.extract (x11 : Int).toNat ((wrap64 (x11 + 1)) : Int).toNat).size ≤ 9223372036854775807 then (spec_l3Add.j2 k x2 x3 x4 x11 (x3 ++ (x414000.extract (x11 : Int).toNat ((wrap64 (x11 + 1)) : Int).toNat)) x414000 x414001 x414002 x414003 x414004) else (none)) else (none)) else (none))) else (none)) else (none)) else (some x4)
def spec_l3Add.j2 : Nat → Int → ByteArray → List ByteArray → Int → ByteArray → ByteArray → ByteArray → ByteArray → List ByteArray → Int → Option (List ByteArray)
 | 0, _, _, _, _, _, _, _, _, _, _ => none
 | k + 1, x2, x3, x4, x11, x12, x414000, x414001, x414002, x414003, x414004 => if 0 ≤ x11 then (if x11 < (x414001.size : Int) then (if (bt x414001 x11) = 49 then ((spec_l3Kids.f k x414000 x414001 x414002 x414003 x414004 x11).bind fun bt414 => (if bt414.1 ≤ x11 then (some x4) else ((spec_l3Add.f k x414000 x414001 x414002 x414003 x414004 bt414.1 bt414.2 x12 x4).bind fun t416 => (spec_l3Add.l0 k x2 x3 t416 (wrap64 (x11 + 1)) x414000 x414001 x414002 x414003 x414004)))) else ((spec_l1Ones.f k x414001 x11).bind fun t419 => (if (wrap64 (x11 - t419)) < (x414003.length : Int) then (if 0 ≤ (wrap64 (x11 - t419)) then (if x12.size + (rdOf ByteArray.empty x414003 (wrap64 (x11 - t419))).size ≤ 9223372036854775807 then (if x4.length < 8796093022208 then (spec_l3Add.l0 k x2 x3 (x4 ++ [x12 ++ (rdOf ByteArray.empty x414003 (wrap64 (x11 - t419)))]) (wrap64 (x11 + 1)) x414000 x414001 x414002 x414003 x414004) else (none)) else (none)) else (none)) else (spec_l3Add.l0 k x2 x3 x4 (wrap64 (x11 + 1)) x414000 x414001 x414002 x414003 x414004)))) else (none)) else (none)
def spec_l3Add.f : Nat → ByteArray → ByteArray → ByteArray → List ByteArray → Int → Int → Int → ByteArray → List ByteArray → Option (List ByteArray)
 | 0, _, _, _, _, _, _, _, _, _ => none
 | k + 1, a0_0, a0_1, a0_2, l0_3, a0_4, a1, a2, a3, l4 => spec_l3Add.l0 k a2 a3 l4 a1 a0_0 a0_1 a0_2 l0_3 a0_4
end
def spec_l3Heads.f (k : Nat) (a0_0 : ByteArray) (a0_1 : ByteArray) (a0_2 : ByteArray) (l0_3 : List ByteArray) (a0_4 : Int) : Option (List ByteArray) := (spec_l1One.f k a0_2 1).bind fun t425 => ((spec_l3Add.f k a0_0 a0_1 a0_2 l0_3 a0_4 0 t425 (⟨#[]⟩ : ByteArray) (([] : List ByteArray))).bind fun t429 => (some t429))
def spec_BitsOk.l0 : Nat → ByteArray → Int → Option (Bool)
 | 0, _, _ => none
 | k + 1, x0, x3 => if x3 < (x0.size : Int) then (if 0 ≤ x3 then (if (bt x0 x3) = 48 then (spec_BitsOk.l0 k x0 (wrap64 (x3 + 1))) else (if (bt x0 x3) = 49 then (spec_BitsOk.l0 k x0 (wrap64 (x3 + 1))) else (some false))) else (none)) else (some (decide ((x0.size : Int) ≤ 400)))
def spec_BitsOk.f (k : Nat) (a0 : ByteArray) : Option (Bool) := spec_BitsOk.l0 k a0 0
def spec_l3Form.f (k : Nat) (a0_0 : ByteArray) (a0_1 : ByteArray) (a0_2 : ByteArray) (l0_3 : List ByteArray) (a0_4 : Int) : Option (Bool) := (spec_BitsOk.f k a0_1).bind fun t433 => (if t433 = true then ((spec_BitsOk.f k a0_2).bind fun t434 => (if t434 = true then (if (a0_1.size : Int) = (a0_0.size : Int) then (if (a0_2.size : Int) = (a0_0.size : Int) then ((spec_l1Ones.f k a0_1 (a0_0.size : Int)).bind fun t435 => (if (l0_3.length : Int) = (wrap64 ((a0_0.size : Int) - t435)) then ((spec_l6In.f a0_4 0 5).bind fun t436 => (some t436)) else (some false))) else (some false)) else (some false)) else (some false))) else (some false))
def spec_l3Sames.l0 : Nat → List ByteArray → List ByteArray → Int → Option (Bool)
 | 0, _, _, _ => none
 | k + 1, x0, x1, x5 => if x5 < (x0.length : Int) then (if 0 ≤ x5 then (if x5 < (x1.length : Int) then (if (rdOf ByteArray.empty x0 x5).toList = (rdOf ByteArray.empty x1 x5).toList then (spec_l3Sames.l0 k x0 x1 (wrap64 (x5 + 1))) else (some false)) else (none)) else (none)) else (some true)
def spec_l3Sames.f (k : Nat) (l0 : List ByteArray) (l1 : List ByteArray) : Option (Bool) := if (l0.length : Int) = (l1.length : Int) then (spec_l3Sames.l0 k l0 l1 0) else (some false)
def spec_SieveOk.f (k : Nat) (a0_0 : ByteArray) (a0_1 : ByteArray) (a0_2 : ByteArray) (l0_3 : List ByteArray) (a0_4 : Int) : Option (Bool) := (spec_l3Form.f k a0_0 a0_1 a0_2 l0_3 a0_4).bind fun t440 => (if t440 = true then ((spec_l3Heads.f k a0_0 a0_1 a0_2 l0_3 a0_4).bind fun t441 => ((spec_SieveOf.f k t441 a0_4).bind fun bt444 => (if bt444.2.2.2.2.2 = true then (if bt444.1.toList = a0_0.toList then (if bt444.2.1.toList = a0_1.toList then (if bt444.2.2.1.toList = a0_2.toList then ((spec_l3Sames.f k bt444.2.2.2.1 l0_3).bind fun t453 => (some t453)) else (some false)) else (some false)) else (some false)) else (some false)))) else (some false))
def spec_l3Whole.f (k : Nat) (a0_0 : ByteArray) (a0_1 : ByteArray) (a0_2 : ByteArray) (l0_3 : List ByteArray) (a0_4 : Int) (a1 : Int) : Option (Bool) := (spec_l1Ones.f k a0_1 a1).bind fun t460 => (if 0 ≤ a1 then (if a1 < (a0_0.size : Int) then (if (bt a0_0 a1) = 45 then (some true) else (if 0 ≤ (wrap64 (a1 - t460)) then (if (wrap64 (a1 - t460)) < (l0_3.length : Int) then (some (decide (((rdOf ByteArray.empty l0_3 (wrap64 (a1 - t460))).size : Int) < a0_4))) else (none)) else (none))) else (none)) else (none))
def spec_KeyBegins.f (a0 : ByteArray) (a1 : ByteArray) : Option (Bool) := if (a1.size : Int) ≤ (a0.size : Int) then (if 0 ≤ (a1.size : Int) then (some ((a0.extract 0 ((a1.size : Int) : Int).toNat).toList == a1.toList)) else (none)) else (some false)
mutual
def impl_SieveSeek.j0 : Nat → ByteArray → List (S93) → Bool → Option (ByteArray × Bool)
 | 0, _, _, _ => none
 | k + 1, x1, x6, x21 => if x21 = true then (some ((⟨#[]⟩ : ByteArray), false)) else (impl_SieveSeek.l0 k x1 x6 (x6.length : Int) 0)
def impl_SieveSeek.l0 : Nat → ByteArray → List (S93) → Int → Int → Option (ByteArray × Bool)
 | 0, _, _, _, _ => none
 | k + 1, x1, x22, x23, x24 => if x24 < x23 then (if 0 ≤ x24 then (if x24 < (x22.length : Int) then (if ((Op.bytesLess (((rd_T93 x22 x24).f0).toList) x1.toList) = true) then (if ((rd_T93 x22 x24).f1 = true) then (impl_SieveSeek.l0 k x1 x22 x23 (wrap64 (x24 + 1))) else ((impl_KeyBegins.f x1 ((rd_T93 x22 x24).f0)).bind fun t480 => (if t480 = true then (some ((rd_T93 x22 x24).f0, true)) else (impl_SieveSeek.l0 k x1 x22 x23 (wrap64 (x24 + 1)))))) else (some ((rd_T93 x22 x24).f0, true))) else (none)) else (none)) else (some ((⟨#[]⟩ : ByteArray), false))
end
def impl_SieveSeek.f (k : Nat) (a0_0 : ByteArray) (a0_1 : ByteArray) (a0_2 : ByteArray) (l0_3 : List ByteArray) (a0_4 : Int) (a1 : ByteArray) : Option (ByteArray × Bool) := (impl_Sieve_heads.f k a0_0 a0_1 a0_2 l0_3 a0_4).bind fun bt473 => (if bt473.2 = true then ((impl_KeyOk.f k a1).bind fun t477 => (impl_SieveSeek.j0 k a1 bt473.1 (!t477))) else (impl_SieveSeek.j0 k a1 bt473.1 true))
def impl_SieveMeets.f (k : Nat) (a0_0 : ByteArray) (a0_1 : ByteArray) (a0_2 : ByteArray) (l0_3 : List ByteArray) (a0_4 : Int) (a1 : ByteArray) (a2 : ByteArray) : Option (Bool) := (impl_KeyOk.f k a1).bind fun t482 => (if t482 = true then ((impl_KeyOk.f k a2).bind fun t483 => (if t483 = true then (if (Op.bytesLess a2.toList a1.toList) = true then (some false) else ((impl_SieveSeek.f k a0_0 a0_1 a0_2 l0_3 a0_4 a1).bind fun bt484 => (if bt484.2 = true then (some (!(Op.bytesLess a2.toList bt484.1.toList))) else (some false)))) else (some false))) else (some false))
def spec_l6Many.l0 : Nat → ByteArray → Int → ByteArray → Option (ByteArray)
 | 0, _, _, _ => none
 | k + 1, x0, x1, x5 => if x1 > 0 then (if (Int.tmod x1 2) = 1 then (if x5.size + x0.size ≤ 9223372036854775807 then (if x0.size + x0.size ≤ 9223372036854775807 then (spec_l6Many.l0 k (x0 ++ x0) (wrap64 (Int.tdiv x1 2)) (x5 ++ x0)) else (none)) else (none)) else (if x0.size + x0.size ≤ 9223372036854775807 then (spec_l6Many.l0 k (x0 ++ x0) (wrap64 (Int.tdiv x1 2)) x5) else (none))) else (some x5)
def spec_l6Many.f (k : Nat) (a0 : ByteArray) (a1 : Int) : Option (ByteArray) := spec_l6Many.l0 k a0 a1 (⟨#[]⟩ : ByteArray)
def spec_l71Mess.l0 : Nat → List ByteArray → Int → List Int → Int → Option (List ByteArray × Int)
 | 0, _, _, _, _ => none
 | k + 1, x3, x4, x1000, x1001 => if x4 < 30 then ((some (([(⟨#[]⟩ : ByteArray), (⟨#[97]⟩ : ByteArray), (⟨#[98]⟩ : ByteArray), (⟨#[99]⟩ : ByteArray), (⟨#[100]⟩ : ByteArray)] : List ByteArray) : List ByteArray)).bind fun y547 => (if 0 ≤ (Int.tmod x4 5) then (if (Int.tmod x4 5) < (y547.length : Int) then (if 1 + (rdOf ByteArray.empty y547 (Int.tmod x4 5)).size ≤ 9223372036854775807 then ((some (([(⟨#[]⟩ : ByteArray), (⟨#[97]⟩ : ByteArray), (⟨#[98]⟩ : ByteArray), (⟨#[99]⟩ : ByteArray), (⟨#[100]⟩ : ByteArray), (⟨#[100, 97]⟩ : ByteArray)] : List ByteArray) : List ByteArray)).bind fun y551 => (if 0 ≤ (wrap64 (Int.tdiv x4 5)) then (if (wrap64 (Int.tdiv x4 5)) < (y551.length : Int) then (if ((⟨#[100]⟩ : ByteArray) ++ (rdOf ByteArray.empty y547 (Int.tmod x4 5))).size + (rdOf ByteArray.empty y551 (wrap64 (Int.tdiv x4 5))).size ≤ 9223372036854775807 then ((spec_l2Put.f k x3 (((⟨#[100]⟩ : ByteArray) ++ (rdOf ByteArray.empty y547 (Int.tmod x4 5))) ++ (rdOf ByteArray.empty y551 (wrap64 (Int.tdiv x4 5))))).bind fun t555 => (spec_l71Mess.l0 k t555 (wrap64 (x4 + 1)) x1000 x1001)) else (none)) else (none)) else (none))) else (none)) else (none)) else (none))) else (some (x3, x1001))
def spec_l71Mess.f (k : Nat) (s0_0 : List Int) (s0_1 : Int) : Option (List ByteArray × Int) := (spec_l71Keys.f k s0_0 s0_1 8).bind fun bt526 => ((spec_l6Rd_pick.f k s0_0 bt526.2 5).bind fun bt530 => (if bt530.1 = 0 then (if bt526.1.length < 8796093022208 then (some ((bt526.1 ++ [(⟨#[97]⟩ : ByteArray)]), bt530.2)) else (none)) else (if bt530.1 = 1 then ((some (([(⟨#[120]⟩ : ByteArray), (⟨#[101]⟩ : ByteArray)] : List ByteArray) : List ByteArray)).bind fun y535 => (if bt526.1.length + y535.length < 8796093022208 then (some ((bt526.1 ++ y535), bt530.2)) else (none))) else (if bt530.1 = 2 then ((spec_l6Rd_pick.f k s0_0 bt530.2 2).bind fun bt541 => ((spec_l6Many.f k (⟨#[100]⟩ : ByteArray) (wrap64 (5 + bt541.1))).bind fun t543 => (if bt526.1.length < 8796093022208 then (some ((bt526.1 ++ [t543]), bt541.2)) else (none)))) else (if bt530.1 = 3 then (spec_l71Mess.l0 k bt526.1 0 s0_0 bt530.2) else (some (bt526.1, bt530.2)))))))
def spec_DrawSieveOf.f (k : Nat) (l0 : List Int) : Option (List ByteArray × Int) := (spec_l6Open.f l0).bind fun bt558 => ((spec_l71Keys.f k bt558.1 bt558.2 12).bind fun bt561 => ((spec_l6Rd_pick.f k bt558.1 bt561.2 12).bind fun bt565 => (if bt565.1 = 0 then ((spec_l71Mess.f k bt558.1 bt565.2).bind fun bt567 => ((some (([0, 0, 1, 1, 2, 5, 6, (-1)] : List Int) : List Int)).bind fun y571 => ((spec_l6Rd_pick.f k bt558.1 bt567.2 8).bind fun bt574 => (if 0 ≤ bt574.1 then (if bt574.1 < (y571.length : Int) then (some (bt567.1, rd y571 bt574.1)) else (none)) else (none))))) else ((some (([0, 0, 1, 1, 2, 5, 6, (-1)] : List Int) : List Int)).bind fun y577 => ((spec_l6Rd_pick.f k bt558.1 bt565.2 8).bind fun bt580 => (if 0 ≤ bt580.1 then (if bt580.1 < (y577.length : Int) then (some (bt561.1, rd y577 bt580.1)) else (none)) else (none)))))))
def spec_DrawSieveMeets.f (k : Nat) (l0 : List Int) : Option (ByteArray × ByteArray × ByteArray × List ByteArray × Int × ByteArray × ByteArray) := (spec_l6Open.f l0).bind fun bt584 => ((spec_l71Bent.f k bt584.1 bt584.2).bind fun bt587 => ((spec_l71Near.f k bt584.1 bt587.2.2.2.2.2.2 bt587.2.2.2.2.2.1).bind fun bt599 => ((spec_l71Near.f k bt584.1 bt599.2 bt587.2.2.2.2.2.1).bind fun bt601 => (if (Op.bytesLess bt601.1.toList bt599.1.toList) = true then ((spec_l6Rd_pick.f k bt584.1 bt601.2 8).bind fun bt603 => (if bt603.1 > 0 then (some (bt587.1, bt587.2.1, bt587.2.2.1, bt587.2.2.2.1, bt587.2.2.2.2.1, bt601.1, bt599.1)) else (some (bt587.1, bt587.2.1, bt587.2.2.1, bt587.2.2.2.1, bt587.2.2.2.2.1, bt599.1, bt601.1)))) else (some (bt587.1, bt587.2.1, bt587.2.2.1, bt587.2.2.2.1, bt587.2.2.2.2.1, bt599.1, bt601.1))))))
def laws_ltSames.l0 : Nat → List ByteArray → List ByteArray → Int → Option (Bool)
 | 0, _, _, _ => none
 | k + 1, x0, x1, x5 => if x5 < (x0.length : Int) then (if 0 ≤ x5 then (if x5 < (x1.length : Int) then (if (rdOf ByteArray.empty x0 x5).toList = (rdOf ByteArray.empty x1 x5).toList then (laws_ltSames.l0 k x0 x1 (wrap64 (x5 + 1))) else (some false)) else (none)) else (none)) else (some true)
def laws_ltSames.f (k : Nat) (l0 : List ByteArray) (l1 : List ByteArray) : Option (Bool) := if (l0.length : Int) = (l1.length : Int) then (laws_ltSames.l0 k l0 l1 0) else (some false)
def laws_ltSieve.f (k : Nat) (a0_0 : ByteArray) (a0_1 : ByteArray) (a0_2 : ByteArray) (l0_3 : List ByteArray) (a0_4 : Int) (a1_0 : ByteArray) (a1_1 : ByteArray) (a1_2 : ByteArray) (l1_3 : List ByteArray) (a1_4 : Int) : Option (Bool) := if a0_0.toList = a1_0.toList then (if a0_1.toList = a1_1.toList then (if a0_2.toList = a1_2.toList then (if a0_4 = a1_4 then ((laws_ltSames.f k l0_3 l1_3).bind fun t609 => (some t609)) else (some false)) else (some false)) else (some false)) else (some false)
def spec_l3Behind.l0 : Nat → List ByteArray → List Bool → ByteArray → Int → Option (Int)
 | 0, _, _, _, _ => none
 | k + 1, x0, x1, x2, x7 => if x7 < (x0.length : Int) then (if 0 ≤ x7 then (if ((Op.bytesLess ((rdOf ByteArray.empty x0 x7).toList) x2.toList) = true) then (if x7 < (x1.length : Int) then (if rdOf false x1 x7 = true then (spec_l3Behind.l0 k x0 x1 x2 (wrap64 (x7 + 1))) else ((spec_KeyBegins.f x2 (rdOf ByteArray.empty x0 x7)).bind fun t613 => (if t613 = true then (some x7) else (spec_l3Behind.l0 k x0 x1 x2 (wrap64 (x7 + 1)))))) else (none)) else (some x7)) else (none)) else (some (x0.length : Int))
def spec_l3Behind.f (k : Nat) (l0 : List ByteArray) (l1 : List Bool) (a2 : ByteArray) : Option (Int) := spec_l3Behind.l0 k l0 l1 a2 0
mutual
def spec_l3Wholes.l0 : Nat → Int → List Bool → Int → ByteArray → ByteArray → ByteArray → List ByteArray → Int → Option (List Bool)
 | 0, _, _, _, _, _, _, _, _ => none
 | k + 1, x2, x3, x9, x615000, x615001, x615002, x615003, x615004 => if x9 < x2 then (spec_l3Wholes.j1 k x2 x3 x9 (decide (x9 < (x615000.size : Int))) x615000 x615001 x615002 x615003 x615004) else (spec_l3Wholes.j1 k x2 x3 x9 false x615000 x615001 x615002 x615003 x615004)
def spec_l3Wholes.j1 : Nat → Int → List Bool → Int → Bool → ByteArray → ByteArray → ByteArray → List ByteArray → Int → Option (List Bool)
 | 0, _, _, _, _, _, _, _, _, _ => none
 | k + 1, x2, x3, x9, x22, x615000, x615001, x615002, x615003, x615004 => if x22 = true then (if 0 ≤ x9 then (if x9 < (x615001.size : Int) then (if (bt x615001 x9) = 49 then ((spec_l3Kids.f k x615000 x615001 x615002 x615003 x615004 x9).bind fun bt615 => ((spec_l3Wholes.f k x615000 x615001 x615002 x615003 x615004 bt615.1 bt615.2 x3).bind fun t617 => (spec_l3Wholes.l0 k x2 t617 (wrap64 (x9 + 1)) x615000 x615001 x615002 x615003 x615004))) else ((spec_l3Whole.f k x615000 x615001 x615002 x615003 x615004 x9).bind fun t620 => (if x3.length < 140737488355328 then (spec_l3Wholes.l0 k x2 (x3 ++ [t620]) (wrap64 (x9 + 1)) x615000 x615001 x615002 x615003 x615004) else (none)))) else (none)) else (none)) else (some x3)
def spec_l3Wholes.f : Nat → ByteArray → ByteArray → ByteArray → List ByteArray → Int → Int → Int → List Bool → Option (List Bool)
 | 0, _, _, _, _, _, _, _, _ => none
 | k + 1, a0_0, a0_1, a0_2, l0_3, a0_4, a1, a2, l3 => spec_l3Wholes.l0 k a2 l3 a1 a0_0 a0_1 a0_2 l0_3 a0_4
end
def spec_SieveMeets.j0 : Nat → ByteArray → ByteArray → Bool → ByteArray → ByteArray → ByteArray → List ByteArray → Int → Option (Bool)
 | 0, _, _, _, _, _, _, _, _ => none
 | k + 1, x1, x2, x26, x625000, x625001, x625002, x625003, x625004 => if x26 = true then (some false) else ((spec_l3Heads.f k x625000 x625001 x625002 x625003 x625004).bind fun t628 => ((spec_l1One.f k x625002 1).bind fun t631 => ((spec_l3Wholes.f k x625000 x625001 x625002 x625003 x625004 0 t631 (([] : List Bool))).bind fun t635 => ((spec_l3Behind.f k t628 t635 x1).bind fun t638 => (if t638 < (t628.length : Int) then (if 0 ≤ t638 then (some (!(Op.bytesLess x2.toList ((rdOf ByteArray.empty t628 t638).toList)))) else (none)) else (some false))))))
def spec_SieveMeets.f (k : Nat) (a0_0 : ByteArray) (a0_1 : ByteArray) (a0_2 : ByteArray) (l0_3 : List ByteArray) (a0_4 : Int) (a1 : ByteArray) (a2 : ByteArray) : Option (Bool) := (spec_SieveOk.f k a0_0 a0_1 a0_2 l0_3 a0_4).bind fun t625 => (if t625 = true then ((spec_KeyOk.f k a1).bind fun t626 => (if t626 = true then ((spec_KeyOk.f k a2).bind fun t627 => (if t627 = true then (spec_SieveMeets.j0 k a1 a2 (Op.bytesLess a2.toList a1.toList) a0_0 a0_1 a0_2 l0_3 a0_4) else (spec_SieveMeets.j0 k a1 a2 true a0_0 a0_1 a0_2 l0_3 a0_4))) else (spec_SieveMeets.j0 k a1 a2 true a0_0 a0_1 a0_2 l0_3 a0_4))) else (spec_SieveMeets.j0 k a1 a2 true a0_0 a0_1 a0_2 l0_3 a0_4))
mutual
def laws_FnSieveMeets.j0 : Nat → List Int → List Int → Bool → Option (Bool)
 | 0, _, _, _ => none
 | k + 1, x0, x1, x23 => if x23 = true then (some true) else ((spec_DrawSieveOf.f k x0).bind fun bt640 => ((spec_DrawSieveMeets.f k x1).bind fun bt644 => ((spec_SieveOf.f k bt640.1 bt640.2).bind fun bt654 => ((impl_SieveOf.f k bt640.1 bt640.2).bind fun bt663 => (if (bt663.2.2.2.2.2 != bt654.2.2.2.2.2) = true then (laws_FnSieveMeets.j1 k bt640.1 bt644.2.2.2.2.2.1 bt644.2.2.2.2.2.2 bt654.2.2.2.2.2 bt663.2.2.2.2.2 true bt654.1 bt654.2.1 bt654.2.2.1 bt654.2.2.2.1 bt654.2.2.2.2.1 bt663.1 bt663.2.1 bt663.2.2.1 bt663.2.2.2.1 bt663.2.2.2.2.1) else ((laws_ltSieve.f k bt663.1 bt663.2.1 bt663.2.2.1 bt663.2.2.2.1 bt663.2.2.2.2.1 bt654.1 bt654.2.1 bt654.2.2.1 bt654.2.2.2.1 bt654.2.2.2.2.1).bind fun t672 => (if t672 = true then (laws_FnSieveMeets.j1 k bt640.1 bt644.2.2.2.2.2.1 bt644.2.2.2.2.2.2 bt654.2.2.2.2.2 bt663.2.2.2.2.2 (!bt663.2.2.2.2.2) bt654.1 bt654.2.1 bt654.2.2.1 bt654.2.2.2.1 bt654.2.2.2.2.1 bt663.1 bt663.2.1 bt663.2.2.1 bt663.2.2.2.1 bt663.2.2.2.2.1) else (laws_FnSieveMeets.j1 k bt640.1 bt644.2.2.2.2.2.1 bt644.2.2.2.2.2.2 bt654.2.2.2.2.2 bt663.2.2.2.2.2 true bt654.1 bt654.2.1 bt654.2.2.1 bt654.2.2.2.1 bt654.2.2.2.2.1 bt663.1 bt663.2.1 bt663.2.2.1 bt663.2.2.2.1 bt663.2.2.2.2.1))))))))
def laws_FnSieveMeets.j1 : Nat → List ByteArray → ByteArray → ByteArray → Bool → Bool → Bool → ByteArray → ByteArray → ByteArray → List ByteArray → Int → ByteArray → ByteArray → ByteArray → List ByteArray → Int → Option (Bool)
 | 0, _, _, _, _, _, _, _, _, _, _, _, _, _, _, _, _ => none
 | k + 1, x5, x8, x9, x11, x13, x59, x663000, x663001, x663002, x663003, x663004, x672000, x672001, x672002, x672003, x672004 => if x59 = true then (if (x13 == x11) = true then ((laws_ltSieve.f k x672000 x672001 x672002 x672003 x672004 x663000 x663001 x663002 x663003 x663004).bind fun t673 => (some t673)) else (some false)) else ((impl_SieveMeets.f k x672000 x672001 x672002 x672003 x672004 x8 x9).bind fun t674 => (laws_FnSieveMeets.l0 k x5 x8 x9 t674 0 x672000 x672001 x672002 x672003 x672004))
def laws_FnSieveMeets.l0 : Nat → List ByteArray → ByteArray → ByteArray → Bool → Int → ByteArray → ByteArray → ByteArray → List ByteArray → Int → Option (Bool)
 | 0, _, _, _, _, _, _, _, _, _, _ => none
 | k + 1, x5, x8, x9, x14, x15, x672000, x672001, x672002, x672003, x672004 => if x15 < (x5.length : Int) then (if 0 ≤ x15 then (if ((Op.bytesLess ((rdOf ByteArray.empty x5 x15).toList) x8.toList) = true) then (laws_FnSieveMeets.l0 k x5 x8 x9 x14 (wrap64 (x15 + 1)) x672000 x672001 x672002 x672003 x672004) else (if ((Op.bytesLess x9.toList ((rdOf ByteArray.empty x5 x15).toList)) = true) then (laws_FnSieveMeets.l0 k x5 x8 x9 x14 (wrap64 (x15 + 1)) x672000 x672001 x672002 x672003 x672004) else (if x14 = true then (laws_FnSieveMeets.l0 k x5 x8 x9 x14 (wrap64 (x15 + 1)) x672000 x672001 x672002 x672003 x672004) else (some false)))) else (none)) else ((spec_SieveMeets.f k x672000 x672001 x672002 x672003 x672004 x8 x9).bind fun t677 => (some (x14 == t677)))
end
def laws_FnSieveMeets.f (k : Nat) (l0 : List Int) (l1 : List Int) : Option (Bool) := if (l0.length : Int) > 1048576 then (laws_FnSieveMeets.j0 k l0 l1 true) else (laws_FnSieveMeets.j0 k l0 l1 (decide ((l1.length : Int) > 1048576)))
def laws_FnSieveMeets.Pure : Prop := ∀ (l0 : List Int) (l1 : List Int), l0.length ≤ maxLen → l0.length * 1 ≤ 140737488351232 → (∀ x ∈ l0, (Lit.int .u8 x).wf = true) → l1.length ≤ maxLen → l1.length * 1 ≤ 140737488351232 → (∀ x ∈ l1, (Lit.int .u8 x).wf = true) → ∃ k, laws_FnSieveMeets.f k l0 l1 = some true
end Go.Proofs.Ytifgcajpkgamgaa.Q
end
section
namespace Go.Proofs.Ytifgcajpkgamgaa.Q
open Go.RowKit Go.Proofs.YtifgcajpkgamgaaW.PrintWords Go.Proofs.YtifgcajpkgamgaaW.PrintLast Go.Proofs.YtifgcajpkgamgaaW.PrintMore
attribute [local go_sem] max2_int min2_int max_two min_two max_three min_three max_four min_four   
set_option linter.unusedVariables false
set_option linter.unusedSimpArgs false
set_option maxHeartbeats 8000000
set_option maxRecDepth 100000
theorem spec_l6In.calls (a0 a1 a2 : Int) (r : Bool) (w : World) (h : spec_l6In.f a0 a1 a2 = some r) :
    Calls Try.prog 76 #[.int .i64 a0, .int .i64 a1, .int .i64 a2] w fun e w' => e = .returned (.bool r) ∧ Drawn0 w w' := by
 have H : (if a0 ≥ a1 then (some (decide (a0 ≤ a2))) else (some false)) = some r := h; clear h
 by_cases c4 : a0 ≥ a1
 ·rw [if_pos c4] at H; have c4b0 : decide (a1 ≤ a0) = true := decide_eq_true c4; clear c4; obtain rfl := Option.some.inj H; go_enter Try.func76, Try.ntmps76; go_wp2; go_ret; exact ⟨zf, by repeat (first | exact Drawn0.refl _ | apply Drawn0.step)⟩
 ·rw [if_neg c4] at H; have c4b0 : decide (a1 ≤ a0) = false := decide_eq_false c4; clear c4; obtain rfl := Option.some.inj H; go_enter Try.func76, Try.ntmps76; go_wp2; go_ret; exact ⟨zf, by repeat (first | exact Drawn0.refl _ | apply Drawn0.step)⟩
theorem spec_KeyOk.mono_l : ∀ k, (∀ y0 y1, LeO (spec_KeyOk.l0 k y0 y1) (spec_KeyOk.l0 (k + 1) y0 y1))
  | 0 => fun _ _ r h => by simp [spec_KeyOk.l0] at h
  | k + 1 => by
    have ih0 := spec_KeyOk.mono_l k
    · intro y0 y1
      unfold spec_KeyOk.l0
      repeat' first | (with_reducible first | apply ih0 | exact LeO.refl _ | exact LeO.none _ | refine LeO.ite ?_ ?_ | refine LeO.bind ?_ (fun _ => ?_)) | exact LeO.none _ | refine LeO.ite ?_ ?_ | refine LeO.bind ?_ (fun _ => ?_)
theorem spec_KeyOk.mono : ∀ a0 k, LeO (spec_KeyOk.f k a0) (spec_KeyOk.f (k + 1) a0) := by
  intro a0 k
  have ih0 := spec_KeyOk.mono_l k
  unfold spec_KeyOk.f
  repeat' first | (with_reducible first | apply ih0 | exact LeO.refl _ | exact LeO.none _ | refine LeO.ite ?_ ?_ | refine LeO.bind ?_ (fun _ => ?_)) | exact LeO.none _ | refine LeO.ite ?_ ?_ | refine LeO.bind ?_ (fun _ => ?_)
theorem spec_KeyOk.calls (k : Nat) (a0 : ByteArray) (r : Bool) (w : World) (h : spec_KeyOk.f k a0 = some r) :
    Calls Try.prog 31 #[.string a0] w fun e w' => e = .returned (.bool r) ∧ Drawn0 w w' := by
 have H : (spec_KeyOk.l0 k a0 0) = some r := h; clear h; have H' := z0 H; clear H; go_enter Try.func31, Try.ntmps31; go_wp2
 go_loopg [3] k (fun kq v3 w' => ∃ (x3_1 : Int), v3 = .int .i64 x3_1 ∧ Aside0 (spec_KeyOk.l0 kq a0 x3_1 = some r) ∧ Aside0 (kq ≤ k) ∧ Drawn0 w w')
 case atStart => exact ⟨(0), zf, H', ⟨Nat.le_refl _⟩, by repeat (first | exact Drawn0.refl _ | apply Drawn0.step)⟩
 case round =>
  clear H'; obtain ⟨x3_1, rfl, HA, HK1, ⟨m1, rfl⟩⟩ := hrel
  cases gk with
  | zero => exact absurd HA.out (by simp [spec_KeyOk.l0])
  | succ k1 =>
   have H := HA.out; clear HA; simp only [spec_KeyOk.l0] at H
   by_cases c2 : x3_1 < (a0.size : Int)
   ·rw [if_pos c2] at H; have c2b0 := decide_eq_true c2; clear c2; replace H := zn H; obtain ⟨c3, H⟩ := H; have c3b0 := decide_eq_true c3; clear c3; replace H := zi H; obtain ⟨t107, A5, H⟩ := H
    by_cases c6 : t107 = true
    ·subst c6
     have H1 : (spec_KeyOk.l0 k1 a0 (wrap64 (x3_1 + 1))) = some r := by rw [if_pos rfl] at H; exact H
     clear H; have H := H1; clear H1; have H' := z0 H; clear H; have p4 : 0 ≤ (x3_1 : Int) := zd; have q4 : x3_1 < (a0.size : Int) := zd; have hx4 := bt_at a0 x3_1; replace p4 := eq_true p4; replace q4 := eq_true q4
     go_wp2_with (first | ((with_reducible refine gc 76 ?_); refine zL (some 14) Try.func76 #[.int .i64 (wrap64 (bt a0 x3_1)), .int .i64 97, .int .i64 100] ?_; (with_reducible refine (spec_l6In.calls (wrap64 (bt a0 x3_1)) 97 100 true _ A5.out).mono ?_); rintro e w' ⟨rfl, ⟨nd, rfl⟩⟩; refine ⟨_, rfl, ?_⟩))
     go_roundg k1
     case measure => have := HK1.out; omega
     case rel => exact ⟨(wrap64 (x3_1 + 1)), zf, H', ⟨by have := HK1.out; omega⟩, by repeat (first | exact Drawn0.refl _ | apply Drawn0.step)⟩
    ·replace c6 := Bool.eq_false_iff.mpr c6; subst c6
     have H1 : (some false) = some r := by rw [if_neg (show ¬ (false = true) by decide)] at H; exact H
     clear H; have H := H1; clear H1; obtain rfl := Option.some.inj H; have p4 : 0 ≤ (x3_1 : Int) := zd; have q4 : x3_1 < (a0.size : Int) := zd; have hx4 := bt_at a0 x3_1; replace p4 := eq_true p4; replace q4 := eq_true q4
     go_wp2_with (first | ((with_reducible refine gc 76 ?_); refine zL (some 14) Try.func76 #[.int .i64 (wrap64 (bt a0 x3_1)), .int .i64 97, .int .i64 100] ?_; (with_reducible refine (spec_l6In.calls (wrap64 (bt a0 x3_1)) 97 100 false _ A5.out).mono ?_); rintro e w' ⟨rfl, ⟨nd, rfl⟩⟩; refine ⟨_, rfl, ?_⟩))
     go_ret; exact ⟨zf, by repeat (first | exact Drawn0.refl _ | apply Drawn0.step)⟩
   ·rw [if_neg c2] at H; have c2b0 := decide_eq_false c2; clear c2; obtain rfl := Option.some.inj H; go_wp2; go_ret; exact ⟨zf, by repeat (first | exact Drawn0.refl _ | apply Drawn0.step)⟩
theorem spec_KeysOk.mono_l : ∀ k, (∀ y0 y1, LeO (spec_KeysOk.l0 k y0 y1) (spec_KeysOk.l0 (k + 1) y0 y1))
  | 0 => fun _ _ r h => by simp [spec_KeysOk.l0] at h
  | k + 1 => by
    have ih0 := spec_KeysOk.mono_l k
    · intro y0 y1
      unfold spec_KeysOk.l0
      repeat' first | (with_reducible first | apply ih0 | apply spec_KeyOk.mono | exact LeO.refl _ | exact LeO.none _ | refine LeO.ite ?_ ?_ | refine LeO.bind ?_ (fun _ => ?_)) | exact LeO.none _ | refine LeO.ite ?_ ?_ | refine LeO.bind ?_ (fun _ => ?_)
theorem spec_KeysOk.mono : ∀ a0 k, LeO (spec_KeysOk.f k a0) (spec_KeysOk.f (k + 1) a0) := by
  intro a0 k
  have ih0 := spec_KeysOk.mono_l k
  unfold spec_KeysOk.f
  repeat' first | (with_reducible first | apply ih0 | apply spec_KeyOk.mono | exact LeO.refl _ | exact LeO.none _ | refine LeO.ite ?_ ?_ | refine LeO.bind ?_ (fun _ => ?_)) | exact LeO.none _ | refine LeO.ite ?_ ?_ | refine LeO.bind ?_ (fun _ => ?_)
theorem spec_KeysOk.calls (k : Nat) (A0 : Option Addr) (c0 : Nat) (l0 : List ByteArray) (r : Bool) (w : World) (hr0 : Kd.C Kd.string w A0 l0.length l0) (hc0 : l0.length ≤ c0) (h : spec_KeysOk.f k l0 = some r) :
    Calls Try.prog 80 #[.slice A0 l0.length c0] w fun e w' => e = .returned (.bool r) ∧ Drawn0 w w' := by
 have HR0 := z0 hr0; have HC0 := z0 hc0; clear hr0 hc0; have H : (spec_KeysOk.l0 k l0 0) = some r := h; clear h; have H' := z0 H; clear H; go_enter Try.func80, Try.ntmps80; go_wp2
 repeat (go_quiet (fail); try go_wp2)
 go_loopg [3] k (fun kq v3 w' => ∃ (x3_1 : Int), v3 = .int .i64 x3_1 ∧ Aside0 (spec_KeysOk.l0 kq l0 x3_1 = some r) ∧ Aside0 (kq ≤ k) ∧ Drawn0 w w')
 case atStart => exact ⟨(0), zf, H', ⟨Nat.le_refl _⟩, by repeat (first | exact Drawn0.refl _ | apply Drawn0.step)⟩
 case round =>
  clear H'; obtain ⟨x3_1, rfl, HA, HK1, ⟨m1, rfl⟩⟩ := hrel
  cases gk with
  | zero => exact absurd HA.out (by simp [spec_KeysOk.l0])
  | succ k1 =>
   have H := HA.out; clear HA; simp only [spec_KeysOk.l0] at H
   by_cases c2 : x3_1 < (l0.length : Int)
   ·rw [if_pos c2] at H; have c2b0 := decide_eq_true c2; clear c2; replace H := zn H; obtain ⟨c3, H⟩ := H; have c3b0 := decide_eq_true c3; clear c3; replace H := zi H; obtain ⟨t109, A4, H⟩ := H
    by_cases c5 : t109 = true
    ·subst c5
     have H1 : (if x3_1 > 0 then (if 0 ≤ (wrap64 (x3_1 - 1)) then (if (wrap64 (x3_1 - 1)) < (l0.length : Int) then (if ((Op.bytesLess ((rdOf ByteArray.empty l0 (wrap64 (x3_1 - 1))).toList) ((rdOf ByteArray.empty l0 x3_1).toList)) = true) then (spec_KeysOk.l0 k1 l0 (wrap64 (x3_1 + 1))) else (some false)) else (none)) else (none)) else (spec_KeysOk.l0 k1 l0 (wrap64 (x3_1 + 1)))) = some r := by rw [if_pos rfl] at H; exact H
     clear H; have H := H1; clear H1
     by_cases c6 : x3_1 > 0
     ·rw [if_pos c6] at H; have c6b0 : decide (0 < x3_1) = true := decide_eq_true c6; clear c6; obtain ⟨ji7, hji7⟩ : ∃ j_ : Int, (wrap64 (x3_1 - 1)) = j_ := ⟨_, rfl⟩
      replace H : (if 0 ≤ (ji7) then (if (ji7) < (l0.length : Int) then (if ((Op.bytesLess ((rdOf ByteArray.empty l0 (ji7)).toList) ((rdOf ByteArray.empty l0 x3_1).toList)) = true) then (spec_KeysOk.l0 k1 l0 (wrap64 (x3_1 + 1))) else (some false)) else (none)) else (none)) = some r := by first | (rw [hji7] at H; exact H) | (simp only [hji7] at H ⊢; exact H)
      (try rw [hji7] at A4); have hji7w : (IntKind.i64.wrap (x3_1 - 1)) = ji7 := (i64_w _).trans hji7; replace H := zn H; obtain ⟨c8, H⟩ := H; have c8b0 := decide_eq_true c8; clear c8; replace H := zn H; obtain ⟨c9, H⟩ := H; have c9b0 := decide_eq_true c9; clear c9; have p108 : 0 ≤ (x3_1 : Int) := zd; have q108 : x3_1 < (l0.length : Int) := zd; obtain ⟨ad108, e108, hx108_0⟩ := Kd.at_string HR0.out x3_1 p108 q108; cases e108; replace p108 := eq_true p108; replace q108 := eq_true q108
      go_upto_if 31 with (first | (go_at_call 31; (with_reducible refine (spec_KeyOk.calls k1 (rdOf ByteArray.empty l0 x3_1) true _ A4.out).mono ?_); rintro e w' ⟨rfl, ⟨nd, rfl⟩⟩; (try exact zdd); have p110 : 0 ≤ ((ji7) : Int) := zd; have q110 : (ji7) < (l0.length : Int) := zd; obtain ⟨ad110, e110, hx110_0⟩ := Kd.at_string HR0.out (ji7) p110 q110; obtain rfl : ad108 = ad110 := (by injection e110); replace p110 := eq_true p110; replace q110 := eq_true q110; have p111 : 0 ≤ (x3_1 : Int) := zd; have q111 : x3_1 < (l0.length : Int) := zd; obtain ⟨ad111, e111, hx111_0⟩ := Kd.at_string HR0.out x3_1 p111 q111; obtain rfl : ad108 = ad111 := (by injection e111); replace p111 := eq_true p111; replace q111 := eq_true q111))
      repeat (go_quiet (first | (go_at_call 31; (with_reducible refine (spec_KeyOk.calls k1 (rdOf ByteArray.empty l0 x3_1) true _ A4.out).mono ?_); rintro e w' ⟨rfl, ⟨nd, rfl⟩⟩; (try exact zdd); have p110 : 0 ≤ ((ji7) : Int) := zd; have q110 : (ji7) < (l0.length : Int) := zd; obtain ⟨ad110, e110, hx110_0⟩ := Kd.at_string HR0.out (ji7) p110 q110; obtain rfl : ad108 = ad110 := (by injection e110); replace p110 := eq_true p110; replace q110 := eq_true q110; have p111 : 0 ≤ (x3_1 : Int) := zd; have q111 : x3_1 < (l0.length : Int) := zd; obtain ⟨ad111, e111, hx111_0⟩ := Kd.at_string HR0.out x3_1 p111 q111; obtain rfl : ad108 = ad111 := (by injection e111); replace p111 := eq_true p111; replace q111 := eq_true q111)); go_upto_if 31 with (first | (go_at_call 31; (with_reducible refine (spec_KeyOk.calls k1 (rdOf ByteArray.empty l0 x3_1) true _ A4.out).mono ?_); rintro e w' ⟨rfl, ⟨nd, rfl⟩⟩; (try exact zdd); have p110 : 0 ≤ ((ji7) : Int) := zd; have q110 : (ji7) < (l0.length : Int) := zd; obtain ⟨ad110, e110, hx110_0⟩ := Kd.at_string HR0.out (ji7) p110 q110; obtain rfl : ad108 = ad110 := (by injection e110); replace p110 := eq_true p110; replace q110 := eq_true q110; have p111 : 0 ≤ (x3_1 : Int) := zd; have q111 : x3_1 < (l0.length : Int) := zd; obtain ⟨ad111, e111, hx111_0⟩ := Kd.at_string HR0.out x3_1 p111 q111; obtain rfl : ad108 = ad111 := (by injection e111); replace p111 := eq_true p111; replace q111 := eq_true q111)))
      by_cases c10 : ((Op.bytesLess ((rdOf ByteArray.empty l0 (ji7)).toList) ((rdOf ByteArray.empty l0 x3_1).toList)) = true)
      ·rw [if_pos c10] at H; have c10b0 : (Op.bytesLess ((rdOf ByteArray.empty l0 (ji7)).toList) ((rdOf ByteArray.empty l0 x3_1).toList)) = true := c10; clear c10; (first | rw [c10b0] | (simp only [i64_w, i32_w]; rw [c10b0]) | simp only [*, Bool.not_true, Bool.not_false] | skip); have H' := z0 H; clear H; go_wp2
       repeat (go_quiet (fail); try go_wp2)
       go_roundg k1
       case measure => have := HK1.out; omega
       case rel => exact ⟨(wrap64 (x3_1 + 1)), zf, H', ⟨by have := HK1.out; omega⟩, by repeat (first | exact Drawn0.refl _ | apply Drawn0.step)⟩
      ·rw [if_neg c10] at H
       have c10b0 : (Op.bytesLess ((rdOf ByteArray.empty l0 (ji7)).toList) ((rdOf ByteArray.empty l0 x3_1).toList)) = false := by simpa using c10
       clear c10; (first | rw [c10b0] | (simp only [i64_w, i32_w]; rw [c10b0]) | simp only [*, Bool.not_true, Bool.not_false] | skip); obtain rfl := Option.some.inj H; go_wp2
       repeat (go_quiet (fail); try go_wp2)
       go_ret; exact ⟨by first | rfl | (simp; done) | (simp only [← hji7] <;> (first | rfl | simp)) | (simp [*]; done), by repeat (first | exact Drawn0.refl _ | apply Drawn0.step)⟩
     ·rw [if_neg c6] at H; have c6b0 : decide (0 < x3_1) = false := decide_eq_false c6; clear c6; have H' := z0 H; clear H; have p108 : 0 ≤ (x3_1 : Int) := zd; have q108 : x3_1 < (l0.length : Int) := zd; obtain ⟨ad108, e108, hx108_0⟩ := Kd.at_string HR0.out x3_1 p108 q108; cases e108; replace p108 := eq_true p108; replace q108 := eq_true q108
      go_wp2_with (first | (go_at_call 31; (with_reducible refine (spec_KeyOk.calls k1 (rdOf ByteArray.empty l0 x3_1) true _ A4.out).mono ?_); rintro e w' ⟨rfl, ⟨nd, rfl⟩⟩; (try exact zdd)))
      repeat (go_quiet (first | (go_at_call 31; (with_reducible refine (spec_KeyOk.calls k1 (rdOf ByteArray.empty l0 x3_1) true _ A4.out).mono ?_); rintro e w' ⟨rfl, ⟨nd, rfl⟩⟩; (try exact zdd))); try go_wp2_with (first | (go_at_call 31; (with_reducible refine (spec_KeyOk.calls k1 (rdOf ByteArray.empty l0 x3_1) true _ A4.out).mono ?_); rintro e w' ⟨rfl, ⟨nd, rfl⟩⟩; (try exact zdd))))
      go_roundg k1
      case measure => have := HK1.out; omega
      case rel => exact ⟨(wrap64 (x3_1 + 1)), zf, H', ⟨by have := HK1.out; omega⟩, by repeat (first | exact Drawn0.refl _ | apply Drawn0.step)⟩
    ·replace c5 := Bool.eq_false_iff.mpr c5; subst c5
     have H1 : (some false) = some r := by rw [if_neg (show ¬ (false = true) by decide)] at H; exact H
     clear H; have H := H1; clear H1; obtain rfl := Option.some.inj H; have p108 : 0 ≤ (x3_1 : Int) := zd; have q108 : x3_1 < (l0.length : Int) := zd; obtain ⟨ad108, e108, hx108_0⟩ := Kd.at_string HR0.out x3_1 p108 q108; cases e108; replace p108 := eq_true p108; replace q108 := eq_true q108
     go_wp2_with (first | (go_at_call 31; (with_reducible refine (spec_KeyOk.calls k1 (rdOf ByteArray.empty l0 x3_1) false _ A4.out).mono ?_); rintro e w' ⟨rfl, ⟨nd, rfl⟩⟩; (try exact zdd)))
     repeat (go_quiet (first | (go_at_call 31; (with_reducible refine (spec_KeyOk.calls k1 (rdOf ByteArray.empty l0 x3_1) false _ A4.out).mono ?_); rintro e w' ⟨rfl, ⟨nd, rfl⟩⟩; (try exact zdd))); try go_wp2_with (first | (go_at_call 31; (with_reducible refine (spec_KeyOk.calls k1 (rdOf ByteArray.empty l0 x3_1) false _ A4.out).mono ?_); rintro e w' ⟨rfl, ⟨nd, rfl⟩⟩; (try exact zdd))))
     go_ret; exact ⟨zf, by repeat (first | exact Drawn0.refl _ | apply Drawn0.step)⟩
   ·rw [if_neg c2] at H; have c2b0 := decide_eq_false c2; clear c2; obtain rfl := Option.some.inj H; go_wp2
    repeat (go_quiet (fail); try go_wp2)
    go_ret; exact ⟨zf, by repeat (first | exact Drawn0.refl _ | apply Drawn0.step)⟩
theorem spec_l3Letter.callsD (a0 : ByteArray) (a1 : Int) (r : ByteArray) (w : World) (h : spec_l3Letter.f a0 a1 = some r) :
    Calls Try.prog 107 #[.string a0, .int .i64 a1] w fun e w' => e = .returned (.string r) ∧ Drawn0 w w' := by
  have H : (if a1 ≥ (a0.size : Int) then (some (⟨#[45]⟩ : ByteArray)) else (if 0 ≤ a1 then (if a1 ≤ (wrap64 (a1 + 1)) then (if (wrap64 (a1 + 1)) ≤ (a0.size : Int) then (some (a0.extract (a1 : Int).toNat ((wrap64 (a1 + 1)) : Int).toNat)) else (none)) else (none)) else (none))) = some r := h
  clear h
  by_cases c3 : a1 ≥ (a0.size : Int)
  · rw [if_pos c3] at H
    have c3b0 : decide ((a0.size : Int) ≤ a1) = true := decide_eq_true c3
    clear c3
    obtain rfl := Option.some.inj H
    go_enter Try.func107, Try.ntmps107
    go_wp2
    go_ret
    exact ⟨zf, by repeat (first | exact Drawn0.refl _ | apply Drawn0.step)⟩
  · rw [if_neg c3] at H
    have c3b0 : decide ((a0.size : Int) ≤ a1) = false := decide_eq_false c3
    clear c3
    by_cases c4 : 0 ≤ a1
    · rw [if_pos c4] at H
      have c4b0 := eq_true c4
      have c4b1 : decide (0 ≤ a1) = true := decide_eq_true c4
      clear c4
      by_cases c5 : a1 ≤ (wrap64 (a1 + 1))
      · rw [if_pos c5] at H
        have c5b0 := eq_true c5
        have c5b1 : decide (a1 ≤ (wrap64 (a1 + 1))) = true := decide_eq_true c5
        by_cases c6 : (wrap64 (a1 + 1)) ≤ (a0.size : Int)
        · rw [if_pos c6] at H
          have c6b0 := eq_true c6
          have c6b1 : decide ((wrap64 (a1 + 1)) ≤ (a0.size : Int)) = true := decide_eq_true c6
          obtain rfl := Option.some.inj H
          go_enter Try.func107, Try.ntmps107
          go_wp2
          go_ret
          exact ⟨zf, by repeat (first | exact Drawn0.refl _ | apply Drawn0.step)⟩
        · rw [if_neg c6] at H
          exact absurd H (by simp)
      · rw [if_neg c5] at H
        exact absurd H (by simp)
    · rw [if_neg c4] at H
      exact absurd H (by simp)
theorem spec_l3Letter.calls (a0 : ByteArray) (a1 : Int) (r : ByteArray) (w : World) (h : spec_l3Letter.f a0 a1 = some r) :
    Calls Try.prog 107 #[.string a0, .int .i64 a1] w fun e w' => e = .returned (.string r) ∧ Below w.heap.size w w' := by
 exact (spec_l3Letter.callsD a0 a1 r w h).mono fun e w' ⟨he, hw⟩ => ⟨he, hw.below⟩
theorem spec_l3Group.mono_l : ∀ k, (∀ y0 y1 y2 y3, LeO (spec_l3Group.l0 k y0 y1 y2 y3) (spec_l3Group.l0 (k + 1) y0 y1 y2 y3))
  | 0 => fun _ _ _ _ r h => by simp [spec_l3Group.l0] at h
  | k + 1 => by
    have ih0 := spec_l3Group.mono_l k
    · intro y0 y1 y2 y3
      unfold spec_l3Group.l0
      repeat' first | (with_reducible first | apply ih0 | exact LeO.refl _ | exact LeO.none _ | refine LeO.ite ?_ ?_ | refine LeO.bind ?_ (fun _ => ?_)) | exact LeO.none _ | refine LeO.ite ?_ ?_ | refine LeO.bind ?_ (fun _ => ?_)
theorem spec_l3Group.mono : ∀ a0 a1 k, LeO (spec_l3Group.f k a0 a1) (spec_l3Group.f (k + 1) a0 a1) := by
  intro a0 a1 k
  have ih0 := spec_l3Group.mono_l k
  unfold spec_l3Group.f
  repeat' first | (with_reducible first | apply ih0 | exact LeO.refl _ | exact LeO.none _ | refine LeO.ite ?_ ?_ | refine LeO.bind ?_ (fun _ => ?_)) | exact LeO.none _ | refine LeO.ite ?_ ?_ | refine LeO.bind ?_ (fun _ => ?_)
def spec_l3Group.T5 : Bool × List (List Nat × List Nat) := (true, [([], []), ([0], [0]), ([], []), ([1, 2], [1, 2]), ([3], [3]), ([], []), ([5], [5]), ([4, 6], [4, 6]), ([], []), ([8], [8]), ([9], [9]), ([10], [10]), ([], []), ([12], [12]), ([11, 13, 7], [11, 13]), ([7, 14], [7, 14])])
def spec_l3Group.B5 : List Nat := [0, 1, 0, 7, 15, 0, 32, 127, 0, 256, 768, 1792, 0, 4096, 16383, 32767]
theorem spec_l3Group.tab5 : rtab .any (opsOf Try.f113 5) = spec_l3Group.T5 := by kernel_rfl
theorem spec_l3Group.bits5 : waitsOk spec_l3Group.T5.2 spec_l3Group.B5 = true := by kernel_rfl
theorem spec_l3Group.calls (k : Nat) (A0_0 : Option Addr) (c0_0 : Nat) (l0_0 : List ByteArray) (a0_1 : Int) (r : List ByteArray) (w : World) (hr0_0 : Kd.C Kd.string w A0_0 l0_0.length l0_0) (hc0_0 : l0_0.length ≤ c0_0) (h : spec_l3Group.f k l0_0 a0_1 = some r) :
    Calls Try.prog 113 #[.agg #[.slice A0_0 l0_0.length c0_0, .int .i64 a0_1]] w fun e w' => ∃ v0_ : Value, e = .returned (v0_) ∧ Kd.R Kd.string 9 w' w.heap.size (fun _ => True) v0_ r ∧ Below w.heap.size w w' := by
 have hu79 := Try.underlying79; have HR0_0 := z0 hr0_0; have HC0_0 := z0 hc0_0; clear hr0_0 hc0_0; have HB := z0 (Below.refl w.heap.size w); have H : (spec_l3Group.l0 k (([] : List ByteArray)) 0 l0_0 a0_1) = some r := h; clear h; obtain ⟨y113, hy113⟩ : ∃ y_ : List ByteArray, y_ = (([] : List ByteArray)) := ⟨_, rfl⟩; replace H : (spec_l3Group.l0 k y113 0 l0_0 a0_1) = some r := zH2 hy113 H; have Ny113 := z0 hy113; clear hy113; have H' := z0 H; clear H; go_enter Try.func113, Try.ntmps113
 go_wp2_with (first | ((with_reducible refine gd 1 ?_); refine zbx 79 #[.slice A0_0 l0_0.length c0_0, .int .i64 a0_1] ?_; intro gb112 hg w2 hbox hb; have BK112 := z0 (hbox); have GE112 := zG hg HB; replace HB := zH HB hb; clear hb hbox hg) | ((with_reducible refine gd 5 ?_); refine Kd.R_lit Kd.string _ 9 ?hg (N := 5) ?hd (xs := ([] : List ByteArray)) (inner := []) (ok := fun _ => True) (okp := fun _ => True) ?hr ?hp (fun _ hk => hk) trivial (Below.refl _ _) (Nat.le_refl _) (by simp) ?_; (case hd => rfl); (case hg => rfl); (case hr => first | (go_simp; done) | (go_simp; rfl)); (case hp => exact (Reps.none _ _)); intro v114 w3 ho4 hb hg_ hnew_; clear hg_ hnew_; (first | rw [← Ny113.out] at ho4 | (simp only [Int.reduceToNat] at ho4; rw [← Ny113.out] at ho4)); have HO115 := z0 (Kd.R_lower ho4 (below_size (zb HB.out))); replace BK112 := zK BK112 hb; replace HB := zH HB hb; clear hb ho4))
 go_loopg [3, 4] k (fun kq v3 v4 w' => ∃ (x3_1 : List ByteArray) (x4_1 : Int), v4 = .int .i64 x4_1 ∧ Aside0 (spec_l3Group.l0 kq x3_1 x4_1 l0_0 a0_1 = some r) ∧ Aside0 (kq ≤ k) ∧ Aside0 (Kd.R Kd.string 9 w' w.heap.size (fun _ => True) v3 x3_1) ∧ Aside0 (w'.heap[gb112]? = some (.cells #[(.slice A0_0 l0_0.length c0_0), .int .i64 a0_1] 79 (0, 0))) ∧ Aside0 (Below w.heap.size w w'))
 case atStart => exact ⟨(y113), (0), zf, H', ⟨Nat.le_refl _⟩, ⟨zr HO115.out⟩, ⟨zl BK112.out⟩, ⟨zb HB.out⟩⟩
 case round =>
  clear H'
  try clear c1
  try clear p2
  obtain ⟨x3_1, x4_1, rfl, HA, HK1, HO_3, BK112, HB⟩ := hrel
  cases gk with
  | zero => exact absurd HA.out (by simp [spec_l3Group.l0])
  | succ k1 =>
   have H := HA.out; clear HA; simp only [spec_l3Group.l0] at H
   by_cases c5 : x4_1 < (l0_0.length : Int)
   ·rw [if_pos c5] at H; have c5b0 := decide_eq_true c5; clear c5; replace H := zn H; obtain ⟨c6, H⟩ := H; have c6b0 := decide_eq_true c6; clear c6; replace H := zi H; obtain ⟨t117, A7, H⟩ := H; replace H := zn H; obtain ⟨c8, H⟩ := H; have c8b0 := decide_eq_true c8; have c8b1 : decide (0 < l0_0.length) = true := decide_eq_true (by omega); clear c8; replace H := zi H; obtain ⟨t119, A9, H⟩ := H; have hcz10 := zc2 BK112.out
    try go_wp2
    replace HO_3 := z0 (Kd.R_drew HO_3.out); replace BK112 := z0 (blk_drew BK112.out); replace HB := z0 (below_drew1 HB.out); have p116 : 0 ≤ (x4_1 : Int) := zd; have q116 : x4_1 < (l0_0.length : Int) := zd; obtain ⟨ad116, e116, hx116_0⟩ := Kd.at_string HR0_0.out x4_1 p116 q116; have hw116_0 := hx116_0; cases e116; replace hx116_0 := (HB.out.cell (World.block_lt_of_cell? w _ hx116_0)).trans hx116_0; replace p116 := eq_true p116; replace q116 := eq_true q116; have p118 : 0 ≤ (0 : Int) := (by omega); have q118 : 0 < (l0_0.length : Int) := zd; obtain ⟨ad118, e118, hx118_0⟩ := Kd.at_string HR0_0.out 0 p118 q118; have hw118_0 := hx118_0; (try rw [show ((0 : Int)).toNat = 0 from rfl] at hw118_0); (try rw [show 0 * 1 = 0 from rfl] at hw118_0); (try rw [Addr.add_zero'] at hw118_0); obtain rfl : ad116 = ad118 := (by injection e118); have qi118 : (0 < l0_0.length) = True := eq_true (by omega); (try rw [show ((0 : Int)).toNat = 0 from rfl] at hx118_0); (try rw [Addr.add_zero'] at hx118_0); replace hx118_0 := (HB.out.cell (World.block_lt_of_cell? w _ hx118_0)).trans hx118_0; replace p118 := eq_true p118; replace q118 := eq_true q118; refine start_ (n := 16) (S := fun w' => w'.cell? ⟨gb112, 0, none⟩ = some (.slice (some ad116) l0_0.length c0_0) ∧ w'.cell? ⟨gb112, 1, none⟩ = some (.int .i64 a0_1) ∧ w'.cell? (ad116.add (x4_1).toNat) = some (.string (rdOf ByteArray.empty l0_0 x4_1)) ∧ w'.cell? ad116 = some (.string (rdOf ByteArray.empty l0_0 0))) (ds := []) (fb 16 0) (by kernel_rfl) rfl rfl (zd2 BK112.out ⟨((HB.out.cell (World.block_lt_of_cell? w _ hw116_0)).trans hw116_0), ((HB.out.cell (World.block_lt_of_cell? w _ hw118_0)).trans hw118_0)⟩) (fun hHeld => ?_); refine with_tabW spec_l3Group.tab5 spec_l3Group.bits5 (fun HT_ HW_ => ?_); generalize wr.drew = w11 at HO_3 BK112 HB hx116_0 hx118_0 hHeld ⊢; refine zu 0 1 ?_; refine zu 2 5 ?_; refine zu 5 37 ?_; refine zu 8 293 ?_; refine zu 12 4389 ?_; refine zx 1 4391 hHeld ?_; refine zu 3 4399 ?_; refine zx 4 4415 hHeld ?_; refine zx 6 4479 hHeld ?_; refine zx 9 4991 hHeld ?_; refine zu 10 6015 ?_; refine zx 11 8063 hHeld ?_; refine zx 13 16255 hHeld ?_; refine zone 7 16383 (fun K hK => ?_); refine zG2 Try.func107 #[.string (rdOf ByteArray.empty l0_0 x4_1), .int .i64 a0_1] ?_
    with_reducible refine (spec_l3Letter.calls (rdOf ByteArray.empty l0_0 x4_1) a0_1 t117 _ A7.out).mono ?_
    rintro e w12 ⟨rfl, hb⟩; refine ⟨_, rfl, ?_⟩; replace HO_3 := zA HO_3 hb; replace BK112 := zK BK112 hb; replace HB := zH HB hb; (try clear hb); refine hK.out _ _ (zd2 BK112.out ⟨((HB.out.cell (World.block_lt_of_cell? w _ hw116_0)).trans hw116_0), ((HB.out.cell (World.block_lt_of_cell? w _ hw118_0)).trans hw118_0)⟩) (fun hHeld => ?_); clear hK K; refine znm ?_; refine zone 14 32767 (fun K hK => ?_); refine zG2 Try.func107 #[.string (rdOf ByteArray.empty l0_0 0), .int .i64 a0_1] ?_
    with_reducible refine (spec_l3Letter.calls (rdOf ByteArray.empty l0_0 0) a0_1 t119 _ A9.out).mono ?_
    rintro e w13 ⟨rfl, hb⟩; refine ⟨_, rfl, ?_⟩; replace HO_3 := zA HO_3 hb; replace BK112 := zK BK112 hb; replace HB := zH HB hb; (try clear hb); refine hK.out _ _ (zd2 BK112.out ⟨((HB.out.cell (World.block_lt_of_cell? w _ hw116_0)).trans hw116_0), ((HB.out.cell (World.block_lt_of_cell? w _ hw118_0)).trans hw118_0)⟩) (fun hHeld => ?_); clear hK K; refine znm ?_; refine zu 15 65535 ?_; refine done_ (done_of HT_.out (by kernel_rfl)) ?_
    go_upto_if 28 with (fail)
    by_cases c14 : t117.toList = t119.toList
    ·rw [if_pos c14] at H; have c14b0 : (t117.toList == t119.toList) = true := beq_iff_eq.mpr c14; have c14b1 : (t117.toList != t119.toList) = false := bne_eq_false_iff_eq.mpr c14; clear c14; (first | rw [c14b0] | (simp only [i64_w, i32_w]; rw [c14b0]) | simp only [*, Bool.not_true, Bool.not_false] | skip); replace H := zn H; obtain ⟨c15, H⟩ := H; have LMc15 := z0 c15; clear c15; obtain ⟨y121, hy121⟩ : ∃ y_ : List ByteArray, y_ = (x3_1 ++ [rdOf ByteArray.empty l0_0 x4_1]) := ⟨_, rfl⟩; replace H : (spec_l3Group.l0 k1 y121 (wrap64 (x4_1 + 1)) l0_0 a0_1) = some r := zH2 hy121 H; have Ny121 := z0 hy121; clear hy121; have H' := z0 H; clear H; have hcz16 := zc2 BK112.out; have p120 : 0 ≤ (x4_1 : Int) := zd; have q120 : x4_1 < (l0_0.length : Int) := zd; obtain ⟨ad120, e120, hx120_0⟩ := Kd.at_string HR0_0.out x4_1 p120 q120; obtain rfl : ad116 = ad120 := (by injection e120); replace hx120_0 := (HB.out.cell (World.block_lt_of_cell? w _ hx120_0)).trans hx120_0; replace p120 := eq_true p120; replace q120 := eq_true q120
     go_wp2_with (first | ((with_reducible refine gate_builtin (b := .append) (xs := #[.tmp 29, .tmp 35]) rfl ?_); at_builtin; refine Kd.R_append Kd.string (w0 := w) w.heap.size rfl (.tmp 29) (.tmp 35) 23 9 (.string ⟨#[]⟩) 16 rfl Try.underlying23 info9 rfl (by decide) (by omega) u3 x3_1 (rdOf ByteArray.empty l0_0 x4_1) [.string (rdOf ByteArray.empty l0_0 x4_1)] (fun _ => True) (fun _ => False) rfl rfl ?aP (fun _ hk => hk.elim) ?aF ?aO ?aB ?aS ?aL ?_; (case aP => exact rfl); (case aB => exact (zb HB.out)); (case aF => exact (fun _ _ => trivial)); (case aO => exact (zr HO_3.out)); (case aS => exact (below_size (zb HB.out))); (case aL => have := LMc15.out; omega); intro v122 w17 ho hb hg hat; rw [← Ny121.out] at ho; replace BK112 := z0 (blk_grown (zl BK112.out) hg (Kd.R_ne HO_3.out BK112.out (by decide))); replace HB := z0 (hb); have HO123 := z0 (ho); clear HO_3; clear ho hb hg hat))
     go_roundg k1
     case measure => have := HK1.out; omega
     case rel => exact ⟨(y121), (wrap64 (x4_1 + 1)), zf, H', ⟨by have := HK1.out; omega⟩, ⟨zr HO123.out⟩, ⟨zl BK112.out⟩, ⟨zb HB.out⟩⟩
    ·rw [if_neg c14] at H; have c14b0 : (t117.toList == t119.toList) = false := beq_eq_false_iff_ne.mpr c14; have c14b1 : (t117.toList != t119.toList) = true := bne_iff_ne.mpr c14; (first | rw [c14b0] | (simp only [i64_w, i32_w]; rw [c14b0]) | simp only [*, Bool.not_true, Bool.not_false] | skip); have H' := z0 H; clear H; go_wp2; go_roundg k1
     case measure => have := HK1.out; omega
     case rel => exact ⟨(x3_1), (wrap64 (x4_1 + 1)), zf, H', ⟨by have := HK1.out; omega⟩, ⟨zr HO_3.out⟩, ⟨zl BK112.out⟩, ⟨zb HB.out⟩⟩
   ·rw [if_neg c5] at H; have c5b0 := decide_eq_false c5; clear c5; obtain rfl := Option.some.inj H; have hcz18 := zc2 BK112.out; go_wp2; go_ret; exact ⟨_, ze, zr HO_3.out, zb HB.out⟩
theorem spec_l3Rest.calls (a0 : ByteArray) (a1 a2 : Int) (r : ByteArray) (w : World) (h : spec_l3Rest.f a0 a1 a2 = some r) :
    Calls Try.prog 114 #[.string a0, .int .i64 a1, .int .i64 a2] w fun e w' => e = .returned (.string r) ∧ Below w.heap.size w w' := by
 unfold spec_l3Rest.f at h
 by_cases c0 : 0 ≤ a1 ∧ 0 ≤ a2
 ·rw [if_pos c0] at h; obtain ⟨c1, c2⟩ := c0
  by_cases c3 : (a0.size : Int) ≤ a1
  ·rw [if_pos c3] at h; obtain rfl := Option.some.inj h; go_enter Try.func114, Try.ntmps114; go_wp2; go_ret; exact ⟨rfl, Below.refl _ _⟩
  ·rw [if_neg c3] at h
   have c4 : a1 ≤ (a0.size : Int) := by omega
   by_cases c5 : a2 < ((a0.size - a1.toNat : Nat) : Int)
   ·rw [if_pos c5] at h; obtain rfl := Option.some.inj h
    have c6 : a2 ≤ ((a0.size - a1.toNat : Nat) : Int) := by omega
    go_enter Try.func114, Try.ntmps114; go_wp2; go_ret; exact ⟨rfl, Below.refl _ _⟩
   ·rw [if_neg c5] at h; obtain rfl := Option.some.inj h; go_enter Try.func114, Try.ntmps114; go_wp2; go_ret; exact ⟨rfl, Below.refl _ _⟩
 ·rw [if_neg c0] at h
  cases h
theorem spec_l3Put.mono_l : ∀ k, (∀ y0 y1 y2 y3 y4 y5 y6 y7 y8, LeO (spec_l3Put.l0 k y0 y1 y2 y3 y4 y5 y6 y7 y8) (spec_l3Put.l0 (k + 1) y0 y1 y2 y3 y4 y5 y6 y7 y8))
  | 0 => fun _ _ _ _ _ _ _ _ _ r h => by simp [spec_l3Put.l0] at h
  | k + 1 => by
    have ih0 := spec_l3Put.mono_l k
    · intro y0 y1 y2 y3 y4 y5 y6 y7 y8
      unfold spec_l3Put.l0
      repeat' first | (with_reducible first | apply ih0 | apply spec_l3Group.mono | exact LeO.refl _ | exact LeO.none _ | refine LeO.ite ?_ ?_ | refine LeO.bind ?_ (fun _ => ?_)) | exact LeO.none _ | refine LeO.ite ?_ ?_ | refine LeO.bind ?_ (fun _ => ?_)
theorem spec_l3Put.mono : ∀ a0 a1 a2 a3 a4 a5 a6 k, LeO (spec_l3Put.f k a0 a1 a2 a3 a4 a5 a6) (spec_l3Put.f (k + 1) a0 a1 a2 a3 a4 a5 a6) := by
  intro a0 a1 a2 a3 a4 a5 a6 k
  have ih0 := spec_l3Put.mono_l k
  unfold spec_l3Put.f
  repeat' first | (with_reducible first | apply ih0 | apply spec_l3Group.mono | exact LeO.refl _ | exact LeO.none _ | refine LeO.ite ?_ ?_ | refine LeO.bind ?_ (fun _ => ?_)) | exact LeO.none _ | refine LeO.ite ?_ ?_ | refine LeO.bind ?_ (fun _ => ?_)
def spec_l3Put.T13 : Bool × List (List Nat × List Nat) := (true, [([], []), ([0], [0]), ([], []), ([2], [2]), ([3], [3]), ([], []), ([5], [5]), ([6], [6]), ([], []), ([8], [8]), ([4, 7, 9], [4, 7, 9]), ([10], [10]), ([1, 11, 10], [1, 11]), ([0, 1, 2, 3, 4, 5, 6, 7, 8, 9, 10, 11, 12], []), ([13, 12, 12, 0, 1, 2, 3, 4, 5, 6, 7, 8, 9, 10, 11, 12], [12, 13])])
def spec_l3Put.B13 : List Nat := [0, 1, 0, 4, 12, 0, 32, 96, 0, 256, 1020, 2044, 4095, 8191, 16383]
theorem spec_l3Put.tab13 : rtab .any (opsOf Try.f81 13) = spec_l3Put.T13 := by kernel_rfl
theorem spec_l3Put.bits13 : waitsOk spec_l3Put.T13.2 spec_l3Put.B13 = true := by kernel_rfl
theorem spec_l3Put.calls (k : Nat) (a0_0 a0_1 a0_2 : ByteArray) (P0_3_ : Nat → Prop) (u9000_ : Value) (l0_3 : List ByteArray) (a0_4 : Int) (P1_0_ : Nat → Prop) (A1_0 : Option Addr) (c1_0 : Nat) (l1_0 : List ByteArray) (a1_1 : Int) (r1 r2 r3 : ByteArray) (r4 : List ByteArray) (r5 : Int) (r6 : List (S79)) (w0 w : World) (hB : Below w0.heap.size w0 w) (ho0_3 : Kd.R Kd.string 9 w w0.heap.size P0_3_ u9000_ l0_3) (hs1_0 : Kd.V Kd.string 9 w w0.heap.size (fun k_ => P1_0_ k_ ∧ some k_ ≠ (u9000_ : Value).ownBlock) (.slice A1_0 l1_0.length c1_0) l1_0) (h : spec_l3Put.f k a0_0 a0_1 a0_2 l0_3 a0_4 l1_0 a1_1 = some (r1, r2, r3, r4, r5, r6)) :
    Calls Try.prog 81 #[.agg #[.string a0_0, .string a0_1, .string a0_2, u9000_, .int .i64 a0_4], .agg #[.slice A1_0 l1_0.length c1_0, .int .i64 a1_1]] w fun e w' => ∃ v3_ v5_ : Value, e = .returned (.tuple #[.agg #[.string r1, .string r2, .string r3, v3_, .int .i64 r5], v5_]) ∧ Kd.R Kd.string 9 w' w0.heap.size (fun k_ => (P0_3_ k_ ∨ w.heap.size ≤ k_)) v3_ r4 ∧ Kd.N k79 79 w' w.heap.size (fun k_ => ((P0_3_ k_ ∨ P1_0_ k_) ∨ w.heap.size ≤ k_) ∧ some k_ ≠ (v3_ : Value).ownBlock) v5_ r6 ∧ Below w0.heap.size w0 w' ∧ Kept w w' (fun k_ => P0_3_ k_) := by
 have hu25 := Try.underlying25; have hu79 := Try.underlying79; have HO0_3 := z0 (show Kd.R Kd.string 9 w w0.heap.size (fun k_ => (P0_3_ k_ ∨ w.heap.size ≤ k_)) u9000_ l0_3 from Kd.R_mono ho0_3 (fun k_ hk => (.inl hk))); have HO1_0 := z0 (show Kd.V Kd.string 9 w w0.heap.size (fun k_ => ((P0_3_ k_ ∨ P1_0_ k_) ∨ w.heap.size ≤ k_) ∧ some k_ ≠ (u9000_ : Value).ownBlock) (.slice A1_0 l1_0.length c1_0) l1_0 from Kd.V_mono hs1_0 (fun k_ hk => ⟨.inl (.inr hk.1), hk.2⟩)); have HK := z0 (Kept.refl w (fun k_ => P0_3_ k_)); have HW0 := z0 hB.size; have HB := z0 hB; clear hB; have H : (spec_l3Put.l0 k (([] : List (S79))) (⟨#[49]⟩ : ByteArray) a0_0 a0_1 a0_2 l0_3 a0_4 l1_0 a1_1) = some (r1, r2, r3, r4, r5, r6) := h; clear h; obtain ⟨y127, hy127⟩ : ∃ y_ : List (S79), y_ = (([] : List (S79))) := ⟨_, rfl⟩; replace H : (spec_l3Put.l0 k y127 (⟨#[49]⟩ : ByteArray) a0_0 a0_1 a0_2 l0_3 a0_4 l1_0 a1_1) = some (r1, r2, r3, r4, r5, r6) := zH2 hy127 H; have Ny127 := z0 hy127; clear hy127; have H' := z0 H; clear H; obtain ⟨Ao3, co3, eo3⟩ := Kd.R_slice HO0_3.out; subst eo3; go_enter Try.func81, Try.ntmps81
 go_wp2_with (first | ((with_reducible refine gd 2 ?_); refine zbx 25 #[.string a0_0, .string a0_1, .string a0_2, .slice Ao3 l0_3.length co3, .int .i64 a0_4] ?_; intro gb124 hg w4 hbox hb; replace HO0_3 := zA HO0_3 hb; replace HO1_0 := z0 (Kd.V_below (Kd.V_elderB (zV HO1_0.out) gb124 (Nat.le_of_eq hg.symm)) hb); have BK124 := z0 (hbox); have GW124 := z0 ((by rw [hg]; exact (by first | exact HK.out.1 | exact (show Kept w _ (fun k_ => P0_3_ k_) from zk HK.out).1) : w.heap.size ≤ gb124)); replace HK := z0 (Kept.below (zk HK.out) hb); have GE124 := zG hg HB; replace HB := zH HB hb; clear hb hbox hg) | ((with_reducible refine gd 3 ?_); refine zbx 79 #[.slice A1_0 l1_0.length c1_0, .int .i64 a1_1] ?_; intro gb125 hg w5 hbox hb; replace HO0_3 := zA HO0_3 hb; replace HO1_0 := z0 (Kd.V_below (Kd.V_elderB (zV HO1_0.out) gb125 (Nat.le_of_eq hg.symm)) hb); have BK125 := z0 (hbox); have GW125 := z0 ((by rw [hg]; exact (by first | exact HK.out.1 | exact (show Kept w _ (fun k_ => P0_3_ k_) from zk HK.out).1) : w.heap.size ≤ gb125)); replace HK := z0 (Kept.below (zk HK.out) hb); have GE125 := zG hg HB; replace HB := zH HB hb; have NB124_125 := zLt hg BK124; have NB125_124 := zGt hg BK124; replace BK124 := zK BK124 hb; clear hb hbox hg) | ((with_reducible refine gd 4 ?_); refine zbx 25 #[.string ⟨#[]⟩, .string ⟨#[]⟩, .string ⟨#[]⟩, .slice none 0 0, .int .i64 0] ?_; intro gb126 hg w6 hbox hb; replace HO0_3 := zA HO0_3 hb; replace HO1_0 := z0 (Kd.V_below (Kd.V_elderB (zV HO1_0.out) gb126 (Nat.le_of_eq hg.symm)) hb); have BK126 := z0 (hbox); have GW126 := z0 ((by rw [hg]; exact (by first | exact HK.out.1 | exact (show Kept w _ (fun k_ => P0_3_ k_) from zk HK.out).1) : w.heap.size ≤ gb126)); replace HK := z0 (Kept.below (zk HK.out) hb); have GE126 := zG hg HB; replace HB := zH HB hb; have NB124_126 := zLt hg BK124; have NB126_124 := zGt hg BK124; replace BK124 := zK BK124 hb; have NB125_126 := zLt hg BK125; have NB126_125 := zGt hg BK125; replace BK125 := zK BK125 hb; clear hb hbox hg) | ((with_reducible refine gd 10 ?_); refine Kd.N_lit k79 _ 79 ?hg (N' := 10) ?hd (xs := ([] : List (S79))) (inner := []) (ok := (fun k_ => ((P0_3_ k_ ∨ P1_0_ k_) ∨ w.heap.size ≤ k_) ∧ some k_ ≠ (.slice Ao3 l0_3.length co3 : Value).ownBlock ∧ k_ ≠ gb124 ∧ k_ ≠ gb125 ∧ k_ ≠ gb126)) (okp := (fun k_ => ((P0_3_ k_ ∨ P1_0_ k_) ∨ w.heap.size ≤ k_) ∧ some k_ ≠ (.slice Ao3 l0_3.length co3 : Value).ownBlock ∧ k_ ≠ gb124 ∧ k_ ≠ gb125 ∧ k_ ≠ gb126)) ?hr ?hp (fun _ hk => hk) ((show ∀ k_, w6.heap.size ≤ k_ → (fun k_ => ((P0_3_ k_ ∨ P1_0_ k_) ∨ w.heap.size ≤ k_) ∧ some k_ ≠ (.slice Ao3 l0_3.length co3 : Value).ownBlock ∧ k_ ≠ gb124 ∧ k_ ≠ gb125 ∧ k_ ≠ gb126) k_ from fun k_ hk => ⟨(.inr (Nat.le_trans (by first | exact HK.out.1 | exact (show Kept w _ (fun k_ => P0_3_ k_) from zk HK.out).1) hk)), Kd.fresh' (Kd.R_lt (zr HO0_3.out)) k_ hk, Kd.freshB (g := gb124) (o := .cells #[.string a0_0, .string a0_1, .string a0_2, .slice Ao3 l0_3.length co3, .int .i64 a0_4] 25 (0, 0)) (zl BK124.out) k_ hk, Kd.freshB (g := gb125) (o := .cells #[.slice A1_0 l1_0.length c1_0, .int .i64 a1_1] 79 (0, 0)) (zl BK125.out) k_ hk, Kd.freshB (g := gb126) (o := .cells #[.string ⟨#[]⟩, .string ⟨#[]⟩, .string ⟨#[]⟩, .slice none 0 0, .int .i64 0] 25 (0, 0)) (zl BK126.out) k_ hk⟩) _ (Nat.le_refl _)) (Below.refl _ _) (Nat.le_refl _) (by simp) ?_; (case hd => rfl); (case hg => rfl); (case hr => first | (go_simp; done) | (go_simp; rfl)); (case hp => exact (Reps.none _ _)); intro v128 w7 ho8 hb hg_ hnew_; clear hg_ hnew_; (first | rw [← Ny127.out] at ho8 | (simp only [Int.reduceToNat] at ho8; rw [← Ny127.out] at ho8)); replace HO0_3 := zA HO0_3 hb; replace HO1_0 := z0 (Kd.V_elder' (zV HO1_0.out) (Kd.N_base ho8) hb); have HO129 := z0 (Kd.N_lower ho8 (by first | exact HK.out.1 | exact (show Kept w _ (fun k_ => P0_3_ k_) from zk HK.out).1)); replace BK124 := zK BK124 hb; replace BK125 := zK BK125 hb; replace BK126 := zK BK126 hb; replace HK := z0 (Kept.below (zk HK.out) hb); replace HB := zH HB hb; clear hb ho8))
 go_loopg [6, 7] k (fun kq v6 v7 w' => ∃ (x6_1 : List (S79)) (x7_1 : ByteArray) (x125000_1 : ByteArray) (x125001_1 : ByteArray) (x125002_1 : ByteArray) (x125003_1 : List ByteArray) (x126000_1 : List ByteArray) (u125003 : Value) (u126000 : Value), v7 = .string x7_1 ∧ Aside0 (spec_l3Put.l0 kq x6_1 x7_1 x125000_1 x125001_1 x125002_1 x125003_1 a0_4 x126000_1 a1_1 = some (r1, r2, r3, r4, r5, r6)) ∧ Aside0 (kq ≤ k) ∧ Aside0 (Kd.N k79 79 w' w.heap.size (fun k_ => ((P0_3_ k_ ∨ P1_0_ k_) ∨ w.heap.size ≤ k_) ∧ some k_ ≠ (u125003 : Value).ownBlock ∧ k_ ≠ gb124 ∧ k_ ≠ gb125 ∧ k_ ≠ gb126) v6 x6_1) ∧ Aside0 (Kd.R Kd.string 9 w' w0.heap.size (fun k_ => (P0_3_ k_ ∨ w.heap.size ≤ k_)) u125003 x125003_1) ∧ Aside0 (Kd.V Kd.string 9 w' w0.heap.size (fun k_ => ((P0_3_ k_ ∨ P1_0_ k_) ∨ w.heap.size ≤ k_) ∧ some k_ ≠ (v6 : Value).ownBlock ∧ some k_ ≠ (u125003 : Value).ownBlock ∧ k_ ≠ gb124 ∧ k_ ≠ gb125 ∧ k_ ≠ gb126) u126000 x126000_1) ∧ Aside0 (w'.heap[gb124]? = some (.cells #[.string x125000_1, .string x125001_1, .string x125002_1, u125003, .int .i64 a0_4] 25 (0, 0))) ∧ Aside0 (w'.heap[gb125]? = some (.cells #[u126000, .int .i64 a1_1] 79 (0, 0))) ∧ Aside0 (w'.heap[gb126]? = some (.cells #[.string ⟨#[]⟩, .string ⟨#[]⟩, .string ⟨#[]⟩, (.slice none 0 0), .int .i64 0] 25 (0, 0))) ∧ Aside0 (Kept w w' (fun k_ => P0_3_ k_)) ∧ Aside0 (Below w0.heap.size w0 w'))
 case atStart => exact ⟨(y127), ((⟨#[49]⟩ : ByteArray)), (a0_0), (a0_1), (a0_2), (l0_3), (l1_0), (.slice Ao3 l0_3.length co3), (.slice A1_0 l1_0.length c1_0), zf, H', ⟨Nat.le_refl _⟩, ⟨zN HO129.out⟩, ⟨zr HO0_3.out⟩, ⟨Kd.V_mono (zV HO1_0.out) (fun _ hk => ⟨hk.1.1.1.1.1, ⟨hk.2, ⟨hk.1.1.1.1.2, ⟨hk.1.1.1.2, ⟨hk.1.1.2, hk.1.2⟩⟩⟩⟩⟩)⟩, ⟨zl BK124.out⟩, ⟨zl BK125.out⟩, ⟨zl BK126.out⟩, ⟨zk HK.out⟩, ⟨zb HB.out⟩⟩
 case round =>
  clear H'
  try clear c1
  try clear p2
  try clear c8
  obtain ⟨x6_1, x7_1, x125000_1, x125001_1, x125002_1, x125003_1, x126000_1, u125003, u126000, rfl, HA, HK1, HO_6, HO_125003, HO_126000, BK124, BK125, BK126, HK, HB⟩ := hrel
  cases gk with
  | zero => exact absurd HA.out (by simp [spec_l3Put.l0])
  | succ k1 =>
   have H := HA.out; clear HA; simp only [spec_l3Put.l0] at H
   by_cases c9 : (x126000_1.length : Int) > 0
   ·rw [if_pos c9] at H; have c9b0 : decide (0 < (x126000_1.length : Int)) = true := decide_eq_true c9; have c9b1 : decide (0 < x126000_1.length) = true := decide_eq_true (by omega); clear c9; replace H := zi H; obtain ⟨t130, A10, H⟩ := H; replace H := zn H; obtain ⟨c11, H⟩ := H; have c11b0 := decide_eq_true c11; have c11b1 : decide (0 < t130.length) = true := decide_eq_true (by omega); clear c11; replace H := zi H; obtain ⟨t134, A12, H⟩ := H; replace H := zn H; obtain ⟨c13, H⟩ := H; have c13b0 := eq_true c13; have c13b1 := decide_eq_true c13
    try have c13b2 : (9223372036854775807 < x125000_1.size + t134.size) = False := eq_false (Nat.not_lt.2 c13)
    replace H := zn H; obtain ⟨c14, H⟩ := H; have c14b0 := eq_true c14; have c14b1 := decide_eq_true c14
    try have c14b2 : (9223372036854775807 < x125002_1.size + x7_1.size) = False := eq_false (Nat.not_lt.2 c14)
    have hnb15 := NB125_124.out; have hnc15 := NB124_125.out; have hnb16 := NB125_126.out; have hnc16 := NB126_125.out; have hcz17 := zc2 BK125.out; obtain ⟨Ao18, co18, eo18⟩ := Kd.V_slice HO_126000.out; subst eo18
    try go_wp2_with (first | ((with_reducible refine gc 113 ?_); refine zL (some 16) Try.func113 #[.agg #[.slice Ao18 x126000_1.length co18, .int .i64 a1_1]] ?_; (with_reducible refine (spec_l3Group.calls k1 _ _ x126000_1 a1_1 t130 _ (zC ((Kd.V_reads' HO_126000.out).2.2)) ((Kd.V_reads' HO_126000.out).2.1) A10.out).mono ?_); rintro e w19 ⟨v131, rfl, ho0, hb⟩; refine zv ?_; replace HO_6 := z0 (Kd.N_elder' (zN HO_6.out) (Kd.R_base ho0) hb); replace HO_126000 := z0 (Kd.V_elder' (zV HO_126000.out) (Kd.R_base ho0) hb); have HO132 := z0 (Kd.R_lower (Kd.R_new' (Kd.R_newM (M := fun k_ => (P0_3_ k_ ∨ w.heap.size ≤ k_)) ho0 (by first | exact HK.out.1 | exact (show Kept w _ (fun k_ => P0_3_ k_) from zk HK.out).1) (fun k_ h_ => .inr h_)) (Kd.R_lt (zr HO_125003.out))) (below_size (zb HB.out))); replace HO_125003 := z0 (Kd.R_elder' (zr HO_125003.out) (Kd.R_base ho0) hb); replace BK124 := zK BK124 hb; replace BK125 := zK BK125 hb; replace BK126 := zK BK126 hb; replace HK := z0 (Kept.below (zk HK.out) hb); replace HB := zH HB hb; (try clear hb ho0)))
    replace HO_6 := z0 (Kd.N_drew HO_6.out); replace HO_125003 := z0 (Kd.R_drew HO_125003.out); replace HO_126000 := z0 (Kd.V_drew HO_126000.out); replace HO132 := z0 (Kd.R_drew HO132.out); replace BK124 := z0 (blk_drew BK124.out); replace BK125 := z0 (blk_drew BK125.out); replace BK126 := z0 (blk_drew BK126.out); replace HK := z0 (Kept.drew HK.out); replace HB := z0 (below_drew1 HB.out); obtain ⟨Ao21, co21, eo21⟩ := Kd.R_slice HO132.out; (first | subst eo21 | (injection eo21 with f1_ f2_ f3_; have f4_ := f1_.symm; have f5_ := f3_.symm; clear f1_ f2_ f3_; subst f4_; subst f5_)); have p133 : 0 ≤ (0 : Int) := (by omega); have q133 : 0 < (t130.length : Int) := zd; obtain ⟨ad133, e133, hx133_0⟩ := Kd.at_string (Kd.R_reads' HO132.out).2.2 0 p133 q133; cases e133; have qi133 : (0 < t130.length) = True := eq_true (by omega); (try rw [show ((0 : Int)).toNat = 0 from rfl] at hx133_0); (try rw [Addr.add_zero'] at hx133_0); replace p133 := eq_true p133; replace q133 := eq_true q133; refine start_ (n := 7) (S := fun w' => w'.cell? ⟨gb125, 0, none⟩ = some (.slice Ao18 x126000_1.length co18) ∧ w'.cell? ⟨gb125, 1, none⟩ = some (.int .i64 a1_1) ∧ w'.cell? ad133 = some (.string (rdOf ByteArray.empty t130 0))) (ds := []) (fb 7 0) (by kernel_rfl) rfl rfl (zd2 BK125.out hx133_0) (fun hHeld => ?_); generalize w19.drew = w20 at HO_6 HO_125003 HO_126000 HO132 BK124 BK125 BK126 HK HB hx133_0 hHeld ⊢; refine zu 0 1 ?_; refine zu 1 3 ?_; refine zu 3 11 ?_; refine zx 2 15 hHeld ?_; refine zx 4 31 hHeld ?_; refine zone 5 63 (fun K hK => ?_); refine zG2 Try.func107 #[.string (rdOf ByteArray.empty t130 0), .int .i64 a1_1] ?_
    with_reducible refine (spec_l3Letter.calls (rdOf ByteArray.empty t130 0) a1_1 t134 _ A12.out).mono ?_
    rintro e w22 ⟨rfl, hb⟩; have HS2_ := (hb.cell (World.block_lt_of_cell? _ _ (hHeld.2.2))).trans (hHeld.2.2); refine ⟨_, rfl, ?_⟩; replace HO_6 := z0 (Kd.N_below (zN HO_6.out) hb); replace HO_125003 := zA HO_125003 hb; replace HO_126000 := z0 (Kd.V_below (zV HO_126000.out) hb); replace HO132 := zA HO132 hb; replace BK124 := zK BK124 hb; replace BK125 := zK BK125 hb; replace BK126 := zK BK126 hb; replace HK := z0 (Kept.below (zk HK.out) hb); replace HB := zH HB hb; (try clear hb); refine hK.out _ _ (zd2 BK125.out HS2_) (fun hHeld => ?_); clear hK K; refine znm ?_; refine zu 6 127 ?_; refine done_ (by kernel_rfl) ?_; have hnb23 := NB124_126.out; have hnc23 := NB126_124.out; have hcz24 := zc5 BK124.out
    go_upto_if 35 with (fail)
    by_cases c25 : (t130.length : Int) > 1
    ·rw [if_pos c25] at H; have c25b0 : decide (1 < (t130.length : Int)) = true := decide_eq_true c25; have c25b1 : decide (1 < t130.length) = true := decide_eq_true (by omega); clear c25; (first | rw [c25b0] | (simp only [i64_w, i32_w]; rw [c25b0]) | simp only [*, Bool.not_true, Bool.not_false] | skip); replace H := zn H; obtain ⟨c26, H⟩ := H; have c26b0 := eq_true c26; have c26b1 := decide_eq_true c26
     try have c26b2 : (9223372036854775807 < x125001_1.size + 1) = False := eq_false (Nat.not_lt.2 c26)
     replace H := zn H; obtain ⟨c27, H⟩ := H; have LMc27 := z0 c27; clear c27; obtain ⟨y135, hy135⟩ : ∃ y_ : List (S79), y_ = (x6_1 ++ [(⟨t130, wrap64 (a1_1 + 1)⟩ : S79)]) := ⟨_, rfl⟩; replace H : (if 0 ≤ (t130.length : Int) then (if (t130.length : Int) ≤ (x126000_1.length : Int) then (spec_l3Put.l0 k1 y135 (⟨#[48]⟩ : ByteArray) (x125000_1 ++ t134) (x125001_1 ++ (⟨#[49]⟩ : ByteArray)) (x125002_1 ++ x7_1) x125003_1 a0_4 (x126000_1.drop ((t130.length : Int) : Int).toNat) a1_1) else (none)) else (none)) = some (r1, r2, r3, r4, r5, r6) := zH2 hy135 H; have Ny135 := z0 hy135; clear hy135; replace H := zn H; obtain ⟨c28, H⟩ := H; have c28b0 := eq_true c28; have c28b1 := decide_eq_true c28; clear c28; replace H := zn H; obtain ⟨c29, H⟩ := H; have c29b0 := eq_true c29; have c29b1 := decide_eq_true c29; clear c29; obtain ⟨y138, hy138⟩ : ∃ y_ : List ByteArray, y_ = (x126000_1.drop ((t130.length : Int) : Int).toNat) := ⟨_, rfl⟩; replace H : (spec_l3Put.l0 k1 y135 (⟨#[48]⟩ : ByteArray) (x125000_1 ++ t134) (x125001_1 ++ (⟨#[49]⟩ : ByteArray)) (x125002_1 ++ x7_1) x125003_1 a0_4 y138 a1_1) = some (r1, r2, r3, r4, r5, r6) := zH2 hy138 H; have Ny138 := z0 hy138; clear hy138; have H' := z0 H; clear H; have hnb30 := NB124_125.out; have hnc30 := NB125_124.out; have hnb31 := NB124_126.out; have hnc31 := NB126_124.out; have hcz32 := zc5 BK124.out
     go_wp2_with (first | ((with_reducible refine gs 9 39 ?_); refine store_event (t := 9) (p := 39) (v := ?vo_w33) (w1 := (((w22.setCell ⟨gb124, 0, none⟩ (.string (x125000_1 ++ t134))).setCell ⟨gb124, 2, none⟩ (.string (x125002_1 ++ x7_1))).setCell ⟨gb124, 1, none⟩ (.string (x125001_1 ++ (⟨#[49]⟩ : ByteArray))))) ?hg ?ho ?hn ?hr ?_; (case ho => rfl); (case hg => rfl); (case hn => rfl); (case hr => first | (go_simp; done) | (go_simp; rfl)); intro w33 hw; replace HO_6 : Aside0 (Kd.N k79 79 w33 w.heap.size (fun k_ => ((P0_3_ k_ ∨ P1_0_ k_) ∨ w.heap.size ≤ k_) ∧ some k_ ≠ (u125003 : Value).ownBlock ∧ some k_ ≠ (.slice (some ad133) t130.length co21 : Value).ownBlock ∧ k_ ≠ gb124 ∧ k_ ≠ gb125 ∧ k_ ≠ gb126) u6 x6_1) := ⟨(by rw [hw]; exact (Kd.N_mono (zNf (Kd.N_mono HO_6.out (fun k_ hk => (⟨hk, hk.1.2.2.1⟩ : _ ∧ k_ ≠ gb124)))) (fun _ hk => ⟨hk.1.1.1, ⟨hk.1.1.2.1, ⟨hk.1.2, ⟨hk.1.1.2.2.1, ⟨hk.1.1.2.2.2.1, hk.1.1.2.2.2.2⟩⟩⟩⟩⟩)))⟩; replace HO_125003 : Aside0 (Kd.R Kd.string 9 w33 w0.heap.size (fun k_ => (P0_3_ k_ ∨ w.heap.size ≤ k_) ∧ some k_ ≠ (.slice (some ad133) t130.length co21 : Value).ownBlock) u125003 x125003_1) := ⟨(by rw [hw]; exact (Kd.R_mono (zt HO_125003.out BK124.out) (fun _ hk => ⟨hk.1.1, hk.1.2⟩)))⟩; replace HO_126000 : Aside0 (Kd.V Kd.string 9 w33 w0.heap.size (fun k_ => ((P0_3_ k_ ∨ P1_0_ k_) ∨ w.heap.size ≤ k_) ∧ some k_ ≠ (u6 : Value).ownBlock ∧ some k_ ≠ (u125003 : Value).ownBlock ∧ some k_ ≠ (.slice (some ad133) t130.length co21 : Value).ownBlock ∧ k_ ≠ gb124 ∧ k_ ≠ gb125 ∧ k_ ≠ gb126) (.slice Ao18 x126000_1.length co18) x126000_1) := ⟨(by rw [hw]; exact (Kd.V_mono (zVf (Kd.V_mono HO_126000.out (fun k_ hk => (⟨hk, hk.1.2.2.2.1⟩ : _ ∧ k_ ≠ gb124)))) (fun _ hk => ⟨hk.1.1.1, ⟨hk.1.1.2.1, ⟨hk.1.1.2.2.1, ⟨hk.1.2, ⟨hk.1.1.2.2.2.1, ⟨hk.1.1.2.2.2.2.1, hk.1.1.2.2.2.2.2⟩⟩⟩⟩⟩⟩)))⟩; replace HO132 : Aside0 (Kd.R Kd.string 9 w33 w0.heap.size (fun k_ => (P0_3_ k_ ∨ w.heap.size ≤ k_) ∧ some k_ ≠ (u125003 : Value).ownBlock) (.slice (some ad133) t130.length co21) t130) := ⟨(by rw [hw]; exact (Kd.R_mono (zt HO132.out BK124.out) (fun _ hk => ⟨hk.1.1.1, hk.1.2⟩)))⟩; replace BK124 : Aside0 (w33.heap[gb124]? = some (.cells #[.string (x125000_1 ++ t134), .string (x125001_1 ++ (⟨#[49]⟩ : ByteArray)), .string (x125002_1 ++ x7_1), u125003, .int .i64 a0_4] 25 (0, 0))) := ⟨(by rw [hw]; exact (zp BK124.out))⟩; replace BK125 : Aside0 (w33.heap[gb125]? = some (.cells #[.slice Ao18 x126000_1.length co18, .int .i64 a1_1] 79 (0, 0))) := ⟨(by rw [hw]; exact (zy BK125.out))⟩; replace BK126 : Aside0 (w33.heap[gb126]? = some (.cells #[.string ⟨#[]⟩, .string ⟨#[]⟩, .string ⟨#[]⟩, .slice none 0 0, .int .i64 0] 25 (0, 0))) := ⟨(by rw [hw]; exact (zy BK126.out))⟩; replace HK : Aside0 (Kept w w33 (fun k_ => P0_3_ k_)) := ⟨(by rw [hw]; exact (zk HK.out))⟩; replace HB : Aside0 (Below w0.heap.size w0 w33) := ⟨(by rw [hw]; exact (zb HB.out))⟩; clear hw; have hnb34 := NB125_126.out; have hnc34 := NB126_125.out; have hcz35 := zc2 BK125.out) | ((with_reducible refine gate_builtin (b := .append) (xs := #[.tmp 40, .tmp 46]) rfl ?_); at_builtin; refine Kd.N_append k79 w.heap.size rfl (.tmp 40) (.tmp 46) 80 79 (.agg #[(.slice none 0 0), (.int .i64 0)]) 32 rfl Try.underlying80 info79 rfl (by decide) (by omega) u6 x6_1 (⟨t130, wrap64 (a1_1 + 1)⟩ : S79) [.slice (some ad133) t130.length co21, .int .i64 (wrap64 (a1_1 + 1))] (fun k_ => ((P0_3_ k_ ∨ P1_0_ k_) ∨ w.heap.size ≤ k_) ∧ some k_ ≠ (u125003 : Value).ownBlock ∧ k_ ≠ gb124 ∧ k_ ≠ gb125 ∧ k_ ≠ gb126) (fun k_ => ((fun k_ => ((P0_3_ k_ ∨ P1_0_ k_) ∨ w.heap.size ≤ k_) ∧ some k_ ≠ (u125003 : Value).ownBlock ∧ k_ ≠ gb124 ∧ k_ ≠ gb125 ∧ k_ ≠ gb126)) k_ ∧ some k_ ≠ (u6 : Value).ownBlock) rfl rfl ?aP (fun _ hk => hk) ?aF ?aO (Below.refl _ _) ?aS ?aL ?_; (case aP => exact (k79_mkF _ _ (⟨t130, wrap64 (a1_1 + 1)⟩ : S79) (Kd.R_reads' (Kd.R_mono (ok' := (fun k_ => ((fun k_ => ((P0_3_ k_ ∨ P1_0_ k_) ∨ w.heap.size ≤ k_) ∧ some k_ ≠ (u125003 : Value).ownBlock ∧ k_ ≠ gb124 ∧ k_ ≠ gb125 ∧ k_ ≠ gb126)) k_ ∧ some k_ ≠ (u6 : Value).ownBlock)) (Kd.R_types (Kd.R_types (Kd.R_types (Kd.R_apart' (HO132.out) (Kd.N_typed HO_6.out) (by decide)) BK124.out (by decide)) BK125.out (by decide)) BK126.out (by decide)) (fun k_ hk => ⟨⟨(Or.imp_left (fun h_ => (.inl h_)) (hk.1.1.1.1.1)), ⟨hk.1.1.1.1.2, ⟨hk.1.1.2, ⟨hk.1.2, hk.2⟩⟩⟩⟩, hk.1.1.1.2⟩))).2.1 (Kd.R_F (Kd.R_mono (ok' := (fun k_ => ((fun k_ => ((P0_3_ k_ ∨ P1_0_ k_) ∨ w.heap.size ≤ k_) ∧ some k_ ≠ (u125003 : Value).ownBlock ∧ k_ ≠ gb124 ∧ k_ ≠ gb125 ∧ k_ ≠ gb126)) k_ ∧ some k_ ≠ (u6 : Value).ownBlock)) (Kd.R_types (Kd.R_types (Kd.R_types (Kd.R_apart' (HO132.out) (Kd.N_typed HO_6.out) (by decide)) BK124.out (by decide)) BK125.out (by decide)) BK126.out (by decide)) (fun k_ hk => ⟨⟨(Or.imp_left (fun h_ => (.inl h_)) (hk.1.1.1.1.1)), ⟨hk.1.1.1.1.2, ⟨hk.1.1.2, ⟨hk.1.2, hk.2⟩⟩⟩⟩, hk.1.1.1.2⟩))))); (case aF => exact (fun k_ hk => ⟨(.inr (Nat.le_trans (by first | exact HK.out.1 | exact (show Kept w _ (fun k_ => P0_3_ k_) from zk HK.out).1) hk)), Kd.fresh' (Kd.R_lt (zr HO_125003.out)) k_ hk, Kd.freshB (g := gb124) (o := .cells #[.string (x125000_1 ++ t134), .string (x125001_1 ++ (⟨#[49]⟩ : ByteArray)), .string (x125002_1 ++ x7_1), u125003, .int .i64 a0_4] 25 (0, 0)) (zl BK124.out) k_ hk, Kd.freshB (g := gb125) (o := .cells #[.slice Ao18 x126000_1.length co18, .int .i64 a1_1] 79 (0, 0)) (zl BK125.out) k_ hk, Kd.freshB (g := gb126) (o := .cells #[.string ⟨#[]⟩, .string ⟨#[]⟩, .string ⟨#[]⟩, .slice none 0 0, .int .i64 0] 25 (0, 0)) (zl BK126.out) k_ hk⟩)); (case aO => exact (Kd.N_mono (zN HO_6.out) (fun _ hk => ⟨hk.1, ⟨hk.2.1, ⟨hk.2.2.2.1, ⟨hk.2.2.2.2.1, hk.2.2.2.2.2⟩⟩⟩⟩))); (case aS => exact (by first | exact HK.out.1 | exact (show Kept w _ (fun k_ => P0_3_ k_) from zk HK.out).1)); (case aL => have := LMc27.out; omega); intro v136 w36 ho hb hg hat; rw [← Ny135.out] at ho; replace HO_125003 := z0 (Kd.R_over' (zr HO_125003.out) (Kd.N_typed (zN HO_6.out)) (by decide) hg); replace HO_126000 := z0 (Kd.V_afterv (ok := (fun k_ => ((P0_3_ k_ ∨ P1_0_ k_) ∨ w.heap.size ≤ k_) ∧ some k_ ≠ (u125003 : Value).ownBlock ∧ some k_ ≠ (.slice (some ad133) t130.length co21 : Value).ownBlock ∧ k_ ≠ gb124 ∧ k_ ≠ gb125 ∧ k_ ≠ gb126)) (Kd.V_mono (zV HO_126000.out) (fun _ hk => ⟨⟨hk.1, ⟨hk.2.2.1, ⟨hk.2.2.2.1, ⟨hk.2.2.2.2.1, ⟨hk.2.2.2.2.2.1, hk.2.2.2.2.2.2⟩⟩⟩⟩⟩, hk.2.1⟩)) hg hat); replace BK124 := z0 (blk_grown (zl BK124.out) hg (Kd.N_ne HO_6.out BK124.out (by decide))); replace BK125 := z0 (blk_grown (zl BK125.out) hg (Kd.N_away HO_6.out (fun _ hk => hk.2.2.2.2.1))); replace BK126 := z0 (blk_grown (zl BK126.out) hg (Kd.N_ne HO_6.out BK126.out (by decide))); replace HB := z0 (below_weaken (zb HB.out) HW0.out hb); replace HK := z0 (Kept.of_grown (S := (fun k_ => P0_3_ k_)) hg (zk HK.out) (fun k_ e_ => .inr (Kd.N_base HO_6.out k_ e_))); have HO137 := z0 (ho); clear HO_6 HO132; clear ho hb hg hat; have hcz37 := zc2 BK125.out; have q38 : ((t130.length : Int) : Int) ≤ ((x126000_1.length : Int) : Int) := zd; obtain ⟨i038, hi038, _, hsz38, _⟩ := info_parts info9; have hroom38 : x126000_1.length ≤ co18 := (Kd.V_reads' HO_126000.out).2.1; have hC38 : Kd.F Kd.string _ _ Ao18 x126000_1.length x126000_1 := (Kd.V_at (base := w0.heap.size) HO_126000.out).2.2; have q038 : (0 : Int) ≤ ((t130.length : Int) : Int) := zd; have hcut38 := cut_from (P := Try.prog) 23 9 .i64 Try.underlying23 hi038 1 hsz38 Ao18 x126000_1.length co18 (t130.length : Int) q038 q38; have hr38 := Kd.F_cut (m := ((t130.length : Int) : Int).toNat) (c := co18) hC38 (by omega) hroom38; obtain ⟨A38, hA38⟩ : ∃ A1, A1 = (if co18 = ((t130.length : Int) : Int).toNat then Ao18 else (Ao18 : Option Addr).map (·.add (((t130.length : Int) : Int).toNat * 1))) := ⟨_, rfl⟩; obtain ⟨c38, hc38⟩ : ∃ c1, c1 = co18 - ((t130.length : Int) : Int).toNat := ⟨_, rfl⟩; have hy38 : y138.length = x126000_1.length - ((t130.length : Int) : Int).toNat := (by rw [Ny138.out, List.length_drop] <;> omega); rw [show (x126000_1).drop ((t130.length : Int) : Int).toNat = y138 from Ny138.out.symm] at hr38; replace hr38 : Kd.F Kd.string _ _ A38 y138.length y138 := (by rw [hA38]; exact hr38); rw [← hy38, ← hA38, ← hc38] at hcut38; have HO142 := z0 (show Kd.V Kd.string 9 _ w0.heap.size _ (.slice A38 y138.length c38) y138 from Kd.V_mk (by rw [hy38, hc38]; exact Nat.sub_le_sub_right hroom38 _) hr38); have HC142 := z0 (show y138.length ≤ c38 from by rw [hy38, hc38]; exact Nat.sub_le_sub_right hroom38 _); clear hr38 hC38 hroom38 hi038 hsz38 hc38; have KY38 := z0 hy38; have KA38 := z0 hA38; clear hy38 hA38; replace q38 := eq_true q38))
     go_roundg k1
     case measure => have := HK1.out; omega
     case rel => exact ⟨(y135), ((⟨#[48]⟩ : ByteArray)), (x125000_1 ++ t134), (x125001_1 ++ (⟨#[49]⟩ : ByteArray)), (x125002_1 ++ x7_1), (x125003_1), (y138), (u125003), (.slice A38 y138.length c38), zf, H', ⟨by have := HK1.out; omega⟩, ⟨Kd.N_mono (zNf (Kd.N_mono HO137.out (fun k_ hk => (⟨hk, hk.2.2.2.1⟩ : _ ∧ k_ ≠ gb125)))) (fun _ hk => ⟨hk.1.1, ⟨hk.1.2.1, ⟨hk.1.2.2.1, ⟨hk.1.2.2.2.1, hk.1.2.2.2.2⟩⟩⟩⟩)⟩, ⟨Kd.R_mono (zt HO_125003.out BK125.out) (fun _ hk => hk.1.1)⟩, ⟨Kd.V_mono (zVf (Kd.V_mono HO142.out (fun k_ hk => (⟨hk, hk.1.2.2.2.2.1⟩ : _ ∧ k_ ≠ gb125)))) (fun _ hk => ⟨hk.1.1.1, ⟨hk.1.2, ⟨hk.1.1.2.1, ⟨hk.1.1.2.2.2.1, ⟨hk.1.1.2.2.2.2.1, hk.1.1.2.2.2.2.2⟩⟩⟩⟩⟩)⟩, ⟨zy BK124.out⟩, ⟨zp BK125.out⟩, ⟨zy BK126.out⟩, ⟨zk HK.out⟩, ⟨zb HB.out⟩⟩
    ·rw [if_neg c25] at H; have c25b0 : decide (1 < (t130.length : Int)) = false := decide_eq_false c25; have c25b1 : decide (1 < t130.length) = false := decide_eq_false (by omega); clear c25; (first | rw [c25b0] | (simp only [i64_w, i32_w]; rw [c25b0]) | simp only [*, Bool.not_true, Bool.not_false] | skip); replace H := zn H; obtain ⟨c39, H⟩ := H; have c39b0 := eq_true c39; have c39b1 := decide_eq_true c39
     try have c39b2 : (9223372036854775807 < x125001_1.size + 1) = False := eq_false (Nat.not_lt.2 c39)
     replace H := zi H; obtain ⟨t144, A40, H⟩ := H; replace H := zn H; obtain ⟨c41, H⟩ := H; have LMc41 := z0 c41; clear c41; obtain ⟨y145, hy145⟩ : ∃ y_ : List ByteArray, y_ = (x125003_1 ++ [t144]) := ⟨_, rfl⟩; replace H : (if 0 ≤ (t130.length : Int) then (if (t130.length : Int) ≤ (x126000_1.length : Int) then (spec_l3Put.l0 k1 x6_1 (⟨#[48]⟩ : ByteArray) (x125000_1 ++ t134) (x125001_1 ++ (⟨#[48]⟩ : ByteArray)) (x125002_1 ++ x7_1) y145 a0_4 (x126000_1.drop ((t130.length : Int) : Int).toNat) a1_1) else (none)) else (none)) = some (r1, r2, r3, r4, r5, r6) := zH2 hy145 H; have Ny145 := z0 hy145; clear hy145; replace H := zn H; obtain ⟨c42, H⟩ := H; have c42b0 := eq_true c42; have c42b1 := decide_eq_true c42; clear c42; replace H := zn H; obtain ⟨c43, H⟩ := H; have c43b0 := eq_true c43; have c43b1 := decide_eq_true c43; clear c43; obtain ⟨y148, hy148⟩ : ∃ y_ : List ByteArray, y_ = (x126000_1.drop ((t130.length : Int) : Int).toNat) := ⟨_, rfl⟩; replace H : (spec_l3Put.l0 k1 x6_1 (⟨#[48]⟩ : ByteArray) (x125000_1 ++ t134) (x125001_1 ++ (⟨#[48]⟩ : ByteArray)) (x125002_1 ++ x7_1) y145 a0_4 y148 a1_1) = some (r1, r2, r3, r4, r5, r6) := zH2 hy148 H; have Ny148 := z0 hy148; clear hy148; have H' := z0 H; clear H; have hnb44 := NB124_125.out; have hnc44 := NB125_124.out; have hnb45 := NB124_126.out; have hnc45 := NB126_124.out; have hcz46 := zc5 BK124.out
     try go_wp2
     have n0_ : Aside0 (Kd.N k79 79 (((w22.setCell ⟨gb124, 0, none⟩ (.string (x125000_1 ++ t134))).setCell ⟨gb124, 2, none⟩ (.string (x125002_1 ++ x7_1))).setCell ⟨gb124, 1, none⟩ (.string (x125001_1 ++ (⟨#[48]⟩ : ByteArray)))) w.heap.size (fun k_ => ((P0_3_ k_ ∨ P1_0_ k_) ∨ w.heap.size ≤ k_) ∧ some k_ ≠ (u125003 : Value).ownBlock ∧ some k_ ≠ (.slice (some ad133) t130.length co21 : Value).ownBlock ∧ k_ ≠ gb124 ∧ k_ ≠ gb125 ∧ k_ ≠ gb126) u6 x6_1) := ⟨Kd.N_mono (zNf (Kd.N_mono HO_6.out (fun k_ hk => (⟨hk, hk.1.2.2.1⟩ : _ ∧ k_ ≠ gb124)))) (fun _ hk => ⟨hk.1.1.1, ⟨hk.1.1.2.1, ⟨hk.1.2, ⟨hk.1.1.2.2.1, ⟨hk.1.1.2.2.2.1, hk.1.1.2.2.2.2⟩⟩⟩⟩⟩)⟩; have n1_ : Aside0 (Kd.R Kd.string 9 (((w22.setCell ⟨gb124, 0, none⟩ (.string (x125000_1 ++ t134))).setCell ⟨gb124, 2, none⟩ (.string (x125002_1 ++ x7_1))).setCell ⟨gb124, 1, none⟩ (.string (x125001_1 ++ (⟨#[48]⟩ : ByteArray)))) w0.heap.size (fun k_ => (P0_3_ k_ ∨ w.heap.size ≤ k_) ∧ some k_ ≠ (.slice (some ad133) t130.length co21 : Value).ownBlock) u125003 x125003_1) := ⟨Kd.R_mono (zt HO_125003.out BK124.out) (fun _ hk => ⟨hk.1.1, hk.1.2⟩)⟩; have n2_ : Aside0 (Kd.V Kd.string 9 (((w22.setCell ⟨gb124, 0, none⟩ (.string (x125000_1 ++ t134))).setCell ⟨gb124, 2, none⟩ (.string (x125002_1 ++ x7_1))).setCell ⟨gb124, 1, none⟩ (.string (x125001_1 ++ (⟨#[48]⟩ : ByteArray)))) w0.heap.size (fun k_ => ((P0_3_ k_ ∨ P1_0_ k_) ∨ w.heap.size ≤ k_) ∧ some k_ ≠ (u6 : Value).ownBlock ∧ some k_ ≠ (u125003 : Value).ownBlock ∧ some k_ ≠ (.slice (some ad133) t130.length co21 : Value).ownBlock ∧ k_ ≠ gb124 ∧ k_ ≠ gb125 ∧ k_ ≠ gb126) (.slice Ao18 x126000_1.length co18) x126000_1) := ⟨Kd.V_mono (zVf (Kd.V_mono HO_126000.out (fun k_ hk => (⟨hk, hk.1.2.2.2.1⟩ : _ ∧ k_ ≠ gb124)))) (fun _ hk => ⟨hk.1.1.1, ⟨hk.1.1.2.1, ⟨hk.1.1.2.2.1, ⟨hk.1.2, ⟨hk.1.1.2.2.2.1, ⟨hk.1.1.2.2.2.2.1, hk.1.1.2.2.2.2.2⟩⟩⟩⟩⟩⟩)⟩; have n3_ : Aside0 (Kd.R Kd.string 9 (((w22.setCell ⟨gb124, 0, none⟩ (.string (x125000_1 ++ t134))).setCell ⟨gb124, 2, none⟩ (.string (x125002_1 ++ x7_1))).setCell ⟨gb124, 1, none⟩ (.string (x125001_1 ++ (⟨#[48]⟩ : ByteArray)))) w0.heap.size (fun k_ => (P0_3_ k_ ∨ w.heap.size ≤ k_) ∧ some k_ ≠ (u125003 : Value).ownBlock) (.slice (some ad133) t130.length co21) t130) := ⟨Kd.R_mono (zt HO132.out BK124.out) (fun _ hk => ⟨hk.1.1.1, hk.1.2⟩)⟩; have n4_ : Aside0 ((((w22.setCell ⟨gb124, 0, none⟩ (.string (x125000_1 ++ t134))).setCell ⟨gb124, 2, none⟩ (.string (x125002_1 ++ x7_1))).setCell ⟨gb124, 1, none⟩ (.string (x125001_1 ++ (⟨#[48]⟩ : ByteArray)))).heap[gb124]? = some (.cells #[.string (x125000_1 ++ t134), .string (x125001_1 ++ (⟨#[48]⟩ : ByteArray)), .string (x125002_1 ++ x7_1), u125003, .int .i64 a0_4] 25 (0, 0))) := ⟨zp BK124.out⟩; have n5_ : Aside0 ((((w22.setCell ⟨gb124, 0, none⟩ (.string (x125000_1 ++ t134))).setCell ⟨gb124, 2, none⟩ (.string (x125002_1 ++ x7_1))).setCell ⟨gb124, 1, none⟩ (.string (x125001_1 ++ (⟨#[48]⟩ : ByteArray)))).heap[gb125]? = some (.cells #[.slice Ao18 x126000_1.length co18, .int .i64 a1_1] 79 (0, 0))) := ⟨zy BK125.out⟩; have n6_ : Aside0 ((((w22.setCell ⟨gb124, 0, none⟩ (.string (x125000_1 ++ t134))).setCell ⟨gb124, 2, none⟩ (.string (x125002_1 ++ x7_1))).setCell ⟨gb124, 1, none⟩ (.string (x125001_1 ++ (⟨#[48]⟩ : ByteArray)))).heap[gb126]? = some (.cells #[.string ⟨#[]⟩, .string ⟨#[]⟩, .string ⟨#[]⟩, .slice none 0 0, .int .i64 0] 25 (0, 0))) := ⟨zy BK126.out⟩; have n7_ : Aside0 (Kept w (((w22.setCell ⟨gb124, 0, none⟩ (.string (x125000_1 ++ t134))).setCell ⟨gb124, 2, none⟩ (.string (x125002_1 ++ x7_1))).setCell ⟨gb124, 1, none⟩ (.string (x125001_1 ++ (⟨#[48]⟩ : ByteArray)))) (fun k_ => P0_3_ k_)) := ⟨zk HK.out⟩; have n8_ : Aside0 (Below w0.heap.size w0 (((w22.setCell ⟨gb124, 0, none⟩ (.string (x125000_1 ++ t134))).setCell ⟨gb124, 2, none⟩ (.string (x125002_1 ++ x7_1))).setCell ⟨gb124, 1, none⟩ (.string (x125001_1 ++ (⟨#[48]⟩ : ByteArray))))) := ⟨zb HB.out⟩; (try clear HO_6); (try clear HO_125003); (try clear HO_126000); (try clear HO132); (try clear BK124); (try clear BK125); (try clear BK126); (try clear HK); (try clear HB); generalize (((w22.setCell ⟨gb124, 0, none⟩ (.string (x125000_1 ++ t134))).setCell ⟨gb124, 2, none⟩ (.string (x125002_1 ++ x7_1))).setCell ⟨gb124, 1, none⟩ (.string (x125001_1 ++ (⟨#[48]⟩ : ByteArray)))) = w47 at n0_ n1_ n2_ n3_ n4_ n5_ n6_ n7_ n8_ ⊢; have HO_6 := n0_; have HO_125003 := n1_; have HO_126000 := n2_; have HO132 := n3_; have BK124 := n4_; have BK125 := n5_; have BK126 := n6_; have HK := n7_; have HB := n8_; clear n0_ n1_ n2_ n3_ n4_ n5_ n6_ n7_ n8_; replace HO_6 := z0 (Kd.N_drew HO_6.out); replace HO_125003 := z0 (Kd.R_drew HO_125003.out); replace HO_126000 := z0 (Kd.V_drew HO_126000.out); replace HO132 := z0 (Kd.R_drew HO132.out); replace BK124 := z0 (blk_drew BK124.out); replace BK125 := z0 (blk_drew BK125.out); replace BK126 := z0 (blk_drew BK126.out); replace HK := z0 (Kept.drew HK.out); replace HB := z0 (below_drew1 HB.out); have p143 : 0 ≤ (0 : Int) := (by omega); have q143 : 0 < (t130.length : Int) := zd; obtain ⟨ad143, e143, hx143_0⟩ := Kd.at_string (Kd.R_reads' HO132.out).2.2 0 p143 q143; obtain rfl : ad133 = ad143 := (by injection e143); have qi143 : (0 < t130.length) = True := eq_true (by omega); (try rw [show ((0 : Int)).toNat = 0 from rfl] at hx143_0); (try rw [Addr.add_zero'] at hx143_0); replace p143 := eq_true p143; replace q143 := eq_true q143; refine start_ (n := 15) (S := fun w' => w'.cell? ⟨gb124, 0, none⟩ = some (.string (x125000_1 ++ t134)) ∧ w'.cell? ⟨gb124, 1, none⟩ = some (.string (x125001_1 ++ (⟨#[48]⟩ : ByteArray))) ∧ w'.cell? ⟨gb124, 2, none⟩ = some (.string (x125002_1 ++ x7_1)) ∧ w'.cell? ⟨gb124, 3, none⟩ = some (u125003) ∧ w'.cell? ⟨gb124, 4, none⟩ = some (.int .i64 a0_4) ∧ w'.cell? ⟨gb125, 0, none⟩ = some (.slice Ao18 x126000_1.length co18) ∧ w'.cell? ⟨gb125, 1, none⟩ = some (.int .i64 a1_1) ∧ w'.cell? ad133 = some (.string (rdOf ByteArray.empty t130 0))) (ds := [12, 14]) (fb 15 0) (by kernel_rfl) rfl rfl (zd5 BK124.out ⟨(blk_cell BK125.out 0).trans rfl, (blk_cell BK125.out 1).trans rfl, hx143_0⟩) (fun hHeld => ?_); refine with_tabW spec_l3Put.tab13 spec_l3Put.bits13 (fun HT_ HW_ => ?_); generalize w47.drew = w48 at HO_6 HO_125003 HO_126000 HO132 BK124 BK125 BK126 HK HB hx143_0 hHeld ⊢; refine zu 0 1 ?_; refine zu 2 5 ?_; refine zu 3 13 ?_; refine zu 5 45 ?_; refine zu 8 301 ?_; refine zx 1 303 hHeld ?_; refine zx 4 319 hHeld ?_; refine zx 6 383 hHeld ?_; refine zu 7 511 ?_; refine zx 9 1023 hHeld ?_; refine zone 10 2047 (fun K hK => ?_); refine zG2 Try.func114 #[.string (rdOf ByteArray.empty t130 0), .int .i64 (wrap64 (a1_1 + 1)), .int .i64 a0_4] ?_
     with_reducible refine (spec_l3Rest.calls (rdOf ByteArray.empty t130 0) (wrap64 (a1_1 + 1)) a0_4 t144 _ A40.out).mono ?_
     rintro e w49 ⟨rfl, hb⟩; have HS7_ := (hb.cell (World.block_lt_of_cell? _ _ (hHeld.2.2.2.2.2.2.2))).trans (hHeld.2.2.2.2.2.2.2); refine ⟨_, rfl, ?_⟩; replace HO_6 := z0 (Kd.N_below (zN HO_6.out) hb); replace HO_125003 := zA HO_125003 hb; replace HO_126000 := z0 (Kd.V_below (zV HO_126000.out) hb); replace HO132 := zA HO132 hb; replace BK124 := zK BK124 hb; replace BK125 := zK BK125 hb; replace BK126 := zK BK126 hb; replace HK := z0 (Kept.below (zk HK.out) hb); replace HB := zH HB hb; (try clear hb); refine hK.out _ _ (zd5 BK124.out ⟨(blk_cell BK125.out 0).trans rfl, (blk_cell BK125.out 1).trans rfl, HS7_⟩) (fun hHeld => ?_); clear hK K; refine znm ?_; refine zone 11 4095 (fun K hK => ?_); refine value_ (w1 := ?_) (v := ?_) (by rfl) rfl ?_ ?_; rotate_left 2
     ·go_simp
      constructor
      ·rfl
      ·rfl
     refine hK.out _ _ ⟨(blk_cell (blk_alloc BK124.out _) 0).trans rfl, (blk_cell (blk_alloc BK124.out _) 1).trans rfl, (blk_cell (blk_alloc BK124.out _) 2).trans rfl, (blk_cell (blk_alloc BK124.out _) 3).trans rfl, (blk_cell (blk_alloc BK124.out _) 4).trans rfl, (blk_cell (blk_alloc BK125.out _) 0).trans rfl, (blk_cell (blk_alloc BK125.out _) 1).trans rfl, (World.cell?_alloc_lt _ _ _ (World.block_lt_of_cell? _ _ (hHeld.2.2.2.2.2.2.2))).trans (hHeld.2.2.2.2.2.2.2)⟩ (fun hHeld => ?_); clear hK K; refine znm ?_; refine last_ (i := 12) (N := some 64) (fb 15 8191) rfl rfl (one_of HT_.out (by kernel_rfl)) (by decide) (fun K hK => ?_); refine Kd.R_append_step Kd.string (w0 := w0) w0.heap.size (by rfl) (.tmp 53) (.tmp 63) 23 9 (.string ⟨#[]⟩) 16 rfl Try.underlying23 info9 rfl (by decide) (by omega) u125003 x125003_1 t144 [.string t144] (fun k_ => (P0_3_ k_ ∨ w.heap.size ≤ k_) ∧ some k_ ≠ (.slice (some ad133) t130.length co21 : Value).ownBlock) (fun _ => False) rfl rfl ?aP (fun _ hk => hk.elim) ?aF ?aO ?aB ?aS ?aL ?_; (case aP => exact rfl); (case aB => exact (zb HB.out)); (case aF => exact (fun k_ hk => ⟨(.inr (Nat.le_trans (by first | exact HK.out.1 | exact (show Kept w _ (fun k_ => P0_3_ k_) from zk HK.out).1) hk)), Kd.fresh' (Kd.R_lt (zr HO132.out)) k_ hk⟩)); (case aO => exact (zr HO_125003.out)); (case aS => exact (below_size (zb HB.out))); (case aL => have := LMc41.out; omega); intro v146 w50 ho hb hg hat; rw [← Ny145.out] at ho; replace HO_6 := z0 (Kd.N_afterv (ok := (fun k_ => ((P0_3_ k_ ∨ P1_0_ k_) ∨ w.heap.size ≤ k_) ∧ some k_ ≠ (.slice (some ad133) t130.length co21 : Value).ownBlock ∧ k_ ≠ gb124 ∧ k_ ≠ gb125 ∧ k_ ≠ gb126)) (Kd.N_mono (zN HO_6.out) (fun _ hk => ⟨⟨hk.1, ⟨hk.2.2.1, ⟨hk.2.2.2.1, ⟨hk.2.2.2.2.1, hk.2.2.2.2.2⟩⟩⟩⟩, hk.2.1⟩)) hg hat); replace HO_126000 := z0 (Kd.V_afterv (ok := (fun k_ => ((P0_3_ k_ ∨ P1_0_ k_) ∨ w.heap.size ≤ k_) ∧ some k_ ≠ (u6 : Value).ownBlock ∧ some k_ ≠ (.slice (some ad133) t130.length co21 : Value).ownBlock ∧ k_ ≠ gb124 ∧ k_ ≠ gb125 ∧ k_ ≠ gb126)) (Kd.V_mono (zV HO_126000.out) (fun _ hk => ⟨⟨hk.1, ⟨hk.2.1, ⟨hk.2.2.2.1, ⟨hk.2.2.2.2.1, ⟨hk.2.2.2.2.2.1, hk.2.2.2.2.2.2⟩⟩⟩⟩⟩, hk.2.2.1⟩)) hg hat); replace BK124 := z0 (blk_grown (zl BK124.out) hg (Kd.R_ne HO_125003.out BK124.out (by decide))); replace BK125 := z0 (blk_grown (zl BK125.out) hg (Kd.R_ne HO_125003.out BK125.out (by decide))); replace BK126 := z0 (blk_grown (zl BK126.out) hg (Kd.R_ne HO_125003.out BK126.out (by decide))); replace HO132 := z0 (Kd.R_after (ok := (fun k_ => (P0_3_ k_ ∨ w.heap.size ≤ k_))) (zr HO132.out) hg hat); replace HB := z0 (hb); replace HK := z0 (Kept.of_grown (S := (fun k_ => P0_3_ k_)) hg (zk HK.out) (fun k_ e_ => (HO_125003.out.1 k_ e_).1)); have HO147 := z0 (ho); clear HO_125003; clear ho hb hg hat; obtain ⟨Ao51, co51, eo51⟩ := Kd.R_slice HO147.out; (first | subst eo51 | (injection eo51 with f1_ f2_ f3_; have f4_ := f1_.symm; have f5_ := f3_.symm; clear f1_ f2_ f3_; subst f4_; subst f5_)); refine hK.out _ _ ?_; clear hK K; refine znm ?_; refine zu 13 16383 ?_; refine last_ (i := 14) (N := none) (fb 15 32767) rfl rfl (one_of HT_.out (by kernel_rfl)) (by decide) (fun K hK => ?_); have hs52 : w50.cell? ⟨gb124, 3, none⟩ = some (u125003) := (blk_cell BK124.out 3).trans rfl; have hfs52 := blk_frozen BK124.out 3; have hns52_1 := NB125_124.out; have hns52_2 := NB126_124.out; have hms52_1 := NB124_125.out; have hms52_2 := NB124_126.out; refine skip_ (w1 := ?_) (by rfl) rfl ?_ ?_; rotate_left
     ·go_simp
      rfl
     refine hK.out _ _ ?_; clear hK K; refine done_ (done_of HT_.out (by kernel_rfl)) ?_; have n0_ : Aside0 (Kd.N k79 79 (w50.setCell ⟨gb124, 3, none⟩ (.slice Ao51 y145.length co51)) w.heap.size (fun k_ => ((P0_3_ k_ ∨ P1_0_ k_) ∨ w.heap.size ≤ k_) ∧ some k_ ≠ (.slice (some ad133) t130.length co21 : Value).ownBlock ∧ some k_ ≠ (.slice Ao51 y145.length co51 : Value).ownBlock ∧ k_ ≠ gb124 ∧ k_ ≠ gb125 ∧ k_ ≠ gb126) u6 x6_1) := ⟨Kd.N_mono (zNf (Kd.N_mono HO_6.out (fun k_ hk => (⟨hk, hk.1.2.2.1⟩ : _ ∧ k_ ≠ gb124)))) (fun _ hk => ⟨hk.1.1.1, ⟨hk.1.1.2.1, ⟨hk.1.2, ⟨hk.1.1.2.2.1, ⟨hk.1.1.2.2.2.1, hk.1.1.2.2.2.2⟩⟩⟩⟩⟩)⟩; have n1_ : Aside0 (Kd.V Kd.string 9 (w50.setCell ⟨gb124, 3, none⟩ (.slice Ao51 y145.length co51)) w0.heap.size (fun k_ => ((P0_3_ k_ ∨ P1_0_ k_) ∨ w.heap.size ≤ k_) ∧ some k_ ≠ (u6 : Value).ownBlock ∧ some k_ ≠ (.slice (some ad133) t130.length co21 : Value).ownBlock ∧ some k_ ≠ (.slice Ao51 y145.length co51 : Value).ownBlock ∧ k_ ≠ gb124 ∧ k_ ≠ gb125 ∧ k_ ≠ gb126) (.slice Ao18 x126000_1.length co18) x126000_1) := ⟨Kd.V_mono (zVf (Kd.V_mono HO_126000.out (fun k_ hk => (⟨hk, hk.1.2.2.2.1⟩ : _ ∧ k_ ≠ gb124)))) (fun _ hk => ⟨hk.1.1.1, ⟨hk.1.1.2.1, ⟨hk.1.1.2.2.1, ⟨hk.1.2, ⟨hk.1.1.2.2.2.1, ⟨hk.1.1.2.2.2.2.1, hk.1.1.2.2.2.2.2⟩⟩⟩⟩⟩⟩)⟩; have n2_ : Aside0 (Kd.R Kd.string 9 (w50.setCell ⟨gb124, 3, none⟩ (.slice Ao51 y145.length co51)) w0.heap.size (fun k_ => (P0_3_ k_ ∨ w.heap.size ≤ k_) ∧ some k_ ≠ (.slice Ao51 y145.length co51 : Value).ownBlock) (.slice (some ad133) t130.length co21) t130) := ⟨Kd.R_mono (zt HO132.out BK124.out) (fun _ hk => ⟨hk.1.1, hk.1.2⟩)⟩; have n3_ : Aside0 (Kd.R Kd.string 9 (w50.setCell ⟨gb124, 3, none⟩ (.slice Ao51 y145.length co51)) w0.heap.size (fun k_ => (P0_3_ k_ ∨ w.heap.size ≤ k_) ∧ some k_ ≠ (.slice (some ad133) t130.length co21 : Value).ownBlock) (.slice Ao51 y145.length co51) y145) := ⟨Kd.R_mono (zt HO147.out BK124.out) (fun _ hk => ⟨hk.1.1, hk.1.2⟩)⟩; have n4_ : Aside0 ((w50.setCell ⟨gb124, 3, none⟩ (.slice Ao51 y145.length co51)).heap[gb124]? = some (.cells #[.string (x125000_1 ++ t134), .string (x125001_1 ++ (⟨#[48]⟩ : ByteArray)), .string (x125002_1 ++ x7_1), .slice Ao51 y145.length co51, .int .i64 a0_4] 25 (0, 0))) := ⟨zp BK124.out⟩; have n5_ : Aside0 ((w50.setCell ⟨gb124, 3, none⟩ (.slice Ao51 y145.length co51)).heap[gb125]? = some (.cells #[.slice Ao18 x126000_1.length co18, .int .i64 a1_1] 79 (0, 0))) := ⟨zy BK125.out⟩; have n6_ : Aside0 ((w50.setCell ⟨gb124, 3, none⟩ (.slice Ao51 y145.length co51)).heap[gb126]? = some (.cells #[.string ⟨#[]⟩, .string ⟨#[]⟩, .string ⟨#[]⟩, .slice none 0 0, .int .i64 0] 25 (0, 0))) := ⟨zy BK126.out⟩; have n7_ : Aside0 (Kept w (w50.setCell ⟨gb124, 3, none⟩ (.slice Ao51 y145.length co51)) (fun k_ => P0_3_ k_)) := ⟨zk HK.out⟩; have n8_ : Aside0 (Below w0.heap.size w0 (w50.setCell ⟨gb124, 3, none⟩ (.slice Ao51 y145.length co51))) := ⟨zb HB.out⟩; (try clear HO_6); (try clear HO_126000); (try clear HO132); (try clear HO147); (try clear BK124); (try clear BK125); (try clear BK126); (try clear HK); (try clear HB); generalize (w50.setCell ⟨gb124, 3, none⟩ (.slice Ao51 y145.length co51)) = w53 at n0_ n1_ n2_ n3_ n4_ n5_ n6_ n7_ n8_ ⊢; have HO_6 := n0_; have HO_126000 := n1_; have HO132 := n2_; have HO147 := n3_; have BK124 := n4_; have BK125 := n5_; have BK126 := n6_; have HK := n7_; have HB := n8_; clear n0_ n1_ n2_ n3_ n4_ n5_ n6_ n7_ n8_; have hnb54 := NB125_126.out; have hnc54 := NB126_125.out; have hcz55 := zc2 BK125.out; have q56 : ((t130.length : Int) : Int) ≤ ((x126000_1.length : Int) : Int) := zd; obtain ⟨i056, hi056, _, hsz56, _⟩ := info_parts info9; have hroom56 : x126000_1.length ≤ co18 := (Kd.V_reads' HO_126000.out).2.1; have hC56 : Kd.F Kd.string _ _ Ao18 x126000_1.length x126000_1 := (Kd.V_at (base := w0.heap.size) HO_126000.out).2.2; have q056 : (0 : Int) ≤ ((t130.length : Int) : Int) := zd; have hcut56 := cut_from (P := Try.prog) 23 9 .i64 Try.underlying23 hi056 1 hsz56 Ao18 x126000_1.length co18 (t130.length : Int) q056 q56; have hr56 := Kd.F_cut (m := ((t130.length : Int) : Int).toNat) (c := co18) hC56 (by omega) hroom56; obtain ⟨A56, hA56⟩ : ∃ A1, A1 = (if co18 = ((t130.length : Int) : Int).toNat then Ao18 else (Ao18 : Option Addr).map (·.add (((t130.length : Int) : Int).toNat * 1))) := ⟨_, rfl⟩; obtain ⟨c56, hc56⟩ : ∃ c1, c1 = co18 - ((t130.length : Int) : Int).toNat := ⟨_, rfl⟩; have hy56 : y148.length = x126000_1.length - ((t130.length : Int) : Int).toNat := (by rw [Ny148.out, List.length_drop] <;> omega); rw [show (x126000_1).drop ((t130.length : Int) : Int).toNat = y148 from Ny148.out.symm] at hr56; replace hr56 : Kd.F Kd.string _ _ A56 y148.length y148 := (by rw [hA56]; exact hr56); rw [← hy56, ← hA56, ← hc56] at hcut56; have HO152 := z0 (show Kd.V Kd.string 9 _ w0.heap.size _ (.slice A56 y148.length c56) y148 from Kd.V_mk (by rw [hy56, hc56]; exact Nat.sub_le_sub_right hroom56 _) hr56); have HC152 := z0 (show y148.length ≤ c56 from by rw [hy56, hc56]; exact Nat.sub_le_sub_right hroom56 _); clear hr56 hC56 hroom56 hi056 hsz56 hc56; have KY56 := z0 hy56; have KA56 := z0 hA56; clear hy56 hA56; replace q56 := eq_true q56
     try go_wp2
     go_roundg k1
     case measure => have := HK1.out; omega
     case rel => exact ⟨(x6_1), ((⟨#[48]⟩ : ByteArray)), (x125000_1 ++ t134), (x125001_1 ++ (⟨#[48]⟩ : ByteArray)), (x125002_1 ++ x7_1), (y145), (y148), (.slice Ao51 y145.length co51), (.slice A56 y148.length c56), zf, H', ⟨by have := HK1.out; omega⟩, ⟨Kd.N_mono (zNf (Kd.N_mono HO_6.out (fun k_ hk => (⟨hk, hk.2.2.2.2.1⟩ : _ ∧ k_ ≠ gb125)))) (fun _ hk => ⟨hk.1.1, ⟨hk.1.2.2.1, ⟨hk.1.2.2.2.1, ⟨hk.1.2.2.2.2.1, hk.1.2.2.2.2.2⟩⟩⟩⟩)⟩, ⟨Kd.R_mono (zt HO147.out BK125.out) (fun _ hk => hk.1.1)⟩, ⟨Kd.V_mono (zVf (Kd.V_mono HO152.out (fun k_ hk => (⟨hk, hk.2.2.2.2.2.1⟩ : _ ∧ k_ ≠ gb125)))) (fun _ hk => ⟨hk.1.1, ⟨hk.1.2.1, ⟨hk.1.2.2.2.1, ⟨hk.1.2.2.2.2.1, ⟨hk.1.2.2.2.2.2.1, hk.1.2.2.2.2.2.2⟩⟩⟩⟩⟩)⟩, ⟨zy BK124.out⟩, ⟨zp BK125.out⟩, ⟨zy BK126.out⟩, ⟨zk HK.out⟩, ⟨zb HB.out⟩⟩
   ·rw [if_neg c9] at H; have c9b0 : decide (0 < (x126000_1.length : Int)) = false := decide_eq_false c9; have c9b1 : decide (0 < x126000_1.length) = false := decide_eq_false (by omega); clear c9; simp only [Option.some.injEq, Prod.mk.injEq] at H; obtain ⟨rfl, rfl, rfl, rfl, rfl, rfl⟩ := H; have hnb57 := NB125_124.out; have hnc57 := NB124_125.out; have hnb58 := NB125_126.out; have hnc58 := NB126_125.out; have hcz59 := zc2 BK125.out; obtain ⟨Ao60, co60, eo60⟩ := Kd.V_slice HO_126000.out; subst eo60; have hnb61 := NB124_126.out; have hnc61 := NB126_124.out; have hcz62 := zc5 BK124.out; have hcz63 := zc5 BK126.out; obtain ⟨Ao64, co64, eo64⟩ := Kd.R_slice HO_125003.out; subst eo64; go_wp2; refine bodyPost_ret (results_ct rfl _ _ gb126 25 #[.string x125000_1, .string x125001_1, .string x125002_1, .slice Ao64 x125003_1.length co64, .int .i64 a0_4] (0, 0) _ rfl (zp BK126.out) Try.underlying25 rfl (by kernel_rfl)) rfl ?_; exact ⟨_, _, ze, Kd.R_mono (zt HO_125003.out BK126.out) (fun _ hk => hk.1), Kd.N_mono (zNf (Kd.N_mono HO_6.out (fun k_ hk => (⟨hk, hk.2.2.2.2⟩ : _ ∧ k_ ≠ gb126)))) (fun _ hk => ⟨hk.1.1, hk.1.2.1⟩), zb HB.out, zk HK.out⟩
theorem spec_SieveOf.mono_l : ∀ k, (∀ y0 y1 y2, LeO (spec_SieveOf.j0 k y0 y1 y2) (spec_SieveOf.j0 (k + 1) y0 y1 y2)) ∧ (∀ y0 y1 y2 y3 y4 y5, LeO (spec_SieveOf.l0 k y0 y1 y2 y3 y4 y5) (spec_SieveOf.l0 (k + 1) y0 y1 y2 y3 y4 y5))
  | 0 => ⟨fun _ _ _ r h => by simp [spec_SieveOf.j0] at h, fun _ _ _ _ _ _ r h => by simp [spec_SieveOf.l0] at h⟩
  | k + 1 => by
    obtain ⟨ih0, ih1⟩ := spec_SieveOf.mono_l k
    refine ⟨?_, ?_⟩
    · intro y0 y1 y2
      unfold spec_SieveOf.j0
      repeat' first | (with_reducible first | apply ih0 | apply ih1 | apply spec_KeysOk.mono | apply spec_l3Put.mono | exact LeO.refl _ | exact LeO.none _ | refine LeO.ite ?_ ?_ | refine LeO.bind ?_ (fun _ => ?_)) | exact LeO.none _ | refine LeO.ite ?_ ?_ | refine LeO.bind ?_ (fun _ => ?_)
    · intro y0 y1 y2 y3 y4 y5
      unfold spec_SieveOf.l0
      repeat' first | (with_reducible first | apply ih0 | apply ih1 | apply spec_KeysOk.mono | apply spec_l3Put.mono | exact LeO.refl _ | exact LeO.none _ | refine LeO.ite ?_ ?_ | refine LeO.bind ?_ (fun _ => ?_)) | exact LeO.none _ | refine LeO.ite ?_ ?_ | refine LeO.bind ?_ (fun _ => ?_)
theorem spec_SieveOf.mono : ∀ a0 a1 k, LeO (spec_SieveOf.f k a0 a1) (spec_SieveOf.f (k + 1) a0 a1) := by
  intro a0 a1 k
  obtain ⟨ih0, ih1⟩ := spec_SieveOf.mono_l k
  unfold spec_SieveOf.f
  repeat' first | (with_reducible first | apply ih0 | apply ih1 | apply spec_KeysOk.mono | apply spec_l3Put.mono | exact LeO.refl _ | exact LeO.none _ | refine LeO.ite ?_ ?_ | refine LeO.bind ?_ (fun _ => ?_)) | exact LeO.none _ | refine LeO.ite ?_ ?_ | refine LeO.bind ?_ (fun _ => ?_)
def spec_SieveOf.T7 : Bool × List (List Nat × List Nat) := (true, [([], []), ([], []), ([1], [1]), ([2], [2]), ([0, 3], [0, 3]), ([4], [4]), ([5], [5]), ([5], [5]), ([6, 4, 0, 1, 2, 3, 4, 5, 6], [6]), ([7, 8, 0, 1, 2, 3, 4, 5, 6, 7, 8], [7])])
def spec_SieveOf.B7 : List Nat := [0, 0, 2, 6, 15, 31, 63, 63, 127, 511]
theorem spec_SieveOf.tab7 : rtab .any (opsOf Try.f36 7) = spec_SieveOf.T7 := by kernel_rfl
theorem spec_SieveOf.bits7 : waitsOk spec_SieveOf.T7.2 spec_SieveOf.B7 = true := by kernel_rfl
theorem spec_SieveOf.calls (k : Nat) (P0_ : Nat → Prop) (A0 : Option Addr) (c0 : Nat) (l0 : List ByteArray) (a1 : Int) (r1 r2 r3 : ByteArray) (r4 : List ByteArray) (r5 : Int) (r6 : Bool) (w : World) (hs0 : Kd.V Kd.string 9 w w.heap.size (fun k_ => P0_ k_) (.slice A0 l0.length c0) l0) (h : spec_SieveOf.f k l0 a1 = some (r1, r2, r3, r4, r5, r6)) :
    Calls Try.prog 36 #[.slice A0 l0.length c0, .int .i64 a1] w fun e w' => ∃ v3_ : Value, e = .returned (.tuple #[.agg #[.string r1, .string r2, .string r3, v3_, .int .i64 r5], .bool r6]) ∧ Kd.R Kd.string 9 w' w.heap.size (fun k_ => (w.heap.size ≤ k_)) v3_ r4 ∧ Below w.heap.size w w' := by
 have hu25 := Try.underlying25; have hu79 := Try.underlying79; have HO0 := z0 (show Kd.V Kd.string 9 w w.heap.size (fun k_ => (P0_ k_ ∨ w.heap.size ≤ k_)) (.slice A0 l0.length c0) l0 from Kd.V_mono hs0 (fun k_ hk => .inl hk)); have HB := z0 (Below.refl w.heap.size w); have H : ((spec_KeysOk.f k l0).bind fun t154 => (if t154 = true then ((spec_l6In.f a1 0 5).bind fun t155 => (spec_SieveOf.j0 k l0 a1 (!t155))) else (spec_SieveOf.j0 k l0 a1 true))) = some (r1, r2, r3, r4, r5, r6) := h; clear h; have HC3 := z0 H; clear H; go_enter Try.func36, Try.ntmps36
 go_upto_region 1 with (first | ((with_reducible refine gd 4 ?_); refine zbx 25 #[.string ⟨#[]⟩, .string ⟨#[]⟩, .string ⟨#[]⟩, .slice none 0 0, .int .i64 0] ?_; intro gb153 hg w4 hbox hb; replace HO0 := z0 (Kd.V_below (Kd.V_elderB (zV HO0.out) gb153 (Nat.le_of_eq hg.symm)) hb); have BK153 := z0 (hbox); have GE153 := zG hg HB; replace HB := zH HB hb; clear hb hbox hg))
 (try simp only [Act.put, List.setIfInBounds_toArray, List.set_cons_zero, List.set_cons_succ])
 go_cut [16] (fun v16 wc => ∃ (kq : Nat) (x16_2 : Bool), v16 = .bool x16_2 ∧ Aside0 (spec_SieveOf.j0 kq l0 a1 x16_2 = some (r1, r2, r3, r4, r5, r6)) ∧ Aside0 (kq ≤ k) ∧ Aside0 (Kd.V Kd.string 9 wc w.heap.size (fun k_ => (P0_ k_ ∨ w.heap.size ≤ k_) ∧ k_ ≠ gb153) (.slice A0 l0.length c0) l0) ∧ Aside0 (wc.heap[gb153]? = some (.cells #[.string ⟨#[]⟩, .string ⟨#[]⟩, .string ⟨#[]⟩, (.slice none 0 0), .int .i64 0] 25 (0, 0))) ∧ Aside0 (Below w.heap.size w wc))
 case first =>
  have H := HC3.out; clear HC3; replace H := zi H; obtain ⟨t154, A5, H⟩ := H
  by_cases c6 : t154 = true
  ·subst c6
   have H1 : ((spec_l6In.f a1 0 5).bind fun t155 => (spec_SieveOf.j0 k l0 a1 (!t155))) = some (r1, r2, r3, r4, r5, r6) := by rw [if_pos rfl] at H; exact H
   clear H; have H := H1; clear H1; replace H := zi H; obtain ⟨t155, A7, H⟩ := H; have H' := z0 H; clear H
   go_wp2_with (first | ((with_reducible refine gc 80 ?_); refine zL (some 10) Try.func80 #[.slice A0 l0.length c0] ?_; (with_reducible refine (spec_KeysOk.calls k _ _ l0 true _ ?side1 ?side2 A5.out).mono ?_); (case side1 => repeat (first | exact (Kd.V_reads' HO0.out).2.2 | (with_reducible refine Kd.C_alloc ?_ _) | (with_reducible refine Kd.C_drewN ?_ _) | (with_reducible refine Kd.C_drew ?_))); (case side2 => exact (Kd.V_reads' HO0.out).2.1); rintro e w' ⟨rfl, ⟨nd, rfl⟩⟩; refine ⟨_, rfl, ?_⟩) | (go_at_call 76; (with_reducible refine (spec_l6In.calls a1 0 5 t155 _ A7.out).mono ?_); rintro e w' ⟨rfl, ⟨nd, rfl⟩⟩))
   go_meet
   case rel => exact ⟨_, (!t155), zf, H', ⟨by first | omega | exact Nat.le_refl _⟩, ⟨zV HO0.out⟩, ⟨zl BK153.out⟩, ⟨zb HB.out⟩⟩
  ·replace c6 := Bool.eq_false_iff.mpr c6; subst c6
   have H1 : (spec_SieveOf.j0 k l0 a1 true) = some (r1, r2, r3, r4, r5, r6) := by rw [if_neg (show ¬ (false = true) by decide)] at H; exact H
   clear H; have H := H1; clear H1; have H' := z0 H; clear H
   go_wp2_with (first | ((with_reducible refine gc 80 ?_); refine zL (some 10) Try.func80 #[.slice A0 l0.length c0] ?_; (with_reducible refine (spec_KeysOk.calls k _ _ l0 false _ ?side1 ?side2 A5.out).mono ?_); (case side1 => repeat (first | exact (Kd.V_reads' HO0.out).2.2 | (with_reducible refine Kd.C_alloc ?_ _) | (with_reducible refine Kd.C_drewN ?_ _) | (with_reducible refine Kd.C_drew ?_))); (case side2 => exact (Kd.V_reads' HO0.out).2.1); rintro e w' ⟨rfl, ⟨nd, rfl⟩⟩; refine ⟨_, rfl, ?_⟩))
   go_meet
   case rel => exact ⟨_, (true), zf, H', ⟨by first | omega | exact Nat.le_refl _⟩, ⟨zV HO0.out⟩, ⟨zl BK153.out⟩, ⟨zb HB.out⟩⟩
 case rest =>
  clear HC3
  try clear p2
  try clear c3
  try clear c6
  obtain ⟨kq, x16_2, rfl, HA, HJ2, HO_0, BK153, HB⟩ := hcut
  cases kq with
  | zero => exact absurd HA.out (by simp [spec_SieveOf.j0])
  | succ kj2 =>
   have H := HA.out; clear HA; simp only [spec_SieveOf.j0] at H
   by_cases c8 : x16_2 = true
   ·subst c8
    have H1 : (some ((⟨#[]⟩ : ByteArray), (⟨#[]⟩ : ByteArray), (⟨#[]⟩ : ByteArray), ([] : List ByteArray), 0, false)) = some (r1, r2, r3, r4, r5, r6) := by rw [if_pos rfl] at H; exact H
    clear H; have H := H1; clear H1; simp only [Option.some.injEq, Prod.mk.injEq] at H; obtain ⟨rfl, rfl, rfl, rfl, rfl, rfl⟩ := H; have hcz9 := zc5 BK153.out; go_wp2; refine bodyPost_ret (results_ct rfl _ _ gb153 25 #[.string ⟨#[]⟩, .string ⟨#[]⟩, .string ⟨#[]⟩, .slice none 0 0, .int .i64 0] (0, 0) _ rfl (zp BK153.out) Try.underlying25 rfl (by kernel_rfl)) rfl ?_; exact ⟨_, ze, by first | exact Kd.R_nil _ _ _ _ _ | exact Kd.N_nil _ _ _ _ _ | exact Kd.V_nil _ _ _ _ _ | exact Kd.Q_nil _ _ _ _ _ | exact Kd.S_nil _ _ _ _ _, zb HB.out⟩
   ·replace c8 := Bool.eq_false_iff.mpr c8; subst c8
    have H1 : (spec_SieveOf.l0 kj2 (([(⟨l0, 0⟩ : S79)] : List (S79))) (⟨#[]⟩ : ByteArray) (⟨#[]⟩ : ByteArray) (⟨#[]⟩ : ByteArray) (([] : List ByteArray)) a1) = some (r1, r2, r3, r4, r5, r6) := by rw [if_neg (show ¬ (false = true) by decide)] at H; exact H
    clear H; have H := H1; clear H1; obtain ⟨y156, hy156⟩ : ∃ y_ : List ByteArray, y_ = (([] : List ByteArray)) := ⟨_, rfl⟩; replace H : (spec_SieveOf.l0 kj2 (([(⟨l0, 0⟩ : S79)] : List (S79))) (⟨#[]⟩ : ByteArray) (⟨#[]⟩ : ByteArray) (⟨#[]⟩ : ByteArray) y156 a1) = some (r1, r2, r3, r4, r5, r6) := zH2 hy156 H; have Ny156 := z0 hy156; clear hy156; obtain ⟨y160, hy160⟩ : ∃ y_ : List (S79), y_ = (([(⟨l0, 0⟩ : S79)] : List (S79))) := ⟨_, rfl⟩; replace H : (spec_SieveOf.l0 kj2 y160 (⟨#[]⟩ : ByteArray) (⟨#[]⟩ : ByteArray) (⟨#[]⟩ : ByteArray) y156 a1) = some (r1, r2, r3, r4, r5, r6) := zH2 hy160 H; have Ny160 := z0 hy160; clear hy160; have H' := z0 H; clear H
    go_wp2_with (first | ((with_reducible refine gd 18 ?_); refine Kd.R_lit Kd.string _ 9 ?hg (N := 18) ?hd (xs := ([] : List ByteArray)) (inner := []) (ok := fun _ => True) (okp := fun _ => True) ?hr ?hp (fun _ hk => hk) trivial (Below.refl _ _) (Nat.le_refl _) (by simp) ?_; (case hd => rfl); (case hg => rfl); (case hr => first | (go_simp; done) | (go_simp; rfl)); (case hp => exact (Reps.none _ _)); intro v157 w10 ho11 hb hg_ hnew_; clear hg_ hnew_; (first | rw [← Ny156.out] at ho11 | (simp only [Int.reduceToNat] at ho11; rw [← Ny156.out] at ho11)); replace HO_0 := z0 (Kd.V_elder' (zV HO_0.out) (Kd.R_base ho11) hb); have HO158 := z0 (Kd.R_lower (Kd.R_newM (M := fun k_ => (w.heap.size ≤ k_)) ho11 (below_size (zb HB.out)) (fun k_ h_ => h_)) (below_size (zb HB.out))); replace BK153 := zK BK153 hb; replace HB := zH HB hb; clear hb ho11; obtain ⟨Ao12, co12, eo12⟩ := Kd.R_slice HO158.out; subst eo12) | ((with_reducible refine gd 6 ?_); refine zbx 25 #[.string ⟨#[]⟩, .string ⟨#[]⟩, .string ⟨#[]⟩, .slice none 0 0, .int .i64 0] ?_; intro gb159 hg w13 hbox hb; replace HO_0 := z0 (Kd.V_below (Kd.V_elderB (zV HO_0.out) gb159 (Nat.le_of_eq hg.symm)) hb); replace HO158 := zA HO158 hb; have BK159 := z0 (hbox); have GE159 := zG hg HB; replace HB := zH HB hb; have NB153_159 := zLt hg BK153; have NB159_153 := zGt hg BK153; replace BK153 := zK BK153 hb; clear hb hbox hg; have hnb14 := NB159_153.out; have hnc14 := NB153_159.out; have hcz15 := zc5 BK159.out) | ((with_reducible refine gd 23 ?_); refine Kd.N_lit k79 _ 79 ?hg (N' := 23) ?hd (xs := ([(⟨l0, 0⟩ : S79)] : List (S79))) (inner := [.slice A0 l0.length c0, .int .i64 0]) (ok := (fun k_ => (P0_ k_ ∨ w.heap.size ≤ k_) ∧ some k_ ≠ (.slice Ao12 y156.length co12 : Value).ownBlock ∧ k_ ≠ gb153 ∧ k_ ≠ gb159)) (okp := (fun k_ => (P0_ k_ ∨ w.heap.size ≤ k_) ∧ some k_ ≠ (.slice Ao12 y156.length co12 : Value).ownBlock ∧ k_ ≠ gb153 ∧ k_ ≠ gb159)) ?hr ?hp (fun _ hk => hk) ((show ∀ k_, (((((w13.setCell ⟨gb159, 0, none⟩ (.string ⟨#[]⟩)).setCell ⟨gb159, 1, none⟩ (.string ⟨#[]⟩)).setCell ⟨gb159, 2, none⟩ (.string ⟨#[]⟩)).setCell ⟨gb159, 3, none⟩ (.slice Ao12 y156.length co12)).setCell ⟨gb159, 4, none⟩ (.int .i64 a1)).heap.size ≤ k_ → (fun k_ => (P0_ k_ ∨ w.heap.size ≤ k_) ∧ some k_ ≠ (.slice Ao12 y156.length co12 : Value).ownBlock ∧ k_ ≠ gb153 ∧ k_ ≠ gb159) k_ from fun k_ hk => ⟨(.inr (Nat.le_trans (below_size (zb HB.out)) hk)), Kd.fresh' (Kd.R_lt (zs HO158.out BK159.out)) k_ hk, Kd.freshB (g := gb153) (o := .cells #[.string ⟨#[]⟩, .string ⟨#[]⟩, .string ⟨#[]⟩, .slice none 0 0, .int .i64 0] 25 (0, 0)) (zy BK153.out) k_ hk, Kd.freshB (g := gb159) (o := .cells #[.string ⟨#[]⟩, .string ⟨#[]⟩, .string ⟨#[]⟩, .slice Ao12 y156.length co12, .int .i64 a1] 25 (0, 0)) (zp BK159.out) k_ hk⟩) _ (Nat.le_refl _)) (Below.refl _ _) (Nat.le_refl _) (by simp) ?_; (case hd => rfl); (case hg => rfl); (case hr => first | (go_simp; done) | (go_simp; rfl)); (case hp => exact (Reps.c2 (show Kd.FK k79 _ _ (⟨l0, 0⟩ : S79) [.slice A0 l0.length c0, .int .i64 0] from (k79_mkF _ _ (⟨l0, 0⟩ : S79) (Kd.V_reads' (Kd.V_mono (ok' := (fun k_ => (P0_ k_ ∨ w.heap.size ≤ k_) ∧ some k_ ≠ (.slice Ao12 y156.length co12 : Value).ownBlock ∧ k_ ≠ gb153 ∧ k_ ≠ gb159)) (Kd.V_mono (Kd.V_far (p := ⟨gb159, 4, none⟩) (Kd.V_far (p := ⟨gb159, 3, none⟩) (Kd.V_far (p := ⟨gb159, 2, none⟩) (Kd.V_far (p := ⟨gb159, 1, none⟩) (Kd.V_far (p := ⟨gb159, 0, none⟩) (Kd.V_mono HO_0.out (fun k_ hk => (⟨hk, hk.2⟩ : _ ∧ k_ ≠ gb159))) (fun _ hk => hk.2) (.string ⟨#[]⟩)) (fun _ hk => hk.2) (.string ⟨#[]⟩)) (fun _ hk => hk.2) (.string ⟨#[]⟩)) (fun _ hk => hk.2) (.slice Ao12 y156.length co12)) (fun _ hk => hk.2) (.int .i64 a1)) (fun _ h_ => h_.1)) (fun k_ hk => ⟨hk.1.1.1, ⟨hk.1.2, ⟨hk.1.1.2, hk.2⟩⟩⟩))).2.1 (Kd.V_F (Kd.V_mono (ok' := (fun k_ => (P0_ k_ ∨ w.heap.size ≤ k_) ∧ some k_ ≠ (.slice Ao12 y156.length co12 : Value).ownBlock ∧ k_ ≠ gb153 ∧ k_ ≠ gb159)) (Kd.V_mono (Kd.V_far (p := ⟨gb159, 4, none⟩) (Kd.V_far (p := ⟨gb159, 3, none⟩) (Kd.V_far (p := ⟨gb159, 2, none⟩) (Kd.V_far (p := ⟨gb159, 1, none⟩) (Kd.V_far (p := ⟨gb159, 0, none⟩) (Kd.V_mono HO_0.out (fun k_ hk => (⟨hk, hk.2⟩ : _ ∧ k_ ≠ gb159))) (fun _ hk => hk.2) (.string ⟨#[]⟩)) (fun _ hk => hk.2) (.string ⟨#[]⟩)) (fun _ hk => hk.2) (.string ⟨#[]⟩)) (fun _ hk => hk.2) (.slice Ao12 y156.length co12)) (fun _ hk => hk.2) (.int .i64 a1)) (fun _ h_ => h_.1)) (fun k_ hk => ⟨hk.1.1.1, ⟨hk.1.2, ⟨hk.1.1.2, hk.2⟩⟩⟩))))) (Reps.none _ _))); intro v161 w16 ho17 hb hg_ hnew_; clear hg_ hnew_; (first | rw [← Ny160.out] at ho17 | (simp only [Int.reduceToNat] at ho17; rw [← Ny160.out] at ho17)); replace HO_0 := z0 (Kd.V_elder' (by (with_reducible repeat (first | apply Kd.V_alloc | apply Kd.V_drewN | apply Kd.V_drew)); exact (Kd.V_mono (Kd.V_far (p := ⟨gb159, 4, none⟩) (Kd.V_far (p := ⟨gb159, 3, none⟩) (Kd.V_far (p := ⟨gb159, 2, none⟩) (Kd.V_far (p := ⟨gb159, 1, none⟩) (Kd.V_far (p := ⟨gb159, 0, none⟩) (Kd.V_mono HO_0.out (fun k_ hk => (⟨hk, hk.2⟩ : _ ∧ k_ ≠ gb159))) (fun _ hk => hk.2) (.string ⟨#[]⟩)) (fun _ hk => hk.2) (.string ⟨#[]⟩)) (fun _ hk => hk.2) (.string ⟨#[]⟩)) (fun _ hk => hk.2) (.slice Ao12 y156.length co12)) (fun _ hk => hk.2) (.int .i64 a1)) (fun _ h_ => h_.1))) (Kd.N_base ho17) hb); replace HO158 := zAs HO158 BK159 hb; have HO162 := z0 (Kd.N_lower ho17 (below_size (zb HB.out))); replace BK153 := zKy BK153 hb; replace BK159 := z0 (blk_below (zpc BK159.out #[.string ⟨#[]⟩, .string ⟨#[]⟩, .string ⟨#[]⟩, .slice Ao12 y156.length co12, .int .i64 a1]) hb); replace HB := zH HB hb; clear hb ho17))
    go_loopg [7] kj2 (fun kq v7 w' => ∃ (x7_2 : List (S79)) (x160000_2 : ByteArray) (x160001_2 : ByteArray) (x160002_2 : ByteArray) (x160003_2 : List ByteArray) (x160004_2 : Int) (u160003 : Value), Aside0 (spec_SieveOf.l0 kq x7_2 x160000_2 x160001_2 x160002_2 x160003_2 x160004_2 = some (r1, r2, r3, r4, r5, r6)) ∧ Aside0 (kq ≤ kj2) ∧ Aside0 (Kd.N k79 79 w' w.heap.size (fun k_ => (P0_ k_ ∨ w.heap.size ≤ k_) ∧ some k_ ≠ (u160003 : Value).ownBlock ∧ k_ ≠ gb153 ∧ k_ ≠ gb159) v7 x7_2) ∧ Aside0 (Kd.R Kd.string 9 w' w.heap.size (fun k_ => (w.heap.size ≤ k_)) u160003 x160003_2) ∧ Aside0 (w'.heap[gb153]? = some (.cells #[.string ⟨#[]⟩, .string ⟨#[]⟩, .string ⟨#[]⟩, (.slice none 0 0), .int .i64 0] 25 (0, 0))) ∧ Aside0 (w'.heap[gb159]? = some (.cells #[.string x160000_2, .string x160001_2, .string x160002_2, u160003, .int .i64 x160004_2] 25 (0, 0))) ∧ Aside0 (Below w.heap.size w w'))
    case atStart => exact ⟨(y160), ((⟨#[]⟩ : ByteArray)), ((⟨#[]⟩ : ByteArray)), ((⟨#[]⟩ : ByteArray)), (y156), (a1), (.slice Ao12 y156.length co12), H', ⟨Nat.le_refl _⟩, ⟨zN HO162.out⟩, ⟨Kd.R_mono (zr HO158.out) (fun _ hk => hk.1)⟩, ⟨zl BK153.out⟩, ⟨zl BK159.out⟩, ⟨zb HB.out⟩⟩
    case round =>
     clear H'
     try clear c1
     try clear c2
     try clear p2
     try clear c3
     try clear c6
     try clear c8
     try clear c14
     try clear hcz15
     try clear hcz9
     try clear p2
     obtain ⟨x7_2, x160000_2, x160001_2, x160002_2, x160003_2, x160004_2, u160003, HA, HK2, HO_7, HO_160003, BK153, BK159, HB⟩ := hrel
     cases gk with
     | zero => exact absurd HA.out (by simp [spec_SieveOf.l0])
     | succ k2 =>
      have H := HA.out; clear HA; simp only [spec_SieveOf.l0] at H
      by_cases c18 : (x7_2.length : Int) > 0
      ·rw [if_pos c18] at H; have c18b0 : decide (0 < (x7_2.length : Int)) = true := decide_eq_true c18; have c18b1 : decide (0 < x7_2.length) = true := decide_eq_true (by omega); clear c18; obtain ⟨y163, hy163⟩ : ∃ y_ : List (S79), y_ = (([] : List (S79))) := ⟨_, rfl⟩; replace H : (if 0 < (x7_2.length : Int) then ((spec_l3Put.f k2 x160000_2 x160001_2 x160002_2 x160003_2 x160004_2 ((rd_T79 x7_2 0).f0) ((rd_T79 x7_2 0).f1)).bind fun bt167 => ((some (([] : List (S79)) : List (S79))).bind fun y177 => (if 1 ≤ (x7_2.length : Int) then ((some (x7_2.drop 1 : List (S79))).bind fun y180 => (if y177.length + y180.length < 4398046511104 then ((some (y177 ++ y180 : List (S79))).bind fun y185 => (if y185.length + bt167.2.2.2.2.2.length < 4398046511104 then (spec_SieveOf.l0 k2 (y185 ++ bt167.2.2.2.2.2) bt167.1 bt167.2.1 bt167.2.2.1 bt167.2.2.2.1 bt167.2.2.2.2.1) else (none))) else (none))) else (none)))) else (none)) = some (r1, r2, r3, r4, r5, r6) := zH2 hy163 H; have Ny163 := z0 hy163; clear hy163; replace H := zn H; obtain ⟨c19, H⟩ := H; have c19b0 := decide_eq_true c19; have c19b1 : decide (0 < x7_2.length) = true := decide_eq_true (by omega); clear c19; replace H := zi H; obtain ⟨⟨t167, t168, t169, t170, t173, t174⟩, A20, H⟩ := H; (try dsimp only at H); obtain ⟨y177, hy177⟩ : ∃ y_ : List (S79), y_ = (([] : List (S79))) := ⟨_, rfl⟩; replace H : (if 1 ≤ (x7_2.length : Int) then ((some (x7_2.drop 1 : List (S79))).bind fun y180 => (if y177.length + y180.length < 4398046511104 then ((some (y177 ++ y180 : List (S79))).bind fun y185 => (if y185.length + t174.length < 4398046511104 then (spec_SieveOf.l0 k2 (y185 ++ t174) t167 t168 t169 t170 t173) else (none))) else (none))) else (none)) = some (r1, r2, r3, r4, r5, r6) := zH2 hy177 H; have Ny177 := z0 hy177; clear hy177; replace H := zn H; obtain ⟨c21, H⟩ := H; have c21b0 := eq_true c21; have c21b1 := decide_eq_true c21; clear c21; obtain ⟨y180, hy180⟩ : ∃ y_ : List (S79), y_ = (x7_2.drop 1) := ⟨_, rfl⟩; replace H : (if y177.length + y180.length < 4398046511104 then ((some (y177 ++ y180 : List (S79))).bind fun y185 => (if y185.length + t174.length < 4398046511104 then (spec_SieveOf.l0 k2 (y185 ++ t174) t167 t168 t169 t170 t173) else (none))) else (none)) = some (r1, r2, r3, r4, r5, r6) := zH2 hy180 H; have Ny180 := z0 hy180; clear hy180; replace H := zn H; obtain ⟨c22, H⟩ := H; have LMc22 := z0 c22; clear c22; obtain ⟨y185, hy185⟩ : ∃ y_ : List (S79), y_ = (y177 ++ y180) := ⟨_, rfl⟩; replace H : (if y185.length + t174.length < 4398046511104 then (spec_SieveOf.l0 k2 (y185 ++ t174) t167 t168 t169 t170 t173) else (none)) = some (r1, r2, r3, r4, r5, r6) := zH2 hy185 H; have Ny185 := z0 hy185; clear hy185; replace H := zn H; obtain ⟨c23, H⟩ := H; have LMc23 := z0 c23; clear c23; obtain ⟨y188, hy188⟩ : ∃ y_ : List (S79), y_ = (y185 ++ t174) := ⟨_, rfl⟩; replace H : (spec_SieveOf.l0 k2 y188 t167 t168 t169 t170 t173) = some (r1, r2, r3, r4, r5, r6) := zH2 hy188 H; have Ny188 := z0 hy188; clear hy188; have H' := z0 H; clear H; obtain ⟨Ao24, co24, eo24⟩ := Kd.N_slice HO_7.out; subst eo24
       try go_wp2_with (first | ((with_reducible refine gd 27 ?_); refine Kd.N_lit k79 _ 79 ?hg (N' := 27) ?hd (xs := ([] : List (S79))) (inner := []) (ok := (fun k_ => (P0_ k_ ∨ w.heap.size ≤ k_) ∧ some k_ ≠ (.slice Ao24 x7_2.length co24 : Value).ownBlock ∧ some k_ ≠ (u160003 : Value).ownBlock ∧ k_ ≠ gb153 ∧ k_ ≠ gb159)) (okp := (fun k_ => (P0_ k_ ∨ w.heap.size ≤ k_) ∧ some k_ ≠ (.slice Ao24 x7_2.length co24 : Value).ownBlock ∧ some k_ ≠ (u160003 : Value).ownBlock ∧ k_ ≠ gb153 ∧ k_ ≠ gb159)) ?hr ?hp (fun _ hk => hk) ((show ∀ k_, wr.heap.size ≤ k_ → (fun k_ => (P0_ k_ ∨ w.heap.size ≤ k_) ∧ some k_ ≠ (.slice Ao24 x7_2.length co24 : Value).ownBlock ∧ some k_ ≠ (u160003 : Value).ownBlock ∧ k_ ≠ gb153 ∧ k_ ≠ gb159) k_ from fun k_ hk => ⟨(.inr (Nat.le_trans (below_size (zb HB.out)) hk)), Kd.fresh' (Kd.N_lt (zN HO_7.out)) k_ hk, Kd.fresh' (Kd.R_lt (zr HO_160003.out)) k_ hk, Kd.freshB (g := gb153) (o := .cells #[.string ⟨#[]⟩, .string ⟨#[]⟩, .string ⟨#[]⟩, .slice none 0 0, .int .i64 0] 25 (0, 0)) (zl BK153.out) k_ hk, Kd.freshB (g := gb159) (o := .cells #[.string x160000_2, .string x160001_2, .string x160002_2, u160003, .int .i64 x160004_2] 25 (0, 0)) (zl BK159.out) k_ hk⟩) _ (Nat.le_refl _)) (Below.refl _ _) (Nat.le_refl _) (by simp) ?_; (case hd => rfl); (case hg => rfl); (case hr => first | (go_simp; done) | (go_simp; rfl)); (case hp => exact (Reps.none _ _)); intro v164 w25 ho26 hb hg_ hnew_; clear hg_ hnew_; (first | rw [← Ny163.out] at ho26 | (simp only [Int.reduceToNat] at ho26; rw [← Ny163.out] at ho26)); replace HO_7 := z0 (Kd.N_elder' (zN HO_7.out) (Kd.N_base ho26) hb); replace HO_160003 := zA HO_160003 hb; have HO165 := z0 (Kd.N_lower ho26 (below_size (zb HB.out))); replace BK153 := zK BK153 hb; replace BK159 := zK BK159 hb; replace HB := zH HB hb; clear hb ho26))
       replace HO_7 := z0 (Kd.N_drew HO_7.out); replace HO_160003 := z0 (Kd.R_drew HO_160003.out); replace HO165 := z0 (Kd.N_drew HO165.out); replace BK153 := z0 (blk_drew BK153.out); replace BK159 := z0 (blk_drew BK159.out); replace HB := z0 (below_drew1 HB.out); have p166 : 0 ≤ (0 : Int) := (by omega); have q166 : 0 < (x7_2.length : Int) := zd; obtain ⟨ad166, A166_0, c166_0, e166, hx166_0, hx166_1, hl166_0, hi166_0⟩ := at_T79 (Kd.N_reads' HO_7.out).2.2 0 p166 q166; cases e166; obtain ⟨ce166, hce166, hMe166, hcc166⟩ := Kd.N_get HO_7.out z79 0 p166 (by first | exact q166 | exact zd | (have e_ := (Kd.N_reads' HO_7.out).1; omega)); obtain ⟨ua166_0, uc166_0, rfl, ul166_0, ge166_0⟩ := k79_openF hMe166; have hv166_0 := hcc166 0 _ rfl; rw [Nat.add_zero] at hv166_0; replace hv166_0 := Option.some.inj (hv166_0.symm.trans hx166_0)
       injection hv166_0 with hva_ hvn_ hvc_
       rw [hva_] at ge166_0; rw [hvc_] at ul166_0; have HL166_0 := z0 (show Kd.V Kd.string 9 _ w.heap.size _ _ ((rd_T79 x7_2 0).f0) from Kd.V_mk ul166_0 ge166_0); clear hva_ hvn_ hvc_ ge166_0 ul166_0; clear hcc166 hce166; have qi166 : (0 < x7_2.length) = True := eq_true (by omega); (try rw [show ((0 : Int)).toNat = 0 from rfl] at hx166_0); (try rw [show 0 * 2 = 0 from rfl] at hx166_0); (try rw [Addr.add_zero'] at hx166_0); (try rw [show ((0 : Int)).toNat = 0 from rfl] at hx166_1); (try rw [show 0 * 2 = 0 from rfl] at hx166_1); (try rw [Addr.add_zero'] at hx166_1); have HR166_0 := z0 hi166_0; have HC166_0 := z0 hl166_0; clear hi166_0 hl166_0; replace p166 := eq_true p166; replace q166 := eq_true q166; obtain ⟨Ao28, co28, eo28⟩ := Kd.R_slice HO_160003.out; (first | subst eo28 | (injection eo28 with f1_ f2_ f3_; have f4_ := f1_.symm; have f5_ := f3_.symm; clear f1_ f2_ f3_; subst f4_; subst f5_)); refine start_ (n := 10) (S := fun w' => w'.cell? ⟨gb159, 0, none⟩ = some (.string x160000_2) ∧ w'.cell? ⟨gb159, 1, none⟩ = some (.string x160001_2) ∧ w'.cell? ⟨gb159, 2, none⟩ = some (.string x160002_2) ∧ w'.cell? ⟨gb159, 3, none⟩ = some (.slice Ao28 x160003_2.length co28) ∧ w'.cell? ⟨gb159, 4, none⟩ = some (.int .i64 x160004_2) ∧ w'.cell? ad166 = some (.slice A166_0 ((rd_T79 x7_2 0).f0).length c166_0) ∧ w'.cell? ⟨ad166.block, ad166.off + 1, none⟩ = some (.int .i64 ((rd_T79 x7_2 0).f1))) (ds := [8]) (fb 10 0) (by kernel_rfl) rfl rfl (zd5 BK159.out ⟨hx166_0, hx166_1⟩) (fun hHeld => ?_); refine with_tabW spec_SieveOf.tab7 spec_SieveOf.bits7 (fun HT_ HW_ => ?_); generalize w25.drew = w27 at HO_7 HO_160003 HO165 BK153 BK159 HB HL166_0 HR166_0 hx166_0 hx166_1 hHeld ⊢; refine zu 1 2 ?_; refine zu 2 6 ?_; refine zx 0 7 hHeld ?_; refine zx 3 15 hHeld ?_; refine zone 4 31 (fun K hK => ?_); refine zG2 Try.func81 #[.agg #[.string x160000_2, .string x160001_2, .string x160002_2, .slice Ao28 x160003_2.length co28, .int .i64 x160004_2], .agg #[.slice A166_0 ((rd_T79 x7_2 0).f0).length c166_0, .int .i64 ((rd_T79 x7_2 0).f1)]] ?_
       with_reducible refine (spec_l3Put.calls k2 x160000_2 x160001_2 x160002_2 (fun k_ => some k_ = (.slice Ao28 x160003_2.length co28 : Value).ownBlock) (.slice Ao28 x160003_2.length co28) x160003_2 x160004_2 (fun k_ => ((((P0_ k_ ∨ w.heap.size ≤ k_) ∧ (some k_ ≠ (.slice Ao28 x160003_2.length co28 : Value).ownBlock ∧ (k_ ≠ gb153 ∧ k_ ≠ gb159))) ∧ some k_ ≠ (v164 : Value).ownBlock) ∧ some k_ ≠ (.slice (some ad166) x7_2.length co24 : Value).ownBlock)) _ _ ((rd_T79 x7_2 0).f0) ((rd_T79 x7_2 0).f1) t167 t168 t169 t170 t173 t174 w _ ?side1 ?side2 ?side3 A20.out).mono ?_
       (case side1 => repeat (first | (with_reducible first | exact HB.out | apply below_alloc | apply pw_below_drewN | apply below_drew1 | refine below_set ?_ GE153.out | refine below_set ?_ GE159.out) | exact HB.out)); (case side2 => exact Kd.R_tight rfl HO_160003.out); (case side3 => exact Kd.V_mono (HL166_0.out) (fun k_ hk_ => ⟨hk_, hk_.1.1.2.1⟩)); rintro e w29 ⟨v171, v175, rfl, ho0, ho1, hb, hkp⟩; have HS5_ := cell_kept (hHeld.2.2.2.2.2.1) hkp (by first | (rw [add_block]; exact (fun hs_ => (((HO_7.out).1 _ rfl).1.2.1) hs_)) | (show ¬ _; simp only [add_block]; exact (fun hs_ => (((HO_7.out).1 _ rfl).1.2.1) hs_)) | exact (fun hs_ => (((HO_7.out).1 _ rfl).1.2.1) hs_)); have HS6_ := cell_kept (hHeld.2.2.2.2.2.2) hkp (by first | (rw [add_block]; exact (fun hs_ => (((HO_7.out).1 _ rfl).1.2.1) hs_)) | (show ¬ _; simp only [add_block]; exact (fun hs_ => (((HO_7.out).1 _ rfl).1.2.1) hs_)) | exact (fun hs_ => (((HO_7.out).1 _ rfl).1.2.1) hs_)); refine ⟨_, rfl, ?_⟩; have HO172 := z0 (Kd.R_mono (ok' := fun k_ => (w.heap.size ≤ k_)) ho0 (fun k_ hk_ => Or.elim hk_ (fun hs_ => (HO_160003.out.1 k_ (hs_).symm)) (fun hn_ => (Nat.le_trans (below_size (zb HB.out)) hn_)))); have HO176 := z0 (Kd.N_lower (Kd.N_mono (ok' := fun k_ => (P0_ k_ ∨ w.heap.size ≤ k_) ∧ some k_ ≠ (v171 : Value).ownBlock ∧ some k_ ≠ (.slice (some ad166) x7_2.length co24 : Value).ownBlock ∧ some k_ ≠ (v164 : Value).ownBlock ∧ k_ ≠ gb153 ∧ k_ ≠ gb159) ho1 (fun k_ hk_ => ⟨Or.elim hk_.1 (fun hs_ => Or.elim hs_ (fun hs_ => (.inr ((HO_160003.out.1 k_ (hs_).symm)))) (fun hs_ => hs_.1.1.1)) (fun hn_ => (.inr (Nat.le_trans (below_size (zb HB.out)) hn_))), hk_.2, Or.elim hk_.1 (fun hs_ => Or.elim hs_ (fun hs_ => fun e_ => (((HO_7.out).1 k_ e_.symm).1.2.1) hs_) (fun hs_ => hs_.2)) (fun hn_ => (Kd.fresh' (Kd.N_lt (zN HO_7.out)) k_ hn_)), Or.elim hk_.1 (fun hs_ => Or.elim hs_ (fun hs_ => fun e_ => (((HO165.out).1 k_ e_.symm).2.2.1) hs_) (fun hs_ => hs_.1.2)) (fun hn_ => (Kd.fresh' (Kd.N_lt (zN HO165.out)) k_ hn_)), Or.elim hk_.1 (fun hs_ => Or.elim hs_ (fun hs_ => fun e_ => (Kd.R_ne HO_160003.out BK153.out (by decide)) (by rw [← e_]; exact hs_)) (fun hs_ => hs_.1.1.2.2.1)) (fun hn_ => (Kd.freshB (g := gb153) (o := .cells #[.string ⟨#[]⟩, .string ⟨#[]⟩, .string ⟨#[]⟩, .slice none 0 0, .int .i64 0] 25 (0, 0)) (zl BK153.out) k_ hn_)), Or.elim hk_.1 (fun hs_ => Or.elim hs_ (fun hs_ => fun e_ => (Kd.R_ne HO_160003.out BK159.out (by decide)) (by rw [← e_]; exact hs_)) (fun hs_ => hs_.1.1.2.2.2)) (fun hn_ => (Kd.freshB (g := gb159) (o := .cells #[.string x160000_2, .string x160001_2, .string x160002_2, .slice Ao28 x160003_2.length co28, .int .i64 x160004_2] 25 (0, 0)) (zl BK159.out) k_ hn_))⟩)) (below_size (zb HB.out))); replace HO_7 := z0 (Kd.N_mono (ok' := fun k_ => (P0_ k_ ∨ w.heap.size ≤ k_) ∧ some k_ ≠ (v164 : Value).ownBlock ∧ k_ ≠ gb153 ∧ k_ ≠ gb159 ∧ some k_ ≠ (v171 : Value).ownBlock ∧ some k_ ≠ (v175 : Value).ownBlock) (Kd.N_keptB (HO_7.out) hkp (fun k_ hk_ hs_ => (hk_.1.2.1) hs_)) (fun k_ hk_ => ⟨hk_.1.1.1, hk_.1.2, hk_.1.1.2.2.1, hk_.1.1.2.2.2, fun e_ => Or.elim (ho0.1 k_ e_.symm) (fun hs_ => hk_.2.1 hs_) (fun hn_ => Nat.not_le.2 hk_.2.2 hn_), fun e_ => Nat.not_le.2 hk_.2.2 (Kd.N_base ho1 k_ e_.symm)⟩)); replace BK153 := z0 (blk_kept (zl BK153.out) hkp (fun hs_ => (fun e_ => (Kd.R_ne HO_160003.out BK153.out (by decide)) e_) hs_)); replace BK159 := z0 (blk_kept (zl BK159.out) hkp (fun hs_ => (fun e_ => (Kd.R_ne HO_160003.out BK159.out (by decide)) e_) hs_)); replace HO165 := z0 (Kd.N_mono (ok' := fun k_ => (P0_ k_ ∨ w.heap.size ≤ k_) ∧ some k_ ≠ (.slice (some ad166) x7_2.length co24 : Value).ownBlock ∧ k_ ≠ gb153 ∧ k_ ≠ gb159 ∧ some k_ ≠ (v171 : Value).ownBlock ∧ some k_ ≠ (v175 : Value).ownBlock) (Kd.N_keptB (HO165.out) hkp (fun k_ hk_ hs_ => (hk_.2.2.1) hs_)) (fun k_ hk_ => ⟨hk_.1.1, hk_.1.2.1, hk_.1.2.2.2.1, hk_.1.2.2.2.2, fun e_ => Or.elim (ho0.1 k_ e_.symm) (fun hs_ => hk_.2.1 hs_) (fun hn_ => Nat.not_le.2 hk_.2.2 hn_), fun e_ => Nat.not_le.2 hk_.2.2 (Kd.N_base ho1 k_ e_.symm)⟩)); replace HB := z0 (hb); clear HO_160003 HL166_0; (try clear hb); (try clear hkp); (try clear ho0); (try clear ho1); obtain ⟨Ao33, co33, eo33⟩ := Kd.R_slice HO172.out; (first | subst eo33 | (injection eo33 with f1_ f2_ f3_; have f4_ := f1_.symm; have f5_ := f3_.symm; clear f1_ f2_ f3_; subst f4_; subst f5_)); refine hK.out _ _ (zd5 BK159.out ⟨HS5_, HS6_⟩) (fun hHeld => ?_); clear hK K; refine znm ?_; refine zu 5 63 ?_; refine zu 6 127 ?_; refine zu 7 255 ?_; refine last_ (i := 8) (N := none) (fb 10 511) rfl rfl (one_of HT_.out (by kernel_rfl)) (by decide) (fun K hK => ?_); have hs30 : w29.cell? ⟨gb159, 0, none⟩ = some (.string x160000_2) := (blk_cell BK159.out 0).trans rfl; have hfs30 := blk_frozen BK159.out 0; have hns30_0 := NB153_159.out; have hms30_0 := NB159_153.out; have hs31 : w29.cell? ⟨gb159, 1, none⟩ = some (.string x160001_2) := (blk_cell BK159.out 1).trans rfl; have hfs31 := blk_frozen BK159.out 1; have hns31_0 := NB153_159.out; have hms31_0 := NB159_153.out; have hs32 : w29.cell? ⟨gb159, 2, none⟩ = some (.string x160002_2) := (blk_cell BK159.out 2).trans rfl; have hfs32 := blk_frozen BK159.out 2; have hns32_0 := NB153_159.out; have hms32_0 := NB159_153.out; have hs34 : w29.cell? ⟨gb159, 3, none⟩ = some (.slice Ao28 x160003_2.length co28) := (blk_cell BK159.out 3).trans rfl; have hfs34 := blk_frozen BK159.out 3; have hns34_0 := NB153_159.out; have hms34_0 := NB159_153.out; have hs35 : w29.cell? ⟨gb159, 4, none⟩ = some (.int .i64 x160004_2) := (blk_cell BK159.out 4).trans rfl; have hfs35 := blk_frozen BK159.out 4; have hns35_0 := NB153_159.out; have hms35_0 := NB159_153.out; refine skip_ (w1 := ?_) (by rfl) rfl ?_ ?_; rotate_left
       ·go_simp
        rfl
       refine hK.out _ _ ?_; clear hK K; refine zu 9 1023 ?_; refine done_ (done_of HT_.out (by kernel_rfl)) ?_
       try go_wp2_with (first | ((with_reducible refine gd 36 ?_); refine Kd.N_lit k79 _ 79 ?hg (N' := 36) ?hd (xs := ([] : List (S79))) (inner := []) (ok := (fun k_ => (P0_ k_ ∨ w.heap.size ≤ k_) ∧ some k_ ≠ (.slice (some ad166) x7_2.length co24 : Value).ownBlock ∧ some k_ ≠ (v164 : Value).ownBlock ∧ some k_ ≠ (.slice Ao33 t170.length co33 : Value).ownBlock ∧ some k_ ≠ (v175 : Value).ownBlock ∧ k_ ≠ gb153 ∧ k_ ≠ gb159)) (okp := (fun k_ => (P0_ k_ ∨ w.heap.size ≤ k_) ∧ some k_ ≠ (.slice (some ad166) x7_2.length co24 : Value).ownBlock ∧ some k_ ≠ (v164 : Value).ownBlock ∧ some k_ ≠ (.slice Ao33 t170.length co33 : Value).ownBlock ∧ some k_ ≠ (v175 : Value).ownBlock ∧ k_ ≠ gb153 ∧ k_ ≠ gb159)) ?hr ?hp (fun _ hk => hk) ((show ∀ k_, (((((w29.setCell ⟨gb159, 0, none⟩ (.string t167)).setCell ⟨gb159, 1, none⟩ (.string t168)).setCell ⟨gb159, 2, none⟩ (.string t169)).setCell ⟨gb159, 3, none⟩ (.slice Ao33 t170.length co33)).setCell ⟨gb159, 4, none⟩ (.int .i64 t173)).heap.size ≤ k_ → (fun k_ => (P0_ k_ ∨ w.heap.size ≤ k_) ∧ some k_ ≠ (.slice (some ad166) x7_2.length co24 : Value).ownBlock ∧ some k_ ≠ (v164 : Value).ownBlock ∧ some k_ ≠ (.slice Ao33 t170.length co33 : Value).ownBlock ∧ some k_ ≠ (v175 : Value).ownBlock ∧ k_ ≠ gb153 ∧ k_ ≠ gb159) k_ from fun k_ hk => ⟨(.inr (Nat.le_trans (below_size (zb HB.out)) hk)), Kd.fresh' (Kd.N_lt (by (with_reducible repeat (first | apply Kd.N_alloc | apply Kd.N_drewN | apply Kd.N_drew)); exact (Kd.N_mono (Kd.N_far (p := ⟨gb159, 4, none⟩) (Kd.N_far (p := ⟨gb159, 3, none⟩) (Kd.N_far (p := ⟨gb159, 2, none⟩) (Kd.N_far (p := ⟨gb159, 1, none⟩) (Kd.N_far (p := ⟨gb159, 0, none⟩) (Kd.N_mono HO_7.out (fun k_ hk => (⟨hk, hk.2.2.2.1⟩ : _ ∧ k_ ≠ gb159))) (fun _ hk => hk.2) (.string t167)) (fun _ hk => hk.2) (.string t168)) (fun _ hk => hk.2) (.string t169)) (fun _ hk => hk.2) (.slice Ao33 t170.length co33)) (fun _ hk => hk.2) (.int .i64 t173)) (fun _ h_ => h_.1)))) k_ hk, Kd.fresh' (Kd.N_lt (by (with_reducible repeat (first | apply Kd.N_alloc | apply Kd.N_drewN | apply Kd.N_drew)); exact (Kd.N_mono (Kd.N_far (p := ⟨gb159, 4, none⟩) (Kd.N_far (p := ⟨gb159, 3, none⟩) (Kd.N_far (p := ⟨gb159, 2, none⟩) (Kd.N_far (p := ⟨gb159, 1, none⟩) (Kd.N_far (p := ⟨gb159, 0, none⟩) (Kd.N_mono HO165.out (fun k_ hk => (⟨hk, hk.2.2.2.1⟩ : _ ∧ k_ ≠ gb159))) (fun _ hk => hk.2) (.string t167)) (fun _ hk => hk.2) (.string t168)) (fun _ hk => hk.2) (.string t169)) (fun _ hk => hk.2) (.slice Ao33 t170.length co33)) (fun _ hk => hk.2) (.int .i64 t173)) (fun _ h_ => h_.1)))) k_ hk, Kd.fresh' (Kd.R_lt (zs HO172.out BK159.out)) k_ hk, Kd.fresh' (Kd.N_lt (by (with_reducible repeat (first | apply Kd.N_alloc | apply Kd.N_drewN | apply Kd.N_drew)); exact (Kd.N_mono (Kd.N_far (p := ⟨gb159, 4, none⟩) (Kd.N_far (p := ⟨gb159, 3, none⟩) (Kd.N_far (p := ⟨gb159, 2, none⟩) (Kd.N_far (p := ⟨gb159, 1, none⟩) (Kd.N_far (p := ⟨gb159, 0, none⟩) (Kd.N_mono HO176.out (fun k_ hk => (⟨hk, hk.2.2.2.2.2⟩ : _ ∧ k_ ≠ gb159))) (fun _ hk => hk.2) (.string t167)) (fun _ hk => hk.2) (.string t168)) (fun _ hk => hk.2) (.string t169)) (fun _ hk => hk.2) (.slice Ao33 t170.length co33)) (fun _ hk => hk.2) (.int .i64 t173)) (fun _ h_ => h_.1)))) k_ hk, Kd.freshB (g := gb153) (o := .cells #[.string ⟨#[]⟩, .string ⟨#[]⟩, .string ⟨#[]⟩, .slice none 0 0, .int .i64 0] 25 (0, 0)) (zy BK153.out) k_ hk, Kd.freshB (g := gb159) (o := .cells #[.string t167, .string t168, .string t169, .slice Ao33 t170.length co33, .int .i64 t173] 25 (0, 0)) (zp BK159.out) k_ hk⟩) _ (Nat.le_refl _)) (Below.refl _ _) (Nat.le_refl _) (by simp) ?_; (case hd => rfl); (case hg => rfl); (case hr => first | (go_simp; done) | (go_simp; rfl)); (case hp => exact (Reps.none _ _)); intro v178 w36 ho37 hb hg_ hnew_; clear hg_ hnew_; (first | rw [← Ny177.out] at ho37 | (simp only [Int.reduceToNat] at ho37; rw [← Ny177.out] at ho37)); replace HO_7 := z0 (Kd.N_elder' (by (with_reducible repeat (first | apply Kd.N_alloc | apply Kd.N_drewN | apply Kd.N_drew)); exact (Kd.N_mono (Kd.N_far (p := ⟨gb159, 4, none⟩) (Kd.N_far (p := ⟨gb159, 3, none⟩) (Kd.N_far (p := ⟨gb159, 2, none⟩) (Kd.N_far (p := ⟨gb159, 1, none⟩) (Kd.N_far (p := ⟨gb159, 0, none⟩) (Kd.N_mono HO_7.out (fun k_ hk => (⟨hk, hk.2.2.2.1⟩ : _ ∧ k_ ≠ gb159))) (fun _ hk => hk.2) (.string t167)) (fun _ hk => hk.2) (.string t168)) (fun _ hk => hk.2) (.string t169)) (fun _ hk => hk.2) (.slice Ao33 t170.length co33)) (fun _ hk => hk.2) (.int .i64 t173)) (fun _ h_ => h_.1))) (Kd.N_base ho37) hb); replace HO165 := z0 (Kd.N_elder' (by (with_reducible repeat (first | apply Kd.N_alloc | apply Kd.N_drewN | apply Kd.N_drew)); exact (Kd.N_mono (Kd.N_far (p := ⟨gb159, 4, none⟩) (Kd.N_far (p := ⟨gb159, 3, none⟩) (Kd.N_far (p := ⟨gb159, 2, none⟩) (Kd.N_far (p := ⟨gb159, 1, none⟩) (Kd.N_far (p := ⟨gb159, 0, none⟩) (Kd.N_mono HO165.out (fun k_ hk => (⟨hk, hk.2.2.2.1⟩ : _ ∧ k_ ≠ gb159))) (fun _ hk => hk.2) (.string t167)) (fun _ hk => hk.2) (.string t168)) (fun _ hk => hk.2) (.string t169)) (fun _ hk => hk.2) (.slice Ao33 t170.length co33)) (fun _ hk => hk.2) (.int .i64 t173)) (fun _ h_ => h_.1))) (Kd.N_base ho37) hb); replace HO172 := zAs HO172 BK159 hb; replace HO176 := z0 (Kd.N_elder' (by (with_reducible repeat (first | apply Kd.N_alloc | apply Kd.N_drewN | apply Kd.N_drew)); exact (Kd.N_mono (Kd.N_far (p := ⟨gb159, 4, none⟩) (Kd.N_far (p := ⟨gb159, 3, none⟩) (Kd.N_far (p := ⟨gb159, 2, none⟩) (Kd.N_far (p := ⟨gb159, 1, none⟩) (Kd.N_far (p := ⟨gb159, 0, none⟩) (Kd.N_mono HO176.out (fun k_ hk => (⟨hk, hk.2.2.2.2.2⟩ : _ ∧ k_ ≠ gb159))) (fun _ hk => hk.2) (.string t167)) (fun _ hk => hk.2) (.string t168)) (fun _ hk => hk.2) (.string t169)) (fun _ hk => hk.2) (.slice Ao33 t170.length co33)) (fun _ hk => hk.2) (.int .i64 t173)) (fun _ h_ => h_.1))) (Kd.N_base ho37) hb); have HO179 := z0 (Kd.N_lower ho37 (below_size (zb HB.out))); replace BK153 := zKy BK153 hb; replace BK159 := z0 (blk_below (zpc BK159.out #[.string t167, .string t168, .string t169, .slice Ao33 t170.length co33, .int .i64 t173]) hb); replace HB := zH HB hb; clear hb ho37; have q38 : (1 : Int) ≤ ((x7_2.length : Int) : Int) := zd; obtain ⟨i038, hi038, _, hsz38, _⟩ := info_parts info79; have hroom38 : x7_2.length ≤ co24 := (Kd.N_reads' HO_7.out).2.1; have hC38 : Kd.F k79 _ _ (some ad166) x7_2.length x7_2 := (Kd.V_at (base := w.heap.size) (Kd.N_V HO_7.out)).2.2; have hcut38 := cut_from (P := Try.prog) 80 79 .i64 Try.underlying80 hi038 2 hsz38 (some ad166) x7_2.length co24 1 (by omega) q38; have hr38 := Kd.F_cut (m := (1 : Int).toNat) (c := co24) hC38 (by omega) hroom38; obtain ⟨A38, hA38⟩ : ∃ A1, A1 = (if co24 = (1 : Int).toNat then (some ad166) else ((some ad166) : Option Addr).map (·.add ((1 : Int).toNat * 2))) := ⟨_, rfl⟩; obtain ⟨c38, hc38⟩ : ∃ c1, c1 = co24 - (1 : Int).toNat := ⟨_, rfl⟩; have hy38 : y180.length = x7_2.length - (1 : Int).toNat := (by rw [Ny180.out, List.length_drop] <;> omega); rw [show (x7_2).drop (1 : Int).toNat = y180 from Ny180.out.symm] at hr38; replace hr38 : Kd.F k79 _ _ A38 y180.length y180 := (by rw [hA38]; exact hr38); rw [← hy38, ← hA38, ← hc38] at hcut38; have HO184 := z0 (show Kd.V k79 79 _ w.heap.size _ (.slice A38 y180.length c38) y180 from Kd.V_mk (by rw [hy38, hc38]; exact Nat.sub_le_sub_right hroom38 _) hr38); have HC184 := z0 (show y180.length ≤ c38 from by rw [hy38, hc38]; exact Nat.sub_le_sub_right hroom38 _); clear hr38 hC38 hroom38 hi038 hsz38 hc38; have KY38 := z0 hy38; have KA38 := z0 hA38; clear hy38 hA38; replace q38 := eq_true q38) | ((with_reducible refine gate_builtin (b := .append) (xs := #[.tmp 36, .tmp 38]) rfl ?_); at_builtin; refine Kd.N_append_rows k79 (w0 := w) w.heap.size rfl (.tmp 36) (.tmp 38) 80 79 (.agg #[(.slice none 0 0), (.int .i64 0)]) 32 rfl Try.underlying80 info79 rfl (by decide) (by omega) v178 y177 y180 _ _ _ (fun k_ => (P0_ k_ ∨ w.heap.size ≤ k_) ∧ some k_ ≠ (v164 : Value).ownBlock ∧ some k_ ≠ (.slice Ao33 t170.length co33 : Value).ownBlock ∧ some k_ ≠ (v175 : Value).ownBlock ∧ k_ ≠ gb153 ∧ k_ ≠ gb159) (fun k_ => ((fun k_ => (P0_ k_ ∨ w.heap.size ≤ k_) ∧ some k_ ≠ (v164 : Value).ownBlock ∧ some k_ ≠ (.slice Ao33 t170.length co33 : Value).ownBlock ∧ some k_ ≠ (v175 : Value).ownBlock ∧ k_ ≠ gb153 ∧ k_ ≠ gb159)) k_ ∧ some k_ ≠ (v178 : Value).ownBlock) rfl rfl ?aO ?aR (fun _ hk => hk) ?aF ?aB ?aS ?aL ?_; (case aR => exact (by skip; exact Kd.V_F (Kd.V_mono (ok' := (fun k_ => ((fun k_ => (P0_ k_ ∨ w.heap.size ≤ k_) ∧ some k_ ≠ (v164 : Value).ownBlock ∧ some k_ ≠ (.slice Ao33 t170.length co33 : Value).ownBlock ∧ some k_ ≠ (v175 : Value).ownBlock ∧ k_ ≠ gb153 ∧ k_ ≠ gb159)) k_ ∧ some k_ ≠ (v178 : Value).ownBlock)) (HO184.out) (fun k_ hk => ⟨⟨hk.1.1, ⟨hk.1.2.1, ⟨hk.1.2.2.2.2.1, ⟨hk.1.2.2.2.2.2, ⟨hk.1.2.2.1, hk.1.2.2.2.1⟩⟩⟩⟩⟩, hk.2⟩)))); (case aB => exact (zb HB.out)); (case aF => exact (fun k_ hk => ⟨(.inr (Nat.le_trans (below_size (zb HB.out)) hk)), Kd.fresh' (Kd.N_lt (zN HO165.out)) k_ hk, Kd.fresh' (Kd.R_lt (zr HO172.out)) k_ hk, Kd.fresh' (Kd.N_lt (zN HO176.out)) k_ hk, Kd.freshB (g := gb153) (o := .cells #[.string ⟨#[]⟩, .string ⟨#[]⟩, .string ⟨#[]⟩, .slice none 0 0, .int .i64 0] 25 (0, 0)) (zl BK153.out) k_ hk, Kd.freshB (g := gb159) (o := .cells #[.string t167, .string t168, .string t169, .slice Ao33 t170.length co33, .int .i64 t173] 25 (0, 0)) (zl BK159.out) k_ hk⟩)); (case aO => exact (Kd.N_mono (zN HO179.out) (fun _ hk => ⟨hk.1, ⟨hk.2.2.1, ⟨hk.2.2.2.1, ⟨hk.2.2.2.2.1, ⟨hk.2.2.2.2.2.1, hk.2.2.2.2.2.2⟩⟩⟩⟩⟩))); (case aS => exact (below_size (zb HB.out))); (case aL => have := LMc22.out; omega); intro v186 w39 ho hb hg hat; rw [← Ny185.out] at ho; replace HO_7 := z0 (Kd.N_afterv (ok := (fun k_ => (P0_ k_ ∨ w.heap.size ≤ k_) ∧ some k_ ≠ (v164 : Value).ownBlock ∧ some k_ ≠ (.slice Ao33 t170.length co33 : Value).ownBlock ∧ some k_ ≠ (v175 : Value).ownBlock ∧ k_ ≠ gb153 ∧ k_ ≠ gb159)) (Kd.N_mono (zN HO_7.out) (fun _ hk => ⟨⟨hk.1.1, ⟨hk.1.2.1, ⟨hk.1.2.2.2.2.1, ⟨hk.1.2.2.2.2.2, ⟨hk.1.2.2.1, hk.1.2.2.2.1⟩⟩⟩⟩⟩, hk.2⟩)) hg hat); replace BK153 := z0 (blk_grown (zl BK153.out) hg (Kd.N_ne HO179.out BK153.out (by decide))); replace BK159 := z0 (blk_grown (zl BK159.out) hg (Kd.N_ne HO179.out BK159.out (by decide))); replace HO165 := z0 (Kd.N_afterv (ok := (fun k_ => (P0_ k_ ∨ w.heap.size ≤ k_) ∧ some k_ ≠ (.slice (some ad166) x7_2.length co24 : Value).ownBlock ∧ some k_ ≠ (.slice Ao33 t170.length co33 : Value).ownBlock ∧ some k_ ≠ (v175 : Value).ownBlock ∧ k_ ≠ gb153 ∧ k_ ≠ gb159)) (Kd.N_mono (zN HO165.out) (fun _ hk => ⟨⟨hk.1.1, ⟨hk.1.2.1, ⟨hk.1.2.2.2.2.1, ⟨hk.1.2.2.2.2.2, ⟨hk.1.2.2.1, hk.1.2.2.2.1⟩⟩⟩⟩⟩, hk.2⟩)) hg hat); replace HO172 := z0 (Kd.R_over' (zr HO172.out) (Kd.N_typed (zN HO179.out)) (by decide) hg); replace HO176 := z0 (Kd.N_afterv (ok := (fun k_ => (P0_ k_ ∨ w.heap.size ≤ k_) ∧ some k_ ≠ (.slice (some ad166) x7_2.length co24 : Value).ownBlock ∧ some k_ ≠ (v164 : Value).ownBlock ∧ some k_ ≠ (.slice Ao33 t170.length co33 : Value).ownBlock ∧ k_ ≠ gb153 ∧ k_ ≠ gb159)) (Kd.N_mono (zN HO176.out) (fun _ hk => ⟨⟨hk.1.1, ⟨hk.1.2.2.1, ⟨hk.1.2.2.2.1, ⟨hk.1.2.1, ⟨hk.1.2.2.2.2.1, hk.1.2.2.2.2.2⟩⟩⟩⟩⟩, hk.2⟩)) hg hat); replace HO184 := z0 (Kd.V_afterv (ok := (fun k_ => (P0_ k_ ∨ w.heap.size ≤ k_) ∧ some k_ ≠ (v164 : Value).ownBlock ∧ some k_ ≠ (.slice Ao33 t170.length co33 : Value).ownBlock ∧ some k_ ≠ (v175 : Value).ownBlock ∧ k_ ≠ gb153 ∧ k_ ≠ gb159)) (Kd.V_mono (zV HO184.out) (fun _ hk => ⟨⟨hk.1.1, ⟨hk.1.2.1, ⟨hk.1.2.2.2.2.1, ⟨hk.1.2.2.2.2.2, ⟨hk.1.2.2.1, hk.1.2.2.2.1⟩⟩⟩⟩⟩, hk.2⟩)) hg hat); replace HB := z0 (hb); have HO187 := z0 (ho); clear HO179; clear ho hb hg hat; obtain ⟨Ao41, co41, eo41⟩ := Kd.N_slice HO176.out; subst eo41) | ((with_reducible refine gate_builtin (b := .append) (xs := #[.tmp 39, .tmp 40]) rfl ?_); at_builtin; refine Kd.N_append_rows k79 (w0 := w) w.heap.size rfl (.tmp 39) (.tmp 40) 80 79 (.agg #[(.slice none 0 0), (.int .i64 0)]) 32 rfl Try.underlying80 info79 rfl (by decide) (by omega) v186 y185 t174 _ _ _ (fun k_ => (P0_ k_ ∨ w.heap.size ≤ k_) ∧ some k_ ≠ (v164 : Value).ownBlock ∧ some k_ ≠ (.slice Ao33 t170.length co33 : Value).ownBlock ∧ k_ ≠ gb153 ∧ k_ ≠ gb159) (fun k_ => ((fun k_ => (P0_ k_ ∨ w.heap.size ≤ k_) ∧ some k_ ≠ (v164 : Value).ownBlock ∧ some k_ ≠ (.slice Ao33 t170.length co33 : Value).ownBlock ∧ k_ ≠ gb153 ∧ k_ ≠ gb159)) k_ ∧ some k_ ≠ (v186 : Value).ownBlock) rfl rfl ?aO ?aR (fun _ hk => hk) ?aF ?aB ?aS ?aL ?_; (case aR => exact (by skip; exact Kd.N_F (Kd.N_mono (ok' := (fun k_ => ((fun k_ => (P0_ k_ ∨ w.heap.size ≤ k_) ∧ some k_ ≠ (v164 : Value).ownBlock ∧ some k_ ≠ (.slice Ao33 t170.length co33 : Value).ownBlock ∧ k_ ≠ gb153 ∧ k_ ≠ gb159)) k_ ∧ some k_ ≠ (v186 : Value).ownBlock)) (HO176.out) (fun k_ hk => ⟨⟨hk.1.1, ⟨hk.1.2.2.1, ⟨hk.1.2.2.2.1, ⟨hk.1.2.2.2.2.1, hk.1.2.2.2.2.2⟩⟩⟩⟩, hk.2⟩)))); (case aB => exact (zb HB.out)); (case aF => exact (fun k_ hk => ⟨(.inr (Nat.le_trans (below_size (zb HB.out)) hk)), Kd.fresh' (Kd.N_lt (zN HO165.out)) k_ hk, Kd.fresh' (Kd.R_lt (zr HO172.out)) k_ hk, Kd.freshB (g := gb153) (o := .cells #[.string ⟨#[]⟩, .string ⟨#[]⟩, .string ⟨#[]⟩, .slice none 0 0, .int .i64 0] 25 (0, 0)) (zl BK153.out) k_ hk, Kd.freshB (g := gb159) (o := .cells #[.string t167, .string t168, .string t169, .slice Ao33 t170.length co33, .int .i64 t173] 25 (0, 0)) (zl BK159.out) k_ hk⟩)); (case aO => exact (Kd.N_mono (zN HO187.out) (fun _ hk => ⟨hk.1, ⟨hk.2.1, ⟨hk.2.2.1, ⟨hk.2.2.2.2.1, hk.2.2.2.2.2⟩⟩⟩⟩))); (case aS => exact (below_size (zb HB.out))); (case aL => have := LMc23.out; omega); intro v189 w40 ho hb hg hat; rw [← Ny188.out] at ho; replace HO_7 := z0 (Kd.N_afterv (ok := (fun k_ => (P0_ k_ ∨ w.heap.size ≤ k_) ∧ some k_ ≠ (v164 : Value).ownBlock ∧ some k_ ≠ (.slice Ao33 t170.length co33 : Value).ownBlock ∧ some k_ ≠ (.slice Ao41 t174.length co41 : Value).ownBlock ∧ k_ ≠ gb153 ∧ k_ ≠ gb159)) (zN HO_7.out) hg hat); replace BK153 := z0 (blk_grown (zl BK153.out) hg (Kd.N_ne HO187.out BK153.out (by decide))); replace BK159 := z0 (blk_grown (zl BK159.out) hg (Kd.N_ne HO187.out BK159.out (by decide))); replace HO165 := z0 (Kd.N_afterv (ok := (fun k_ => (P0_ k_ ∨ w.heap.size ≤ k_) ∧ some k_ ≠ (.slice (some ad166) x7_2.length co24 : Value).ownBlock ∧ some k_ ≠ (.slice Ao33 t170.length co33 : Value).ownBlock ∧ some k_ ≠ (.slice Ao41 t174.length co41 : Value).ownBlock ∧ k_ ≠ gb153 ∧ k_ ≠ gb159)) (zN HO165.out) hg hat); replace HO172 := z0 (Kd.R_over' (zr HO172.out) (Kd.N_typed (zN HO187.out)) (by decide) hg); replace HO176 := z0 (Kd.N_afterv (ok := (fun k_ => (P0_ k_ ∨ w.heap.size ≤ k_) ∧ some k_ ≠ (.slice (some ad166) x7_2.length co24 : Value).ownBlock ∧ some k_ ≠ (v164 : Value).ownBlock ∧ some k_ ≠ (.slice Ao33 t170.length co33 : Value).ownBlock ∧ k_ ≠ gb153 ∧ k_ ≠ gb159)) (zN HO176.out) hg hat); replace HO184 := z0 (Kd.V_afterv (ok := (fun k_ => (P0_ k_ ∨ w.heap.size ≤ k_) ∧ some k_ ≠ (v164 : Value).ownBlock ∧ some k_ ≠ (.slice Ao33 t170.length co33 : Value).ownBlock ∧ some k_ ≠ (.slice Ao41 t174.length co41 : Value).ownBlock ∧ k_ ≠ gb153 ∧ k_ ≠ gb159)) (zV HO184.out) hg hat); replace HB := z0 (hb); have HO190 := z0 (ho); clear HO187; clear ho hb hg hat))
       go_roundg k2
       case measure => have := HJ2.out; have := HK2.out; omega
       case rel => exact ⟨(y188), (t167), (t168), (t169), (t170), (t173), (.slice Ao33 t170.length co33), H', ⟨by have := HJ2.out; have := HK2.out; omega⟩, ⟨Kd.N_mono (zN HO190.out) (fun _ hk => ⟨hk.1, ⟨hk.2.2.1, ⟨hk.2.2.2.1, hk.2.2.2.2⟩⟩⟩)⟩, ⟨zr HO172.out⟩, ⟨zl BK153.out⟩, ⟨zl BK159.out⟩, ⟨zb HB.out⟩⟩
      ·rw [if_neg c18] at H; have c18b0 : decide (0 < (x7_2.length : Int)) = false := decide_eq_false c18; have c18b1 : decide (0 < x7_2.length) = false := decide_eq_false (by omega); clear c18; simp only [Option.some.injEq, Prod.mk.injEq] at H; obtain ⟨rfl, rfl, rfl, rfl, rfl, rfl⟩ := H; obtain ⟨Ao42, co42, eo42⟩ := Kd.N_slice HO_7.out; subst eo42; have hnb43 := NB159_153.out; have hnc43 := NB153_159.out; have hcz44 := zc5 BK159.out; have hcz45 := zc5 BK153.out; obtain ⟨Ao46, co46, eo46⟩ := Kd.R_slice HO_160003.out; subst eo46; go_wp2; refine bodyPost_ret (results_ct rfl _ _ gb153 25 #[.string x160000_2, .string x160001_2, .string x160002_2, .slice Ao46 x160003_2.length co46, .int .i64 x160004_2] (0, 0) _ rfl (zp BK153.out) Try.underlying25 rfl (by kernel_rfl)) rfl ?_; exact ⟨_, ze, Kd.R_mono (zt HO_160003.out BK153.out) (fun _ hk => hk.1), zb HB.out⟩
theorem impl_KeyOk.mono_l : ∀ k, (∀ y0 y1 y2, LeO (impl_KeyOk.l0 k y0 y1 y2) (impl_KeyOk.l0 (k + 1) y0 y1 y2))
  | 0 => fun _ _ _ r h => by simp [impl_KeyOk.l0] at h
  | k + 1 => by
    have ih0 := impl_KeyOk.mono_l k
    · intro y0 y1 y2
      unfold impl_KeyOk.l0
      repeat' first | (with_reducible first | apply ih0 | exact LeO.refl _ | exact LeO.none _ | refine LeO.ite ?_ ?_ | refine LeO.bind ?_ (fun _ => ?_)) | exact LeO.none _ | refine LeO.ite ?_ ?_ | refine LeO.bind ?_ (fun _ => ?_)
theorem impl_KeyOk.mono : ∀ a0 k, LeO (impl_KeyOk.f k a0) (impl_KeyOk.f (k + 1) a0) := by
  intro a0 k
  have ih0 := impl_KeyOk.mono_l k
  unfold impl_KeyOk.f
  repeat' first | (with_reducible first | apply ih0 | exact LeO.refl _ | exact LeO.none _ | refine LeO.ite ?_ ?_ | refine LeO.bind ?_ (fun _ => ?_)) | exact LeO.none _ | refine LeO.ite ?_ ?_ | refine LeO.bind ?_ (fun _ => ?_)
theorem impl_KeyOk.calls (k : Nat) (a0 : ByteArray) (r : Bool) (w : World) (h : impl_KeyOk.f k a0 = some r) :
    Calls Try.prog 67 #[.string a0] w fun e w' => e = .returned (.bool r) ∧ Drawn0 w w' := by
 have H : (impl_KeyOk.l0 k a0 (a0.size : Int) 0) = some r := h; clear h; have H' := z0 H; clear H; go_enter Try.func67, Try.ntmps67; go_wp2
 go_loopg [6] k (fun kq v6 w' => ∃ (x6_1 : Int), v6 = .int .i64 x6_1 ∧ Aside0 (impl_KeyOk.l0 kq a0 (a0.size : Int) x6_1 = some r) ∧ Aside0 (kq ≤ k) ∧ Drawn0 w w')
 case atStart => exact ⟨(0), zf, H', ⟨Nat.le_refl _⟩, by repeat (first | exact Drawn0.refl _ | apply Drawn0.step)⟩
 case round =>
  clear H'; obtain ⟨x6_1, rfl, HA, HK1, ⟨m1, rfl⟩⟩ := hrel
  cases gk with
  | zero => exact absurd HA.out (by simp [impl_KeyOk.l0])
  | succ k1 =>
   have H := HA.out; clear HA; simp only [impl_KeyOk.l0] at H
   by_cases c2 : x6_1 < (a0.size : Int)
   ·rw [if_pos c2] at H; have c2b0 := decide_eq_true c2; clear c2; replace H := zn H; obtain ⟨c3, H⟩ := H; have c3b0 := decide_eq_true c3; clear c3; replace H := zn H; obtain ⟨c4, H⟩ := H; have c4b0 := decide_eq_true c4; clear c4
    by_cases c6 : (bt a0 x6_1) < 97
    ·rw [if_pos c6] at H; have c6b0 := decide_eq_true c6; clear c6; obtain rfl := Option.some.inj H; have p5 : 0 ≤ (x6_1 : Int) := zd; have q5 : x6_1 < (a0.size : Int) := zd; have hx5 := bt_at a0 x6_1; replace p5 := eq_true p5; replace q5 := eq_true q5; go_wp2; go_ret; exact ⟨zf, by repeat (first | exact Drawn0.refl _ | apply Drawn0.step)⟩
    ·rw [if_neg c6] at H; have c6b0 := decide_eq_false c6; clear c6
     by_cases c8 : (bt a0 x6_1) > 100
     ·rw [if_pos c8] at H; have c8b0 : decide (100 < (bt a0 x6_1)) = true := decide_eq_true c8; clear c8; obtain rfl := Option.some.inj H; have p5 : 0 ≤ (x6_1 : Int) := zd; have q5 : x6_1 < (a0.size : Int) := zd; have hx5 := bt_at a0 x6_1; replace p5 := eq_true p5; replace q5 := eq_true q5; have p7 : 0 ≤ (x6_1 : Int) := zd; have q7 : x6_1 < (a0.size : Int) := zd; have hx7 := bt_at a0 x6_1; replace p7 := eq_true p7; replace q7 := eq_true q7; go_wp2; go_ret; exact ⟨zf, by repeat (first | exact Drawn0.refl _ | apply Drawn0.step)⟩
     ·rw [if_neg c8] at H; have c8b0 : decide (100 < (bt a0 x6_1)) = false := decide_eq_false c8; clear c8; have H' := z0 H; clear H; have p5 : 0 ≤ (x6_1 : Int) := zd; have q5 : x6_1 < (a0.size : Int) := zd; have hx5 := bt_at a0 x6_1; replace p5 := eq_true p5; replace q5 := eq_true q5; have p7 : 0 ≤ (x6_1 : Int) := zd; have q7 : x6_1 < (a0.size : Int) := zd; have hx7 := bt_at a0 x6_1; replace p7 := eq_true p7; replace q7 := eq_true q7; go_wp2; go_roundg k1
      case measure => have := HK1.out; omega
      case rel => exact ⟨(wrap64 (x6_1 + 1)), zf, H', ⟨by have := HK1.out; omega⟩, by repeat (first | exact Drawn0.refl _ | apply Drawn0.step)⟩
   ·rw [if_neg c2] at H; have c2b0 := decide_eq_false c2; clear c2; obtain rfl := Option.some.inj H; go_wp2; go_ret; exact ⟨zf, by repeat (first | exact Drawn0.refl _ | apply Drawn0.step)⟩
theorem impl_KeysOk.mono_l : ∀ k, (∀ y0 y1 y2 y3, LeO (impl_KeysOk.l0 k y0 y1 y2 y3) (impl_KeysOk.l0 (k + 1) y0 y1 y2 y3))
  | 0 => fun _ _ _ _ r h => by simp [impl_KeysOk.l0] at h
  | k + 1 => by
    have ih0 := impl_KeysOk.mono_l k
    · intro y0 y1 y2 y3
      unfold impl_KeysOk.l0
      repeat' first | (with_reducible first | apply ih0 | apply impl_KeyOk.mono | exact LeO.refl _ | exact LeO.none _ | refine LeO.ite ?_ ?_ | refine LeO.bind ?_ (fun _ => ?_)) | exact LeO.none _ | refine LeO.ite ?_ ?_ | refine LeO.bind ?_ (fun _ => ?_)
theorem impl_KeysOk.mono : ∀ a0 k, LeO (impl_KeysOk.f k a0) (impl_KeysOk.f (k + 1) a0) := by
  intro a0 k
  have ih0 := impl_KeysOk.mono_l k
  unfold impl_KeysOk.f
  repeat' first | (with_reducible first | apply ih0 | apply impl_KeyOk.mono | exact LeO.refl _ | exact LeO.none _ | refine LeO.ite ?_ ?_ | refine LeO.bind ?_ (fun _ => ?_)) | exact LeO.none _ | refine LeO.ite ?_ ?_ | refine LeO.bind ?_ (fun _ => ?_)
theorem impl_KeysOk.calls (k : Nat) (A0 : Option Addr) (c0 : Nat) (l0 : List ByteArray) (r : Bool) (w : World) (hr0 : Kd.C Kd.string w A0 l0.length l0) (hc0 : l0.length ≤ c0) (h : impl_KeysOk.f k l0 = some r) :
    Calls Try.prog 73 #[.slice A0 l0.length c0] w fun e w' => e = .returned (.bool r) ∧ Drawn0 w w' := by
 have HR0 := z0 hr0; have HC0 := z0 hc0; clear hr0 hc0; have H : (impl_KeysOk.l0 k l0 l0 (l0.length : Int) 0) = some r := h; clear h; have H' := z0 H; clear H; go_enter Try.func73, Try.ntmps73; go_wp2
 go_loopg [7] k (fun kq v7 w' => ∃ (x7_1 : Int), v7 = .int .i64 x7_1 ∧ Aside0 (impl_KeysOk.l0 kq l0 l0 (l0.length : Int) x7_1 = some r) ∧ Aside0 (kq ≤ k) ∧ Drawn0 w w')
 case atStart => exact ⟨(0), zf, H', ⟨Nat.le_refl _⟩, by repeat (first | exact Drawn0.refl _ | apply Drawn0.step)⟩
 case round =>
  clear H'; obtain ⟨x7_1, rfl, HA, HK1, ⟨m1, rfl⟩⟩ := hrel
  cases gk with
  | zero => exact absurd HA.out (by simp [impl_KeysOk.l0])
  | succ k1 =>
   have H := HA.out; clear HA; simp only [impl_KeysOk.l0] at H
   by_cases c2 : x7_1 < (l0.length : Int)
   ·rw [if_pos c2] at H; have c2b0 := decide_eq_true c2; clear c2; replace H := zn H; obtain ⟨c3, H⟩ := H; have c3b0 := decide_eq_true c3; clear c3; replace H := zn H; obtain ⟨c4, H⟩ := H; have c4b0 := decide_eq_true c4; clear c4; replace H := zi H; obtain ⟨t317, A5, H⟩ := H
    by_cases c6 : t317 = true
    ·subst c6
     have H1 : (if x7_1 > 0 then (if 0 ≤ (wrap64 (x7_1 - 1)) then (if (wrap64 (x7_1 - 1)) < (l0.length : Int) then (if ((Op.bytesLess ((rdOf ByteArray.empty l0 (wrap64 (x7_1 - 1))).toList) ((rdOf ByteArray.empty l0 x7_1).toList)) = true) then (impl_KeysOk.l0 k1 l0 l0 (l0.length : Int) (wrap64 (x7_1 + 1))) else (some false)) else (none)) else (none)) else (impl_KeysOk.l0 k1 l0 l0 (l0.length : Int) (wrap64 (x7_1 + 1)))) = some r := by rw [if_pos rfl] at H; exact H
     clear H; have H := H1; clear H1
     by_cases c7 : x7_1 > 0
     ·rw [if_pos c7] at H; have c7b0 : decide (0 < x7_1) = true := decide_eq_true c7; clear c7; obtain ⟨ji8, hji8⟩ : ∃ j_ : Int, (wrap64 (x7_1 - 1)) = j_ := ⟨_, rfl⟩
      replace H : (if 0 ≤ (ji8) then (if (ji8) < (l0.length : Int) then (if ((Op.bytesLess ((rdOf ByteArray.empty l0 (ji8)).toList) ((rdOf ByteArray.empty l0 x7_1).toList)) = true) then (impl_KeysOk.l0 k1 l0 l0 (l0.length : Int) (wrap64 (x7_1 + 1))) else (some false)) else (none)) else (none)) = some r := by first | (rw [hji8] at H; exact H) | (simp only [hji8] at H ⊢; exact H)
      (try rw [hji8] at A5); have hji8w : (IntKind.i64.wrap (x7_1 - 1)) = ji8 := (i64_w _).trans hji8; replace H := zn H; obtain ⟨c9, H⟩ := H; have c9b0 := decide_eq_true c9; clear c9; replace H := zn H; obtain ⟨c10, H⟩ := H; have c10b0 := decide_eq_true c10; clear c10; have p316 : 0 ≤ (x7_1 : Int) := zd; have q316 : x7_1 < (l0.length : Int) := zd; obtain ⟨ad316, e316, hx316_0⟩ := Kd.at_string HR0.out x7_1 p316 q316; cases e316; replace p316 := eq_true p316; replace q316 := eq_true q316
      go_upto_if 27 with (first | ((with_reducible refine gc 67 ?_); refine zL (some 13) Try.func67 #[.string (rdOf ByteArray.empty l0 x7_1)] ?_; (with_reducible refine (impl_KeyOk.calls k1 (rdOf ByteArray.empty l0 x7_1) true _ A5.out).mono ?_); rintro e w' ⟨rfl, ⟨nd, rfl⟩⟩; refine ⟨_, rfl, ?_⟩; have p318 : 0 ≤ ((ji8) : Int) := zd; have q318 : (ji8) < (l0.length : Int) := zd; obtain ⟨ad318, e318, hx318_0⟩ := Kd.at_string HR0.out (ji8) p318 q318; obtain rfl : ad316 = ad318 := (by injection e318); replace p318 := eq_true p318; replace q318 := eq_true q318))
      by_cases c11 : ((Op.bytesLess ((rdOf ByteArray.empty l0 (ji8)).toList) ((rdOf ByteArray.empty l0 x7_1).toList)) = true)
      ·rw [if_pos c11] at H; have c11b0 : (Op.bytesLess ((rdOf ByteArray.empty l0 (ji8)).toList) ((rdOf ByteArray.empty l0 x7_1).toList)) = true := c11; clear c11; (first | rw [c11b0] | (simp only [i64_w, i32_w]; rw [c11b0]) | simp only [*, Bool.not_true, Bool.not_false] | skip); have H' := z0 H; clear H; go_wp2; go_roundg k1
       case measure => have := HK1.out; omega
       case rel => exact ⟨(wrap64 (x7_1 + 1)), zf, H', ⟨by have := HK1.out; omega⟩, by repeat (first | exact Drawn0.refl _ | apply Drawn0.step)⟩
      ·rw [if_neg c11] at H
       have c11b0 : (Op.bytesLess ((rdOf ByteArray.empty l0 (ji8)).toList) ((rdOf ByteArray.empty l0 x7_1).toList)) = false := by simpa using c11
       clear c11; (first | rw [c11b0] | (simp only [i64_w, i32_w]; rw [c11b0]) | simp only [*, Bool.not_true, Bool.not_false] | skip); obtain rfl := Option.some.inj H; go_wp2; go_ret; exact ⟨by first | rfl | (simp; done) | (simp only [← hji8] <;> (first | rfl | simp)) | (simp [*]; done), by repeat (first | exact Drawn0.refl _ | apply Drawn0.step)⟩
     ·rw [if_neg c7] at H; have c7b0 : decide (0 < x7_1) = false := decide_eq_false c7; clear c7; have H' := z0 H; clear H; have p316 : 0 ≤ (x7_1 : Int) := zd; have q316 : x7_1 < (l0.length : Int) := zd; obtain ⟨ad316, e316, hx316_0⟩ := Kd.at_string HR0.out x7_1 p316 q316; cases e316; replace p316 := eq_true p316; replace q316 := eq_true q316
      go_wp2_with (first | ((with_reducible refine gc 67 ?_); refine zL (some 13) Try.func67 #[.string (rdOf ByteArray.empty l0 x7_1)] ?_; (with_reducible refine (impl_KeyOk.calls k1 (rdOf ByteArray.empty l0 x7_1) true _ A5.out).mono ?_); rintro e w' ⟨rfl, ⟨nd, rfl⟩⟩; refine ⟨_, rfl, ?_⟩))
      go_roundg k1
      case measure => have := HK1.out; omega
      case rel => exact ⟨(wrap64 (x7_1 + 1)), zf, H', ⟨by have := HK1.out; omega⟩, by repeat (first | exact Drawn0.refl _ | apply Drawn0.step)⟩
    ·replace c6 := Bool.eq_false_iff.mpr c6; subst c6
     have H1 : (some false) = some r := by rw [if_neg (show ¬ (false = true) by decide)] at H; exact H
     clear H; have H := H1; clear H1; obtain rfl := Option.some.inj H; have p316 : 0 ≤ (x7_1 : Int) := zd; have q316 : x7_1 < (l0.length : Int) := zd; obtain ⟨ad316, e316, hx316_0⟩ := Kd.at_string HR0.out x7_1 p316 q316; cases e316; replace p316 := eq_true p316; replace q316 := eq_true q316
     go_wp2_with (first | ((with_reducible refine gc 67 ?_); refine zL (some 13) Try.func67 #[.string (rdOf ByteArray.empty l0 x7_1)] ?_; (with_reducible refine (impl_KeyOk.calls k1 (rdOf ByteArray.empty l0 x7_1) false _ A5.out).mono ?_); rintro e w' ⟨rfl, ⟨nd, rfl⟩⟩; refine ⟨_, rfl, ?_⟩))
     go_ret; exact ⟨zf, by repeat (first | exact Drawn0.refl _ | apply Drawn0.step)⟩
   ·rw [if_neg c2] at H; have c2b0 := decide_eq_false c2; clear c2; obtain rfl := Option.some.inj H; go_wp2; go_ret; exact ⟨zf, by repeat (first | exact Drawn0.refl _ | apply Drawn0.step)⟩
theorem impl_in.calls (a0 a1 a2 : Int) (r : Bool) (w : World) (h : impl_in.f a0 a1 a2 = some r) :
    Calls Try.prog 99 #[.int .i64 a0, .int .i64 a1, .int .i64 a2] w fun e w' => e = .returned (.bool r) ∧ Drawn0 w w' := by
 have H : (if a1 ≤ a0 then (some (decide (a0 ≤ a2))) else (some false)) = some r := h; clear h
 by_cases c4 : a1 ≤ a0
 ·rw [if_pos c4] at H; have c4b0 := decide_eq_true c4; clear c4; obtain rfl := Option.some.inj H; go_enter Try.func99, Try.ntmps99; go_wp2; go_ret; exact ⟨zf, by repeat (first | exact Drawn0.refl _ | apply Drawn0.step)⟩
 ·rw [if_neg c4] at H; have c4b0 := decide_eq_false c4; clear c4; obtain rfl := Option.some.inj H; go_enter Try.func99, Try.ntmps99; go_wp2; go_ret; exact ⟨zf, by repeat (first | exact Drawn0.refl _ | apply Drawn0.step)⟩
theorem impl_isKeep.calls (a0 : Int) (r : Bool) (w : World) (h : impl_isKeep.f a0 = some r) :
    Calls Try.prog 74 #[.int .i64 a0] w fun e w' => e = .returned (.bool r) ∧ Drawn0 w w' := by
 have H : ((impl_in.f a0 0 5).bind fun t319 => (some t319)) = some r := h; clear h; replace H := zi H; obtain ⟨t319, A2, H⟩ := H; obtain rfl := Option.some.inj H; go_enter Try.func74, Try.ntmps74
 go_wp2_with (first | ((with_reducible refine gc 99 ?_); refine zL (some 4) Try.func99 #[.int .i64 a0, .int .i64 0, .int .i64 5] ?_; (with_reducible refine (impl_in.calls a0 0 5 t319 _ A2.out).mono ?_); rintro e w' ⟨rfl, ⟨nd, rfl⟩⟩; refine ⟨_, rfl, ?_⟩))
 go_ret; exact ⟨zf, by repeat (first | exact Drawn0.refl _ | apply Drawn0.step)⟩
theorem impl_label.calls (a0 : ByteArray) (a1 r : Int) (w : World) (h : impl_label.f a0 a1 = some r) :
    Calls Try.prog 103 #[.string a0, .int .i64 a1] w fun e w' => e = .returned (.int .u8 r) ∧ Drawn0 w w' := by
 have H : (if (a0.size : Int) = a1 then (some 45) else (if 0 ≤ a1 then (if a1 < (a0.size : Int) then (some (bt a0 a1)) else (none)) else (none))) = some r := h; clear h
 by_cases c3 : (a0.size : Int) = a1
 ·rw [if_pos c3] at H; have c3b0 : ((a0.size : Int) == a1) = true := beq_iff_eq.mpr c3; have c3b1 : ((a0.size : Int) != a1) = false := bne_eq_false_iff_eq.mpr c3; clear c3; obtain rfl := Option.some.inj H; go_enter Try.func103, Try.ntmps103; go_wp2; go_ret; exact ⟨zf, by repeat (first | exact Drawn0.refl _ | apply Drawn0.step)⟩
 ·rw [if_neg c3] at H; have c3b0 : ((a0.size : Int) == a1) = false := beq_eq_false_iff_ne.mpr c3; have c3b1 : ((a0.size : Int) != a1) = true := bne_iff_ne.mpr c3; replace H := zn H; obtain ⟨c4, H⟩ := H; have c4b0 := decide_eq_true c4; clear c4; replace H := zn H; obtain ⟨c5, H⟩ := H; have c5b0 := decide_eq_true c5; clear c5; obtain rfl := Option.some.inj H; have p6 : 0 ≤ (a1 : Int) := zd; have q6 : a1 < (a0.size : Int) := zd; have hx6 := bt_at a0 a1; replace p6 := eq_true p6; replace q6 := eq_true q6; go_enter Try.func103, Try.ntmps103; go_wp2; go_ret; exact ⟨zf, by repeat (first | exact Drawn0.refl _ | apply Drawn0.step)⟩
end Go.Proofs.Ytifgcajpkgamgaa.Q
end
section
namespace Go.Proofs.Ytifgcajpkgamgaa.Hand
open Go Go.RowKit Go.Proofs.Ytifgcajpkgamgaa.Q Go.Proofs.YtifgcajpkgamgaaW.PrintWords Go.Proofs.YtifgcajpkgamgaaW.PrintLast Go.Proofs.YtifgcajpkgamgaaW.PrintMore
set_option linter.unusedVariables false
set_option linter.unusedSimpArgs false
theorem sizeBuilder : (Try.prog.info? 106).map (·.size) = some 2 := by kernel_rfl
theorem liesBuilder : liesAt Try.prog Try.prog.depth 106 (2 / Try.prog.cellsOf 106) 0 106 1 = true := by kernel_rfl
set_option maxHeartbeats 1000000 in
set_option maxRecDepth 100000 in
theorem copyCheck_used (b : Nat) (w : World) (h0 : w.cell? ⟨b, 0, none⟩ = some (.pointer (some ⟨b, 0, none⟩))) :
  Calls Try.prog 126 #[.pointer (some ⟨b, 0, none⟩)] w fun e w' => e = .returned (.tuple #[]) ∧ w' = w := by
 obtain ⟨j, hj, _⟩ := Option.map_eq_some_iff.1 sizeBuilder
 go_enter Try.func126, Try.ntmps126
 go_wp2
 rw [Lib.run_neq_ptr_same w _ Try.underlying104 hj]
 go_wp2
 go_end0
 exact ⟨rfl, rfl⟩
set_option maxHeartbeats 1000000 in
set_option maxRecDepth 100000 in
theorem copyCheck_fresh (b : Nat) (w : World) (h0 : w.cell? ⟨b, 0, none⟩ = some (.pointer none)) (hsh : w.shape? b = some (106, 2)) (hfz : w.frozen? ⟨b, 0, none⟩ = false) :
  Calls Try.prog 126 #[.pointer (some ⟨b, 0, none⟩)] w fun e w' => e = .returned (.tuple #[]) ∧ w' = w.setCell ⟨b, 0, none⟩ (.pointer (some ⟨b, 0, none⟩)) := by
 obtain ⟨j, hj, hjs⟩ := Option.map_eq_some_iff.1 sizeBuilder
 go_enter Try.func126, Try.ntmps126
 go_wp2
 rw [Lib.run_to_unsafe w ⟨b, 0, none⟩ Try.underlying104 Try.underlying137 hj (by rw [hjs]; decide) hsh (Nat.zero_lt_succ 1)]
 simp only [Result.andThen]
 rw [Oper.upon_value]
 go_wp2
 rw [run_callFunc_extern Try.func140 (by kernel_rfl) (by kernel_rfl) (by kernel_rfl) (e := Extern.AbiNoEscape.same) (by kernel_rfl)]
 rw [Lib.run_noEscape]
 simp only [Result.andThen]
 rw [Oper.upon_value]
 go_wp2
 rw [Lib.run_from_unsafe w ⟨b, 0, none⟩ Try.underlying137 Try.underlying104 hj hsh liesBuilder]
 simp only [Result.andThen]
 rw [Oper.upon_value]
 go_wp2
 go_end0
 exact ⟨rfl, rfl⟩
structure Bld (w : World) (base b : Nat) (p v : Value) (l : List Int) : Prop where
 self : p = .pointer none ∨ p = .pointer (some ⟨b, 0, none⟩)
 box : w.heap[b]? = some (.cells #[p, v] 106 (0, 0))
 row : Kd.R (Kd.int .u8) 5 w base (fun k => some k = v.ownBlock) v l
 low : base ≤ b
set_option maxHeartbeats 1000000 in
theorem copyCheck {w : World} {base b : Nat} {p v : Value} {l : List Int} (h : Bld w base b p v l) :
  Calls Try.prog 126 #[.pointer (some ⟨b, 0, none⟩)] w fun e w' => e = .returned (.tuple #[]) ∧ Aside0 (Bld w' base b (.pointer (some ⟨b, 0, none⟩)) v l ∧ Kept w w' (fun k => k = b) ∧ w'.heap.size = w.heap.size ∧ Below base w w') := by
 have hne : ∀ k, some k = v.ownBlock → ¬ k = b := by
  rintro k hk rfl
  exact Kd.R_ne h.row h.box (by decide) hk
 rcases h.self with rfl | rfl
 ·refine (copyCheck_fresh b w (by simp [World.cell?, h.box]) (by simp [World.shape?, h.box]) (by simp [World.frozen?, h.box])).mono ?_
  rintro e w' ⟨rfl, rfl⟩
  have hk : Kept w (w.setCell ⟨b, 0, none⟩ (.pointer (some ⟨b, 0, none⟩))) (fun k => k = b) := Kept.setCell (p := ⟨b, 0, none⟩) (Kept.refl w (fun k => k = b)) (.inl rfl) _
  refine ⟨rfl, Aside0.mk ⟨⟨.inr rfl, ?_, Kd.R_kept h.row hk hne, h.low⟩, hk, by simp [World.setCell], (Below.refl base w).setCell (p := ⟨b, 0, none⟩) h.low _⟩⟩
  exact blk_set h.box 0 _
 ·refine (copyCheck_used b w (by simp [World.cell?, h.box])).mono ?_
  rintro e w' ⟨rfl, rfl⟩
  exact ⟨rfl, Aside0.mk ⟨h, Kept.refl _ _, rfl, Below.refl _ _⟩⟩
set_option maxHeartbeats 2000000 in
set_option maxRecDepth 100000 in
theorem writeByte {w : World} {base b : Nat} {p v : Value} {l : List Int} (c : Int) (h : Bld w base b p v l) (hbase : base ≤ w.heap.size) (hl : (l.length + 1) * 1 ≤ 140737488355328) :
  Calls Try.prog 109 #[.pointer (some ⟨b, 0, none⟩), .int .u8 c] w fun e w' => e = .returned .nilIface ∧ ∃ v', Bld w' base b (.pointer (some ⟨b, 0, none⟩)) v' (l ++ [c]) ∧
   (v'.ownBlock = v.ownBlock ∨ ∃ k, v'.ownBlock = some k ∧ w.heap.size ≤ k) ∧ Kept w w' (fun k => k = b ∨ some k = v.ownBlock) ∧ Below base w w' := by
 go_enter Try.func109, Try.ntmps109
 have A0 := Aside0.mk h
 clear h
 go_wp2_with (first | ((with_reducible refine gate_callee (f := 126) rfl ?_); refine goesL_ (some 6) rfl rfl Try.func126 (by kernel_rfl) rfl #[.pointer (some ⟨b, 0, none⟩)] rfl (by (try simp only [List.map_toArray, List.map_cons, List.map_nil]); first | done | rfl) ?_; (with_reducible refine (copyCheck A0.out).mono ?_); rintro e w1 ⟨rfl, A1⟩; refine ⟨_, rfl, ?_⟩; have c0 : w1.cell? ⟨b, 0, none⟩ = some (.pointer (some ⟨b, 0, none⟩)) := (by rw [Lib.cell_of_heap A1.out.1.box]; rfl); have c1 : w1.cell? ⟨b, 1, none⟩ = some v := (by rw [Lib.cell_of_heap A1.out.1.box]; rfl)) | ((with_reducible refine gate_builtin (b := .append) (xs := #[.tmp 11, .tmp 13]) rfl ?_); at_builtin; refine Kd.R_append (Kd.int .u8) (w0 := w1) base rfl (.tmp 11) (.tmp 13) 22 5 (.int .u8 0) 1 rfl Try.underlying22 info5 rfl (by decide) (by omega) v l c [.int .u8 c] (fun _ => True) (fun _ => False) rfl rfl rfl (fun _ h => h.elim) (fun _ _ => trivial) ?aO (Below.refl _ _) ?aB hl ?_))
 case aO => exact Kd.R_mono A1.out.1.row (fun _ _ => trivial)
 case aB => have := A1.out.2.2.1; omega
 intro v' w2 hown' hbel hgrow hat
 obtain ⟨h1, k1, s1, b1⟩ := A1.out
 have hb1 := h1.box
 have hneb : some b ≠ v.ownBlock := Kd.R_ne h1.row hb1 (by decide)
 have hb2 : w2.heap[b]? = some (.cells #[.pointer (some ⟨b, 0, none⟩), v] 106 (0, 0)) := (hgrow.block b (blk_lt hb1) hneb).trans hb1
 have d0 : w2.cell? ⟨b, 0, none⟩ = some (.pointer (some ⟨b, 0, none⟩)) := by simp [World.cell?, hb2]
 have d1 : w2.cell? ⟨b, 1, none⟩ = some v := by simp [World.cell?, hb2]
 have f1 : w2.frozen? ⟨b, 1, none⟩ = false := by simp [World.frozen?, hb2]
 obtain ⟨ao, n', cap, rfl⟩ : ∃ ao n' cap, v' = .slice ao n' cap := by
  obtain ⟨A, c, hv, _⟩ := hown'.2.slice_
  exact ⟨_, _, _, hv⟩
 go_wp2
 go_ret
 have hne2 : ∀ k, some k = (Value.slice ao n' cap).ownBlock → ¬ k = b := by
  rintro k hk rfl
  exact Kd.R_ne hown' hb2 (by decide) hk
 have hk2 : Kept w2 (w2.setCell ⟨b, 1, none⟩ (.slice ao n' cap)) (fun k => k = b) := Kept.setCell (p := ⟨b, 1, none⟩) (Kept.refl w2 (fun k => k = b)) (.inl rfl) _
 have hg : Kept w1 w2 (fun k => some k = v.ownBlock) := ⟨hgrow.size, fun i hi hn => hgrow.block i hi hn⟩
 refine ⟨rfl, _, ⟨.inr rfl, blk_set hb2 1 _, ?_, h1.low⟩, ?_, ?_, ?_⟩
 ·exact Kd.R_kept (Kd.R_tight rfl hown') hk2 hne2
 ·rcases hat with e | ⟨k, e, hk⟩
  ·exact .inl e
  ·exact .inr ⟨k, e, by omega⟩
 ·have hA : Kept w w1 (fun k => k = b ∨ some k = v.ownBlock) := k1.mono (fun k hk => .inl hk)
  have hB : Kept w1 w2 (fun k => k = b ∨ some k = v.ownBlock) := hg.mono (fun k hk => .inr hk)
  exact (hA.then_ hB (fun k hk => .inl hk)).then_ hk2 (fun k hk => .inl (.inl hk))
 ·exact (b1.trans hbel).setCell (p := ⟨b, 1, none⟩) h1.low _
def nums (l : List UInt8) : List Int := l.map fun b => (b.toNat : Int)
theorem nums_cells (l : List UInt8) : encs (Value.int .u8) (nums l) = Lib.byteCells l := by simp [encs, nums, Lib.byteCells]
theorem nums_length (l : List UInt8) : (nums l).length = l.length := by simp [nums]
theorem cellsByte : Try.prog.cellsOf 5 = 1 := by kernel_rfl
set_option maxHeartbeats 2000000 in
set_option maxRecDepth 100000 in
theorem string_some {w : World} {base b : Nat} {p v : Value} {l : List UInt8} (h : Bld w base b p v (nums l)) (h0 : l ≠ []) :
  Calls Try.prog 110 #[.pointer (some ⟨b, 0, none⟩)] w fun e w' => e = .returned (.string ⟨l.toArray⟩) ∧ Kept w w' (fun k => some k = v.ownBlock) ∧ Below base w w' := by
 have hl0 : l.length ≠ 0 := by simpa using h0
 have hbk := h.box
 have hown := Kd.own_of_R h.row
 rw [nums_cells, nums_length] at hown
 obtain ⟨g, cap, cur, rfl, hbg, hg, hnc, hcm, hcs, htake⟩ : ∃ g cap cur, v = .slice (some ⟨g, 0, none⟩) l.length cap ∧ base ≤ g ∧ w.heap[g]? = some (.cells cur 5 (0, 0)) ∧ l.length ≤ cap ∧ cap ≤ maxLen ∧ cur.size = cap * 1 ∧ cur.toList.take (l.length * 1) = Lib.byteCells l := by
  rcases hown.2 with ⟨_, hz⟩ | ⟨g, cap, cur, hv, r⟩
  ·exact absurd hz hl0
  ·exact ⟨g, cap, cur, hv, r⟩
 have c1 : w.drew.cell? ⟨b, 1, none⟩ = some (.slice (some ⟨g, 0, none⟩) l.length cap) := by
  have : w.drew.heap[b]? = some (.cells #[p, .slice (some ⟨g, 0, none⟩) l.length cap] 106 (0, 0)) := hbk
  rw [Lib.cell_of_heap this]; rfl
 have hSD : (Builtin.unsafeSliceData_ #[22] 124 #[.slice (some ⟨g, 0, none⟩) l.length cap]).run Try.prog w.drew = .ok (.pointer (some ⟨g, 0, none⟩)) w.drew :=
  Lib.run_unsafeSliceData_row _ _ _ _ _ _ (by omega)
 have hUS : (Builtin.unsafeString_ #[124, 3] 9 #[.pointer (some ⟨g, 0, none⟩), .int .i64 l.length]).run Try.prog w.drew = .ok (.string ⟨l.toArray⟩) (w.drew.freeze ⟨g, 0, none⟩ l.length) := by
  refine Lib.run_unsafeString_row w.drew 124 3 9 5 Try.underlying124 cellsByte g cur.size (by have hg' : w.drew.heap[g]? = some (.cells cur 5 (0, 0)) := hg; simp [World.shape?, hg']) l h0 (by omega) (by unfold maxLen at hcm; omega) ?_
  intro j x hx
  have := hown.cells (g := g) rfl j (.int .u8 x.toNat) (by simp [Lib.byteCells, hx])
  exact this
 have HK : Kept w (w.drew.freeze ⟨g, 0, none⟩ l.length) (fun k => some k = (Value.slice (some ⟨g, 0, none⟩) l.length cap).ownBlock) := by
  have hf : ∀ k, k ≠ g → (w.drew.freeze ⟨g, 0, none⟩ l.length).heap[k]? = w.heap[k]? := by
   intro k hk
   have hk' : g ≠ k := fun e => hk e.symm
   have e1 : w.drew.heap = w.heap := rfl
   rw [← e1]
   simp only [World.freeze, if_neg hl0, Array.getElem?_modify, if_neg hk']
  have hz : (w.drew.freeze ⟨g, 0, none⟩ l.length).heap.size = w.heap.size := by
   have e1 : w.drew.heap = w.heap := rfl
   rw [← e1]
   simp only [World.freeze, if_neg hl0, Array.size_modify]
  refine ⟨by omega, fun i hi hn => hf i (fun e => hn (by rw [e]; rfl))⟩
 have HB := Lib.below_freeze (Below.drew (Below.refl base w)) (p := ⟨g, 0, none⟩) hbg l.length
 have A0 := Aside0.mk (And.intro HK HB)
 clear HK HB hown htake hcs hcm hnc hg h
 go_enter Try.func110, Try.ntmps110
 go_wp2
 go_region
 all_goals (go_wp2; go_ret; exact ⟨rfl, A0.out⟩)
set_option maxHeartbeats 2000000 in
set_option maxRecDepth 100000 in
theorem string_none {w : World} (base b : Nat) (p : Value) (hbk : w.heap[b]? = some (.cells #[p, .slice none 0 0] 106 (0, 0))) :
  Calls Try.prog 110 #[.pointer (some ⟨b, 0, none⟩)] w fun e w' => e = .returned (.string ⟨#[]⟩) ∧ Kept w w' (fun _ => False) ∧ Below base w w' := by
 have hUS : ∀ (W : World) (q : Option Addr), (Builtin.unsafeString_ #[124, 3] 9 #[.pointer q, .int .i64 0]).run Try.prog W = .ok (.string .empty) W := fun W q => Lib.run_unsafeString_none W _ _ _ q
 have c1 : w.drew.cell? ⟨b, 1, none⟩ = some (.slice none 0 0) := by
  have : w.drew.heap[b]? = some (.cells #[p, .slice none 0 0] 106 (0, 0)) := hbk
  rw [Lib.cell_of_heap this]; rfl
 have hSD : (Builtin.unsafeSliceData_ #[22] 124 #[.slice none 0 0]).run Try.prog w.drew = .ok (.pointer none) w.drew := rfl
 go_enter Try.func110, Try.ntmps110
 go_wp2
 go_region
 all_goals (go_wp2; go_ret; exact ⟨rfl, Kept.drew (Kept.refl _ _), Below.drew (Below.refl base w)⟩)
theorem info108 : (Try.prog.info? 108).map (fun i => (i.zero, i.size, i.bytes)) = some (some (.agg #[(.slice none 0 0), (.int .i64 0)]), 2, 32) := by kernel_rfl
theorem Bld.kept {w w' : World} {base b : Nat} {p v : Value} {l : List Int} {S : Nat → Prop} (h : Bld w base b p v l) (hk : Kept w w' S) (hb : ¬ S b) (hv : ∀ k, some k = v.ownBlock → ¬ S k) : Bld w' base b p v l :=
 ⟨h.self, blk_kept h.box hk hb, Kd.R_kept h.row hk hv, h.low⟩
def tri (L M F : List Int) : Nat → List Int
 | 0 => L
 | 1 => M
 | _ => F
abbrev kq (w0 : World) : Kd S108 := Kd.fixed k108 w0
def boxS (vR : Value) (keep : Int) : Obj := .cells #[.string ⟨#[]⟩, .string ⟨#[]⟩, .string ⟨#[]⟩, vR, .int .i64 keep] 25 (0, 0)
def boxZ : Obj := .cells #[.string ⟨#[]⟩, .string ⟨#[]⟩, .string ⟨#[]⟩, .slice none 0 0, .int .i64 0] 25 (0, 0)
structure Sv (w0 W : World) (vQ vR : Value) (T : Nat → List Int) (R : List ByteArray) (Q : List S108) (keep : Int) : Prop where
 below : Below w0.heap.size w0 W
 ex : ∃ p v : Nat → Value, (∀ j, j < 3 → Bld W w0.heap.size (w0.heap.size + 1 + j) (p j) (v j) (T j)) ∧ (∀ i j, i < 3 → j < 3 → i ≠ j → NeRow (v i) (v j)) ∧ ∀ j, j < 3 → T j = [] → v j = .slice none 0 0
 res : W.heap[w0.heap.size]? = some boxZ
 box : W.heap[w0.heap.size + 1 + 3]? = some (boxS vR keep)
 rR : Kd.R Kd.string 9 W w0.heap.size (fun k => some k = vR.ownBlock) vR R
 rQ : Kd.R (kq w0) 108 W w0.heap.size (fun k => some k = vQ.ownBlock) vQ Q
section
variable {w0 W W1 : World} {vQ vR : Value} {T : Nat → List Int} {R : List ByteArray} {Q : List S108} {keep : Int}
theorem Sv.drewN (h : Sv w0 W vQ vR T R Q keep) (n : Nat) : Sv w0 (W.drewN n) vQ vR T R Q keep := by
 obtain ⟨p, v, hb, hn, hz⟩ := h.ex
 exact ⟨pw_below_drewN h.below n, ⟨p, v, fun j hj => ⟨(hb j hj).self, (hb j hj).box, Kd.R_drewN (hb j hj).row n, (hb j hj).low⟩, hn, hz⟩, h.res, h.box, Kd.R_drewN h.rR n, Kd.R_drewN h.rQ n⟩
theorem Sv.drew (h : Sv w0 W vQ vR T R Q keep) : Sv w0 W.drew vQ vR T R Q keep := h.drewN 1
theorem ne_ty {α β : Type} {d : Kd α} {d' : Kd β} {e e' base base' : Nat} {ok ok' : Nat → Prop} {v v' : Value} {xs : List α} {ys : List β} (h : d.R e W base ok v xs) (h' : d'.R e' W base' ok' v' ys) (ht : e ≠ e') : ∀ k, some k = v.ownBlock → ¬ some k = v'.ownBlock := by
 obtain ⟨i1, o1⟩ := Kd.R_own h
 obtain ⟨i2, o2⟩ := Kd.R_own h'
 intro k hk hk'
 rcases own_type_ne o1 o2 ht with q | q
 ·rw [q] at hk; cases hk
 ·exact q (hk.symm.trans hk')
theorem Sv.write (h : Sv w0 W vQ vR T R Q keep) {j : Nat} (hj : j < 3) (c : Int) (hl : (T j).length + 1 ≤ 140737488355328) :
  Calls Try.prog 109 #[.pointer (some ⟨w0.heap.size + 1 + j, 0, none⟩), .int .u8 c] W fun e w' => e = .returned .nilIface ∧ Aside0 (Sv w0 w' vQ vR (fun i => if i = j then T i ++ [c] else T i) R Q keep) := by
 obtain ⟨p, v, hb, hn, hz⟩ := h.ex
 have hs := h.below.size
 refine (writeByte c (hb j hj) hs (by omega)).mono ?_
 rintro e w' ⟨rfl, v', hb', hat, hk, hbel⟩
 refine ⟨rfl, ⟨h.below.trans hbel, ⟨fun i => if i = j then .pointer (some ⟨w0.heap.size + 1 + j, 0, none⟩) else p i, fun i => if i = j then v' else v i, fun i hi => ?_, fun i i' hi hi' hne => ?_, fun i hi hT => ?_⟩, ?_, ?_, ?_, ?_⟩⟩
 ·by_cases q : i = j
  ·subst q
   simp only [if_true]
   exact hb'
  ·simp only [if_neg q]
   refine (hb i hi).kept hk ?_ ?_
   ·rintro (e | e)
    ·exact q (by omega)
    ·exact Kd.R_ne (hb j hj).row (hb i hi).box (by decide) e
   ·rintro k hk2 (e | e)
    ·subst e
     exact Kd.R_ne (hb i hi).row (hb j hj).box (by decide) hk2
    ·exact hn i j hi hj q k hk2.symm e.symm
 ·have old : ∀ i, i < 3 → i ≠ j → NeRow (v i) v' := by
   intro i hi q k hk2 hk3
   rcases hat with e | ⟨g, e, hg⟩
   ·rw [e] at hk3
    exact hn i j hi hj q k hk2 hk3
   ·rw [e] at hk3
    injection hk3 with hk3
    have := Kd.R_lt (hb i hi).row k hk2
    omega
  by_cases q : i = j
  ·subst q
   simp only [if_true, if_neg (Ne.symm hne)]
   exact ne_symm (old i' hi' (Ne.symm hne))
  ·by_cases q' : i' = j
   ·subst q'
    simp only [if_true, if_neg q]
    exact old i hi q
   ·simp only [if_neg q, if_neg q']
    exact hn i i' hi hi' hne
 ·by_cases q : i = j
  ·subst q
   simp at hT
  ·simp only [if_neg q] at hT ⊢
   exact hz i hi hT
 ·refine blk_kept h.res hk ?_
  rintro (e | e)
  ·omega
  ·exact Kd.R_ne (hb j hj).row (show W.heap[w0.heap.size]? = some (.cells _ 25 (0, 0)) from h.res) (by decide) e
 ·refine blk_kept h.box hk ?_
  rintro (e | e)
  ·omega
  ·exact Kd.R_ne (hb j hj).row (show W.heap[w0.heap.size + 1 + 3]? = some (.cells _ 25 (0, 0)) from h.box) (by decide) e
 ·refine Kd.R_kept h.rR hk ?_
  rintro k hk2 (e | e)
  ·subst e
   exact Kd.R_ne h.rR (hb j hj).box (by decide) hk2
  ·exact ne_ty h.rR (hb j hj).row (by decide) k hk2 e
 ·refine Kd.R_kept h.rQ hk ?_
  rintro k hk2 (e | e)
  ·subst e
   exact Kd.R_ne h.rQ (hb j hj).box (by decide) hk2
  ·exact ne_ty h.rQ (hb j hj).row (by decide) k hk2 e
theorem Sv.pushQ (h : Sv w0 W vQ vR T R Q keep) {vQ' : Value} {Q' : List S108} (hg : W.grownBy W1 vQ.ownBlock) (hbel : Below w0.heap.size w0 W1) (hQ : Kd.R (kq w0) 108 W1 w0.heap.size (fun _ => True) vQ' Q') : Sv w0 W1 vQ' vR T R Q' keep := by
 obtain ⟨p, v, hb, hn, hz⟩ := h.ex
 have hk : Kept W W1 (fun k => some k = vQ.ownBlock) := ⟨hg.size, fun i hi hne => hg.block i hi hne⟩
 refine ⟨hbel, ⟨p, v, fun j hj => (hb j hj).kept hk (fun e => Kd.R_ne h.rQ (hb j hj).box (by decide) e) (fun k hk2 e => ne_ty (hb j hj).row h.rQ (by decide) k hk2 e), hn, hz⟩, ?_, ?_, ?_, Kd.R_tight rfl hQ⟩
 ·exact blk_kept h.res hk (fun e => Kd.R_ne h.rQ (show W.heap[w0.heap.size]? = some (.cells _ 25 (0, 0)) from h.res) (by decide) e)
 ·exact blk_kept h.box hk (fun e => Kd.R_ne h.rQ (show W.heap[w0.heap.size + 1 + 3]? = some (.cells _ 25 (0, 0)) from h.box) (by decide) e)
 ·exact Kd.R_kept h.rR hk (fun k hk2 e => ne_ty h.rR h.rQ (by decide) k hk2 e)
theorem Sv.pushR (h : Sv w0 W vQ vR T R Q keep) {vR' : Value} {R' : List ByteArray} (hg : W.grownBy W1 vR.ownBlock) (hbel : Below w0.heap.size w0 W1) (hR : Kd.R Kd.string 9 W1 w0.heap.size (fun _ => True) vR' R') : Sv w0 (W1.setCell ⟨w0.heap.size + 1 + 3, 3, none⟩ vR') vQ vR' T R' Q keep := by
 obtain ⟨p, v, hb, hn, hz⟩ := h.ex
 have hk1 : Kept W W1 (fun k => some k = vR.ownBlock) := ⟨hg.size, fun i hi hne => hg.block i hi hne⟩
 have hk : Kept W (W1.setCell ⟨w0.heap.size + 1 + 3, 3, none⟩ vR') (fun k => some k = vR.ownBlock ∨ k = w0.heap.size + 1 + 3) :=
  (hk1.mono (fun k e => .inl e)).setCell (p := ⟨w0.heap.size + 1 + 3, 3, none⟩) (.inl (.inr rfl)) _
 have hbox1 : W1.heap[w0.heap.size + 1 + 3]? = some (boxS vR keep) := blk_kept h.box hk1 (fun e => Kd.R_ne h.rR (show W.heap[w0.heap.size + 1 + 3]? = some (.cells _ 25 (0, 0)) from h.box) (by decide) e)
 have hbx : W.heap[w0.heap.size + 1 + 3]? = some (.cells _ 25 (0, 0)) := h.box
 refine ⟨hbel.setCell (p := ⟨w0.heap.size + 1 + 3, 3, none⟩) (show w0.heap.size ≤ w0.heap.size + 1 + 3 by omega) _, ⟨p, v, fun j hj => (hb j hj).kept hk ?_ ?_, hn, hz⟩, ?_, ?_, ?_, ?_⟩
 ·rintro (e | e)
  ·exact Kd.R_ne h.rR (hb j hj).box (by decide) e
  ·omega
 ·rintro k hk2 (e | e)
  ·exact ne_ty (hb j hj).row h.rR (by decide) k hk2 e
  ·subst e
   exact Kd.R_ne (hb j hj).row hbx (by decide) hk2
 ·refine blk_kept h.res hk ?_
  rintro (e | e)
  ·exact Kd.R_ne h.rR (show W.heap[w0.heap.size]? = some (.cells _ 25 (0, 0)) from h.res) (by decide) e
  ·omega
 ·exact blk_set (show W1.heap[w0.heap.size + 1 + 3]? = some (.cells _ 25 (0, 0)) from hbox1) 3 vR'
 ·refine Kd.R_tight rfl (Kd.R_far (p := ⟨w0.heap.size + 1 + 3, 3, none⟩) (Kd.R_tight rfl hR) ?_ vR')
  rintro k hk2 rfl
  exact Kd.R_ne hR (show W1.heap[w0.heap.size + 1 + 3]? = some (.cells _ 25 (0, 0)) from hbox1) (by decide) hk2
 ·refine Kd.R_kept h.rQ hk ?_
  rintro k hk2 (e | e)
  ·exact ne_ty h.rQ h.rR (by decide) k hk2 e
  ·subst e
   exact Kd.R_ne h.rQ hbx (by decide) hk2
structure Sw (w0 W : World) (vR : Value) (J : Nat → Prop) (T : Nat → List Int) (R : List ByteArray) (keep : Int) : Prop where
 below : Below w0.heap.size w0 W
 ex : ∃ p v : Nat → Value, (∀ j, j < 3 → J j → Bld W w0.heap.size (w0.heap.size + 1 + j) (p j) (v j) (T j)) ∧ (∀ i j, i < 3 → j < 3 → i ≠ j → NeRow (v i) (v j)) ∧ ∀ j, j < 3 → T j = [] → v j = .slice none 0 0
 res : W.heap[w0.heap.size]? = some boxZ
 box : W.heap[w0.heap.size + 1 + 3]? = some (boxS vR keep)
 rR : Kd.R Kd.string 9 W w0.heap.size (fun k => some k = vR.ownBlock) vR R
theorem Sv.sw (h : Sv w0 W vQ vR T R Q keep) : Sw w0 W vR (fun _ => True) T R keep := by
 obtain ⟨p, v, hb, hn, hz⟩ := h.ex
 exact ⟨h.below, ⟨p, v, fun j hj _ => hb j hj, hn, hz⟩, h.res, h.box, h.rR⟩
theorem Sw.string {J : Nat → Prop} (h : Sw w0 W vR J T R keep) {j : Nat} (hj : j < 3) (hJ : J j) {l : List UInt8} (hl : T j = nums l) :
  Calls Try.prog 110 #[.pointer (some ⟨w0.heap.size + 1 + j, 0, none⟩)] W fun e w' => e = .returned (.string ⟨l.toArray⟩) ∧ Aside0 (Sw w0 w' vR (fun i => J i ∧ i ≠ j) T R keep) := by
 obtain ⟨p, v, hb, hn, hz⟩ := h.ex
 have hbj := hb j hj hJ
 have go : ∀ w', Kept W w' (fun k => some k = (v j).ownBlock) → Below w0.heap.size W w' → Sw w0 w' vR (fun i => J i ∧ i ≠ j) T R keep := by
  intro w' hk hbel
  refine ⟨h.below.trans hbel, ⟨p, v, fun i hi hJi => (hb i hi hJi.1).kept hk (fun e => Kd.R_ne hbj.row (hb i hi hJi.1).box (by decide) e) (fun k hk2 e => hn i j hi hj hJi.2 k hk2.symm e.symm), hn, hz⟩, ?_, ?_, ?_⟩
  ·exact blk_kept h.res hk (fun e => Kd.R_ne hbj.row (show W.heap[w0.heap.size]? = some (.cells _ 25 (0, 0)) from h.res) (by decide) e)
  ·exact blk_kept h.box hk (fun e => Kd.R_ne hbj.row (show W.heap[w0.heap.size + 1 + 3]? = some (.cells _ 25 (0, 0)) from h.box) (by decide) e)
  ·exact Kd.R_kept h.rR hk (fun k hk2 e => ne_ty h.rR hbj.row (by decide) k hk2 e)
 by_cases q : l = []
 ·subst q
  have hv := hz j hj (by rw [hl]; rfl)
  have hbx := hbj.box
  rw [hv] at hbx
  refine (string_none w0.heap.size _ _ hbx).mono ?_
  rintro e w' ⟨rfl, hk, hbel⟩
  exact ⟨rfl, ⟨go w' (hk.mono (fun _ h => h.elim)) hbel⟩⟩
 ·rw [hl] at hbj
  refine (string_some hbj q).mono ?_
  rintro e w' ⟨rfl, hk, hbel⟩
  exact ⟨rfl, ⟨go w' hk hbel⟩⟩
end
theorem Sv.start (w : World) {A0 : Option Addr} {c0 : Nat} {l0 : List ByteArray} (a1 : Int) (hr0 : Kd.C Kd.string w A0 l0.length l0) (hc0 : l0.length ≤ c0) :
  Sv w ((((((w.alloc (.cells #[.string ⟨#[]⟩, .string ⟨#[]⟩, .string ⟨#[]⟩, .slice none 0 0, .int .i64 0] 25)).alloc (.cells #[.pointer none, .slice none 0 0] 106)).alloc (.cells #[.pointer none, .slice none 0 0] 106)).alloc (.cells #[.pointer none, .slice none 0 0] 106)).alloc
   (.cells #[.string ⟨#[]⟩, .string ⟨#[]⟩, .string ⟨#[]⟩, .slice none 0 0, .int .i64 a1] 25)).alloc (.cells #[.slice A0 l0.length c0, .int .i64 0] 108))
   (.slice (some ⟨w.heap.size + 1 + 1 + 1 + 1 + 1, 0, none⟩) 1 1) (.slice none 0 0) (fun _ => []) [] [⟨l0, 0⟩] a1 := by
 have hz : ∀ (w : World) (o : Obj), (w.alloc o).heap.size = w.heap.size + 1 := fun w o => by simp only [World.alloc, Array.size_push]
 have e0 := blk_new w (.cells #[.string ⟨#[]⟩, .string ⟨#[]⟩, .string ⟨#[]⟩, .slice none 0 0, .int .i64 0] 25)
 generalize hw1 : w.alloc (.cells #[.string ⟨#[]⟩, .string ⟨#[]⟩, .string ⟨#[]⟩, .slice none 0 0, .int .i64 0] 25) = w1 at e0 ⊢
 have z1 : w1.heap.size = w.heap.size + 1 := by rw [← hw1, hz]
 have b1 : Below w.heap.size w w1 := by rw [← hw1]; exact below_alloc (Below.refl _ _) _
 have e1 := blk_new w1 (.cells #[.pointer none, .slice none 0 0] 106)
 have e2 := blk_new (w1.alloc (.cells #[.pointer none, .slice none 0 0] 106)) (.cells #[.pointer none, .slice none 0 0] 106)
 have e3 := blk_new ((w1.alloc (.cells #[.pointer none, .slice none 0 0] 106)).alloc (.cells #[.pointer none, .slice none 0 0] 106)) (.cells #[.pointer none, .slice none 0 0] 106)
 rw [hz, z1] at e2
 rw [hz, hz, z1] at e3
 rw [z1] at e1
 generalize hw2 : ((w1.alloc (.cells #[.pointer none, .slice none 0 0] 106)).alloc (.cells #[.pointer none, .slice none 0 0] 106)).alloc (.cells #[.pointer none, .slice none 0 0] 106) = w2 at e3 ⊢
 have e1' : w2.heap[w.heap.size + 1]? = some (.cells #[.pointer none, .slice none 0 0] 106) := by rw [← hw2]; exact blk_alloc (blk_alloc e1 _) _
 have e2' : w2.heap[w.heap.size + 1 + 1]? = some (.cells #[.pointer none, .slice none 0 0] 106) := by rw [← hw2]; exact blk_alloc e2 _
 have e0' : w2.heap[w.heap.size]? = some (.cells #[.string ⟨#[]⟩, .string ⟨#[]⟩, .string ⟨#[]⟩, .slice none 0 0, .int .i64 0] 25) := by rw [← hw2]; exact blk_alloc (blk_alloc (blk_alloc e0 _) _) _
 have z2 : w2.heap.size = w.heap.size + 1 + 1 + 1 + 1 := by rw [← hw2, hz, hz, hz, z1]
 have b2 : Below w.heap.size w w2 := by rw [← hw2]; exact below_alloc (below_alloc (below_alloc b1 _) _) _
 have e4 := blk_new w2 (.cells #[.string ⟨#[]⟩, .string ⟨#[]⟩, .string ⟨#[]⟩, .slice none 0 0, .int .i64 a1] 25)
 have e5 := blk_new (w2.alloc (.cells #[.string ⟨#[]⟩, .string ⟨#[]⟩, .string ⟨#[]⟩, .slice none 0 0, .int .i64 a1] 25)) (.cells #[.slice A0 l0.length c0, .int .i64 0] 108)
 rw [hz, z2] at e5
 rw [z2] at e4
 refine ⟨below_alloc (below_alloc b2 _) _, ⟨fun _ => .pointer none, fun _ => .slice none 0 0, fun j hj => ⟨.inl rfl, ?_, Kd.R_nil _ _ _ _ _, by omega⟩, fun i j _ _ _ => ne_nil _, fun _ _ _ => rfl⟩, blk_alloc (blk_alloc e0' _) _, blk_alloc e4 _, Kd.R_nil _ _ _ _ _, ?_⟩
 ·match j, hj with
  | 0, _ => exact blk_alloc (blk_alloc e1' _) _
  | 1, _ => exact blk_alloc (blk_alloc e2' _) _
  | 2, _ => exact blk_alloc (blk_alloc e3 _) _
 ·refine ⟨fun k hk => hk.symm, [.slice A0 l0.length c0, .int .i64 0], ⟨rfl, .inr ⟨_, 1, #[.slice A0 l0.length c0, .int .i64 0], rfl, by omega, e5, Nat.le_refl _, by unfold maxLen; omega, rfl, rfl⟩⟩, ⟨rfl, fun j p hj => ?_⟩⟩
  match j with
  | 0 =>
   have : p = (⟨l0, 0⟩ : S108) := by simpa using hj.symm
   subst this
   exact k108_mk w ⟨l0, 0⟩ hc0 hr0
  | j + 1 => simp at hj
section
variable {w0 W W1 : World} {vQ vR : Value} {T : Nat → List Int} {R : List ByteArray} {Q : List S108} {keep : Int}
theorem Sv.slice (h : Sv w0 W vQ vR T R Q keep) : ∃ A c, vQ = .slice A Q.length c := Kd.R_slice h.rQ
theorem Sv.at {A : Option Addr} {c : Nat} (h : Sv w0 W (.slice A Q.length c) vR T R Q keep) (i : Int) (h0 : 0 ≤ i) (h1 : i < Q.length) :
  ∃ ad A1 c1, A = some ad ∧ W.cell? (ad.add (i.toNat * 2)) = some (.slice A1 (rd_T108 Q i).f0.length c1) ∧ W.cell? ⟨(ad.add (i.toNat * 2)).block, (ad.add (i.toNat * 2)).off + 1, none⟩ = some (.int .i64 (rd_T108 Q i).f1) ∧ (rd_T108 Q i).f0.length ≤ c1 ∧ Kd.string.C w0 A1 (rd_T108 Q i).f0.length (rd_T108 Q i).f0 := by
 obtain ⟨ad, c, e, _, hK, hc0⟩ := Kd.C_get (Kd.R_reads' h.rQ).2.2 z108 i h0 h1
 have hc : ∀ j u, c[j]? = some u → W.cell? (ad.add (i.toNat * 2 + j)) = some u := hc0
 obtain ⟨A0, c0, rfl, l0, g0⟩ := k108_open hK
 exact ⟨ad, A0, c0, e, hc 0 _ rfl, by rw [← add_field _ _ 1 (by omega)]; exact hc 1 _ rfl, l0, g0⟩
theorem Sv.key {A : Option Addr} {l : List ByteArray} (h : Sv w0 W vQ vR T R Q keep) (hc : Kd.string.C w0 A l.length l) (i : Int) (h0 : 0 ≤ i) (h1 : i < l.length) : ∃ ad, A = some ad ∧ W.cell? (ad.add i.toNat) = some (.string (rdOf ByteArray.empty l i)) :=
 Kd.at_string (Kd.C_below hc h.below) i h0 h1
theorem Sv.boxc (h : Sv w0 W vQ vR T R Q keep) : W.cell? ⟨w0.heap.size + 1 + 1 + 1 + 1, 3, none⟩ = some vR ∧ W.frozen? ⟨w0.heap.size + 1 + 1 + 1 + 1, 3, none⟩ = false :=
 ⟨by rw [Lib.cell_of_heap (show W.heap[w0.heap.size + 1 + 1 + 1 + 1]? = some (.cells _ 25 (0, 0)) from h.box)]; rfl, blk_frozen (show W.heap[w0.heap.size + 1 + 1 + 1 + 1]? = some (.cells _ 25 (0, 0)) from h.box) 3⟩
theorem Sv.boxg (h : Sv w0 W vQ vR T R Q keep) (hg : W.grownBy W1 vR.ownBlock) : W1.cell? ⟨w0.heap.size + 1 + 1 + 1 + 1, 3, none⟩ = some vR ∧ W1.frozen? ⟨w0.heap.size + 1 + 1 + 1 + 1, 3, none⟩ = false := by
 have hb : W1.heap[w0.heap.size + 1 + 1 + 1 + 1]? = some (boxS vR keep) := blk_kept h.box (S := fun k => some k = vR.ownBlock) ⟨hg.size, fun i hi hne => hg.block i hi hne⟩ (fun e => Kd.R_ne h.rR (show W.heap[w0.heap.size + 1 + 3]? = some (.cells _ 25 (0, 0)) from h.box) (by decide) e)
 exact ⟨by rw [Lib.cell_of_heap (show W1.heap[w0.heap.size + 1 + 1 + 1 + 1]? = some (.cells _ 25 (0, 0)) from hb)]; rfl, blk_frozen (show W1.heap[w0.heap.size + 1 + 1 + 1 + 1]? = some (.cells _ 25 (0, 0)) from hb) 3⟩
theorem Sv.congr {T' : Nat → List Int} (h : Sv w0 W vQ vR T R Q keep) (hT : ∀ j, j < 3 → T j = T' j) : Sv w0 W vQ vR T' R Q keep := by
 obtain ⟨p, v, hb, hn, hz⟩ := h.ex
 exact ⟨h.below, ⟨p, v, fun j hj => hT j hj ▸ hb j hj, hn, fun j hj e => hz j hj ((hT j hj).trans e)⟩, h.res, h.box, h.rR, h.rQ⟩
def bs (s : ByteArray) : List Int := nums s.data.toList
theorem bs_push (s : ByteArray) (c : UInt8) : bs (s.push c) = bs s ++ [(c.toNat : Int)] := by simp [bs, nums]
theorem bs_length (s : ByteArray) : (bs s).length = s.size := by simp [bs, nums]
def three (a b c : ByteArray) : Nat → List Int := tri (bs a) (bs b) (bs c)
theorem Sv.wL {a b c : ByteArray} (h : Sv w0 W vQ vR (three a b c) R Q keep) (x : UInt8) (hl : a.size + 1 ≤ 140737488355328) :
  Calls Try.prog 109 #[.pointer (some ⟨w0.heap.size + 1, 0, none⟩), .int .u8 (x.toNat : Int)] W fun e w' => e = .returned .nilIface ∧ Aside0 (Sv w0 w' vQ vR (three (a.push x) b c) R Q keep) := by
 refine (h.write (j := 0) (by omega) (x.toNat : Int) (by show (bs a).length + 1 ≤ _; rw [bs_length]; exact hl)).mono ?_
 rintro e w' ⟨rfl, hs⟩
 refine ⟨rfl, ⟨hs.out.congr (fun j hj => ?_)⟩⟩
 match j, hj with
 | 0, _ => exact (bs_push a x).symm
 | 1, _ => rfl
 | 2, _ => rfl
theorem Sv.wM {a b c : ByteArray} (h : Sv w0 W vQ vR (three a b c) R Q keep) (x : UInt8) (hl : b.size + 1 ≤ 140737488355328) :
  Calls Try.prog 109 #[.pointer (some ⟨w0.heap.size + 1 + 1, 0, none⟩), .int .u8 (x.toNat : Int)] W fun e w' => e = .returned .nilIface ∧ Aside0 (Sv w0 w' vQ vR (three a (b.push x) c) R Q keep) := by
 refine (h.write (j := 1) (by omega) (x.toNat : Int) (by show (bs b).length + 1 ≤ _; rw [bs_length]; exact hl)).mono ?_
 rintro e w' ⟨rfl, hs⟩
 refine ⟨rfl, ⟨hs.out.congr (fun j hj => ?_)⟩⟩
 match j, hj with
 | 0, _ => rfl
 | 1, _ => exact (bs_push b x).symm
 | 2, _ => rfl
theorem Sv.wF {a b c : ByteArray} (h : Sv w0 W vQ vR (three a b c) R Q keep) (x : UInt8) (hl : c.size + 1 ≤ 140737488355328) :
  Calls Try.prog 109 #[.pointer (some ⟨w0.heap.size + 1 + 1 + 1, 0, none⟩), .int .u8 (x.toNat : Int)] W fun e w' => e = .returned .nilIface ∧ Aside0 (Sv w0 w' vQ vR (three a b (c.push x)) R Q keep) := by
 refine (h.write (j := 2) (by omega) (x.toNat : Int) (by show (bs c).length + 1 ≤ _; rw [bs_length]; exact hl)).mono ?_
 rintro e w' ⟨rfl, hs⟩
 refine ⟨rfl, ⟨hs.out.congr (fun j hj => ?_)⟩⟩
 match j, hj with
 | 0, _ => rfl
 | 1, _ => rfl
 | 2, _ => exact (bs_push c x).symm
theorem Sw.sL {a b c : ByteArray} (h : Sw w0 W vR (fun _ => True) (three a b c) R keep) :
  Calls Try.prog 110 #[.pointer (some ⟨w0.heap.size + 1, 0, none⟩)] W fun e w' => e = .returned (.string a) ∧ Aside0 (Sw w0 w' vR (fun i => i ≠ 0) (three a b c) R keep) := by
 refine (h.string (j := 0) (l := a.data.toList) (by omega) trivial rfl).mono ?_
 rintro e w' ⟨rfl, hs⟩
 exact ⟨rfl, ⟨hs.out.below, (by obtain ⟨p, v, hb, hn⟩ := hs.out.ex; exact ⟨p, v, fun j hj hJ => hb j hj ⟨trivial, hJ⟩, hn⟩), hs.out.res, hs.out.box, hs.out.rR⟩⟩
theorem Sw.sM {a b c : ByteArray} (h : Sw w0 W vR (fun i => i ≠ 0) (three a b c) R keep) :
  Calls Try.prog 110 #[.pointer (some ⟨w0.heap.size + 1 + 1, 0, none⟩)] W fun e w' => e = .returned (.string b) ∧ Aside0 (Sw w0 w' vR (fun i => i = 2) (three a b c) R keep) := by
 refine (h.string (j := 1) (l := b.data.toList) (by omega) (by omega) rfl).mono ?_
 rintro e w' ⟨rfl, hs⟩
 exact ⟨rfl, ⟨hs.out.below, (by obtain ⟨p, v, hb, hn⟩ := hs.out.ex; exact ⟨p, v, fun j hj hJ => hb j hj ⟨by omega, by omega⟩, hn⟩), hs.out.res, hs.out.box, hs.out.rR⟩⟩
theorem Sw.sF {a b c : ByteArray} (h : Sw w0 W vR (fun i => i = 2) (three a b c) R keep) :
  Calls Try.prog 110 #[.pointer (some ⟨w0.heap.size + 1 + 1 + 1, 0, none⟩)] W fun e w' => e = .returned (.string c) ∧ Aside0 (Below w0.heap.size w0 w' ∧ w'.heap[w0.heap.size]? = some boxZ ∧ w'.heap[w0.heap.size + 1 + 1 + 1 + 1]? = some (boxS vR keep) ∧ Kd.R Kd.string 9 w' w0.heap.size (fun k => some k = vR.ownBlock) vR R) := by
 refine (h.string (j := 2) (l := c.data.toList) (by omega) rfl rfl).mono ?_
 rintro e w' ⟨rfl, hs⟩
 exact ⟨rfl, ⟨hs.out.below, hs.out.res, hs.out.box, hs.out.rR⟩⟩
theorem fin1 {vR : Value} {a b c : ByteArray} (h : Below w0.heap.size w0 W ∧ W.heap[w0.heap.size]? = some boxZ ∧ W.heap[w0.heap.size + 1 + 1 + 1 + 1]? = some (boxS vR keep) ∧ Kd.R Kd.string 9 W w0.heap.size (fun k => some k = vR.ownBlock) vR R) :
  Aside0 (Below w0.heap.size w0 (((W.setCell ⟨w0.heap.size + 1 + 1 + 1 + 1, 0, none⟩ (.string a)).setCell ⟨w0.heap.size + 1 + 1 + 1 + 1, 1, none⟩ (.string b)).setCell ⟨w0.heap.size + 1 + 1 + 1 + 1, 2, none⟩ (.string c)) ∧
   (((W.setCell ⟨w0.heap.size + 1 + 1 + 1 + 1, 0, none⟩ (.string a)).setCell ⟨w0.heap.size + 1 + 1 + 1 + 1, 1, none⟩ (.string b)).setCell ⟨w0.heap.size + 1 + 1 + 1 + 1, 2, none⟩ (.string c)).heap[w0.heap.size]? = some boxZ ∧
   (((W.setCell ⟨w0.heap.size + 1 + 1 + 1 + 1, 0, none⟩ (.string a)).setCell ⟨w0.heap.size + 1 + 1 + 1 + 1, 1, none⟩ (.string b)).setCell ⟨w0.heap.size + 1 + 1 + 1 + 1, 2, none⟩ (.string c)).heap[w0.heap.size + 1 + 1 + 1 + 1]? = some (.cells #[.string a, .string b, .string c, vR, .int .i64 keep] 25 (0, 0)) ∧
   Kd.R Kd.string 9 (((W.setCell ⟨w0.heap.size + 1 + 1 + 1 + 1, 0, none⟩ (.string a)).setCell ⟨w0.heap.size + 1 + 1 + 1 + 1, 1, none⟩ (.string b)).setCell ⟨w0.heap.size + 1 + 1 + 1 + 1, 2, none⟩ (.string c)) w0.heap.size (fun k => some k = vR.ownBlock) vR R) := by
 obtain ⟨h1, h2, h3, h4⟩ := h
 have hne : ∀ k, some k = vR.ownBlock → k ≠ w0.heap.size + 1 + 1 + 1 + 1 := by
  rintro k hk rfl
  exact Kd.R_ne h4 (show W.heap[w0.heap.size + 1 + 1 + 1 + 1]? = some (.cells _ 25 (0, 0)) from h3) (by decide) hk
 have hb : ∀ i : Nat, w0.heap.size ≤ (⟨w0.heap.size + 1 + 1 + 1 + 1, i, none⟩ : Addr).block := fun i => by show w0.heap.size ≤ w0.heap.size + 1 + 1 + 1 + 1; omega
 refine ⟨⟨((h1.setCell (hb 0) _).setCell (hb 1) _).setCell (hb 2) _, ?_, ?_, ?_⟩⟩
 ·refine (Below.heap_setCell _ _ _ _ (by show w0.heap.size ≠ w0.heap.size + 1 + 1 + 1 + 1; omega)).trans ((Below.heap_setCell _ _ _ _ (by show w0.heap.size ≠ w0.heap.size + 1 + 1 + 1 + 1; omega)).trans ((Below.heap_setCell _ _ _ _ (by show w0.heap.size ≠ w0.heap.size + 1 + 1 + 1 + 1; omega)).trans h2))
 ·exact blk_put (blk_put (blk_put (show W.heap[w0.heap.size + 1 + 1 + 1 + 1]? = some (.cells _ 25 (0, 0)) from h3) 0 _ rfl) 1 _ rfl) 2 _ rfl
 ·exact Kd.R_far (p := ⟨w0.heap.size + 1 + 1 + 1 + 1, 2, none⟩) (Kd.R_far (p := ⟨w0.heap.size + 1 + 1 + 1 + 1, 1, none⟩) (Kd.R_far (p := ⟨w0.heap.size + 1 + 1 + 1 + 1, 0, none⟩) h4 hne _) hne _) hne _
theorem fin2 {vR : Value} {a b c : ByteArray} (h : Below w0.heap.size w0 W ∧ W.heap[w0.heap.size]? = some boxZ ∧ W.heap[w0.heap.size + 1 + 1 + 1 + 1]? = some (.cells #[.string a, .string b, .string c, vR, .int .i64 keep] 25 (0, 0)) ∧ Kd.R Kd.string 9 W w0.heap.size (fun k => some k = vR.ownBlock) vR R) :
  Aside0 (Below w0.heap.size w0 (((((W.setCell ⟨w0.heap.size, 0, none⟩ (.string a)).setCell ⟨w0.heap.size, 1, none⟩ (.string b)).setCell ⟨w0.heap.size, 2, none⟩ (.string c)).setCell ⟨w0.heap.size, 3, none⟩ vR).setCell ⟨w0.heap.size, 4, none⟩ (.int .i64 keep)) ∧
   (((((W.setCell ⟨w0.heap.size, 0, none⟩ (.string a)).setCell ⟨w0.heap.size, 1, none⟩ (.string b)).setCell ⟨w0.heap.size, 2, none⟩ (.string c)).setCell ⟨w0.heap.size, 3, none⟩ vR).setCell ⟨w0.heap.size, 4, none⟩ (.int .i64 keep)).heap[w0.heap.size]? = some (.cells #[.string a, .string b, .string c, vR, .int .i64 keep] 25 (0, 0)) ∧
   Kd.R Kd.string 9 (((((W.setCell ⟨w0.heap.size, 0, none⟩ (.string a)).setCell ⟨w0.heap.size, 1, none⟩ (.string b)).setCell ⟨w0.heap.size, 2, none⟩ (.string c)).setCell ⟨w0.heap.size, 3, none⟩ vR).setCell ⟨w0.heap.size, 4, none⟩ (.int .i64 keep)) w0.heap.size (fun _ => True) vR R) := by
 obtain ⟨h1, h2, h3, h4⟩ := h
 have hne : ∀ k, some k = vR.ownBlock → k ≠ w0.heap.size := by
  rintro k hk rfl
  exact Kd.R_ne h4 (show W.heap[w0.heap.size]? = some (.cells _ 25 (0, 0)) from h2) (by decide) hk
 have hb : ∀ i : Nat, w0.heap.size ≤ (⟨w0.heap.size, i, none⟩ : Addr).block := fun i => Nat.le_refl _
 refine ⟨⟨((((h1.setCell (hb 0) _).setCell (hb 1) _).setCell (hb 2) _).setCell (hb 3) _).setCell (hb 4) _, ?_, ?_⟩⟩
 ·exact blk_put (blk_put (blk_put (blk_put (blk_put (show W.heap[w0.heap.size]? = some (.cells _ 25 (0, 0)) from h2) 0 _ rfl) 1 _ rfl) 2 _ rfl) 3 _ rfl) 4 _ rfl
 ·exact Kd.R_mono (Kd.R_far (p := ⟨w0.heap.size, 4, none⟩) (Kd.R_far (p := ⟨w0.heap.size, 3, none⟩) (Kd.R_far (p := ⟨w0.heap.size, 2, none⟩) (Kd.R_far (p := ⟨w0.heap.size, 1, none⟩) (Kd.R_far (p := ⟨w0.heap.size, 0, none⟩) h4 hne _) hne _) hne _) hne _) hne _) (fun _ _ => trivial)
theorem byte_of {c : Int} (h0 : 0 ≤ c) (h1 : c ≤ 255) : ((c.toNat.toUInt8).toNat : Int) = c := by
 have : (c.toNat.toUInt8).toNat = c.toNat % 256 := by simp [Nat.toUInt8]
 rw [this]; omega
theorem Sv.bL {a b c : ByteArray} (h : Sv w0 W vQ vR (three a b c) R Q keep) (x : Int) (hx : 0 ≤ x ∧ x ≤ 255) (hl : a.size + 1 ≤ 140737488355328) :
  Calls Try.prog 109 #[.pointer (some ⟨w0.heap.size + 1, 0, none⟩), .int .u8 x] W fun e w' => e = .returned .nilIface ∧ Aside0 (Sv w0 w' vQ vR (three (a.push x.toNat.toUInt8) b c) R Q keep) := by
 have := h.wL x.toNat.toUInt8 hl
 rwa [byte_of hx.1 hx.2] at this
theorem Sv.bM {a b c : ByteArray} (h : Sv w0 W vQ vR (three a b c) R Q keep) (x : Int) (hx : 0 ≤ x ∧ x ≤ 255) (hl : b.size + 1 ≤ 140737488355328) :
  Calls Try.prog 109 #[.pointer (some ⟨w0.heap.size + 1 + 1, 0, none⟩), .int .u8 x] W fun e w' => e = .returned .nilIface ∧ Aside0 (Sv w0 w' vQ vR (three a (b.push x.toNat.toUInt8) c) R Q keep) := by
 have := h.wM x.toNat.toUInt8 hl
 rwa [byte_of hx.1 hx.2] at this
theorem Sv.bF {a b c : ByteArray} (h : Sv w0 W vQ vR (three a b c) R Q keep) (x : Int) (hx : 0 ≤ x ∧ x ≤ 255) (hl : c.size + 1 ≤ 140737488355328) :
  Calls Try.prog 109 #[.pointer (some ⟨w0.heap.size + 1 + 1 + 1, 0, none⟩), .int .u8 x] W fun e w' => e = .returned .nilIface ∧ Aside0 (Sv w0 w' vQ vR (three a b (c.push x.toNat.toUInt8)) R Q keep) := by
 have := h.wF x.toNat.toUInt8 hl
 rwa [byte_of hx.1 hx.2] at this
end
end Go.Proofs.Ytifgcajpkgamgaa.Hand
end
