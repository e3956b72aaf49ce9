/- What the laws of the set SQ need: the kit's printed words, the printed functions with their proofs, and plain facts on them. -/
import Derived.Test.YtifgcajpkgamgaaChecked
import Derived.Test.YtifgcajpkgamgaaRows
import Derived.JoinedOf
import Derived.KernelRfl
import Derived.Test.YtifgcajpkgamgaaProg
import Derived.Below
import Derived.Deep.Draws
import Derived.Deep.AppendLies
import Derived.Maps.AppendAt
import Derived.OwnWalk
import Derived.Laws.BytesArg
import Derived.Laws.MakeOwn
import Derived.Laws.OwnMore
import Derived.Deep.OwnRows
import Derived.Tactics
import Derived.Lib.ConvBytes
import Derived.Laws.Slices
import Derived.WalkKit
import Derived.RowKit3
import Derived.Deep.LoopGhost
import Derived.Deep.QuietTactic
import Derived.BigQuiet
import Derived.WideLaws
import Derived.Deep.DeepCutAuto
import Derived.Deep.CutBlock
import Derived.Deep.RegionHeld3
import Derived.Laws.Rows
import Derived.Lib.AppendStr
import Derived.ArgAppend
import Derived.Laws.IdiomCopy
import Derived.OrdersHeld
import Derived.Laws.BitsLemmas
import Derived.RowKit
import Derived.Shelf.Strings.Count
import Derived.Lib.Builder
import Derived.Lib.UnsafeStr
import Derived.Lib.Walk
import Derived.Laws.Externs
import Derived.Deep.RegionLaw
import Derived.Deep.DeepMust
import Derived.Test.YtifgcajpkgamgaaBSQb
section
namespace Go.Proofs.Ytifgcajpkgamgaa.Start
open Go Go.Proofs
def nums : List Nat :=
 [104, 97, 114, 110, 101, 115, 115, 32, 49, 54, 101, 101, 56, 52, 51, 98, 52, 52, 50, 49, 101, 51, 98, 56, 52, 99, 100, 50, 52, 53, 53, 48, 52, 99, 101, 52, 57, 101, 101, 98] ++
 [100, 101, 56, 52, 102, 97, 48, 98, 55, 50, 55, 49, 101, 102, 48, 50, 101, 55, 51, 55, 98, 50, 53, 98, 48, 48, 101, 54, 102, 53, 100, 51, 32, 99, 117, 116, 32, 97, 116, 32] ++
 [108, 111, 111, 112, 46, 101, 120, 97, 109, 112, 108, 101, 47, 116, 101, 109, 115, 101, 47, 108, 97, 119, 115, 46, 70, 110, 83, 105, 101, 118, 101, 69, 109, 112, 116, 121, 32, 108, 111, 111] ++
 [112, 46, 101, 120, 97, 109, 112, 108, 101, 47, 116, 101, 109, 115, 101, 47, 108, 97, 119, 115, 46, 70, 110, 83, 105, 101, 118, 101, 77, 101, 101, 116, 115, 32, 108, 111, 111, 112, 46, 101] ++
 [120, 97, 109, 112, 108, 101, 47, 116, 101, 109, 115, 101, 47, 108, 97, 119, 115, 46, 70, 110, 83, 105, 101, 118, 101, 77, 111, 114, 101, 32, 108, 111, 111, 112, 46, 101, 120, 97, 109, 112] ++
 [108, 101, 47, 116, 101, 109, 115, 101, 47, 108, 97, 119, 115, 46, 70, 110, 83, 105, 101, 118, 101, 65, 112, 97, 114, 116, 32, 108, 111, 111, 112, 46, 101, 120, 97, 109, 112, 108, 101, 47] ++
 [116, 101, 109, 115, 101, 47, 108, 97, 119, 115, 46, 70, 110, 83, 105, 101, 118, 101, 72, 101, 97, 100, 115, 32, 108, 111, 111, 112, 46, 101, 120, 97, 109, 112, 108, 101, 47, 116, 101, 109] ++
 [115, 101, 47, 108, 97, 119, 115, 46, 70, 110, 83, 105, 101, 118, 101, 83, 101, 101, 107, 75, 101, 121, 32, 108, 111, 111, 112, 46, 101, 120, 97, 109, 112, 108, 101, 47, 116, 101, 109, 115] ++
 [101, 47, 108, 97, 119, 115, 46, 70, 110, 83, 105, 101, 118, 101, 75, 101, 101, 112, 32, 108, 111, 111, 112, 46, 101, 120, 97, 109, 112, 108, 101, 47, 116, 101, 109, 115, 101, 47, 108, 97] ++
 [119, 115, 46, 70, 110, 69, 120, 97, 99, 116, 83, 105, 101, 118, 101, 79, 107, 32, 108, 111, 111, 112, 46, 101, 120, 97, 109, 112, 108, 101, 47, 116, 101, 109, 115, 101, 47, 108, 97, 119] ++
 [115, 46, 70, 110, 83, 105, 101, 118, 101, 69, 120, 97, 99, 116, 32, 108, 111, 111, 112, 46, 101, 120, 97, 109, 112, 108, 101, 47, 116, 101, 109, 115, 101, 47, 108, 97, 119, 115, 46, 70] ++
 [110, 83, 105, 101, 118, 101, 87, 104, 111, 108, 101, 32, 108, 111, 111, 112, 46, 101, 120, 97, 109, 112, 108, 101, 47, 116, 101, 109, 115, 101, 47, 108, 97, 119, 115, 46, 70, 110, 83, 105] ++
 [101, 118, 101, 78, 101, 118, 101, 114, 32, 108, 111, 111, 112, 46, 101, 120, 97, 109, 112, 108, 101, 47, 116, 101, 109, 115, 101, 47, 108, 97, 119, 115, 46, 70, 110, 69, 120, 97, 99, 116] ++
 [83, 105, 101, 118, 101, 83, 105, 122, 101, 32, 108, 111, 111, 112, 46, 101, 120, 97, 109, 112, 108, 101, 47, 116, 101, 109, 115, 101, 47, 108, 97, 119, 115, 46, 70, 110, 69, 120, 97, 99] ++
 [116, 83, 105, 101, 118, 101, 72, 101, 97, 100, 115, 32, 108, 111, 111, 112, 46, 101, 120, 97, 109, 112, 108, 101, 47, 116, 101, 109, 115, 101, 47, 108, 97, 119, 115, 46, 70, 110, 83, 105] ++
 [101, 118, 101, 79, 107, 32, 108, 111, 111, 112, 46, 101, 120, 97, 109, 112, 108, 101, 47, 116, 101, 109, 115, 101, 47, 108, 97, 119, 115, 46, 70, 110, 83, 105, 101, 118, 101, 83, 105, 122] ++
 [101, 32, 108, 111, 111, 112, 46, 101, 120, 97, 109, 112, 108, 101, 47, 116, 101, 109, 115, 101, 47, 108, 97, 119, 115, 46, 70, 110, 83, 105, 101, 118, 101, 83, 97, 109, 101, 32, 108, 111] ++
 [111, 112, 46, 101, 120, 97, 109, 112, 108, 101, 47, 116, 101, 109, 115, 101, 47, 108, 97, 119, 115, 46, 70, 110, 69, 120, 97, 99, 116, 83, 105, 101, 118, 101, 83, 101, 101, 107, 32, 108] ++
 [111, 111, 112, 46, 101, 120, 97, 109, 112, 108, 101, 47, 116, 101, 109, 115, 101, 47, 108, 97, 119, 115, 46, 70, 110, 69, 120, 97, 99, 116, 83, 105, 101, 118, 101, 77, 101, 101, 116, 115] ++
 [32, 108, 111, 111, 112, 46, 101, 120, 97, 109, 112, 108, 101, 47, 116, 101, 109, 115, 101, 47, 108, 97, 119, 115, 46, 70, 110, 69, 120, 97, 99, 116, 83, 105, 101, 118, 101, 72, 97, 115] ++
 [32, 108, 111, 111, 112, 46, 101, 120, 97, 109, 112, 108, 101, 47, 116, 101, 109, 115, 101, 47, 108, 97, 119, 115, 46, 70, 110, 83, 105, 101, 118, 101, 77, 101, 101, 116, 115, 77, 111, 114] ++
 [101, 32, 108, 111, 111, 112, 46, 101, 120, 97, 109, 112, 108, 101, 47, 116, 101, 109, 115, 101, 47, 108, 97, 119, 115, 46, 70, 110, 83, 105, 101, 118, 101, 83, 101, 101, 107, 32, 108, 111] ++
 [111, 112, 46, 101, 120, 97, 109, 112, 108, 101, 47, 116, 101, 109, 115, 101, 47, 108, 97, 119, 115, 46, 70, 110, 83, 105, 101, 118, 101, 72, 97, 115, 32, 108, 111, 111, 112, 46, 101, 120] ++
 [97, 109, 112, 108, 101, 47, 116, 101, 109, 115, 101, 47, 108, 97, 119, 115, 46, 70, 110, 83, 105, 101, 118, 101, 77, 101, 101, 116, 115, 72, 97, 115, 32, 108, 111, 111, 112, 46, 101, 120] ++
 [97, 109, 112, 108, 101, 47, 116, 101, 109, 115, 101, 47, 108, 97, 119, 115, 46, 70, 110, 83, 105, 101, 118, 101, 71, 97, 112]
set_option maxRecDepth 100000 in
theorem word : Try.prog.initOrder = String.ofList (nums.map Char.ofNat) := by kernel_rfl
theorem signs : Try.prog.initOrder.toList = nums.map Char.ofNat := by rw [word, String.toList_ofList]
theorem words_ne : ∀ l : List Char, wordsSigns l ≠ [] := by
 intro l
 cases l with
 | nil => simp [wordsSigns]
 | cons c l =>
  rw [wordsSigns.eq_def]
  split <;> first | (split <;> simp) | simp
theorem words_append (b : List Char) : ∀ a : List Char, wordsSigns (a ++ Char.ofNat 32 :: b) = wordsSigns a ++ wordsSigns b := by
 intro a
 induction a with
 | nil => rfl
 | cons c a ih =>
  rw [List.cons_append, wordsSigns.eq_def (c :: (a ++ Char.ofNat 32 :: b)), wordsSigns.eq_def (c :: a)]
  split
  ·rename_i h; cases h
  ·rename_i r h
   injection h with h1 h2
   subst h1; subst h2
   simp [ih]
  ·rename_i c' r hne h
   injection h with h1 h2
   subst h1; subst h2
   rw [ih]
   have hc : c ≠ Char.ofNat 32 := fun q => hne q
   split
   ·rename_i w ws e
    split
    ·rename_i h; cases h
    ·rename_i r h; injection h with h1 h2; exact absurd h1 hc
    ·rename_i c'' r'' hne'' h
     injection h with h1 h2
     subst h1; subst h2
     split
     ·rename_i w' ws' e'
      rw [e'] at e
      injection e with e1 e2
      subst e1; rw [← e2]; rfl
     ·rename_i e'
      exact absurd e' (words_ne _)
   ·rename_i e
    simp at e
    exact absurd e.1 (words_ne _)
def nums1 : List Nat := nums.take 76
def nums2 : List Nat := nums.drop 77
theorem parted : nums.map Char.ofNat = nums1.map Char.ofNat ++ Char.ofNat 32 :: nums2.map Char.ofNat := by kernel_rfl
theorem words : ∃ r, wordsSigns Try.prog.initOrder.toList = "harness".toList :: "16ee843b4421e3b84cd245504ce49eebde84fa0b7271ef02e737b25b00e6f5d3".toList :: "cut".toList :: r := by
 rw [signs, parted, words_append]
 exact ⟨wordsSigns (nums2.map Char.ofNat), by rw [show wordsSigns (nums1.map Char.ofNat) = ["harness".toList, "16ee843b4421e3b84cd245504ce49eebde84fa0b7271ef02e737b25b00e6f5d3".toList, "cut".toList] by kernel_rfl]; rfl⟩
theorem behind_of (l : List (List Char)) (h k : List Char) (r : List (List Char)) (e : l = h :: k :: r) (b : ((h == "harness".toList || h == "ownmain".toList) && isSumSigns k) = true) : behindMainWord l = r := by
 subst e
 show (if ((h == "harness".toList || h == "ownmain".toList) && isSumSigns k) = true then r else h :: k :: r) = r
 rw [if_pos b]
theorem behind : ∃ r, behindMainWord (wordsSigns Try.prog.initOrder.toList) = "cut".toList :: r := by
 obtain ⟨r, h⟩ := words
 exact ⟨r, behind_of _ _ _ _ h (by kernel_rfl)⟩
theorem strip_all (c : List Char) (r : List (List Char)) : ∀ l : List String, l.all (fun o => !(c == o.toList)) = true → stripLifts l (c :: r) = ([], c :: r) := by
 intro l
 induction l with
 | nil => intro _; rfl
 | cons o l ih =>
  intro h
  rw [List.all_cons, Bool.and_eq_true] at h
  rw [stripLifts, if_neg (by simpa using h.1), ih h.2]
theorem strip (r : List (List Char)) : stripLifts liftWords ("cut".toList :: r) = ([], "cut".toList :: r) := strip_all _ _ _ (by kernel_rfl)
theorem mayEnter_of (P : Program) (r : List (List Char)) (h : behindMainWord (wordsSigns P.initOrder.toList) = "cut".toList :: r) (h1 : P.laysLater = false) (h2 : P.bearsReflect = false) (h3 : P.doorFits [] = true) : P.mayEnter = true := by
 unfold Program.mayEnter
 rw [h]
 simp only [strip, h1, h2, h3]
 rfl
theorem liftsFinal_of (P : Program) (r : List (List Char)) (h : behindMainWord (wordsSigns P.initOrder.toList) = "cut".toList :: r) : P.liftsFinal = false := by
 unfold Program.liftsFinal Program.headLifts
 rw [h]
 simp only [strip]
 rfl
theorem make_of (P : Program) (r : List (List Char)) (h : behindMainWord (wordsSigns P.initOrder.toList) = "cut".toList :: r) : P.make = some .cut := by
 unfold Program.make
 rw [h]
 rfl
theorem mayEnter : Try.prog.mayEnter = true := by
 obtain ⟨r, h⟩ := behind
 exact mayEnter_of _ r h (by kernel_rfl) (by kernel_rfl) (by kernel_rfl)
theorem liftsFinal : Try.prog.liftsFinal = false := by
 obtain ⟨r, h⟩ := behind
 exact liftsFinal_of _ r h
theorem make : Try.prog.make = some .cut := by
 obtain ⟨r, h⟩ := behind
 exact make_of _ r h
theorem an {a b : Bool} (h : (a && b) = true) : a = true ∧ b = true := by simpa using h
theorem at_ {a b : Bool} (h : a = true) (k : b = true) : (a && b) = true := by simp [h, k]
theorem joined_of (P : Program) (mayEnter : P.mayEnter = true) (liftsFinal : P.liftsFinal = false) (make : P.make = some .cut) (f : FuncId) (fn : Func) (s : ChangeSpec) (c : OpenClaim)
  (h1 : (c.wf (OpenSpec.ofChange s) && laidOutB P && mapsRowed P && fn.params.all (P.readableRec ·) && namedTie P c.named s.vars && (c.stops == []) && (P.stops == []) && (c.knobs == []) && (P.stopKnobs == [])) = true)
  (h2 : (c.inPlace == P.inPlace f) = true) (h3 : (c.unfollowed == P.unfollowed f) = true) (h4 : (c.recurses == P.recurses f) = true) (h5 : (c.named == P.varsNamed f) = true)
  (h6 : ((c.maps == (fn.params.toList ++ s.plain.varTypes P).any (P.mapsRec ·)) && (c.ifaces == (fn.params.toList ++ s.plain.varTypes P).any (P.ifacesRec ·)) && (c.mapsOut == P.mapsAmong fn.resultTypes.toList) && (c.loops == (fn.params.toList ++ s.plain.varTypes P).any (P.loopsFrom ·)) && (c.wideKeys == (fn.params.toList ++ s.plain.varTypes P ++ fn.resultTypes.toList).any (P.wideKeysFrom ·))) = true)
  (h7 : (s.vars.all (P.varReadable ·) && fn.resultTypes.all (fun t => P.readableRec t && decide (t < P.types.size)) && (c.ifacesOut == fn.resultTypes.toList.any (P.ifacesRec ·)) && (c.loopsOut == fn.resultTypes.toList.any (P.loopsFrom ·)) && (c.plainKeys == P.plainKeys) && c.shortTexts.isNone && P.stopsHeard) = true)
  (h8 : c.lifted = false) (h9 : c.make = .cut)
  (h10 : ((c.kinds == (if c.domain.isEmpty then [] else fn.params.toList.map fun t => match P.underlying t with | some (.int k) => some k | _ => none)) && (c.pinned == c.pinnedBy) && (c.veiled == (fn.params.toList ++ s.plain.varTypes P ++ fn.resultTypes.toList).any (P.veiledRec ·)) && c.veiledFits P fn.params.toList (fn.params.toList ++ s.plain.varTypes P ++ fn.resultTypes.toList)) = true) :
  joinedFacts P f fn s c = true := by
 obtain ⟨b14, b5⟩ := an h6
 obtain ⟨b13, b4⟩ := an b14
 obtain ⟨b12, b3⟩ := an b13
 obtain ⟨b1, b2⟩ := an b12
 obtain ⟨c16, c7⟩ := an h7
 obtain ⟨c15, c6⟩ := an c16
 obtain ⟨c14, c5⟩ := an c15
 obtain ⟨c13, c4⟩ := an c14
 obtain ⟨c12, c3⟩ := an c13
 obtain ⟨c1, c2⟩ := an c12
 obtain ⟨d13, d4⟩ := an h10
 obtain ⟨d12, d3⟩ := an d13
 obtain ⟨d1, d2⟩ := an d12
 have hl : (c.lifted == P.liftsFinal) = true := by rw [h8, liftsFinal]; rfl
 have hm : (P.make == some c.make) = true := by rw [make, h9]; kernel_rfl
 unfold joinedFacts
 exact at_ (at_ (at_ (at_ (at_ (at_ (at_ (at_ (at_ (at_ (at_ (at_ (at_ (at_ (at_ (at_ (at_ (at_ (at_ (at_ (at_ (at_ (at_ h1 h2) h3) h4) h5) b1) b2) b3) b4) b5) c1) c2) c3) c4) c5) c6) c7) mayEnter) hl) hm) d1) d2) d3) d4
theorem joined (f : FuncId) (fn : Func) (s : ChangeSpec) (c : OpenClaim)
  (h1 : (c.wf (OpenSpec.ofChange s) && laidOutB Try.prog && mapsRowed Try.prog && fn.params.all (Try.prog.readableRec ·) && namedTie Try.prog c.named s.vars && (c.stops == []) && (Try.prog.stops == []) && (c.knobs == []) && (Try.prog.stopKnobs == [])) = true)
  (h2 : (c.inPlace == Try.prog.inPlace f) = true) (h3 : (c.unfollowed == Try.prog.unfollowed f) = true) (h4 : (c.recurses == Try.prog.recurses f) = true) (h5 : (c.named == Try.prog.varsNamed f) = true)
  (h6 : ((c.maps == (fn.params.toList ++ s.plain.varTypes Try.prog).any (Try.prog.mapsRec ·)) && (c.ifaces == (fn.params.toList ++ s.plain.varTypes Try.prog).any (Try.prog.ifacesRec ·)) && (c.mapsOut == Try.prog.mapsAmong fn.resultTypes.toList) && (c.loops == (fn.params.toList ++ s.plain.varTypes Try.prog).any (Try.prog.loopsFrom ·)) && (c.wideKeys == (fn.params.toList ++ s.plain.varTypes Try.prog ++ fn.resultTypes.toList).any (Try.prog.wideKeysFrom ·))) = true)
  (h7 : (s.vars.all (Try.prog.varReadable ·) && fn.resultTypes.all (fun t => Try.prog.readableRec t && decide (t < Try.prog.types.size)) && (c.ifacesOut == fn.resultTypes.toList.any (Try.prog.ifacesRec ·)) && (c.loopsOut == fn.resultTypes.toList.any (Try.prog.loopsFrom ·)) && (c.plainKeys == Try.prog.plainKeys) && c.shortTexts.isNone && Try.prog.stopsHeard) = true)
  (h8 : c.lifted = false) (h9 : c.make = .cut)
  (h10 : ((c.kinds == (if c.domain.isEmpty then [] else fn.params.toList.map fun t => match Try.prog.underlying t with | some (.int k) => some k | _ => none)) && (c.pinned == c.pinnedBy) && (c.veiled == (fn.params.toList ++ s.plain.varTypes Try.prog ++ fn.resultTypes.toList).any (Try.prog.veiledRec ·)) && c.veiledFits Try.prog fn.params.toList (fn.params.toList ++ s.plain.varTypes Try.prog ++ fn.resultTypes.toList)) = true) :
  joinedFacts Try.prog f fn s c = true := joined_of Try.prog mayEnter liftsFinal make f fn s c h1 h2 h3 h4 h5 h6 h7 h8 h9 h10
end Go.Proofs.Ytifgcajpkgamgaa.Start
end
section
namespace Go.Proofs.Ytifgcajpkgamgaa.Q
open Go.RowKit Go.Proofs.YtifgcajpkgamgaaW.PrintWords Go.Proofs.YtifgcajpkgamgaaW.PrintLast Go.Proofs.YtifgcajpkgamgaaW.PrintMore
attribute [local go_sem] max2_int min2_int max_two min_two max_three min_three max_four min_four   
set_option linter.unusedVariables false
set_option linter.unusedSimpArgs false
def errW : Option Int → Value
 | none => .nilIface
 | some c => .iface 0 (.int .i64 c)
theorem errW_none : errW none = .nilIface := rfl
theorem errW_some (c : Int) : errW (some c) = .iface 0 (.int .i64 c) := rfl
theorem info5 : (Try.prog.info? 5).map (fun i => (i.zero, i.size, i.bytes)) = some (some (.int .u8 0), 1, 1) := by kernel_rfl
theorem info9 : (Try.prog.info? 9).map (fun i => (i.zero, i.size, i.bytes)) = some (some (.string ⟨#[]⟩), 1, 16) := by kernel_rfl
theorem info79 : (Try.prog.info? 79).map (fun i => (i.zero, i.size, i.bytes)) = some (some (.agg #[(.slice none 0 0), (.int .i64 0)]), 2, 32) := by kernel_rfl
theorem info93 : (Try.prog.info? 93).map (fun i => (i.zero, i.size, i.bytes)) = some (some (.agg #[(.string ⟨#[]⟩), (.bool false)]), 2, 24) := by kernel_rfl
structure S79 where
 f0 : (List ByteArray)
 f1 : Int
def z79 : S79 := ⟨([] : List ByteArray), (0 : Int)⟩
def k79 : Kd S79 := Kd.iso (Kd.pair (Kd.slice 9 Kd.string) (Kd.int .i64)) (fun x : S79 => (x.f0, x.f1))
theorem k79_open {w : World} {x : S79} {cs : List Value} (h : k79.K w x cs) : ∃ A0 c0, cs = [.slice A0 x.f0.length c0, .int .i64 x.f1] ∧ x.f0.length ≤ c0 ∧ Kd.string.C w A0 x.f0.length x.f0 := by
 obtain ⟨_, _, rfl, ⟨A0, c0, rfl, l0, g0⟩, rfl⟩ := h
 exact ⟨A0, c0, rfl, l0, g0⟩
theorem k79_mk (w : World) (x : S79) {A0 : Option Addr} {c0 : Nat} (l0 : x.f0.length ≤ c0) (g0 : Kd.string.C w A0 x.f0.length x.f0) : k79.K w x [.slice A0 x.f0.length c0, .int .i64 x.f1] := ⟨[.slice A0 x.f0.length c0], [.int .i64 x.f1], rfl, ⟨A0, c0, rfl, l0, g0⟩, rfl⟩
theorem k79_openF {W : World} {ok : Nat → Prop} {x : S79} {cs : List Value} (h : Kd.FK k79 W ok x cs) : ∃ A0 c0, cs = [.slice A0 x.f0.length c0, .int .i64 x.f1] ∧ x.f0.length ≤ c0 ∧ Kd.F Kd.string W ok A0 x.f0.length x.f0 := by
 obtain ⟨A0, c0, rfl, l0, _⟩ := k79_open (Kd.FK_now h)
 exact ⟨A0, c0, rfl, l0, (fun W' hW => by obtain ⟨A0_, c0_, he, l0_, g0_⟩ := k79_open (h W' hW); injection (Option.some.inj (show some (Value.slice A0 x.f0.length c0) = some (Value.slice A0_ x.f0.length c0_) from congrArg (fun l => l[0]?) he)) with ha_ _ _; rw [ha_]; exact g0_)⟩
theorem k79_mkF (W : World) (ok : Nat → Prop) (x : S79) {A0 : Option Addr} {c0 : Nat} (l0 : x.f0.length ≤ c0) (g0 : Kd.F Kd.string W ok A0 x.f0.length x.f0) : Kd.FK k79 W ok x [.slice A0 x.f0.length c0, .int .i64 x.f1] := fun W2 hW => k79_mk W2 x l0 (g0 W2 hW)
def rd_T79 (xs : List S79) (i : Int) : S79 := xs.getD i.toNat z79
theorem at_T79 {w : World} {A : Option Addr} {n : Nat} {xs : List S79} (h : Kd.C k79 w A n xs) (i : Int) (h0 : 0 ≤ i) (h1 : i < n) : ∃ ad A0 c0, A = some ad ∧ w.cell? (ad.add (i.toNat * 2)) = some (.slice A0 (rd_T79 xs i).f0.length c0) ∧ w.cell? ⟨(ad.add (i.toNat * 2)).block, (ad.add (i.toNat * 2)).off + 1, none⟩ = some (.int .i64 (rd_T79 xs i).f1) ∧ (rd_T79 xs i).f0.length ≤ c0 ∧ Kd.string.C w A0 (rd_T79 xs i).f0.length (rd_T79 xs i).f0 := by
 obtain ⟨ad, c, e, _, hK, hc0⟩ := Kd.C_get h z79 i h0 h1
 have hc : ∀ j u, c[j]? = some u → w.cell? (ad.add (i.toNat * 2 + j)) = some u := hc0
 obtain ⟨A0, c0, rfl, l0, g0⟩ := k79_open hK
 exact ⟨ad, A0, c0, e, hc 0 _ rfl, by rw [← add_field _ _ 1 (by omega)]; exact hc 1 _ rfl, l0, g0⟩
structure S108 where
 f0 : (List ByteArray)
 f1 : Int
def z108 : S108 := ⟨([] : List ByteArray), (0 : Int)⟩
def k108 : Kd S108 := Kd.iso (Kd.pair (Kd.slice 9 Kd.string) (Kd.int .i64)) (fun x : S108 => (x.f0, x.f1))
theorem k108_open {w : World} {x : S108} {cs : List Value} (h : k108.K w x cs) : ∃ A0 c0, cs = [.slice A0 x.f0.length c0, .int .i64 x.f1] ∧ x.f0.length ≤ c0 ∧ Kd.string.C w A0 x.f0.length x.f0 := by
 obtain ⟨_, _, rfl, ⟨A0, c0, rfl, l0, g0⟩, rfl⟩ := h
 exact ⟨A0, c0, rfl, l0, g0⟩
theorem k108_mk (w : World) (x : S108) {A0 : Option Addr} {c0 : Nat} (l0 : x.f0.length ≤ c0) (g0 : Kd.string.C w A0 x.f0.length x.f0) : k108.K w x [.slice A0 x.f0.length c0, .int .i64 x.f1] := ⟨[.slice A0 x.f0.length c0], [.int .i64 x.f1], rfl, ⟨A0, c0, rfl, l0, g0⟩, rfl⟩
def rd_T108 (xs : List S108) (i : Int) : S108 := xs.getD i.toNat z108
structure S93 where
 f0 : ByteArray
 f1 : Bool
def z93 : S93 := ⟨(⟨#[]⟩ : ByteArray), false⟩
def k93 : Kd S93 := Kd.iso (Kd.pair Kd.string Kd.bool) (fun x : S93 => (x.f0, x.f1))
theorem k93_open {w : World} {x : S93} {cs : List Value} (h : k93.K w x cs) : cs = [.string x.f0, .bool x.f1] := by
 obtain ⟨_, _, rfl, rfl, rfl⟩ := h
 exact rfl
theorem k93_mkM (w : World) (base : Nat) (ok : Nat → Prop) (x : S93)  : k93.M w base ok x [.string x.f0, .bool x.f1] := ⟨[.string x.f0], [.bool x.f1], rfl, rfl, rfl⟩
def rd_T93 (xs : List S93) (i : Int) : S93 := xs.getD i.toNat z93
theorem at_T93 {w : World} {A : Option Addr} {n : Nat} {xs : List S93} (h : Kd.C k93 w A n xs) (i : Int) (h0 : 0 ≤ i) (h1 : i < n) : ∃ ad , A = some ad ∧ w.cell? (ad.add (i.toNat * 2)) = some (.string (rd_T93 xs i).f0) ∧ w.cell? ⟨(ad.add (i.toNat * 2)).block, (ad.add (i.toNat * 2)).off + 1, none⟩ = some (.bool (rd_T93 xs i).f1) := by
 obtain ⟨ad, c, e, _, hK, hc0⟩ := Kd.C_get h z93 i h0 h1
 have hc : ∀ j u, c[j]? = some u → w.cell? (ad.add (i.toNat * 2 + j)) = some u := hc0
 obtain rfl := k93_open hK
 exact ⟨ad, e, hc 0 _ rfl, by rw [← add_field _ _ 1 (by omega)]; exact hc 1 _ rfl⟩
end Go.Proofs.Ytifgcajpkgamgaa.Q
end
section
namespace Go.Proofs
open Go.Shelf
def Try.lays138_ren : Go.Shelf.Ren := ⟨fun | 138 => 100 | 195 => 122 | 218 => 123 | 143 => 124 | 219 => 139 | 217 => 147 | 225 => 148 | 224 => 149 | 267 => 150 | 266 => 152 | 314 => 153 | n => n, fun | 9 => 9 | 3 => 3 | 4 => 4 | 5 => 5 | 0 => 0 | 46 => 120 | 146 => 147 | 51 => 134 | n => n, fun | 1 => 0 | n => n⟩
theorem Try.lays138 : Go.Proofs.Lays.n138 Try.prog Try.lays138_ren := {
 mixed := by kernel_rfl
 f138 := Try.func100.trans (congrArg some (by kernel_rfl))
 f143 := Try.func124.trans (congrArg some (by kernel_rfl))
 f195 := Try.func122.trans (congrArg some (by kernel_rfl))
 f217 := Try.func147.trans (congrArg some (by kernel_rfl))
 f218 := Try.func123.trans (congrArg some (by kernel_rfl))
 f219 := Try.func139.trans (congrArg some (by kernel_rfl))
 f224 := Try.func149.trans (congrArg some (by kernel_rfl))
 f225 := Try.func148.trans (congrArg some (by kernel_rfl))
 f266 := Try.func152.trans (congrArg some (by kernel_rfl))
 f267 := Try.func150.trans (congrArg some (by kernel_rfl))
 f314 := Try.func153.trans (congrArg some (by kernel_rfl))
 t0 := Try.underlying0
 a0 := Try.isAgg0
 z0 := Try.sizeOf0
 v0 := Try.zeroValue0
 t3 := Try.underlying3
 a3 := Try.isAgg3
 z3 := Try.sizeOf3
 v3 := Try.zeroValue3
 t4 := Try.underlying4
 a4 := Try.isAgg4
 z4 := Try.sizeOf4
 v4 := Try.zeroValue4
 t5 := Try.underlying5
 a5 := Try.isAgg5
 z5 := Try.sizeOf5
 v5 := Try.zeroValue5
 t9 := Try.underlying9
 a9 := Try.isAgg9
 z9 := Try.sizeOf9
 v9 := Try.zeroValue9
 t46 := Try.underlying120
 a46 := Try.isAgg120
 z46 := Try.sizeOf120
 v46 := Try.zeroValue120
 t51 := Try.underlying134
 a51 := Try.isAgg134
 z51 := Try.sizeOf134
 v51 := Try.zeroValue134
 t146 := Try.underlying147
 a146 := Try.isAgg147
 z146 := Try.sizeOf147
 v146 := Try.zeroValue147
 g1 := by kernel_rfl }
open Go.RowKit Go.Lib in
theorem Try.strings_Count_one (s : ByteArray) (c : UInt8) (w : World) :
  Calls Try.prog 100 #[.string s, .string ⟨#[c]⟩] w fun e w' => e = .returned (.int .i64 (Lib.countByte s.data.toList c)) ∧ w' = w := Any.strings_Count_one Try.lays138 s c w
end Go.Proofs
end
section
namespace Go.Proofs.Ytifgcajpkgamgaa.Q
open Go.RowKit Go.Proofs.YtifgcajpkgamgaaW.PrintWords Go.Proofs.YtifgcajpkgamgaaW.PrintLast Go.Proofs.YtifgcajpkgamgaaW.PrintMore
attribute [local go_sem] max2_int min2_int max_two min_two max_three min_three max_four min_four   
set_option linter.unusedVariables false
set_option linter.unusedSimpArgs false
def spec_l6Open.f (l0 : List Int) : Option (List Int × Int) := if (l0.length : Int) > 2000 then (if 2000 ≤ (l0.length : Int) then (some (l0.take 2000, 0)) else (none)) else (some (l0, 0))
def spec_l6Rd_pick.j0 : Nat → Int → Bool → List Int → Int → Option (Int × Int)
 | 0, _, _, _, _ => none
 | k + 1, x1, x24, x1000, x1001 => if x24 = true then (some (0, x1001)) else (if (wrap64 (x1001 - 1)) < (x1000.length : Int) then (if 0 ≤ (wrap64 (x1001 - 1)) then (if x1 = 0 then (none) else (some (Int.tmod (wrap64 (rd x1000 (wrap64 (x1001 - 1)))) x1, x1001))) else (none)) else (if (x1000.length : Int) = 0 then (none) else (if 0 ≤ (Int.tmod (wrap64 (x1001 - 1)) (x1000.length : Int)) then (if (Int.tmod (wrap64 (x1001 - 1)) (x1000.length : Int)) < (x1000.length : Int) then (if 0 ≤ (Int.tmod (wrap64 ((wrap64 ((wrap64 (x1001 - 1)) * 7)) + 3)) (x1000.length : Int)) then (if (Int.tmod (wrap64 ((wrap64 ((wrap64 (x1001 - 1)) * 7)) + 3)) (x1000.length : Int)) < (x1000.length : Int) then (if x1 = 0 then (none) else (some (Int.tmod (Go.bits .xor .i64 (wrap64 ((wrap64 ((wrap64 ((wrap64 ((wrap64 (rd x1000 (Int.tmod (wrap64 (x1001 - 1)) (x1000.length : Int)))) * 131)) + (wrap64 ((wrap64 (rd x1000 (Int.tmod (wrap64 ((wrap64 ((wrap64 (x1001 - 1)) * 7)) + 3)) (x1000.length : Int)))) * 1117)))) + (wrap64 ((wrap64 (x1001 - 1)) * 29)))) + (wrap64 ((wrap64 (Int.tdiv (wrap64 (x1001 - 1)) (x1000.length : Int))) * 53)))) (wrap64 (Int.tdiv (wrap64 ((wrap64 ((wrap64 ((wrap64 ((wrap64 (rd x1000 (Int.tmod (wrap64 (x1001 - 1)) (x1000.length : Int)))) * 131)) + (wrap64 ((wrap64 (rd x1000 (Int.tmod (wrap64 ((wrap64 ((wrap64 (x1001 - 1)) * 7)) + 3)) (x1000.length : Int)))) * 1117)))) + (wrap64 ((wrap64 (x1001 - 1)) * 29)))) + (wrap64 ((wrap64 (Int.tdiv (wrap64 (x1001 - 1)) (x1000.length : Int))) * 53)))) 64))) x1, x1001))) else (none)) else (none)) else (none)) else (none))))
def spec_l6Rd_pick.f (k : Nat) (s0_0 : List Int) (s0_1 : Int) (a1 : Int) : Option (Int × Int) := if a1 < 1 then (spec_l6Rd_pick.j0 k a1 true s0_0 (wrap64 (s0_1 + 1))) else (spec_l6Rd_pick.j0 k a1 ((s0_0.length : Int) == 0) s0_0 (wrap64 (s0_1 + 1)))
def spec_l6In.f (a0 : Int) (a1 : Int) (a2 : Int) : Option (Bool) := if a0 ≥ a1 then (some (decide (a0 ≤ a2))) else (some false)
def spec_KeyOk.l0 : Nat → ByteArray → Int → Option (Bool)
 | 0, _, _ => none
 | k + 1, x0, x3 => if x3 < (x0.size : Int) then (if 0 ≤ x3 then ((spec_l6In.f (wrap64 (bt x0 x3)) 97 100).bind fun t107 => (if t107 = true then (spec_KeyOk.l0 k x0 (wrap64 (x3 + 1))) else (some false))) else (none)) else (some (decide ((x0.size : Int) ≤ 5)))
def spec_KeyOk.f (k : Nat) (a0 : ByteArray) : Option (Bool) := spec_KeyOk.l0 k a0 0
def spec_KeysOk.l0 : Nat → List ByteArray → Int → Option (Bool)
 | 0, _, _ => none
 | k + 1, x0, x3 => if x3 < (x0.length : Int) then (if 0 ≤ x3 then ((spec_KeyOk.f k (rdOf ByteArray.empty x0 x3)).bind fun t109 => (if t109 = true then (if x3 > 0 then (if 0 ≤ (wrap64 (x3 - 1)) then (if (wrap64 (x3 - 1)) < (x0.length : Int) then (if ((Op.bytesLess ((rdOf ByteArray.empty x0 (wrap64 (x3 - 1))).toList) ((rdOf ByteArray.empty x0 x3).toList)) = true) then (spec_KeysOk.l0 k x0 (wrap64 (x3 + 1))) else (some false)) else (none)) else (none)) else (spec_KeysOk.l0 k x0 (wrap64 (x3 + 1)))) else (some false))) else (none)) else (some (decide ((x0.length : Int) ≤ 24)))
def spec_KeysOk.f (k : Nat) (l0 : List ByteArray) : Option (Bool) := spec_KeysOk.l0 k l0 0
def spec_l3Letter.f (a0 : ByteArray) (a1 : Int) : Option (ByteArray) := if a1 ≥ (a0.size : Int) then (some (⟨#[45]⟩ : ByteArray)) else (if 0 ≤ a1 then (if a1 ≤ (wrap64 (a1 + 1)) then (if (wrap64 (a1 + 1)) ≤ (a0.size : Int) then (some (a0.extract (a1 : Int).toNat ((wrap64 (a1 + 1)) : Int).toNat)) else (none)) else (none)) else (none))
def spec_l3Group.l0 : Nat → List ByteArray → Int → List ByteArray → Int → Option (List ByteArray)
 | 0, _, _, _, _ => none
 | k + 1, x3, x4, x113000, x113001 => if x4 < (x113000.length : Int) then (if 0 ≤ x4 then ((spec_l3Letter.f (rdOf ByteArray.empty x113000 x4) x113001).bind fun t117 => (if 0 < (x113000.length : Int) then ((spec_l3Letter.f (rdOf ByteArray.empty x113000 0) x113001).bind fun t119 => (if t117.toList = t119.toList then (if x3.length < 8796093022208 then (spec_l3Group.l0 k (x3 ++ [rdOf ByteArray.empty x113000 x4]) (wrap64 (x4 + 1)) x113000 x113001) else (none)) else (spec_l3Group.l0 k x3 (wrap64 (x4 + 1)) x113000 x113001))) else (none))) else (none)) else (some x3)
def spec_l3Group.f (k : Nat) (l0_0 : List ByteArray) (a0_1 : Int) : Option (List ByteArray) := spec_l3Group.l0 k (([] : List ByteArray)) 0 l0_0 a0_1
def spec_l3Rest.f (a0 : ByteArray) (a1 : Int) (a2 : Int) : Option (ByteArray) := if 0 ≤ a1 ∧ 0 ≤ a2 then (if (a0.size : Int) ≤ a1 then (some (⟨#[]⟩ : ByteArray)) else (some ((a0.extract a1.toNat a0.size).extract 0 (if a2 < ((a0.size - a1.toNat : Nat) : Int) then a2 else ((a0.size - a1.toNat : Nat) : Int)).toNat))) else none
def spec_l3Put.l0 : Nat → List (S79) → ByteArray → ByteArray → ByteArray → ByteArray → List ByteArray → Int → List ByteArray → Int → Option (ByteArray × ByteArray × ByteArray × List ByteArray × Int × (List (S79)))
 | 0, _, _, _, _, _, _, _, _, _ => none
 | k + 1, x6, x7, x125000, x125001, x125002, x125003, x125004, x126000, x126001 => if (x126000.length : Int) > 0 then ((spec_l3Group.f k x126000 x126001).bind fun t130 => (if 0 < (t130.length : Int) then ((spec_l3Letter.f (rdOf ByteArray.empty t130 0) x126001).bind fun t134 => (if x125000.size + t134.size ≤ 9223372036854775807 then (if x125002.size + x7.size ≤ 9223372036854775807 then (if (t130.length : Int) > 1 then (if x125001.size + 1 ≤ 9223372036854775807 then (if x6.length < 4398046511104 then (if 0 ≤ (t130.length : Int) then (if (t130.length : Int) ≤ (x126000.length : Int) then (spec_l3Put.l0 k (x6 ++ [(⟨t130, wrap64 (x126001 + 1)⟩ : S79)]) (⟨#[48]⟩ : ByteArray) (x125000 ++ t134) (x125001 ++ (⟨#[49]⟩ : ByteArray)) (x125002 ++ x7) x125003 x125004 (x126000.drop ((t130.length : Int) : Int).toNat) x126001) else (none)) else (none)) else (none)) else (none)) else (if x125001.size + 1 ≤ 9223372036854775807 then ((spec_l3Rest.f (rdOf ByteArray.empty t130 0) (wrap64 (x126001 + 1)) x125004).bind fun t144 => (if x125003.length < 8796093022208 then (if 0 ≤ (t130.length : Int) then (if (t130.length : Int) ≤ (x126000.length : Int) then (spec_l3Put.l0 k x6 (⟨#[48]⟩ : ByteArray) (x125000 ++ t134) (x125001 ++ (⟨#[48]⟩ : ByteArray)) (x125002 ++ x7) (x125003 ++ [t144]) x125004 (x126000.drop ((t130.length : Int) : Int).toNat) x126001) else (none)) else (none)) else (none))) else (none))) else (none)) else (none))) else (none))) else (some (x125000, x125001, x125002, x125003, x125004, x6))
def spec_l3Put.f (k : Nat) (a0_0 : ByteArray) (a0_1 : ByteArray) (a0_2 : ByteArray) (l0_3 : List ByteArray) (a0_4 : Int) (l1_0 : List ByteArray) (a1_1 : Int) : Option (ByteArray × ByteArray × ByteArray × List ByteArray × Int × (List (S79))) := spec_l3Put.l0 k (([] : List (S79))) (⟨#[49]⟩ : ByteArray) a0_0 a0_1 a0_2 l0_3 a0_4 l1_0 a1_1
mutual
def spec_SieveOf.j0 : Nat → List ByteArray → Int → Bool → Option (ByteArray × ByteArray × ByteArray × List ByteArray × Int × Bool)
 | 0, _, _, _ => none
 | k + 1, x0, x1, x16 => if x16 = true then (some ((⟨#[]⟩ : ByteArray), (⟨#[]⟩ : ByteArray), (⟨#[]⟩ : ByteArray), ([] : List ByteArray), 0, false)) else (spec_SieveOf.l0 k (([(⟨x0, 0⟩ : S79)] : List (S79))) (⟨#[]⟩ : ByteArray) (⟨#[]⟩ : ByteArray) (⟨#[]⟩ : ByteArray) (([] : List ByteArray)) x1)
def spec_SieveOf.l0 : Nat → List (S79) → ByteArray → ByteArray → ByteArray → List ByteArray → Int → Option (ByteArray × ByteArray × ByteArray × List ByteArray × Int × Bool)
 | 0, _, _, _, _, _, _ => none
 | k + 1, x7, x160000, x160001, x160002, x160003, x160004 => if (x7.length : Int) > 0 then (if 0 < (x7.length : Int) then ((spec_l3Put.f k x160000 x160001 x160002 x160003 x160004 ((rd_T79 x7 0).f0) ((rd_T79 x7 0).f1)).bind fun bt167 => ((some (([] : List (S79)) : List (S79))).bind fun y177 => (if 1 ≤ (x7.length : Int) then ((some (x7.drop 1 : List (S79))).bind fun y180 => (if y177.length + y180.length < 4398046511104 then ((some (y177 ++ y180 : List (S79))).bind fun y185 => (if y185.length + bt167.2.2.2.2.2.length < 4398046511104 then (spec_SieveOf.l0 k (y185 ++ bt167.2.2.2.2.2) bt167.1 bt167.2.1 bt167.2.2.1 bt167.2.2.2.1 bt167.2.2.2.2.1) else (none))) else (none))) else (none)))) else (none)) else (some (x160000, x160001, x160002, x160003, x160004, true))
end
def spec_SieveOf.f (k : Nat) (l0 : List ByteArray) (a1 : Int) : Option (ByteArray × ByteArray × ByteArray × List ByteArray × Int × Bool) := (spec_KeysOk.f k l0).bind fun t154 => (if t154 = true then ((spec_l6In.f a1 0 5).bind fun t155 => (spec_SieveOf.j0 k l0 a1 (!t155))) else (spec_SieveOf.j0 k l0 a1 true))
def spec_l6Rd_of.f (k : Nat) (s0_0 : List Int) (s0_1 : Int) (l1 : List ByteArray) : Option (ByteArray × Int) := (spec_l6Rd_pick.f k s0_0 s0_1 (l1.length : Int)).bind fun bt191 => (if 0 ≤ bt191.1 then (if bt191.1 < (l1.length : Int) then (some (rdOf ByteArray.empty l1 bt191.1, bt191.2)) else (none)) else (none))
def spec_l71Key.l0 : Nat → ByteArray → Int → List Int → Int → Option (ByteArray × Int)
 | 0, _, _, _, _ => none
 | k + 1, x3, x4, x1000, x1001 => if x4 > 0 then ((spec_l6Rd_of.f k x1000 x1001 (([(⟨#[97]⟩ : ByteArray), (⟨#[98]⟩ : ByteArray), (⟨#[97]⟩ : ByteArray), (⟨#[99]⟩ : ByteArray), (⟨#[100]⟩ : ByteArray)] : List ByteArray))).bind fun bt199 => (if x3.size + bt199.1.size ≤ 9223372036854775807 then (spec_l71Key.l0 k (x3 ++ bt199.1) (wrap64 (x4 - 1)) x1000 bt199.2) else (none))) else (some (x3, x1001))
def spec_l71Key.f (k : Nat) (s0_0 : List Int) (s0_1 : Int) : Option (ByteArray × Int) := (spec_l6Rd_pick.f k s0_0 s0_1 6).bind fun bt194 => (spec_l71Key.l0 k (⟨#[]⟩ : ByteArray) bt194.1 s0_0 bt194.2)
def spec_l71Near.j0 : Nat → List ByteArray → Bool → List Int → Int → Option (ByteArray × Int)
 | 0, _, _, _, _ => none
 | k + 1, x1, x13, x1000, x1001 => if x13 = true then ((spec_l71Key.f k x1000 x1001).bind fun bt203 => (some (bt203.1, bt203.2))) else ((spec_l6Rd_pick.f k x1000 x1001 (x1.length : Int)).bind fun bt205 => (if 0 ≤ bt205.1 then (if bt205.1 < (x1.length : Int) then ((spec_l6Rd_pick.f k x1000 bt205.2 4).bind fun bt208 => (if bt208.1 = 0 then ((spec_l6Rd_pick.f k x1000 bt208.2 (wrap64 (((rdOf ByteArray.empty x1 bt205.1).size : Int) + 1))).bind fun bt210 => (if 0 ≤ bt210.1 then (if bt210.1 ≤ ((rdOf ByteArray.empty x1 bt205.1).size : Int) then (some ((rdOf ByteArray.empty x1 bt205.1).extract 0 (bt210.1 : Int).toNat, bt210.2)) else (none)) else (none))) else (if bt208.1 = 1 then (if ((rdOf ByteArray.empty x1 bt205.1).size : Int) < 5 then ((spec_l6Rd_of.f k x1000 bt208.2 (([(⟨#[97]⟩ : ByteArray), (⟨#[98]⟩ : ByteArray), (⟨#[100]⟩ : ByteArray)] : List ByteArray))).bind fun bt215 => (if (rdOf ByteArray.empty x1 bt205.1).size + bt215.1.size ≤ 9223372036854775807 then (some ((rdOf ByteArray.empty x1 bt205.1) ++ bt215.1, bt215.2)) else (none))) else (some (rdOf ByteArray.empty x1 bt205.1, bt208.2))) else (some (rdOf ByteArray.empty x1 bt205.1, bt208.2))))) else (none)) else (none)))
def spec_l71Near.f (k : Nat) (s0_0 : List Int) (s0_1 : Int) (l1 : List ByteArray) : Option (ByteArray × Int) := if (l1.length : Int) = 0 then (spec_l71Near.j0 k l1 true s0_0 s0_1) else ((spec_l6Rd_pick.f k s0_0 s0_1 4).bind fun bt201 => (spec_l71Near.j0 k l1 (bt201.1 == 0) s0_0 bt201.2))
def spec_l2Put.l0 : Nat → List ByteArray → ByteArray → List ByteArray → Bool → Int → Option (List ByteArray)
 | 0, _, _, _, _, _ => none
 | k + 1, x0, x1, x5, x6, x7 => if x7 < (x0.length : Int) then (if 0 ≤ x7 then (if (rdOf ByteArray.empty x0 x7).toList = x1.toList then (some x0) else (if x6 = true then (if x5.length < 8796093022208 then (spec_l2Put.l0 k x0 x1 (x5 ++ [rdOf ByteArray.empty x0 x7]) x6 (wrap64 (x7 + 1))) else (none)) else (if (Op.bytesLess x1.toList ((rdOf ByteArray.empty x0 x7).toList)) = true then (if x5.length < 8796093022208 then ((some (x5 ++ [x1] : List ByteArray)).bind fun y229 => (if y229.length < 8796093022208 then (spec_l2Put.l0 k x0 x1 (y229 ++ [rdOf ByteArray.empty x0 x7]) true (wrap64 (x7 + 1))) else (none))) else (none)) else (if x5.length < 8796093022208 then (spec_l2Put.l0 k x0 x1 (x5 ++ [rdOf ByteArray.empty x0 x7]) x6 (wrap64 (x7 + 1))) else (none))))) else (none)) else (if x6 = true then (some x5) else (if x5.length < 8796093022208 then (some (x5 ++ [x1])) else (none)))
def spec_l2Put.f (k : Nat) (l0 : List ByteArray) (a1 : ByteArray) : Option (List ByteArray) := spec_l2Put.l0 k l0 a1 (([] : List ByteArray)) false 0
def spec_l71Keys.l0 : Nat → List ByteArray → Int → List Int → Int → Option (List ByteArray × Int)
 | 0, _, _, _, _ => none
 | k + 1, x5, x6, x1000, x1001 => if x6 > 0 then ((spec_l71Near.f k x1000 x1001 x5).bind fun bt245 => ((spec_l2Put.f k x5 bt245.1).bind fun t247 => (spec_l71Keys.l0 k t247 (wrap64 (x6 - 1)) x1000 bt245.2))) else (some (x5, x1001))
def spec_l71Keys.f (k : Nat) (s0_0 : List Int) (s0_1 : Int) (a1 : Int) : Option (List ByteArray × Int) := (spec_l6Rd_pick.f k s0_0 s0_1 (wrap64 (a1 + 1))).bind fun bt243 => (spec_l71Keys.l0 k (([] : List ByteArray)) bt243.1 s0_0 bt243.2)
def impl_KeyOk.l0 : Nat → ByteArray → Int → Int → Option (Bool)
 | 0, _, _, _ => none
 | k + 1, x0, x5, x6 => if x6 < x5 then (if 0 ≤ x6 then (if x6 < (x0.size : Int) then (if (bt x0 x6) < 97 then (some false) else (if (bt x0 x6) > 100 then (some false) else (impl_KeyOk.l0 k x0 x5 (wrap64 (x6 + 1))))) else (none)) else (none)) else (some (decide ((x0.size : Int) ≤ 5)))
def impl_KeyOk.f (k : Nat) (a0 : ByteArray) : Option (Bool) := impl_KeyOk.l0 k a0 (a0.size : Int) 0
def impl_KeysOk.l0 : Nat → List ByteArray → List ByteArray → Int → Int → Option (Bool)
 | 0, _, _, _, _ => none
 | k + 1, x0, x5, x6, x7 => if x7 < x6 then (if 0 ≤ x7 then (if x7 < (x5.length : Int) then ((impl_KeyOk.f k (rdOf ByteArray.empty x5 x7)).bind fun t317 => (if t317 = true then (if x7 > 0 then (if 0 ≤ (wrap64 (x7 - 1)) then (if (wrap64 (x7 - 1)) < (x0.length : Int) then (if ((Op.bytesLess ((rdOf ByteArray.empty x0 (wrap64 (x7 - 1))).toList) ((rdOf ByteArray.empty x5 x7).toList)) = true) then (impl_KeysOk.l0 k x0 x5 x6 (wrap64 (x7 + 1))) else (some false)) else (none)) else (none)) else (impl_KeysOk.l0 k x0 x5 x6 (wrap64 (x7 + 1)))) else (some false))) else (none)) else (none)) else (some (decide ((x0.length : Int) ≤ 24)))
def impl_KeysOk.f (k : Nat) (l0 : List ByteArray) : Option (Bool) := impl_KeysOk.l0 k l0 l0 (l0.length : Int) 0
def impl_in.f (a0 : Int) (a1 : Int) (a2 : Int) : Option (Bool) := if a1 ≤ a0 then (some (decide (a0 ≤ a2))) else (some false)
def impl_isKeep.f (a0 : Int) : Option (Bool) := (impl_in.f a0 0 5).bind fun t319 => (some t319)
def impl_label.f (a0 : ByteArray) (a1 : Int) : Option (Int) := if (a0.size : Int) = a1 then (some 45) else (if 0 ≤ a1 then (if a1 < (a0.size : Int) then (some (bt a0 a1)) else (none)) else (none))
mutual
def impl_sieveOf.l0 : Nat → ByteArray → ByteArray → ByteArray → List ByteArray → List S108 → Int → Int → Option (ByteArray × ByteArray × ByteArray × List ByteArray × Int)
 | 0, _, _, _, _, _, _, _ => none
 | k + 1, L, M, F, R, Q, keep, i => if i < (Q.length : Int) then (if 0 ≤ i then (impl_sieveOf.l1 k L M F R Q keep i (rd_T108 Q i).f0 (rd_T108 Q i).f1 49) else (none)) else (some (L, M, F, R, keep))
def impl_sieveOf.l1 : Nat → ByteArray → ByteArray → ByteArray → List ByteArray → List S108 → Int → Int → List ByteArray → Int → Int → Option (ByteArray × ByteArray × ByteArray × List ByteArray × Int)
 | 0, _, _, _, _, _, _, _, _, _, _ => none
 | k + 1, L, M, F, R, Q, keep, i, rest, depth, mark => if (rest.length : Int) > 0 then (impl_sieveOf.l2 k L M F R Q keep i rest depth mark 1) else (impl_sieveOf.l0 k L M F R Q keep (wrap64 (i + 1)))
def impl_sieveOf.l2 : Nat → ByteArray → ByteArray → ByteArray → List ByteArray → List S108 → Int → Int → List ByteArray → Int → Int → Int → Option (ByteArray × ByteArray × ByteArray × List ByteArray × Int)
 | 0, _, _, _, _, _, _, _, _, _, _, _ => none
 | k + 1, L, M, F, R, Q, keep, i, rest, depth, mark, n => if n < (rest.length : Int) then (if 0 ≤ n then ((impl_label.f (rdOf ByteArray.empty rest n) depth).bind fun a => ((impl_label.f (rdOf ByteArray.empty rest 0) depth).bind fun b => (if a = b then (impl_sieveOf.l2 k L M F R Q keep i rest depth mark (wrap64 (n + 1))) else (impl_sieveOf.l3 k L M F R Q keep i rest depth mark n)))) else (none)) else (impl_sieveOf.l3 k L M F R Q keep i rest depth mark n)
def impl_sieveOf.l3 : Nat → ByteArray → ByteArray → ByteArray → List ByteArray → List S108 → Int → Int → List ByteArray → Int → Int → Int → Option (ByteArray × ByteArray × ByteArray × List ByteArray × Int)
 | 0, _, _, _, _, _, _, _, _, _, _, _ => none
 | k + 1, L, M, F, R, Q, keep, i, rest, depth, mark, n => if L.size + 1 ≤ 140737488355328 ∧ M.size + 1 ≤ 140737488355328 ∧ F.size + 1 ≤ 140737488355328 ∧ 0 ≤ n ∧ n ≤ (rest.length : Int) ∧ 0 ≤ depth ∧ depth ≤ 1000000000 ∧ 0 ≤ keep ∧ Q.length < 4398046511104 ∧ R.length < 8796093022208 then ((impl_label.f (rdOf ByteArray.empty rest 0) depth).bind fun c => (if n > 1 then (impl_sieveOf.l1 k (L.push c.toNat.toUInt8) (M.push 49) (F.push mark.toNat.toUInt8) R (Q ++ [⟨rest.take n.toNat, wrap64 (depth + 1)⟩]) keep i (rest.drop n.toNat) depth 48) else (impl_sieveOf.l1 k (L.push c.toNat.toUInt8) (M.push 48) (F.push mark.toNat.toUInt8) (R ++ [((rdOf ByteArray.empty rest 0).extract (mn (wrap64 (depth + 1)) ((rdOf ByteArray.empty rest 0).size : Int)).toNat (rdOf ByteArray.empty rest 0).size).extract 0 (mn keep (((rdOf ByteArray.empty rest 0).extract (mn (wrap64 (depth + 1)) ((rdOf ByteArray.empty rest 0).size : Int)).toNat (rdOf ByteArray.empty rest 0).size).size : Int)).toNat]) Q keep i (rest.drop n.toNat) depth 48))) else (none)
end
def impl_sieveOf.f (k : Nat) (l0 : List ByteArray) (a1 : Int) : Option (ByteArray × ByteArray × ByteArray × List ByteArray × Int) := impl_sieveOf.l0 k (⟨#[]⟩ : ByteArray) (⟨#[]⟩ : ByteArray) (⟨#[]⟩ : ByteArray) [] [⟨l0, 0⟩] a1 0
def impl_SieveOf.f (k : Nat) (l0 : List ByteArray) (a1 : Int) : Option (ByteArray × ByteArray × ByteArray × List ByteArray × Int × Bool) := (impl_KeysOk.f k l0).bind fun t321 => (if t321 = true then ((impl_isKeep.f a1).bind fun t322 => (if t322 = true then ((impl_sieveOf.f k l0 a1).bind fun bt323 => (some (bt323.1, bt323.2.1, bt323.2.2.1, bt323.2.2.2.1, bt323.2.2.2.2, true))) else (some ((⟨#[]⟩ : ByteArray), (⟨#[]⟩ : ByteArray), (⟨#[]⟩ : ByteArray), ([] : List ByteArray), 0, false)))) else (some ((⟨#[]⟩ : ByteArray), (⟨#[]⟩ : ByteArray), (⟨#[]⟩ : ByteArray), ([] : List ByteArray), 0, false)))
def impl_texts.l0 : Nat → List ByteArray → List (S93) → Int → Int → Option (List ByteArray)
 | 0, _, _, _, _ => none
 | k + 1, x3, x6, x7, x8 => if x8 < x7 then (if 0 ≤ x8 then (if x8 < (x6.length : Int) then (if x3.length < 8796093022208 then (impl_texts.l0 k (x3 ++ [(rd_T93 x6 x8).f0]) x6 x7 (wrap64 (x8 + 1))) else (none)) else (none)) else (none)) else (some x3)
def impl_texts.f (k : Nat) (l0 : List (S93)) : Option (List ByteArray) := impl_texts.l0 k ([] : List ByteArray) l0 (l0.length : Int) 0
def impl_BitsOk.l0 : Nat → ByteArray → Int → Int → Option (Bool)
 | 0, _, _, _ => none
 | k + 1, x0, x5, x6 => if x6 < x5 then (if 0 ≤ x6 then (if x6 < (x0.size : Int) then (if (bt x0 x6) = 48 then (impl_BitsOk.l0 k x0 x5 (wrap64 (x6 + 1))) else (if (bt x0 x6) = 49 then (impl_BitsOk.l0 k x0 x5 (wrap64 (x6 + 1))) else (some false))) else (none)) else (none)) else (some (decide ((x0.size : Int) ≤ 400)))
def impl_BitsOk.f (k : Nat) (a0 : ByteArray) : Option (Bool) := impl_BitsOk.l0 k a0 (a0.size : Int) 0
def strings_Count.f (a0 : ByteArray) (a1 : ByteArray) : Option (Int) := if a1.size = 1 then (some ((a0.data.toList.count (a1.data.toList.headD 0) : Nat) : Int)) else (none)
def impl_one.l0 : Nat → ByteArray → Int → Int → Int → Option (Int)
 | 0, _, _, _, _ => none
 | k + 1, x0, x1, x7, x8 => if x8 < x7 then (if 0 ≤ x8 then (if x8 < (x0.size : Int) then (if (bt x0 x8) = 49 then (if x1 = 0 then (some x8) else (impl_one.l0 k x0 (wrap64 (x1 - 1)) x7 (wrap64 (x8 + 1)))) else (impl_one.l0 k x0 x1 x7 (wrap64 (x8 + 1)))) else (none)) else (none)) else (some (-1))
def impl_one.f (k : Nat) (a0 : ByteArray) (a1 : Int) : Option (Int) := impl_one.l0 k a0 a1 (a0.size : Int) 0
def impl_Sieve_branches.l0 : Nat → Int → Int → ByteArray → ByteArray → ByteArray → List ByteArray → Int → Option (Int × Int)
 | 0, _, _, _, _, _, _, _ => none
 | k + 1, x6, x7, x338000, x338001, x338002, x338003, x338004 => if x7 < (x338002.size : Int) then (if 0 ≤ x7 then (if (bt x338002 x7) = 48 then (impl_Sieve_branches.l0 k x6 (wrap64 (x7 + 1)) x338000 x338001 x338002 x338003 x338004) else (some (x6, x7))) else (none)) else (some (x6, x7))
def impl_Sieve_branches.f (k : Nat) (a0_0 : ByteArray) (a0_1 : ByteArray) (a0_2 : ByteArray) (l0_3 : List ByteArray) (a0_4 : Int) (a1 : Int) : Option (Int × Int) := (impl_one.f k a0_2 a1).bind fun t338 => (if t338 < 0 then (some (0, 0)) else (impl_Sieve_branches.l0 k t338 (wrap64 (t338 + 1)) a0_0 a0_1 a0_2 l0_3 a0_4))
def impl_Sieve_node.f (a0_0 : ByteArray) (a0_1 : ByteArray) (a0_2 : ByteArray) (l0_3 : List ByteArray) (a0_4 : Int) (a1 : Int) : Option (Int) := if 0 ≤ (wrap64 (a1 + 1)) then (if (wrap64 (a1 + 1)) ≤ (a0_1.size : Int) then ((strings_Count.f (a0_1.extract 0 ((wrap64 (a1 + 1)) : Int).toNat) (⟨#[49]⟩ : ByteArray)).bind fun t340 => (some t340)) else (none)) else (none)
def impl_Sieve_rest.f (a0_0 : ByteArray) (a0_1 : ByteArray) (a0_2 : ByteArray) (l0_3 : List ByteArray) (a0_4 : Int) (a1 : Int) : Option (ByteArray) := if 0 ≤ a1 then (if a1 ≤ (a0_1.size : Int) then ((strings_Count.f (a0_1.extract 0 (a1 : Int).toNat) (⟨#[48]⟩ : ByteArray)).bind fun t342 => (if 0 ≤ t342 then (if t342 < (l0_3.length : Int) then (some (rdOf ByteArray.empty l0_3 t342)) else (none)) else (none))) else (none)) else (none)
def impl_Sieve_complete.f (a0_0 : ByteArray) (a0_1 : ByteArray) (a0_2 : ByteArray) (l0_3 : List ByteArray) (a0_4 : Int) (a1 : Int) : Option (Bool) := if 0 ≤ a1 then (if a1 < (a0_0.size : Int) then (if (bt a0_0 a1) = 45 then (some true) else ((impl_Sieve_rest.f a0_0 a0_1 a0_2 l0_3 a0_4 a1).bind fun t345 => (some (decide ((t345.size : Int) < a0_4))))) else (none)) else (none)
mutual
def impl_Sieve_parts.l0 : Nat → ByteArray → List (S93) → Int → Int → ByteArray → ByteArray → ByteArray → List ByteArray → Int → Option ((List (S93)) × Bool)
 | 0, _, _, _, _, _, _, _, _, _ => none
 | k + 1, x2, x3, x11, x12, x347000, x347001, x347002, x347003, x347004 => if x12 < x11 then (if 0 ≤ x12 then (if x12 < (x347000.size : Int) then (if (bt x347000 x12) = 45 then (impl_Sieve_parts.j1 k x2 x3 x11 x12 x2 x347000 x347001 x347002 x347003 x347004) else (if x12 ≤ (wrap64 (x12 + 1)) then (if (wrap64 (x12 + 1)) ≤ (x347000.size : Int) then (if x2.size + (x347000.extract (x12 : Int).toNat ((wrap64 (x12 + 1)) : Int).toNat).size ≤ 9223372036854775807 then (impl_Sieve_parts.j1 k x2 x3 x11 x12 (x2 ++ (x347000.extract (x12 : Int).toNat ((wrap64 (x12 + 1)) : Int).toNat)) x347000 x347001 x347002 x347003 x347004) else (none)) else (none)) else (none))) else (none)) else (none)) else (some (x3, true))
def impl_Sieve_parts.j1 : Nat → ByteArray → List (S93) → Int → Int → ByteArray → ByteArray → ByteArray → ByteArray → List ByteArray → Int → Option ((List (S93)) × Bool)
 | 0, _, _, _, _, _, _, _, _, _, _ => none
 | k + 1, x2, x3, x11, x12, x13, x347000, x347001, x347002, x347003, x347004 => if 0 ≤ x12 then (if x12 < (x347001.size : Int) then (if (bt x347001 x12) = 48 then ((impl_Sieve_rest.f x347000 x347001 x347002 x347003 x347004 x12).bind fun t349 => (if x13.size + t349.size ≤ 9223372036854775807 then ((impl_Sieve_complete.f x347000 x347001 x347002 x347003 x347004 x12).bind fun t350 => (if x3.length < 5864062014805 then (impl_Sieve_parts.l0 k x2 (x3 ++ [(⟨x13 ++ t349, t350⟩ : S93)]) x11 (wrap64 (x12 + 1)) x347000 x347001 x347002 x347003 x347004) else (none))) else (none))) else ((impl_Sieve_node.f x347000 x347001 x347002 x347003 x347004 x12).bind fun t354 => ((impl_Sieve_branches.f k x347000 x347001 x347002 x347003 x347004 t354).bind fun bt355 => (if bt355.1 ≤ x12 then (impl_Sieve_parts.j2 k x2 x3 x11 x12 x13 true x347000 x347001 x347002 x347003 x347004) else (if x12 < (x347000.size : Int) then (impl_Sieve_parts.j2 k x2 x3 x11 x12 x13 ((bt x347000 x12) == 45) x347000 x347001 x347002 x347003 x347004) else (none)))))) else (none)) else (none)
def impl_Sieve_parts.j2 : Nat → ByteArray → List (S93) → Int → Int → ByteArray → Bool → ByteArray → ByteArray → ByteArray → List ByteArray → Int → Option ((List (S93)) × Bool)
 | 0, _, _, _, _, _, _, _, _, _, _, _ => none
 | k + 1, x2, x3, x11, x12, x13, x81, x347000, x347001, x347002, x347003, x347004 => if x81 = true then (some (([] : List (S93)), false)) else ((impl_Sieve_node.f x347000 x347001 x347002 x347003 x347004 x12).bind fun t357 => ((impl_Sieve_parts.f k x347000 x347001 x347002 x347003 x347004 t357 x13 x3).bind fun bt358 => (if bt358.2 = true then (impl_Sieve_parts.l0 k x2 bt358.1 x11 (wrap64 (x12 + 1)) x347000 x347001 x347002 x347003 x347004) else (some (([] : List (S93)), false)))))
def impl_Sieve_parts.f : Nat → ByteArray → ByteArray → ByteArray → List ByteArray → Int → Int → ByteArray → List (S93) → Option ((List (S93)) × Bool)
 | 0, _, _, _, _, _, _, _, _ => none
 | k + 1, a0_0, a0_1, a0_2, l0_3, a0_4, a1, a2, l3 => if (a2.size : Int) > 5 then (some (([] : List (S93)), false)) else ((impl_Sieve_branches.f k a0_0 a0_1 a0_2 l0_3 a0_4 a1).bind fun bt347 => (impl_Sieve_parts.l0 k a2 l3 bt347.2 bt347.1 a0_0 a0_1 a0_2 l0_3 a0_4))
end
def slices_Equal_string_string.l0 : Nat → List ByteArray → List ByteArray → Int → Int → Option (Bool)
 | 0, _, _, _, _ => none
 | k + 1, x0, x1, x12, x13 => if x13 < x12 then (if 0 ≤ x13 then (if x13 < (x0.length : Int) then (if x13 < (x1.length : Int) then (if (rdOf ByteArray.empty x0 x13).toList = (rdOf ByteArray.empty x1 x13).toList then (slices_Equal_string_string.l0 k x0 x1 x12 (wrap64 (x13 + 1))) else (some false)) else (none)) else (none)) else (none)) else (some true)
def slices_Equal_string_string.f (k : Nat) (l0 : List ByteArray) (l1 : List ByteArray) : Option (Bool) := if (l0.length : Int) = (l1.length : Int) then (slices_Equal_string_string.l0 k l0 l1 (l0.length : Int) 0) else (some false)
def impl_Sieve_same.f (k : Nat) (a0_0 : ByteArray) (a0_1 : ByteArray) (a0_2 : ByteArray) (l0_3 : List ByteArray) (a0_4 : Int) (a1_0 : ByteArray) (a1_1 : ByteArray) (a1_2 : ByteArray) (l1_3 : List ByteArray) (a1_4 : Int) : Option (Bool) := if a0_0.toList = a1_0.toList then (if a0_1.toList = a1_1.toList then (if a0_2.toList = a1_2.toList then (if a0_4 = a1_4 then ((slices_Equal_string_string.f k l0_3 l1_3).bind fun t366 => (some t366)) else (some false)) else (some false)) else (some false)) else (some false)
def impl_Sieve_heads.j0 : Nat → Bool → ByteArray → ByteArray → ByteArray → List ByteArray → Int → Option ((List (S93)) × Bool)
 | 0, _, _, _, _, _, _ => none
 | k + 1, x49, x368000, x368001, x368002, x368003, x368004 => if x49 = true then (some (([] : List (S93)), false)) else ((impl_Sieve_parts.f k x368000 x368001 x368002 x368003 x368004 0 (⟨#[]⟩ : ByteArray) ([] : List (S93))).bind fun bt372 => (if bt372.2 = true then ((impl_texts.f k bt372.1).bind fun t376 => ((impl_SieveOf.f k t376 x368004).bind fun bt379 => (if bt379.2.2.2.2.2 = true then ((impl_Sieve_same.f k bt379.1 bt379.2.1 bt379.2.2.1 bt379.2.2.2.1 bt379.2.2.2.2.1 x368000 x368001 x368002 x368003 x368004).bind fun t388 => (if t388 = true then (some (bt372.1, true)) else (some (([] : List (S93)), false)))) else (some (([] : List (S93)), false))))) else (some (([] : List (S93)), false))))
def impl_Sieve_heads.f (k : Nat) (a0_0 : ByteArray) (a0_1 : ByteArray) (a0_2 : ByteArray) (l0_3 : List ByteArray) (a0_4 : Int) : Option ((List (S93)) × Bool) := (impl_BitsOk.f k a0_1).bind fun t368 => (if t368 = true then ((impl_BitsOk.f k a0_2).bind fun t369 => (if t369 = true then (if (a0_1.size : Int) = (a0_0.size : Int) then (if (a0_2.size : Int) = (a0_0.size : Int) then ((impl_isKeep.f a0_4).bind fun t370 => (if t370 = true then ((strings_Count.f a0_1 (⟨#[48]⟩ : ByteArray)).bind fun t371 => (impl_Sieve_heads.j0 k ((l0_3.length : Int) != t371) a0_0 a0_1 a0_2 l0_3 a0_4)) else (impl_Sieve_heads.j0 k true a0_0 a0_1 a0_2 l0_3 a0_4))) else (impl_Sieve_heads.j0 k true a0_0 a0_1 a0_2 l0_3 a0_4)) else (impl_Sieve_heads.j0 k true a0_0 a0_1 a0_2 l0_3 a0_4)) else (impl_Sieve_heads.j0 k true a0_0 a0_1 a0_2 l0_3 a0_4))) else (impl_Sieve_heads.j0 k true a0_0 a0_1 a0_2 l0_3 a0_4))
def impl_SieveOk.f (k : Nat) (a0_0 : ByteArray) (a0_1 : ByteArray) (a0_2 : ByteArray) (l0_3 : List ByteArray) (a0_4 : Int) : Option (Bool) := (impl_Sieve_heads.f k a0_0 a0_1 a0_2 l0_3 a0_4).bind fun bt390 => (some bt390.2)
def stringslite_HasPrefix.f (a0 : ByteArray) (a1 : ByteArray) : Option (Bool) := if (a0.size : Int) ≥ (a1.size : Int) then (if 0 ≤ (a1.size : Int) then (if (a1.size : Int) ≤ (a0.size : Int) then (some ((a0.extract 0 ((a1.size : Int) : Int).toNat).toList == a1.toList)) else (none)) else (none)) else (some false)
def strings_HasPrefix.f (a0 : ByteArray) (a1 : ByteArray) : Option (Bool) := (stringslite_HasPrefix.f a0 a1).bind fun t394 => (some t394)
def impl_KeyBegins.f (a0 : ByteArray) (a1 : ByteArray) : Option (Bool) := (strings_HasPrefix.f a0 a1).bind fun t395 => (some t395)
mutual
def impl_Sieve_has.l0 : Nat → ByteArray → Int → Int → ByteArray → ByteArray → ByteArray → List ByteArray → Int → Option (Bool)
 | 0, _, _, _, _, _, _, _, _ => none
 | k + 1, x1, x5, x6, x397000, x397001, x397002, x397003, x397004 => (impl_Sieve_branches.f k x397000 x397001 x397002 x397003 x397004 x5).bind fun bt397 => (impl_Sieve_has.l1 k x1 x6 bt397.2 bt397.1 x397000 x397001 x397002 x397003 x397004)
def impl_Sieve_has.j2 : Nat → ByteArray → Int → Int → Int → ByteArray → ByteArray → ByteArray → List ByteArray → Int → Option (Bool)
 | 0, _, _, _, _, _, _, _, _, _ => none
 | k + 1, x1, x6, x8, x9, x397000, x397001, x397002, x397003, x397004 => if x9 = x8 then (some false) else (if 0 ≤ x9 then (if x9 < (x397001.size : Int) then (if (bt x397001 x9) = 49 then ((impl_Sieve_node.f x397000 x397001 x397002 x397003 x397004 x9).bind fun t400 => (impl_Sieve_has.l0 k x1 t400 (wrap64 (x6 + 1)) x397000 x397001 x397002 x397003 x397004)) else (if 0 ≤ (mn (wrap64 (x6 + 1)) (x1.size : Int)) then (if (mn (wrap64 (x6 + 1)) (x1.size : Int)) ≤ (x1.size : Int) then ((impl_Sieve_complete.f x397000 x397001 x397002 x397003 x397004 x9).bind fun t401 => (if t401 = true then ((impl_Sieve_rest.f x397000 x397001 x397002 x397003 x397004 x9).bind fun t402 => (some ((x1.extract ((mn (wrap64 (x6 + 1)) (x1.size : Int)) : Int).toNat x1.size).toList == t402.toList))) else ((impl_Sieve_rest.f x397000 x397001 x397002 x397003 x397004 x9).bind fun t403 => ((impl_KeyBegins.f (x1.extract ((mn (wrap64 (x6 + 1)) (x1.size : Int)) : Int).toNat x1.size) t403).bind fun t404 => (some t404))))) else (none)) else (none))) else (none)) else (none))
def impl_Sieve_has.l1 : Nat → ByteArray → Int → Int → Int → ByteArray → ByteArray → ByteArray → List ByteArray → Int → Option (Bool)
 | 0, _, _, _, _, _, _, _, _, _ => none
 | k + 1, x1, x6, x8, x9, x397000, x397001, x397002, x397003, x397004 => if x9 < x8 then (if 0 ≤ x9 then (if x9 < (x397000.size : Int) then ((impl_label.f x1 x6).bind fun t399 => (if (bt x397000 x9) = t399 then (impl_Sieve_has.j2 k x1 x6 x8 x9 x397000 x397001 x397002 x397003 x397004) else (impl_Sieve_has.l1 k x1 x6 x8 (wrap64 (x9 + 1)) x397000 x397001 x397002 x397003 x397004))) else (none)) else (none)) else (impl_Sieve_has.j2 k x1 x6 x8 x9 x397000 x397001 x397002 x397003 x397004)
end
def impl_Sieve_has.f (k : Nat) (a0_0 : ByteArray) (a0_1 : ByteArray) (a0_2 : ByteArray) (l0_3 : List ByteArray) (a0_4 : Int) (a1 : ByteArray) : Option (Bool) := impl_Sieve_has.l0 k a1 0 0 a0_0 a0_1 a0_2 l0_3 a0_4
def impl_SieveHas.f (k : Nat) (a0_0 : ByteArray) (a0_1 : ByteArray) (a0_2 : ByteArray) (l0_3 : List ByteArray) (a0_4 : Int) (a1 : ByteArray) : Option (Bool) := (impl_SieveOk.f k a0_0 a0_1 a0_2 l0_3 a0_4).bind fun t406 => (if t406 = true then ((impl_KeyOk.f k a1).bind fun t407 => (if t407 = true then ((impl_Sieve_has.f k a0_0 a0_1 a0_2 l0_3 a0_4 a1).bind fun t408 => (some t408)) else (some false))) else (some false))
def spec_l1One.l0 : Nat → ByteArray → Int → Int → Option (Int)
 | 0, _, _, _ => none
 | k + 1, x0, x1, x5 => if x5 < (x0.size : Int) then (if 0 ≤ x5 then (if (bt x0 x5) = 49 then (if x1 = 0 then (some x5) else (spec_l1One.l0 k x0 (wrap64 (x1 - 1)) (wrap64 (x5 + 1)))) else (spec_l1One.l0 k x0 x1 (wrap64 (x5 + 1)))) else (none)) else (some (x0.size : Int))
def spec_l1One.f (k : Nat) (a0 : ByteArray) (a1 : Int) : Option (Int) := spec_l1One.l0 k a0 a1 0
mutual
def spec_l1Ones.l0 : Nat → ByteArray → Int → Int → Int → Option (Int)
 | 0, _, _, _, _ => none
 | k + 1, x0, x1, x5, x6 => if x6 < x1 then (spec_l1Ones.j1 k x0 x1 x5 x6 (decide (x6 < (x0.size : Int)))) else (spec_l1Ones.j1 k x0 x1 x5 x6 false)
def spec_l1Ones.j1 : Nat → ByteArray → Int → Int → Int → Bool → Option (Int)
 | 0, _, _, _, _, _ => none
 | k + 1, x0, x1, x5, x6, x15 => if x15 = true then (if 0 ≤ x6 then (if x6 < (x0.size : Int) then (if (bt x0 x6) = 49 then (spec_l1Ones.l0 k x0 x1 (wrap64 (x5 + 1)) (wrap64 (x6 + 1))) else (spec_l1Ones.l0 k x0 x1 x5 (wrap64 (x6 + 1)))) else (none)) else (none)) else (some x5)
end
def spec_l1Ones.f (k : Nat) (a0 : ByteArray) (a1 : Int) : Option (Int) := spec_l1Ones.l0 k a0 a1 0 0
def spec_l3Kids.f (k : Nat) (a0_0 : ByteArray) (a0_1 : ByteArray) (a0_2 : ByteArray) (l0_3 : List ByteArray) (a0_4 : Int) (a1 : Int) : Option (Int × Int) := (spec_l1Ones.f k a0_1 (wrap64 (a1 + 1))).bind fun t410 => ((spec_l1One.f k a0_2 t410).bind fun t411 => ((spec_l1One.f k a0_2 (wrap64 (t410 + 1))).bind fun t412 => (some (t411, t412))))
mutual
def spec_l3Add.l0 : Nat → Int → ByteArray → List ByteArray → Int → ByteArray → ByteArray → ByteArray → List ByteArray → Int → Option (List ByteArray)
 | 0, _, _, _, _, _, _, _, _, _ => none
 | k + 1, x2, x3, x4, x11, x414000, x414001, x414002, x414003, x414004 => if x11 < x2 then (if x11 < (x414000.size : Int) then (spec_l3Add.j1 k x2 x3 x4 x11 (decide ((x3.size : Int) ≤ 5)) x414000 x414001 x414002 x414003 x414004) else (spec_l3Add.j1 k x2 x3 x4 x11 false x414000 x414001 x414002 x414003 x414004)) else (spec_l3Add.j1 k x2 x3 x4 x11 false x414000 x414001 x414002 x414003 x414004)
def spec_l3Add.j1 : Nat → Int → ByteArray → List ByteArray → Int → Bool → ByteArray → ByteArray → ByteArray → List ByteArray → Int → Option (List ByteArray)
 | 0, _, _, _, _, _, _, _, _, _, _ => none
 | k + 1, x2, x3, x4, x11, x31, x414000, x414001, x414002, x414003, x414004 => if x31 = true then (if 0 ≤ x11 then (if x11 < (x414000.size : Int) then (if (bt x414000 x11) = 45 then (spec_l3Add.j2 k x2 x3 x4 x11 x3 x414000 x414001 x414002 x414003 x414004) else (if x11 ≤ (wrap64 (x11 + 1)) then (if (wrap64 (x11 + 1)) ≤ (x414000.size : Int) then (if x3.size + (x414000.extract (x11 : Int).toNat ((wrap64 (x11 + 1)) : Int).toNat).size ≤ 9223372036854775807 then (spec_l3Add.j2 k x2 x3 x4 x11 (x3 ++ (x414000.extract (x11 : Int).toNat ((wrap64 (x11 + 1)) : Int).toNat)) x414000 x414001 x414002 x414003 x414004) else (none)) else (none)) else (none))) else (none)) else (none)) else (some x4)
def spec_l3Add.j2 : Nat → Int → ByteArray → List ByteArray → Int → ByteArray → ByteArray → ByteArray → ByteArray → List ByteArray → Int → Option (List ByteArray)
 | 0, _, _, _, _, _, _, _, _, _, _ => none
 | k + 1, x2, x3, x4, x11, x12, x414000, x414001, x414002, x414003, x414004 => if 0 ≤ x11 then (if x11 < (x414001.size : Int) then (if (bt x414001 x11) = 49 then ((spec_l3Kids.f k x414000 x414001 x414002 x414003 x414004 x11).bind fun bt414 => (if bt414.1 ≤ x11 then (some x4) else ((spec_l3Add.f k x414000 x414001 x414002 x414003 x414004 bt414.1 bt414.2 x12 x4).bind fun t416 => (spec_l3Add.l0 k x2 x3 t416 (wrap64 (x11 + 1)) x414000 x414001 x414002 x414003 x414004)))) else ((spec_l1Ones.f k x414001 x11).bind fun t419 => (if (wrap64 (x11 - t419)) < (x414003.length : Int) then (if 0 ≤ (wrap64 (x11 - t419)) then (if x12.size + (rdOf ByteArray.empty x414003 (wrap64 (x11 - t419))).size ≤ 9223372036854775807 then (if x4.length < 8796093022208 then (spec_l3Add.l0 k x2 x3 (x4 ++ [x12 ++ (rdOf ByteArray.empty x414003 (wrap64 (x11 - t419)))]) (wrap64 (x11 + 1)) x414000 x414001 x414002 x414003 x414004) else (none)) else (none)) else (none)) else (spec_l3Add.l0 k x2 x3 x4 (wrap64 (x11 + 1)) x414000 x414001 x414002 x414003 x414004)))) else (none)) else (none)
def spec_l3Add.f : Nat → ByteArray → ByteArray → ByteArray → List ByteArray → Int → Int → Int → ByteArray → List ByteArray → Option (List ByteArray)
 | 0, _, _, _, _, _, _, _, _, _ => none
 | k + 1, a0_0, a0_1, a0_2, l0_3, a0_4, a1, a2, a3, l4 => spec_l3Add.l0 k a2 a3 l4 a1 a0_0 a0_1 a0_2 l0_3 a0_4
end
def spec_l3Heads.f (k : Nat) (a0_0 : ByteArray) (a0_1 : ByteArray) (a0_2 : ByteArray) (l0_3 : List ByteArray) (a0_4 : Int) : Option (List ByteArray) := (spec_l1One.f k a0_2 1).bind fun t425 => ((spec_l3Add.f k a0_0 a0_1 a0_2 l0_3 a0_4 0 t425 (⟨#[]⟩ : ByteArray) (([] : List ByteArray))).bind fun t429 => (some t429))
def spec_BitsOk.l0 : Nat → ByteArray → Int → Option (Bool)
 | 0, _, _ => none
 | k + 1, x0, x3 => if x3 < (x0.size : Int) then (if 0 ≤ x3 then (if (bt x0 x3) = 48 then (spec_BitsOk.l0 k x0 (wrap64 (x3 + 1))) else (if (bt x0 x3) = 49 then (spec_BitsOk.l0 k x0 (wrap64 (x3 + 1))) else (some false))) else (none)) else (some (decide ((x0.size : Int) ≤ 400)))
def spec_BitsOk.f (k : Nat) (a0 : ByteArray) : Option (Bool) := spec_BitsOk.l0 k a0 0
def spec_l3Form.f (k : Nat) (a0_0 : ByteArray) (a0_1 : ByteArray) (a0_2 : ByteArray) (l0_3 : List ByteArray) (a0_4 : Int) : Option (Bool) := (spec_BitsOk.f k a0_1).bind fun t433 => (if t433 = true then ((spec_BitsOk.f k a0_2).bind fun t434 => (if t434 = true then (if (a0_1.size : Int) = (a0_0.size : Int) then (if (a0_2.size : Int) = (a0_0.size : Int) then ((spec_l1Ones.f k a0_1 (a0_0.size : Int)).bind fun t435 => (if (l0_3.length : Int) = (wrap64 ((a0_0.size : Int) - t435)) then ((spec_l6In.f a0_4 0 5).bind fun t436 => (some t436)) else (some false))) else (some false)) else (some false)) else (some false))) else (some false))
def spec_l3Sames.l0 : Nat → List ByteArray → List ByteArray → Int → Option (Bool)
 | 0, _, _, _ => none
 | k + 1, x0, x1, x5 => if x5 < (x0.length : Int) then (if 0 ≤ x5 then (if x5 < (x1.length : Int) then (if (rdOf ByteArray.empty x0 x5).toList = (rdOf ByteArray.empty x1 x5).toList then (spec_l3Sames.l0 k x0 x1 (wrap64 (x5 + 1))) else (some false)) else (none)) else (none)) else (some true)
def spec_l3Sames.f (k : Nat) (l0 : List ByteArray) (l1 : List ByteArray) : Option (Bool) := if (l0.length : Int) = (l1.length : Int) then (spec_l3Sames.l0 k l0 l1 0) else (some false)
def spec_SieveOk.f (k : Nat) (a0_0 : ByteArray) (a0_1 : ByteArray) (a0_2 : ByteArray) (l0_3 : List ByteArray) (a0_4 : Int) : Option (Bool) := (spec_l3Form.f k a0_0 a0_1 a0_2 l0_3 a0_4).bind fun t440 => (if t440 = true then ((spec_l3Heads.f k a0_0 a0_1 a0_2 l0_3 a0_4).bind fun t441 => ((spec_SieveOf.f k t441 a0_4).bind fun bt444 => (if bt444.2.2.2.2.2 = true then (if bt444.1.toList = a0_0.toList then (if bt444.2.1.toList = a0_1.toList then (if bt444.2.2.1.toList = a0_2.toList then ((spec_l3Sames.f k bt444.2.2.2.1 l0_3).bind fun t453 => (some t453)) else (some false)) else (some false)) else (some false)) else (some false)))) else (some false))
def impl_SieveSize.f (k : Nat) (a0_0 : ByteArray) (a0_1 : ByteArray) (a0_2 : ByteArray) (l0_3 : List ByteArray) (a0_4 : Int) : Option (Int) := (impl_SieveOk.f k a0_0 a0_1 a0_2 l0_3 a0_4).bind fun t487 => (if t487 = true then (some (a0_0.size : Int)) else (some (-1)))
def spec_l6Many.l0 : Nat → ByteArray → Int → ByteArray → Option (ByteArray)
 | 0, _, _, _ => none
 | k + 1, x0, x1, x5 => if x1 > 0 then (if (Int.tmod x1 2) = 1 then (if x5.size + x0.size ≤ 9223372036854775807 then (if x0.size + x0.size ≤ 9223372036854775807 then (spec_l6Many.l0 k (x0 ++ x0) (wrap64 (Int.tdiv x1 2)) (x5 ++ x0)) else (none)) else (none)) else (if x0.size + x0.size ≤ 9223372036854775807 then (spec_l6Many.l0 k (x0 ++ x0) (wrap64 (Int.tdiv x1 2)) x5) else (none))) else (some x5)
def spec_l6Many.f (k : Nat) (a0 : ByteArray) (a1 : Int) : Option (ByteArray) := spec_l6Many.l0 k a0 a1 (⟨#[]⟩ : ByteArray)
def spec_l71Mess.l0 : Nat → List ByteArray → Int → List Int → Int → Option (List ByteArray × Int)
 | 0, _, _, _, _ => none
 | k + 1, x3, x4, x1000, x1001 => if x4 < 30 then ((some (([(⟨#[]⟩ : ByteArray), (⟨#[97]⟩ : ByteArray), (⟨#[98]⟩ : ByteArray), (⟨#[99]⟩ : ByteArray), (⟨#[100]⟩ : ByteArray)] : List ByteArray) : List ByteArray)).bind fun y547 => (if 0 ≤ (Int.tmod x4 5) then (if (Int.tmod x4 5) < (y547.length : Int) then (if 1 + (rdOf ByteArray.empty y547 (Int.tmod x4 5)).size ≤ 9223372036854775807 then ((some (([(⟨#[]⟩ : ByteArray), (⟨#[97]⟩ : ByteArray), (⟨#[98]⟩ : ByteArray), (⟨#[99]⟩ : ByteArray), (⟨#[100]⟩ : ByteArray), (⟨#[100, 97]⟩ : ByteArray)] : List ByteArray) : List ByteArray)).bind fun y551 => (if 0 ≤ (wrap64 (Int.tdiv x4 5)) then (if (wrap64 (Int.tdiv x4 5)) < (y551.length : Int) then (if ((⟨#[100]⟩ : ByteArray) ++ (rdOf ByteArray.empty y547 (Int.tmod x4 5))).size + (rdOf ByteArray.empty y551 (wrap64 (Int.tdiv x4 5))).size ≤ 9223372036854775807 then ((spec_l2Put.f k x3 (((⟨#[100]⟩ : ByteArray) ++ (rdOf ByteArray.empty y547 (Int.tmod x4 5))) ++ (rdOf ByteArray.empty y551 (wrap64 (Int.tdiv x4 5))))).bind fun t555 => (spec_l71Mess.l0 k t555 (wrap64 (x4 + 1)) x1000 x1001)) else (none)) else (none)) else (none))) else (none)) else (none)) else (none))) else (some (x3, x1001))
def spec_l71Mess.f (k : Nat) (s0_0 : List Int) (s0_1 : Int) : Option (List ByteArray × Int) := (spec_l71Keys.f k s0_0 s0_1 8).bind fun bt526 => ((spec_l6Rd_pick.f k s0_0 bt526.2 5).bind fun bt530 => (if bt530.1 = 0 then (if bt526.1.length < 8796093022208 then (some ((bt526.1 ++ [(⟨#[97]⟩ : ByteArray)]), bt530.2)) else (none)) else (if bt530.1 = 1 then ((some (([(⟨#[120]⟩ : ByteArray), (⟨#[101]⟩ : ByteArray)] : List ByteArray) : List ByteArray)).bind fun y535 => (if bt526.1.length + y535.length < 8796093022208 then (some ((bt526.1 ++ y535), bt530.2)) else (none))) else (if bt530.1 = 2 then ((spec_l6Rd_pick.f k s0_0 bt530.2 2).bind fun bt541 => ((spec_l6Many.f k (⟨#[100]⟩ : ByteArray) (wrap64 (5 + bt541.1))).bind fun t543 => (if bt526.1.length < 8796093022208 then (some ((bt526.1 ++ [t543]), bt541.2)) else (none)))) else (if bt530.1 = 3 then (spec_l71Mess.l0 k bt526.1 0 s0_0 bt530.2) else (some (bt526.1, bt530.2)))))))
def spec_DrawSieveOf.f (k : Nat) (l0 : List Int) : Option (List ByteArray × Int) := (spec_l6Open.f l0).bind fun bt558 => ((spec_l71Keys.f k bt558.1 bt558.2 12).bind fun bt561 => ((spec_l6Rd_pick.f k bt558.1 bt561.2 12).bind fun bt565 => (if bt565.1 = 0 then ((spec_l71Mess.f k bt558.1 bt565.2).bind fun bt567 => ((some (([0, 0, 1, 1, 2, 5, 6, (-1)] : List Int) : List Int)).bind fun y571 => ((spec_l6Rd_pick.f k bt558.1 bt567.2 8).bind fun bt574 => (if 0 ≤ bt574.1 then (if bt574.1 < (y571.length : Int) then (some (bt567.1, rd y571 bt574.1)) else (none)) else (none))))) else ((some (([0, 0, 1, 1, 2, 5, 6, (-1)] : List Int) : List Int)).bind fun y577 => ((spec_l6Rd_pick.f k bt558.1 bt565.2 8).bind fun bt580 => (if 0 ≤ bt580.1 then (if bt580.1 < (y577.length : Int) then (some (bt561.1, rd y577 bt580.1)) else (none)) else (none)))))))
def laws_ltSames.l0 : Nat → List ByteArray → List ByteArray → Int → Option (Bool)
 | 0, _, _, _ => none
 | k + 1, x0, x1, x5 => if x5 < (x0.length : Int) then (if 0 ≤ x5 then (if x5 < (x1.length : Int) then (if (rdOf ByteArray.empty x0 x5).toList = (rdOf ByteArray.empty x1 x5).toList then (laws_ltSames.l0 k x0 x1 (wrap64 (x5 + 1))) else (some false)) else (none)) else (none)) else (some true)
def laws_ltSames.f (k : Nat) (l0 : List ByteArray) (l1 : List ByteArray) : Option (Bool) := if (l0.length : Int) = (l1.length : Int) then (laws_ltSames.l0 k l0 l1 0) else (some false)
def laws_ltSieve.f (k : Nat) (a0_0 : ByteArray) (a0_1 : ByteArray) (a0_2 : ByteArray) (l0_3 : List ByteArray) (a0_4 : Int) (a1_0 : ByteArray) (a1_1 : ByteArray) (a1_2 : ByteArray) (l1_3 : List ByteArray) (a1_4 : Int) : Option (Bool) := if a0_0.toList = a1_0.toList then (if a0_1.toList = a1_1.toList then (if a0_2.toList = a1_2.toList then (if a0_4 = a1_4 then ((laws_ltSames.f k l0_3 l1_3).bind fun t609 => (some t609)) else (some false)) else (some false)) else (some false)) else (some false)
def spec_DrawKeyBegins.f (k : Nat) (l0 : List Int) : Option (ByteArray × ByteArray) := (spec_l6Open.f l0).bind fun bt678 => ((spec_l71Key.f k bt678.1 bt678.2).bind fun bt681 => ((spec_l71Near.f k bt678.1 bt681.2 (([bt681.1] : List ByteArray))).bind fun bt686 => (some (bt681.1, bt686.1))))
def impl_SieveHeads.f (k : Nat) (a0_0 : ByteArray) (a0_1 : ByteArray) (a0_2 : ByteArray) (l0_3 : List ByteArray) (a0_4 : Int) : Option (List ByteArray) := (impl_Sieve_heads.f k a0_0 a0_1 a0_2 l0_3 a0_4).bind fun bt870 => ((impl_texts.f k bt870.1).bind fun t874 => (some t874))
def laws_szStringS.l0 : Nat → List ByteArray → Int → Int → Option (Int)
 | 0, _, _, _ => none
 | k + 1, x0, x1, x5 => if x5 < (x0.length : Int) then (if 0 ≤ x5 then (if (wrap64 (x1 - ((rdOf ByteArray.empty x0 x5).size : Int))) < 0 then (some (-1)) else (laws_szStringS.l0 k x0 (wrap64 (x1 - ((rdOf ByteArray.empty x0 x5).size : Int))) (wrap64 (x5 + 1)))) else (none)) else (some x1)
def laws_szStringS.f (k : Nat) (l0 : List ByteArray) (a1 : Int) : Option (Int) := if (wrap64 (a1 - (l0.length : Int))) < 0 then (some (-1)) else (laws_szStringS.l0 k l0 (wrap64 (a1 - (l0.length : Int))) 0)
def laws_szSieve.f (k : Nat) (a0_0 : ByteArray) (a0_1 : ByteArray) (a0_2 : ByteArray) (l0_3 : List ByteArray) (a0_4 : Int) (a1 : Int) : Option (Int) := if (wrap64 (a1 - (a0_0.size : Int))) < 0 then (some (-1)) else (if (wrap64 ((wrap64 (a1 - (a0_0.size : Int))) - (a0_1.size : Int))) < 0 then (some (-1)) else (if (wrap64 ((wrap64 ((wrap64 (a1 - (a0_0.size : Int))) - (a0_1.size : Int))) - (a0_2.size : Int))) < 0 then (some (-1)) else ((laws_szStringS.f k l0_3 (wrap64 ((wrap64 ((wrap64 (a1 - (a0_0.size : Int))) - (a0_1.size : Int))) - (a0_2.size : Int)))).bind fun t1012 => (if t1012 < 0 then (some (-1)) else (some t1012)))))
def laws_toStringS.l0 : Nat → List ByteArray → List ByteArray → Int → Option (List ByteArray)
 | 0, _, _, _ => none
 | k + 1, x0, x3, x4 => if x4 < (x0.length : Int) then (if 0 ≤ x4 then (if x4 < (x3.length : Int) then (laws_toStringS.l0 k x0 (x3.set (x4 : Int).toNat (rdOf ByteArray.empty x0 x4)) (wrap64 (x4 + 1))) else (none)) else (none)) else (some x3)
def laws_toStringS.f (k : Nat) (l0 : List ByteArray) : Option (List ByteArray) := if 0 ≤ (l0.length : Int) then (if ((l0.length : Int) : Int).toNat ≤ 17592186044416 then (laws_toStringS.l0 k l0 (List.replicate ((l0.length : Int) : Int).toNat (⟨#[]⟩ : ByteArray)) 0) else (none)) else (none)
def laws_toSieve.f (k : Nat) (a0_0 : ByteArray) (a0_1 : ByteArray) (a0_2 : ByteArray) (l0_3 : List ByteArray) (a0_4 : Int) : Option (ByteArray × ByteArray × ByteArray × List ByteArray × Int) := (laws_toStringS.f k l0_3).bind fun t1021 => (some (a0_0, a0_1, a0_2, t1021, a0_4))
def laws_eqStringS.l0 : Nat → List ByteArray → List ByteArray → Int → Option (Bool)
 | 0, _, _, _ => none
 | k + 1, x0, x1, x5 => if x5 < (x0.length : Int) then (if 0 ≤ x5 then (if x5 < (x1.length : Int) then (if (rdOf ByteArray.empty x0 x5).toList = (rdOf ByteArray.empty x1 x5).toList then (laws_eqStringS.l0 k x0 x1 (wrap64 (x5 + 1))) else (some false)) else (none)) else (none)) else (some true)
def laws_eqStringS.f (k : Nat) (l0 : List ByteArray) (l1 : List ByteArray) : Option (Bool) := if (l0.length : Int) = (l1.length : Int) then (laws_eqStringS.l0 k l0 l1 0) else (some false)
def laws_eqSieve.f (k : Nat) (a0_0 : ByteArray) (a0_1 : ByteArray) (a0_2 : ByteArray) (l0_3 : List ByteArray) (a0_4 : Int) (a1_0 : ByteArray) (a1_1 : ByteArray) (a1_2 : ByteArray) (l1_3 : List ByteArray) (a1_4 : Int) : Option (Bool) := if a0_0.toList = a1_0.toList then (if a0_1.toList = a1_1.toList then (if a0_2.toList = a1_2.toList then ((laws_eqStringS.f k l0_3 l1_3).bind fun t1028 => (if t1028 = true then (if a0_4 = a1_4 then (some true) else (some false)) else (some false))) else (some false)) else (some false)) else (some false)
def spec_SieveHeads.f (k : Nat) (a0_0 : ByteArray) (a0_1 : ByteArray) (a0_2 : ByteArray) (l0_3 : List ByteArray) (a0_4 : Int) : Option (List ByteArray) := (spec_SieveOk.f k a0_0 a0_1 a0_2 l0_3 a0_4).bind fun t1196 => (if t1196 = true then ((spec_l3Heads.f k a0_0 a0_1 a0_2 l0_3 a0_4).bind fun t1197 => (some t1197)) else (some (([] : List ByteArray))))
def laws_markText.l0 : Nat → Int → ByteArray → Option (ByteArray)
 | 0, _, _ => none
 | k + 1, x0, x3 => if x0 > 0 then ((some (([(wrap64 (48 + (Int.tmod x0 10))) % 256] : List Int) : List Int)).bind fun y1203 => (if (strOfNums y1203).size + x3.size ≤ 9223372036854775807 then (laws_markText.l0 k (wrap64 (Int.tdiv x0 10)) ((strOfNums y1203) ++ x3)) else (none))) else (if 1 + x3.size ≤ 9223372036854775807 then (some ((⟨#[109]⟩ : ByteArray) ++ x3)) else (none))
def laws_markText.f (k : Nat) (a0 : Int) : Option (ByteArray) := if a0 ≤ 0 then (some (⟨#[109, 48]⟩ : ByteArray)) else (laws_markText.l0 k a0 (⟨#[]⟩ : ByteArray))
def laws_markStringS.l0 : Nat → List ByteArray → Int → Int → Option (Int × List ByteArray)
 | 0, _, _, _ => none
 | k + 1, x0, x1, x5 => if x5 < (x0.length : Int) then ((laws_markText.f k x1).bind fun t1206 => (if 0 ≤ x5 then (laws_markStringS.l0 k (x0.set (x5 : Int).toNat t1206) (wrap64 (x1 + 1)) (wrap64 (x5 + 1))) else (none))) else (some (x1, x0))
def laws_markStringS.f (k : Nat) (l0 : List ByteArray) (a1 : Int) : Option (Int × List ByteArray) := laws_markStringS.l0 k l0 a1 0
def laws_markSieve.f (k : Nat) (a0_0 : ByteArray) (a0_1 : ByteArray) (a0_2 : ByteArray) (l0_3 : List ByteArray) (a0_4 : Int) (a1 : Int) : Option (Int × List ByteArray) := (laws_markStringS.f k l0_3 a1).bind fun bt1209 => (some (bt1209.1, bt1209.2))
def laws_heldStringS.l0 : Nat → List ByteArray → Int → Int → Option (Int)
 | 0, _, _, _ => none
 | k + 1, x0, x1, x5 => if x5 < (x0.length : Int) then (if 0 ≤ x5 then ((laws_markText.f k x1).bind fun t1212 => (if (rdOf ByteArray.empty x0 x5).toList = t1212.toList then (laws_heldStringS.l0 k x0 (wrap64 (x1 + 1)) (wrap64 (x5 + 1))) else (some (-1)))) else (none)) else (some x1)
def laws_heldStringS.f (k : Nat) (l0 : List ByteArray) (a1 : Int) : Option (Int) := laws_heldStringS.l0 k l0 a1 0
def laws_FnExactSieveHeads.j0 : Nat → List ByteArray → List ByteArray → Bool → ByteArray → ByteArray → ByteArray → List ByteArray → Int → Option (Bool)
 | 0, _, _, _, _, _, _, _, _ => none
 | k + 1, x4, x6, x42, x1214000, x1214001, x1214002, x1214003, x1214004 => if x42 = true then (some false) else ((laws_markStringS.f k x6 1).bind fun bt1248 => ((laws_heldStringS.f k bt1248.2 1).bind fun t1250 => (if t1250 < 0 then (some false) else (if t1250 = bt1248.1 then ((laws_toSieve.f k x1214000 x1214001 x1214002 x1214003 x1214004).bind fun bt1251 => ((impl_SieveHeads.f k bt1251.1 bt1251.2.1 bt1251.2.2.1 bt1251.2.2.2.1 bt1251.2.2.2.2).bind fun t1258 => ((laws_eqStringS.f k t1258 x4).bind fun t1261 => (if t1261 = true then ((laws_heldStringS.f k bt1248.2 1).bind fun t1262 => (if t1262 < 0 then (some false) else (if t1262 = bt1248.1 then (some true) else (some false)))) else (some false))))) else (some false)))))
def laws_FnExactSieveHeads.f (k : Nat) (a0_0 : ByteArray) (a0_1 : ByteArray) (a0_2 : ByteArray) (l0_3 : List ByteArray) (a0_4 : Int) : Option (Bool) := (laws_szSieve.f k a0_0 a0_1 a0_2 l0_3 a0_4 1048576).bind fun t1214 => (if t1214 < 0 then (some true) else ((laws_toSieve.f k a0_0 a0_1 a0_2 l0_3 a0_4).bind fun bt1215 => ((spec_SieveHeads.f k bt1215.1 bt1215.2.1 bt1215.2.2.1 bt1215.2.2.2.1 bt1215.2.2.2.2).bind fun t1222 => ((laws_toSieve.f k a0_0 a0_1 a0_2 l0_3 a0_4).bind fun bt1225 => ((impl_SieveHeads.f k bt1225.1 bt1225.2.1 bt1225.2.2.1 bt1225.2.2.2.1 bt1225.2.2.2.2).bind fun t1233 => ((laws_eqStringS.f k t1233 t1222).bind fun t1236 => (if t1236 = true then ((laws_toSieve.f k a0_0 a0_1 a0_2 l0_3 a0_4).bind fun bt1237 => ((laws_eqSieve.f k bt1225.1 bt1225.2.1 bt1225.2.2.1 bt1225.2.2.2.1 bt1225.2.2.2.2 bt1237.1 bt1237.2.1 bt1237.2.2.1 bt1237.2.2.2.1 bt1237.2.2.2.2).bind fun t1244 => (if t1244 = true then ((laws_markSieve.f k bt1225.1 bt1225.2.1 bt1225.2.2.1 bt1225.2.2.2.1 bt1225.2.2.2.2 1).bind fun bt1245 => (if bt1245.1 < 0 then (laws_FnExactSieveHeads.j0 k t1222 t1233 true a0_0 a0_1 a0_2 l0_3 a0_4) else ((laws_eqStringS.f k t1233 t1222).bind fun t1247 => (laws_FnExactSieveHeads.j0 k t1222 t1233 (!t1247) a0_0 a0_1 a0_2 l0_3 a0_4)))) else (some false)))) else (some false))))))))
end Go.Proofs.Ytifgcajpkgamgaa.Q
end
section
namespace Go.Proofs.Ytifgcajpkgamgaa.Q
open Go.RowKit Go.Proofs.YtifgcajpkgamgaaW.PrintWords Go.Proofs.YtifgcajpkgamgaaW.PrintLast Go.Proofs.YtifgcajpkgamgaaW.PrintMore
attribute [local go_sem] max2_int min2_int max_two min_two max_three min_three max_four min_four   
set_option linter.unusedVariables false
set_option linter.unusedSimpArgs false
set_option maxHeartbeats 8000000
set_option maxRecDepth 100000
theorem impl_texts.mono_l : ∀ k, (∀ y0 y1 y2 y3, LeO (impl_texts.l0 k y0 y1 y2 y3) (impl_texts.l0 (k + 1) y0 y1 y2 y3))
  | 0 => fun _ _ _ _ r h => by simp [impl_texts.l0] at h
  | k + 1 => by
    have ih0 := impl_texts.mono_l k
    · intro y0 y1 y2 y3
      unfold impl_texts.l0
      repeat' first | (with_reducible first | apply ih0 | exact LeO.refl _ | exact LeO.none _ | refine LeO.ite ?_ ?_ | refine LeO.bind ?_ (fun _ => ?_)) | exact LeO.none _ | refine LeO.ite ?_ ?_ | refine LeO.bind ?_ (fun _ => ?_)
theorem impl_texts.mono : ∀ a0 k, LeO (impl_texts.f k a0) (impl_texts.f (k + 1) a0) := by
  intro a0 k
  have ih0 := impl_texts.mono_l k
  unfold impl_texts.f
  repeat' first | (with_reducible first | apply ih0 | exact LeO.refl _ | exact LeO.none _ | refine LeO.ite ?_ ?_ | refine LeO.bind ?_ (fun _ => ?_)) | exact LeO.none _ | refine LeO.ite ?_ ?_ | refine LeO.bind ?_ (fun _ => ?_)
theorem impl_texts.calls (k : Nat) (A0 : Option Addr) (c0 : Nat) (l0 : List (S93)) (r : List ByteArray) (w : World) (hr0 : Kd.C k93 w A0 l0.length l0) (hc0 : l0.length ≤ c0) (h : impl_texts.f k l0 = some r) :
    Calls Try.prog 90 #[.slice A0 l0.length c0] w fun e w' => ∃ v0_ : Value, e = .returned (v0_) ∧ Kd.R Kd.string 9 w' w.heap.size (fun _ => True) v0_ r ∧ Below w.heap.size w w' := by
 have hu93 := Try.underlying93; have HR0 := z0 hr0; have HC0 := z0 hc0; clear hr0 hc0; have HB := z0 (Below.refl w.heap.size w); have H : (impl_texts.l0 k ([] : List ByteArray) l0 (l0.length : Int) 0) = some r := h; clear h; have H' := z0 H; clear H; go_enter Try.func90, Try.ntmps90; go_wp2
 go_loopg [3, 8] k (fun kq v3 v8 w' => ∃ (x3_1 : List ByteArray) (x8_1 : Int), v8 = .int .i64 x8_1 ∧ Aside0 (impl_texts.l0 kq x3_1 l0 (l0.length : Int) x8_1 = some r) ∧ Aside0 (kq ≤ k) ∧ Aside0 (Kd.R Kd.string 9 w' w.heap.size (fun _ => True) v3 x3_1) ∧ Aside0 (Below w.heap.size w w'))
 case atStart => exact ⟨(([] : List ByteArray)), (0), zf, H', ⟨Nat.le_refl _⟩, ⟨by first | exact Kd.R_nil _ _ _ _ _ | exact Kd.N_nil _ _ _ _ _ | exact Kd.V_nil _ _ _ _ _ | exact Kd.Q_nil _ _ _ _ _ | exact Kd.S_nil _ _ _ _ _⟩, ⟨zb HB.out⟩⟩
 case round =>
  clear H'; obtain ⟨x3_1, x8_1, rfl, HA, HK1, HO_3, HB⟩ := hrel
  cases gk with
  | zero => exact absurd HA.out (by simp [impl_texts.l0])
  | succ k1 =>
   have H := HA.out; clear HA; simp only [impl_texts.l0] at H
   by_cases c2 : x8_1 < (l0.length : Int)
   ·rw [if_pos c2] at H; have c2b0 := decide_eq_true c2; clear c2; replace H := zn H; obtain ⟨c3, H⟩ := H; have c3b0 := decide_eq_true c3; clear c3; replace H := zn H; obtain ⟨c4, H⟩ := H; have c4b0 := decide_eq_true c4; clear c4; replace H := zn H; obtain ⟨c5, H⟩ := H; have LMc5 := z0 c5; clear c5; obtain ⟨y332, hy332⟩ : ∃ y_ : List ByteArray, y_ = (x3_1 ++ [(rd_T93 l0 x8_1).f0]) := ⟨_, rfl⟩; replace H : (impl_texts.l0 k1 y332 l0 (l0.length : Int) (wrap64 (x8_1 + 1))) = some r := zH2 hy332 H; have Ny332 := z0 hy332; clear hy332; have H' := z0 H; clear H; have p330 : 0 ≤ (x8_1 : Int) := zd; have q330 : x8_1 < (l0.length : Int) := zd; obtain ⟨ad330, e330, hx330_0, hx330_1⟩ := at_T93 HR0.out x8_1 p330 q330; cases e330; replace hx330_0 := (HB.out.cell (World.block_lt_of_cell? w _ hx330_0)).trans hx330_0; replace hx330_1 := (HB.out.cell (World.block_lt_of_cell? w _ hx330_1)).trans hx330_1; replace p330 := eq_true p330; replace q330 := eq_true q330
    go_wp2_with (first | ((with_reducible refine gd 5 ?_); refine zbx 93 #[.string ⟨#[]⟩, .bool false] ?_; intro gb331 hg w6 hbox hb; replace HO_3 := zA HO_3 hb; have BK331 := z0 (hbox); have GE331 := zG hg HB; replace HB := zH HB hb; clear hb hbox hg; have hcz7 := zc2 BK331.out) | ((with_reducible refine gate_builtin (b := .append) (xs := #[.tmp 12, .tmp 15]) rfl ?_); at_builtin; refine Kd.R_append Kd.string (w0 := w) w.heap.size rfl (.tmp 12) (.tmp 15) 23 9 (.string ⟨#[]⟩) 16 rfl Try.underlying23 info9 rfl (by decide) (by omega) u3 x3_1 ((rd_T93 l0 x8_1).f0) [.string ((rd_T93 l0 x8_1).f0)] (fun _ => True) (fun _ => False) rfl (by first | (go_simp; done) | (go_simp; rfl)) ?aP (fun _ hk => hk.elim) ?aF ?aO ?aB ?aS ?aL ?_; (case aP => exact rfl); (case aB => exact (zb HB.out)); (case aF => exact (fun _ _ => trivial)); (case aO => exact (Kd.R_mono (zt HO_3.out BK331.out) (fun _ hk => trivial))); (case aS => exact (below_size (zb HB.out))); (case aL => have := LMc5.out; omega); intro v333 w8 ho hb hg hat; rw [← Ny332.out] at ho; replace BK331 := z0 (blk_grown (zpc BK331.out #[.string ((rd_T93 l0 x8_1).f0), .bool ((rd_T93 l0 x8_1).f1)]) hg (Kd.R_ne HO_3.out BK331.out (by decide))); replace HB := z0 (hb); have HO334 := z0 (ho); clear HO_3; clear ho hb hg hat))
    go_roundg k1
    case measure => have := HK1.out; omega
    case rel => exact ⟨(y332), (wrap64 (x8_1 + 1)), zf, H', ⟨by have := HK1.out; omega⟩, ⟨zr HO334.out⟩, ⟨zb HB.out⟩⟩
   ·rw [if_neg c2] at H; have c2b0 := decide_eq_false c2; clear c2; obtain rfl := Option.some.inj H; go_wp2; go_ret; exact ⟨_, ze, zr HO_3.out, zb HB.out⟩
theorem impl_in.calls (a0 a1 a2 : Int) (r : Bool) (w : World) (h : impl_in.f a0 a1 a2 = some r) :
    Calls Try.prog 99 #[.int .i64 a0, .int .i64 a1, .int .i64 a2] w fun e w' => e = .returned (.bool r) ∧ Drawn0 w w' := by
 have H : (if a1 ≤ a0 then (some (decide (a0 ≤ a2))) else (some false)) = some r := h; clear h
 by_cases c4 : a1 ≤ a0
 ·rw [if_pos c4] at H; have c4b0 := decide_eq_true c4; clear c4; obtain rfl := Option.some.inj H; go_enter Try.func99, Try.ntmps99; go_wp2; go_ret; exact ⟨zf, by repeat (first | exact Drawn0.refl _ | apply Drawn0.step)⟩
 ·rw [if_neg c4] at H; have c4b0 := decide_eq_false c4; clear c4; obtain rfl := Option.some.inj H; go_enter Try.func99, Try.ntmps99; go_wp2; go_ret; exact ⟨zf, by repeat (first | exact Drawn0.refl _ | apply Drawn0.step)⟩
theorem impl_isKeep.calls (a0 : Int) (r : Bool) (w : World) (h : impl_isKeep.f a0 = some r) :
    Calls Try.prog 74 #[.int .i64 a0] w fun e w' => e = .returned (.bool r) ∧ Drawn0 w w' := by
 have H : ((impl_in.f a0 0 5).bind fun t319 => (some t319)) = some r := h; clear h; replace H := zi H; obtain ⟨t319, A2, H⟩ := H; obtain rfl := Option.some.inj H; go_enter Try.func74, Try.ntmps74
 go_wp2_with (first | ((with_reducible refine gc 99 ?_); refine zL (some 4) Try.func99 #[.int .i64 a0, .int .i64 0, .int .i64 5] ?_; (with_reducible refine (impl_in.calls a0 0 5 t319 _ A2.out).mono ?_); rintro e w' ⟨rfl, ⟨nd, rfl⟩⟩; refine ⟨_, rfl, ?_⟩))
 go_ret; exact ⟨zf, by repeat (first | exact Drawn0.refl _ | apply Drawn0.step)⟩
theorem impl_KeyOk.mono_l : ∀ k, (∀ y0 y1 y2, LeO (impl_KeyOk.l0 k y0 y1 y2) (impl_KeyOk.l0 (k + 1) y0 y1 y2))
  | 0 => fun _ _ _ r h => by simp [impl_KeyOk.l0] at h
  | k + 1 => by
    have ih0 := impl_KeyOk.mono_l k
    · intro y0 y1 y2
      unfold impl_KeyOk.l0
      repeat' first | (with_reducible first | apply ih0 | exact LeO.refl _ | exact LeO.none _ | refine LeO.ite ?_ ?_ | refine LeO.bind ?_ (fun _ => ?_)) | exact LeO.none _ | refine LeO.ite ?_ ?_ | refine LeO.bind ?_ (fun _ => ?_)
theorem impl_KeyOk.mono : ∀ a0 k, LeO (impl_KeyOk.f k a0) (impl_KeyOk.f (k + 1) a0) := by
  intro a0 k
  have ih0 := impl_KeyOk.mono_l k
  unfold impl_KeyOk.f
  repeat' first | (with_reducible first | apply ih0 | exact LeO.refl _ | exact LeO.none _ | refine LeO.ite ?_ ?_ | refine LeO.bind ?_ (fun _ => ?_)) | exact LeO.none _ | refine LeO.ite ?_ ?_ | refine LeO.bind ?_ (fun _ => ?_)
theorem impl_KeyOk.calls (k : Nat) (a0 : ByteArray) (r : Bool) (w : World) (h : impl_KeyOk.f k a0 = some r) :
    Calls Try.prog 67 #[.string a0] w fun e w' => e = .returned (.bool r) ∧ Drawn0 w w' := by
 have H : (impl_KeyOk.l0 k a0 (a0.size : Int) 0) = some r := h; clear h; have H' := z0 H; clear H; go_enter Try.func67, Try.ntmps67; go_wp2
 go_loopg [6] k (fun kq v6 w' => ∃ (x6_1 : Int), v6 = .int .i64 x6_1 ∧ Aside0 (impl_KeyOk.l0 kq a0 (a0.size : Int) x6_1 = some r) ∧ Aside0 (kq ≤ k) ∧ Drawn0 w w')
 case atStart => exact ⟨(0), zf, H', ⟨Nat.le_refl _⟩, by repeat (first | exact Drawn0.refl _ | apply Drawn0.step)⟩
 case round =>
  clear H'; obtain ⟨x6_1, rfl, HA, HK1, ⟨m1, rfl⟩⟩ := hrel
  cases gk with
  | zero => exact absurd HA.out (by simp [impl_KeyOk.l0])
  | succ k1 =>
   have H := HA.out; clear HA; simp only [impl_KeyOk.l0] at H
   by_cases c2 : x6_1 < (a0.size : Int)
   ·rw [if_pos c2] at H; have c2b0 := decide_eq_true c2; clear c2; replace H := zn H; obtain ⟨c3, H⟩ := H; have c3b0 := decide_eq_true c3; clear c3; replace H := zn H; obtain ⟨c4, H⟩ := H; have c4b0 := decide_eq_true c4; clear c4
    by_cases c6 : (bt a0 x6_1) < 97
    ·rw [if_pos c6] at H; have c6b0 := decide_eq_true c6; clear c6; obtain rfl := Option.some.inj H; have p5 : 0 ≤ (x6_1 : Int) := zd; have q5 : x6_1 < (a0.size : Int) := zd; have hx5 := bt_at a0 x6_1; replace p5 := eq_true p5; replace q5 := eq_true q5; go_wp2; go_ret; exact ⟨zf, by repeat (first | exact Drawn0.refl _ | apply Drawn0.step)⟩
    ·rw [if_neg c6] at H; have c6b0 := decide_eq_false c6; clear c6
     by_cases c8 : (bt a0 x6_1) > 100
     ·rw [if_pos c8] at H; have c8b0 : decide (100 < (bt a0 x6_1)) = true := decide_eq_true c8; clear c8; obtain rfl := Option.some.inj H; have p5 : 0 ≤ (x6_1 : Int) := zd; have q5 : x6_1 < (a0.size : Int) := zd; have hx5 := bt_at a0 x6_1; replace p5 := eq_true p5; replace q5 := eq_true q5; have p7 : 0 ≤ (x6_1 : Int) := zd; have q7 : x6_1 < (a0.size : Int) := zd; have hx7 := bt_at a0 x6_1; replace p7 := eq_true p7; replace q7 := eq_true q7; go_wp2; go_ret; exact ⟨zf, by repeat (first | exact Drawn0.refl _ | apply Drawn0.step)⟩
     ·rw [if_neg c8] at H; have c8b0 : decide (100 < (bt a0 x6_1)) = false := decide_eq_false c8; clear c8; have H' := z0 H; clear H; have p5 : 0 ≤ (x6_1 : Int) := zd; have q5 : x6_1 < (a0.size : Int) := zd; have hx5 := bt_at a0 x6_1; replace p5 := eq_true p5; replace q5 := eq_true q5; have p7 : 0 ≤ (x6_1 : Int) := zd; have q7 : x6_1 < (a0.size : Int) := zd; have hx7 := bt_at a0 x6_1; replace p7 := eq_true p7; replace q7 := eq_true q7; go_wp2; go_roundg k1
      case measure => have := HK1.out; omega
      case rel => exact ⟨(wrap64 (x6_1 + 1)), zf, H', ⟨by have := HK1.out; omega⟩, by repeat (first | exact Drawn0.refl _ | apply Drawn0.step)⟩
   ·rw [if_neg c2] at H; have c2b0 := decide_eq_false c2; clear c2; obtain rfl := Option.some.inj H; go_wp2; go_ret; exact ⟨zf, by repeat (first | exact Drawn0.refl _ | apply Drawn0.step)⟩
theorem impl_KeysOk.mono_l : ∀ k, (∀ y0 y1 y2 y3, LeO (impl_KeysOk.l0 k y0 y1 y2 y3) (impl_KeysOk.l0 (k + 1) y0 y1 y2 y3))
  | 0 => fun _ _ _ _ r h => by simp [impl_KeysOk.l0] at h
  | k + 1 => by
    have ih0 := impl_KeysOk.mono_l k
    · intro y0 y1 y2 y3
      unfold impl_KeysOk.l0
      repeat' first | (with_reducible first | apply ih0 | apply impl_KeyOk.mono | exact LeO.refl _ | exact LeO.none _ | refine LeO.ite ?_ ?_ | refine LeO.bind ?_ (fun _ => ?_)) | exact LeO.none _ | refine LeO.ite ?_ ?_ | refine LeO.bind ?_ (fun _ => ?_)
theorem impl_KeysOk.mono : ∀ a0 k, LeO (impl_KeysOk.f k a0) (impl_KeysOk.f (k + 1) a0) := by
  intro a0 k
  have ih0 := impl_KeysOk.mono_l k
  unfold impl_KeysOk.f
  repeat' first | (with_reducible first | apply ih0 | apply impl_KeyOk.mono | exact LeO.refl _ | exact LeO.none _ | refine LeO.ite ?_ ?_ | refine LeO.bind ?_ (fun _ => ?_)) | exact LeO.none _ | refine LeO.ite ?_ ?_ | refine LeO.bind ?_ (fun _ => ?_)
theorem impl_KeysOk.calls (k : Nat) (A0 : Option Addr) (c0 : Nat) (l0 : List ByteArray) (r : Bool) (w : World) (hr0 : Kd.C Kd.string w A0 l0.length l0) (hc0 : l0.length ≤ c0) (h : impl_KeysOk.f k l0 = some r) :
    Calls Try.prog 73 #[.slice A0 l0.length c0] w fun e w' => e = .returned (.bool r) ∧ Drawn0 w w' := by
 have HR0 := z0 hr0; have HC0 := z0 hc0; clear hr0 hc0; have H : (impl_KeysOk.l0 k l0 l0 (l0.length : Int) 0) = some r := h; clear h; have H' := z0 H; clear H; go_enter Try.func73, Try.ntmps73; go_wp2
 go_loopg [7] k (fun kq v7 w' => ∃ (x7_1 : Int), v7 = .int .i64 x7_1 ∧ Aside0 (impl_KeysOk.l0 kq l0 l0 (l0.length : Int) x7_1 = some r) ∧ Aside0 (kq ≤ k) ∧ Drawn0 w w')
 case atStart => exact ⟨(0), zf, H', ⟨Nat.le_refl _⟩, by repeat (first | exact Drawn0.refl _ | apply Drawn0.step)⟩
 case round =>
  clear H'; obtain ⟨x7_1, rfl, HA, HK1, ⟨m1, rfl⟩⟩ := hrel
  cases gk with
  | zero => exact absurd HA.out (by simp [impl_KeysOk.l0])
  | succ k1 =>
   have H := HA.out; clear HA; simp only [impl_KeysOk.l0] at H
   by_cases c2 : x7_1 < (l0.length : Int)
   ·rw [if_pos c2] at H; have c2b0 := decide_eq_true c2; clear c2; replace H := zn H; obtain ⟨c3, H⟩ := H; have c3b0 := decide_eq_true c3; clear c3; replace H := zn H; obtain ⟨c4, H⟩ := H; have c4b0 := decide_eq_true c4; clear c4; replace H := zi H; obtain ⟨t317, A5, H⟩ := H
    by_cases c6 : t317 = true
    ·subst c6
     have H1 : (if x7_1 > 0 then (if 0 ≤ (wrap64 (x7_1 - 1)) then (if (wrap64 (x7_1 - 1)) < (l0.length : Int) then (if ((Op.bytesLess ((rdOf ByteArray.empty l0 (wrap64 (x7_1 - 1))).toList) ((rdOf ByteArray.empty l0 x7_1).toList)) = true) then (impl_KeysOk.l0 k1 l0 l0 (l0.length : Int) (wrap64 (x7_1 + 1))) else (some false)) else (none)) else (none)) else (impl_KeysOk.l0 k1 l0 l0 (l0.length : Int) (wrap64 (x7_1 + 1)))) = some r := by rw [if_pos rfl] at H; exact H
     clear H; have H := H1; clear H1
     by_cases c7 : x7_1 > 0
     ·rw [if_pos c7] at H; have c7b0 : decide (0 < x7_1) = true := decide_eq_true c7; clear c7; obtain ⟨ji8, hji8⟩ : ∃ j_ : Int, (wrap64 (x7_1 - 1)) = j_ := ⟨_, rfl⟩
      replace H : (if 0 ≤ (ji8) then (if (ji8) < (l0.length : Int) then (if ((Op.bytesLess ((rdOf ByteArray.empty l0 (ji8)).toList) ((rdOf ByteArray.empty l0 x7_1).toList)) = true) then (impl_KeysOk.l0 k1 l0 l0 (l0.length : Int) (wrap64 (x7_1 + 1))) else (some false)) else (none)) else (none)) = some r := by first | (rw [hji8] at H; exact H) | (simp only [hji8] at H ⊢; exact H)
      (try rw [hji8] at A5); have hji8w : (IntKind.i64.wrap (x7_1 - 1)) = ji8 := (i64_w _).trans hji8; replace H := zn H; obtain ⟨c9, H⟩ := H; have c9b0 := decide_eq_true c9; clear c9; replace H := zn H; obtain ⟨c10, H⟩ := H; have c10b0 := decide_eq_true c10; clear c10; have p316 : 0 ≤ (x7_1 : Int) := zd; have q316 : x7_1 < (l0.length : Int) := zd; obtain ⟨ad316, e316, hx316_0⟩ := Kd.at_string HR0.out x7_1 p316 q316; cases e316; replace p316 := eq_true p316; replace q316 := eq_true q316
      go_upto_if 27 with (first | ((with_reducible refine gc 67 ?_); refine zL (some 13) Try.func67 #[.string (rdOf ByteArray.empty l0 x7_1)] ?_; (with_reducible refine (impl_KeyOk.calls k1 (rdOf ByteArray.empty l0 x7_1) true _ A5.out).mono ?_); rintro e w' ⟨rfl, ⟨nd, rfl⟩⟩; refine ⟨_, rfl, ?_⟩; have p318 : 0 ≤ ((ji8) : Int) := zd; have q318 : (ji8) < (l0.length : Int) := zd; obtain ⟨ad318, e318, hx318_0⟩ := Kd.at_string HR0.out (ji8) p318 q318; obtain rfl : ad316 = ad318 := (by injection e318); replace p318 := eq_true p318; replace q318 := eq_true q318))
      by_cases c11 : ((Op.bytesLess ((rdOf ByteArray.empty l0 (ji8)).toList) ((rdOf ByteArray.empty l0 x7_1).toList)) = true)
      ·rw [if_pos c11] at H; have c11b0 : (Op.bytesLess ((rdOf ByteArray.empty l0 (ji8)).toList) ((rdOf ByteArray.empty l0 x7_1).toList)) = true := c11; clear c11; (first | rw [c11b0] | (simp only [i64_w, i32_w]; rw [c11b0]) | simp only [*, Bool.not_true, Bool.not_false] | skip); have H' := z0 H; clear H; go_wp2; go_roundg k1
       case measure => have := HK1.out; omega
       case rel => exact ⟨(wrap64 (x7_1 + 1)), zf, H', ⟨by have := HK1.out; omega⟩, by repeat (first | exact Drawn0.refl _ | apply Drawn0.step)⟩
      ·rw [if_neg c11] at H
       have c11b0 : (Op.bytesLess ((rdOf ByteArray.empty l0 (ji8)).toList) ((rdOf ByteArray.empty l0 x7_1).toList)) = false := by simpa using c11
       clear c11; (first | rw [c11b0] | (simp only [i64_w, i32_w]; rw [c11b0]) | simp only [*, Bool.not_true, Bool.not_false] | skip); obtain rfl := Option.some.inj H; go_wp2; go_ret; exact ⟨by first | rfl | (simp; done) | (simp only [← hji8] <;> (first | rfl | simp)) | (simp [*]; done), by repeat (first | exact Drawn0.refl _ | apply Drawn0.step)⟩
     ·rw [if_neg c7] at H; have c7b0 : decide (0 < x7_1) = false := decide_eq_false c7; clear c7; have H' := z0 H; clear H; have p316 : 0 ≤ (x7_1 : Int) := zd; have q316 : x7_1 < (l0.length : Int) := zd; obtain ⟨ad316, e316, hx316_0⟩ := Kd.at_string HR0.out x7_1 p316 q316; cases e316; replace p316 := eq_true p316; replace q316 := eq_true q316
      go_wp2_with (first | ((with_reducible refine gc 67 ?_); refine zL (some 13) Try.func67 #[.string (rdOf ByteArray.empty l0 x7_1)] ?_; (with_reducible refine (impl_KeyOk.calls k1 (rdOf ByteArray.empty l0 x7_1) true _ A5.out).mono ?_); rintro e w' ⟨rfl, ⟨nd, rfl⟩⟩; refine ⟨_, rfl, ?_⟩))
      go_roundg k1
      case measure => have := HK1.out; omega
      case rel => exact ⟨(wrap64 (x7_1 + 1)), zf, H', ⟨by have := HK1.out; omega⟩, by repeat (first | exact Drawn0.refl _ | apply Drawn0.step)⟩
    ·replace c6 := Bool.eq_false_iff.mpr c6; subst c6
     have H1 : (some false) = some r := by rw [if_neg (show ¬ (false = true) by decide)] at H; exact H
     clear H; have H := H1; clear H1; obtain rfl := Option.some.inj H; have p316 : 0 ≤ (x7_1 : Int) := zd; have q316 : x7_1 < (l0.length : Int) := zd; obtain ⟨ad316, e316, hx316_0⟩ := Kd.at_string HR0.out x7_1 p316 q316; cases e316; replace p316 := eq_true p316; replace q316 := eq_true q316
     go_wp2_with (first | ((with_reducible refine gc 67 ?_); refine zL (some 13) Try.func67 #[.string (rdOf ByteArray.empty l0 x7_1)] ?_; (with_reducible refine (impl_KeyOk.calls k1 (rdOf ByteArray.empty l0 x7_1) false _ A5.out).mono ?_); rintro e w' ⟨rfl, ⟨nd, rfl⟩⟩; refine ⟨_, rfl, ?_⟩))
     go_ret; exact ⟨zf, by repeat (first | exact Drawn0.refl _ | apply Drawn0.step)⟩
   ·rw [if_neg c2] at H; have c2b0 := decide_eq_false c2; clear c2; obtain rfl := Option.some.inj H; go_wp2; go_ret; exact ⟨zf, by repeat (first | exact Drawn0.refl _ | apply Drawn0.step)⟩
theorem impl_label.calls (a0 : ByteArray) (a1 r : Int) (w : World) (h : impl_label.f a0 a1 = some r) :
    Calls Try.prog 103 #[.string a0, .int .i64 a1] w fun e w' => e = .returned (.int .u8 r) ∧ Drawn0 w w' := by
 have H : (if (a0.size : Int) = a1 then (some 45) else (if 0 ≤ a1 then (if a1 < (a0.size : Int) then (some (bt a0 a1)) else (none)) else (none))) = some r := h; clear h
 by_cases c3 : (a0.size : Int) = a1
 ·rw [if_pos c3] at H; have c3b0 : ((a0.size : Int) == a1) = true := beq_iff_eq.mpr c3; have c3b1 : ((a0.size : Int) != a1) = false := bne_eq_false_iff_eq.mpr c3; clear c3; obtain rfl := Option.some.inj H; go_enter Try.func103, Try.ntmps103; go_wp2; go_ret; exact ⟨zf, by repeat (first | exact Drawn0.refl _ | apply Drawn0.step)⟩
 ·rw [if_neg c3] at H; have c3b0 : ((a0.size : Int) == a1) = false := beq_eq_false_iff_ne.mpr c3; have c3b1 : ((a0.size : Int) != a1) = true := bne_iff_ne.mpr c3; replace H := zn H; obtain ⟨c4, H⟩ := H; have c4b0 := decide_eq_true c4; clear c4; replace H := zn H; obtain ⟨c5, H⟩ := H; have c5b0 := decide_eq_true c5; clear c5; obtain rfl := Option.some.inj H; have p6 : 0 ≤ (a1 : Int) := zd; have q6 : a1 < (a0.size : Int) := zd; have hx6 := bt_at a0 a1; replace p6 := eq_true p6; replace q6 := eq_true q6; go_enter Try.func103, Try.ntmps103; go_wp2; go_ret; exact ⟨zf, by repeat (first | exact Drawn0.refl _ | apply Drawn0.step)⟩
end Go.Proofs.Ytifgcajpkgamgaa.Q
end
section
namespace Go.Proofs.Ytifgcajpkgamgaa.Hand
open Go Go.RowKit Go.Proofs.Ytifgcajpkgamgaa.Q Go.Proofs.YtifgcajpkgamgaaW.PrintWords Go.Proofs.YtifgcajpkgamgaaW.PrintLast Go.Proofs.YtifgcajpkgamgaaW.PrintMore
set_option linter.unusedVariables false
set_option linter.unusedSimpArgs false
theorem sizeBuilder : (Try.prog.info? 106).map (·.size) = some 2 := by kernel_rfl
theorem liesBuilder : liesAt Try.prog Try.prog.depth 106 (2 / Try.prog.cellsOf 106) 0 106 1 = true := by kernel_rfl
set_option maxHeartbeats 1000000 in
set_option maxRecDepth 100000 in
theorem copyCheck_used (b : Nat) (w : World) (h0 : w.cell? ⟨b, 0, none⟩ = some (.pointer (some ⟨b, 0, none⟩))) :
  Calls Try.prog 126 #[.pointer (some ⟨b, 0, none⟩)] w fun e w' => e = .returned (.tuple #[]) ∧ w' = w := by
 obtain ⟨j, hj, _⟩ := Option.map_eq_some_iff.1 sizeBuilder
 go_enter Try.func126, Try.ntmps126
 go_wp2
 rw [Lib.run_neq_ptr_same w _ Try.underlying104 hj]
 go_wp2
 go_end0
 exact ⟨rfl, rfl⟩
set_option maxHeartbeats 1000000 in
set_option maxRecDepth 100000 in
theorem copyCheck_fresh (b : Nat) (w : World) (h0 : w.cell? ⟨b, 0, none⟩ = some (.pointer none)) (hsh : w.shape? b = some (106, 2)) (hfz : w.frozen? ⟨b, 0, none⟩ = false) :
  Calls Try.prog 126 #[.pointer (some ⟨b, 0, none⟩)] w fun e w' => e = .returned (.tuple #[]) ∧ w' = w.setCell ⟨b, 0, none⟩ (.pointer (some ⟨b, 0, none⟩)) := by
 obtain ⟨j, hj, hjs⟩ := Option.map_eq_some_iff.1 sizeBuilder
 go_enter Try.func126, Try.ntmps126
 go_wp2
 rw [Lib.run_to_unsafe w ⟨b, 0, none⟩ Try.underlying104 Try.underlying137 hj (by rw [hjs]; decide) hsh (Nat.zero_lt_succ 1)]
 simp only [Result.andThen]
 rw [Oper.upon_value]
 go_wp2
 rw [run_callFunc_extern Try.func140 (by kernel_rfl) (by kernel_rfl) (by kernel_rfl) (e := Extern.AbiNoEscape.same) (by kernel_rfl)]
 rw [Lib.run_noEscape]
 simp only [Result.andThen]
 rw [Oper.upon_value]
 go_wp2
 rw [Lib.run_from_unsafe w ⟨b, 0, none⟩ Try.underlying137 Try.underlying104 hj hsh liesBuilder]
 simp only [Result.andThen]
 rw [Oper.upon_value]
 go_wp2
 go_end0
 exact ⟨rfl, rfl⟩
structure Bld (w : World) (base b : Nat) (p v : Value) (l : List Int) : Prop where
 self : p = .pointer none ∨ p = .pointer (some ⟨b, 0, none⟩)
 box : w.heap[b]? = some (.cells #[p, v] 106 (0, 0))
 row : Kd.R (Kd.int .u8) 5 w base (fun k => some k = v.ownBlock) v l
 low : base ≤ b
set_option maxHeartbeats 1000000 in
theorem copyCheck {w : World} {base b : Nat} {p v : Value} {l : List Int} (h : Bld w base b p v l) :
  Calls Try.prog 126 #[.pointer (some ⟨b, 0, none⟩)] w fun e w' => e = .returned (.tuple #[]) ∧ Aside0 (Bld w' base b (.pointer (some ⟨b, 0, none⟩)) v l ∧ Kept w w' (fun k => k = b) ∧ w'.heap.size = w.heap.size ∧ Below base w w') := by
 have hne : ∀ k, some k = v.ownBlock → ¬ k = b := by
  rintro k hk rfl
  exact Kd.R_ne h.row h.box (by decide) hk
 rcases h.self with rfl | rfl
 ·refine (copyCheck_fresh b w (by simp [World.cell?, h.box]) (by simp [World.shape?, h.box]) (by simp [World.frozen?, h.box])).mono ?_
  rintro e w' ⟨rfl, rfl⟩
  have hk : Kept w (w.setCell ⟨b, 0, none⟩ (.pointer (some ⟨b, 0, none⟩))) (fun k => k = b) := Kept.setCell (p := ⟨b, 0, none⟩) (Kept.refl w (fun k => k = b)) (.inl rfl) _
  refine ⟨rfl, Aside0.mk ⟨⟨.inr rfl, ?_, Kd.R_kept h.row hk hne, h.low⟩, hk, by simp [World.setCell], (Below.refl base w).setCell (p := ⟨b, 0, none⟩) h.low _⟩⟩
  exact blk_set h.box 0 _
 ·refine (copyCheck_used b w (by simp [World.cell?, h.box])).mono ?_
  rintro e w' ⟨rfl, rfl⟩
  exact ⟨rfl, Aside0.mk ⟨h, Kept.refl _ _, rfl, Below.refl _ _⟩⟩
set_option maxHeartbeats 2000000 in
set_option maxRecDepth 100000 in
theorem writeByte {w : World} {base b : Nat} {p v : Value} {l : List Int} (c : Int) (h : Bld w base b p v l) (hbase : base ≤ w.heap.size) (hl : (l.length + 1) * 1 ≤ 140737488355328) :
  Calls Try.prog 109 #[.pointer (some ⟨b, 0, none⟩), .int .u8 c] w fun e w' => e = .returned .nilIface ∧ ∃ v', Bld w' base b (.pointer (some ⟨b, 0, none⟩)) v' (l ++ [c]) ∧
   (v'.ownBlock = v.ownBlock ∨ ∃ k, v'.ownBlock = some k ∧ w.heap.size ≤ k) ∧ Kept w w' (fun k => k = b ∨ some k = v.ownBlock) ∧ Below base w w' := by
 go_enter Try.func109, Try.ntmps109
 have A0 := Aside0.mk h
 clear h
 go_wp2_with (first | ((with_reducible refine gate_callee (f := 126) rfl ?_); refine goesL_ (some 6) rfl rfl Try.func126 (by kernel_rfl) rfl #[.pointer (some ⟨b, 0, none⟩)] rfl (by (try simp only [List.map_toArray, List.map_cons, List.map_nil]); first | done | rfl) ?_; (with_reducible refine (copyCheck A0.out).mono ?_); rintro e w1 ⟨rfl, A1⟩; refine ⟨_, rfl, ?_⟩; have c0 : w1.cell? ⟨b, 0, none⟩ = some (.pointer (some ⟨b, 0, none⟩)) := (by rw [Lib.cell_of_heap A1.out.1.box]; rfl); have c1 : w1.cell? ⟨b, 1, none⟩ = some v := (by rw [Lib.cell_of_heap A1.out.1.box]; rfl)) | ((with_reducible refine gate_builtin (b := .append) (xs := #[.tmp 11, .tmp 13]) rfl ?_); at_builtin; refine Kd.R_append (Kd.int .u8) (w0 := w1) base rfl (.tmp 11) (.tmp 13) 22 5 (.int .u8 0) 1 rfl Try.underlying22 info5 rfl (by decide) (by omega) v l c [.int .u8 c] (fun _ => True) (fun _ => False) rfl rfl rfl (fun _ h => h.elim) (fun _ _ => trivial) ?aO (Below.refl _ _) ?aB hl ?_))
 case aO => exact Kd.R_mono A1.out.1.row (fun _ _ => trivial)
 case aB => have := A1.out.2.2.1; omega
 intro v' w2 hown' hbel hgrow hat
 obtain ⟨h1, k1, s1, b1⟩ := A1.out
 have hb1 := h1.box
 have hneb : some b ≠ v.ownBlock := Kd.R_ne h1.row hb1 (by decide)
 have hb2 : w2.heap[b]? = some (.cells #[.pointer (some ⟨b, 0, none⟩), v] 106 (0, 0)) := (hgrow.block b (blk_lt hb1) hneb).trans hb1
 have d0 : w2.cell? ⟨b, 0, none⟩ = some (.pointer (some ⟨b, 0, none⟩)) := by simp [World.cell?, hb2]
 have d1 : w2.cell? ⟨b, 1, none⟩ = some v := by simp [World.cell?, hb2]
 have f1 : w2.frozen? ⟨b, 1, none⟩ = false := by simp [World.frozen?, hb2]
 obtain ⟨ao, n', cap, rfl⟩ : ∃ ao n' cap, v' = .slice ao n' cap := by
  obtain ⟨A, c, hv, _⟩ := hown'.2.slice_
  exact ⟨_, _, _, hv⟩
 go_wp2
 go_ret
 have hne2 : ∀ k, some k = (Value.slice ao n' cap).ownBlock → ¬ k = b := by
  rintro k hk rfl
  exact Kd.R_ne hown' hb2 (by decide) hk
 have hk2 : Kept w2 (w2.setCell ⟨b, 1, none⟩ (.slice ao n' cap)) (fun k => k = b) := Kept.setCell (p := ⟨b, 1, none⟩) (Kept.refl w2 (fun k => k = b)) (.inl rfl) _
 have hg : Kept w1 w2 (fun k => some k = v.ownBlock) := ⟨hgrow.size, fun i hi hn => hgrow.block i hi hn⟩
 refine ⟨rfl, _, ⟨.inr rfl, blk_set hb2 1 _, ?_, h1.low⟩, ?_, ?_, ?_⟩
 ·exact Kd.R_kept (Kd.R_tight rfl hown') hk2 hne2
 ·rcases hat with e | ⟨k, e, hk⟩
  ·exact .inl e
  ·exact .inr ⟨k, e, by omega⟩
 ·have hA : Kept w w1 (fun k => k = b ∨ some k = v.ownBlock) := k1.mono (fun k hk => .inl hk)
  have hB : Kept w1 w2 (fun k => k = b ∨ some k = v.ownBlock) := hg.mono (fun k hk => .inr hk)
  exact (hA.then_ hB (fun k hk => .inl hk)).then_ hk2 (fun k hk => .inl (.inl hk))
 ·exact (b1.trans hbel).setCell (p := ⟨b, 1, none⟩) h1.low _
def nums (l : List UInt8) : List Int := l.map fun b => (b.toNat : Int)
theorem nums_cells (l : List UInt8) : encs (Value.int .u8) (nums l) = Lib.byteCells l := by simp [encs, nums, Lib.byteCells]
theorem nums_length (l : List UInt8) : (nums l).length = l.length := by simp [nums]
theorem cellsByte : Try.prog.cellsOf 5 = 1 := by kernel_rfl
set_option maxHeartbeats 2000000 in
set_option maxRecDepth 100000 in
theorem string_some {w : World} {base b : Nat} {p v : Value} {l : List UInt8} (h : Bld w base b p v (nums l)) (h0 : l ≠ []) :
  Calls Try.prog 110 #[.pointer (some ⟨b, 0, none⟩)] w fun e w' => e = .returned (.string ⟨l.toArray⟩) ∧ Kept w w' (fun k => some k = v.ownBlock) ∧ Below base w w' := by
 have hl0 : l.length ≠ 0 := by simpa using h0
 have hbk := h.box
 have hown := Kd.own_of_R h.row
 rw [nums_cells, nums_length] at hown
 obtain ⟨g, cap, cur, rfl, hbg, hg, hnc, hcm, hcs, htake⟩ : ∃ g cap cur, v = .slice (some ⟨g, 0, none⟩) l.length cap ∧ base ≤ g ∧ w.heap[g]? = some (.cells cur 5 (0, 0)) ∧ l.length ≤ cap ∧ cap ≤ maxLen ∧ cur.size = cap * 1 ∧ cur.toList.take (l.length * 1) = Lib.byteCells l := by
  rcases hown.2 with ⟨_, hz⟩ | ⟨g, cap, cur, hv, r⟩
  ·exact absurd hz hl0
  ·exact ⟨g, cap, cur, hv, r⟩
 have c1 : w.drew.cell? ⟨b, 1, none⟩ = some (.slice (some ⟨g, 0, none⟩) l.length cap) := by
  have : w.drew.heap[b]? = some (.cells #[p, .slice (some ⟨g, 0, none⟩) l.length cap] 106 (0, 0)) := hbk
  rw [Lib.cell_of_heap this]; rfl
 have hSD : (Builtin.unsafeSliceData_ #[22] 124 #[.slice (some ⟨g, 0, none⟩) l.length cap]).run Try.prog w.drew = .ok (.pointer (some ⟨g, 0, none⟩)) w.drew :=
  Lib.run_unsafeSliceData_row _ _ _ _ _ _ (by omega)
 have hUS : (Builtin.unsafeString_ #[124, 3] 9 #[.pointer (some ⟨g, 0, none⟩), .int .i64 l.length]).run Try.prog w.drew = .ok (.string ⟨l.toArray⟩) (w.drew.freeze ⟨g, 0, none⟩ l.length) := by
  refine Lib.run_unsafeString_row w.drew 124 3 9 5 Try.underlying124 cellsByte g cur.size (by have hg' : w.drew.heap[g]? = some (.cells cur 5 (0, 0)) := hg; simp [World.shape?, hg']) l h0 (by omega) (by unfold maxLen at hcm; omega) ?_
  intro j x hx
  have := hown.cells (g := g) rfl j (.int .u8 x.toNat) (by simp [Lib.byteCells, hx])
  exact this
 have HK : Kept w (w.drew.freeze ⟨g, 0, none⟩ l.length) (fun k => some k = (Value.slice (some ⟨g, 0, none⟩) l.length cap).ownBlock) := by
  have hf : ∀ k, k ≠ g → (w.drew.freeze ⟨g, 0, none⟩ l.length).heap[k]? = w.heap[k]? := by
   intro k hk
   have hk' : g ≠ k := fun e => hk e.symm
   have e1 : w.drew.heap = w.heap := rfl
   rw [← e1]
   simp only [World.freeze, if_neg hl0, Array.getElem?_modify, if_neg hk']
  have hz : (w.drew.freeze ⟨g, 0, none⟩ l.length).heap.size = w.heap.size := by
   have e1 : w.drew.heap = w.heap := rfl
   rw [← e1]
   simp only [World.freeze, if_neg hl0, Array.size_modify]
  refine ⟨by omega, fun i hi hn => hf i (fun e => hn (by rw [e]; rfl))⟩
 have HB := Lib.below_freeze (Below.drew (Below.refl base w)) (p := ⟨g, 0, none⟩) hbg l.length
 have A0 := Aside0.mk (And.intro HK HB)
 clear HK HB hown htake hcs hcm hnc hg h
 go_enter Try.func110, Try.ntmps110
 go_wp2
 go_region
 all_goals (go_wp2; go_ret; exact ⟨rfl, A0.out⟩)
set_option maxHeartbeats 2000000 in
set_option maxRecDepth 100000 in
theorem string_none {w : World} (base b : Nat) (p : Value) (hbk : w.heap[b]? = some (.cells #[p, .slice none 0 0] 106 (0, 0))) :
  Calls Try.prog 110 #[.pointer (some ⟨b, 0, none⟩)] w fun e w' => e = .returned (.string ⟨#[]⟩) ∧ Kept w w' (fun _ => False) ∧ Below base w w' := by
 have hUS : ∀ (W : World) (q : Option Addr), (Builtin.unsafeString_ #[124, 3] 9 #[.pointer q, .int .i64 0]).run Try.prog W = .ok (.string .empty) W := fun W q => Lib.run_unsafeString_none W _ _ _ q
 have c1 : w.drew.cell? ⟨b, 1, none⟩ = some (.slice none 0 0) := by
  have : w.drew.heap[b]? = some (.cells #[p, .slice none 0 0] 106 (0, 0)) := hbk
  rw [Lib.cell_of_heap this]; rfl
 have hSD : (Builtin.unsafeSliceData_ #[22] 124 #[.slice none 0 0]).run Try.prog w.drew = .ok (.pointer none) w.drew := rfl
 go_enter Try.func110, Try.ntmps110
 go_wp2
 go_region
 all_goals (go_wp2; go_ret; exact ⟨rfl, Kept.drew (Kept.refl _ _), Below.drew (Below.refl base w)⟩)
theorem info108 : (Try.prog.info? 108).map (fun i => (i.zero, i.size, i.bytes)) = some (some (.agg #[(.slice none 0 0), (.int .i64 0)]), 2, 32) := by kernel_rfl
theorem Bld.kept {w w' : World} {base b : Nat} {p v : Value} {l : List Int} {S : Nat → Prop} (h : Bld w base b p v l) (hk : Kept w w' S) (hb : ¬ S b) (hv : ∀ k, some k = v.ownBlock → ¬ S k) : Bld w' base b p v l :=
 ⟨h.self, blk_kept h.box hk hb, Kd.R_kept h.row hk hv, h.low⟩
def tri (L M F : List Int) : Nat → List Int
 | 0 => L
 | 1 => M
 | _ => F
abbrev kq (w0 : World) : Kd S108 := Kd.fixed k108 w0
def boxS (vR : Value) (keep : Int) : Obj := .cells #[.string ⟨#[]⟩, .string ⟨#[]⟩, .string ⟨#[]⟩, vR, .int .i64 keep] 25 (0, 0)
def boxZ : Obj := .cells #[.string ⟨#[]⟩, .string ⟨#[]⟩, .string ⟨#[]⟩, .slice none 0 0, .int .i64 0] 25 (0, 0)
structure Sv (w0 W : World) (vQ vR : Value) (T : Nat → List Int) (R : List ByteArray) (Q : List S108) (keep : Int) : Prop where
 below : Below w0.heap.size w0 W
 ex : ∃ p v : Nat → Value, (∀ j, j < 3 → Bld W w0.heap.size (w0.heap.size + 1 + j) (p j) (v j) (T j)) ∧ (∀ i j, i < 3 → j < 3 → i ≠ j → NeRow (v i) (v j)) ∧ ∀ j, j < 3 → T j = [] → v j = .slice none 0 0
 res : W.heap[w0.heap.size]? = some boxZ
 box : W.heap[w0.heap.size + 1 + 3]? = some (boxS vR keep)
 rR : Kd.R Kd.string 9 W w0.heap.size (fun k => some k = vR.ownBlock) vR R
 rQ : Kd.R (kq w0) 108 W w0.heap.size (fun k => some k = vQ.ownBlock) vQ Q
section
variable {w0 W W1 : World} {vQ vR : Value} {T : Nat → List Int} {R : List ByteArray} {Q : List S108} {keep : Int}
theorem Sv.drewN (h : Sv w0 W vQ vR T R Q keep) (n : Nat) : Sv w0 (W.drewN n) vQ vR T R Q keep := by
 obtain ⟨p, v, hb, hn, hz⟩ := h.ex
 exact ⟨pw_below_drewN h.below n, ⟨p, v, fun j hj => ⟨(hb j hj).self, (hb j hj).box, Kd.R_drewN (hb j hj).row n, (hb j hj).low⟩, hn, hz⟩, h.res, h.box, Kd.R_drewN h.rR n, Kd.R_drewN h.rQ n⟩
theorem Sv.drew (h : Sv w0 W vQ vR T R Q keep) : Sv w0 W.drew vQ vR T R Q keep := h.drewN 1
theorem ne_ty {α β : Type} {d : Kd α} {d' : Kd β} {e e' base base' : Nat} {ok ok' : Nat → Prop} {v v' : Value} {xs : List α} {ys : List β} (h : d.R e W base ok v xs) (h' : d'.R e' W base' ok' v' ys) (ht : e ≠ e') : ∀ k, some k = v.ownBlock → ¬ some k = v'.ownBlock := by
 obtain ⟨i1, o1⟩ := Kd.R_own h
 obtain ⟨i2, o2⟩ := Kd.R_own h'
 intro k hk hk'
 rcases own_type_ne o1 o2 ht with q | q
 ·rw [q] at hk; cases hk
 ·exact q (hk.symm.trans hk')
theorem Sv.write (h : Sv w0 W vQ vR T R Q keep) {j : Nat} (hj : j < 3) (c : Int) (hl : (T j).length + 1 ≤ 140737488355328) :
  Calls Try.prog 109 #[.pointer (some ⟨w0.heap.size + 1 + j, 0, none⟩), .int .u8 c] W fun e w' => e = .returned .nilIface ∧ Aside0 (Sv w0 w' vQ vR (fun i => if i = j then T i ++ [c] else T i) R Q keep) := by
 obtain ⟨p, v, hb, hn, hz⟩ := h.ex
 have hs := h.below.size
 refine (writeByte c (hb j hj) hs (by omega)).mono ?_
 rintro e w' ⟨rfl, v', hb', hat, hk, hbel⟩
 refine ⟨rfl, ⟨h.below.trans hbel, ⟨fun i => if i = j then .pointer (some ⟨w0.heap.size + 1 + j, 0, none⟩) else p i, fun i => if i = j then v' else v i, fun i hi => ?_, fun i i' hi hi' hne => ?_, fun i hi hT => ?_⟩, ?_, ?_, ?_, ?_⟩⟩
 ·by_cases q : i = j
  ·subst q
   simp only [if_true]
   exact hb'
  ·simp only [if_neg q]
   refine (hb i hi).kept hk ?_ ?_
   ·rintro (e | e)
    ·exact q (by omega)
    ·exact Kd.R_ne (hb j hj).row (hb i hi).box (by decide) e
   ·rintro k hk2 (e | e)
    ·subst e
     exact Kd.R_ne (hb i hi).row (hb j hj).box (by decide) hk2
    ·exact hn i j hi hj q k hk2.symm e.symm
 ·have old : ∀ i, i < 3 → i ≠ j → NeRow (v i) v' := by
   intro i hi q k hk2 hk3
   rcases hat with e | ⟨g, e, hg⟩
   ·rw [e] at hk3
    exact hn i j hi hj q k hk2 hk3
   ·rw [e] at hk3
    injection hk3 with hk3
    have := Kd.R_lt (hb i hi).row k hk2
    omega
  by_cases q : i = j
  ·subst q
   simp only [if_true, if_neg (Ne.symm hne)]
   exact ne_symm (old i' hi' (Ne.symm hne))
  ·by_cases q' : i' = j
   ·subst q'
    simp only [if_true, if_neg q]
    exact old i hi q
   ·simp only [if_neg q, if_neg q']
    exact hn i i' hi hi' hne
 ·by_cases q : i = j
  ·subst q
   simp at hT
  ·simp only [if_neg q] at hT ⊢
   exact hz i hi hT
 ·refine blk_kept h.res hk ?_
  rintro (e | e)
  ·omega
  ·exact Kd.R_ne (hb j hj).row (show W.heap[w0.heap.size]? = some (.cells _ 25 (0, 0)) from h.res) (by decide) e
 ·refine blk_kept h.box hk ?_
  rintro (e | e)
  ·omega
  ·exact Kd.R_ne (hb j hj).row (show W.heap[w0.heap.size + 1 + 3]? = some (.cells _ 25 (0, 0)) from h.box) (by decide) e
 ·refine Kd.R_kept h.rR hk ?_
  rintro k hk2 (e | e)
  ·subst e
   exact Kd.R_ne h.rR (hb j hj).box (by decide) hk2
  ·exact ne_ty h.rR (hb j hj).row (by decide) k hk2 e
 ·refine Kd.R_kept h.rQ hk ?_
  rintro k hk2 (e | e)
  ·subst e
   exact Kd.R_ne h.rQ (hb j hj).box (by decide) hk2
  ·exact ne_ty h.rQ (hb j hj).row (by decide) k hk2 e
theorem Sv.pushQ (h : Sv w0 W vQ vR T R Q keep) {vQ' : Value} {Q' : List S108} (hg : W.grownBy W1 vQ.ownBlock) (hbel : Below w0.heap.size w0 W1) (hQ : Kd.R (kq w0) 108 W1 w0.heap.size (fun _ => True) vQ' Q') : Sv w0 W1 vQ' vR T R Q' keep := by
 obtain ⟨p, v, hb, hn, hz⟩ := h.ex
 have hk : Kept W W1 (fun k => some k = vQ.ownBlock) := ⟨hg.size, fun i hi hne => hg.block i hi hne⟩
 refine ⟨hbel, ⟨p, v, fun j hj => (hb j hj).kept hk (fun e => Kd.R_ne h.rQ (hb j hj).box (by decide) e) (fun k hk2 e => ne_ty (hb j hj).row h.rQ (by decide) k hk2 e), hn, hz⟩, ?_, ?_, ?_, Kd.R_tight rfl hQ⟩
 ·exact blk_kept h.res hk (fun e => Kd.R_ne h.rQ (show W.heap[w0.heap.size]? = some (.cells _ 25 (0, 0)) from h.res) (by decide) e)
 ·exact blk_kept h.box hk (fun e => Kd.R_ne h.rQ (show W.heap[w0.heap.size + 1 + 3]? = some (.cells _ 25 (0, 0)) from h.box) (by decide) e)
 ·exact Kd.R_kept h.rR hk (fun k hk2 e => ne_ty h.rR h.rQ (by decide) k hk2 e)
theorem Sv.pushR (h : Sv w0 W vQ vR T R Q keep) {vR' : Value} {R' : List ByteArray} (hg : W.grownBy W1 vR.ownBlock) (hbel : Below w0.heap.size w0 W1) (hR : Kd.R Kd.string 9 W1 w0.heap.size (fun _ => True) vR' R') : Sv w0 (W1.setCell ⟨w0.heap.size + 1 + 3, 3, none⟩ vR') vQ vR' T R' Q keep := by
 obtain ⟨p, v, hb, hn, hz⟩ := h.ex
 have hk1 : Kept W W1 (fun k => some k = vR.ownBlock) := ⟨hg.size, fun i hi hne => hg.block i hi hne⟩
 have hk : Kept W (W1.setCell ⟨w0.heap.size + 1 + 3, 3, none⟩ vR') (fun k => some k = vR.ownBlock ∨ k = w0.heap.size + 1 + 3) :=
  (hk1.mono (fun k e => .inl e)).setCell (p := ⟨w0.heap.size + 1 + 3, 3, none⟩) (.inl (.inr rfl)) _
 have hbox1 : W1.heap[w0.heap.size + 1 + 3]? = some (boxS vR keep) := blk_kept h.box hk1 (fun e => Kd.R_ne h.rR (show W.heap[w0.heap.size + 1 + 3]? = some (.cells _ 25 (0, 0)) from h.box) (by decide) e)
 have hbx : W.heap[w0.heap.size + 1 + 3]? = some (.cells _ 25 (0, 0)) := h.box
 refine ⟨hbel.setCell (p := ⟨w0.heap.size + 1 + 3, 3, none⟩) (show w0.heap.size ≤ w0.heap.size + 1 + 3 by omega) _, ⟨p, v, fun j hj => (hb j hj).kept hk ?_ ?_, hn, hz⟩, ?_, ?_, ?_, ?_⟩
 ·rintro (e | e)
  ·exact Kd.R_ne h.rR (hb j hj).box (by decide) e
  ·omega
 ·rintro k hk2 (e | e)
  ·exact ne_ty (hb j hj).row h.rR (by decide) k hk2 e
  ·subst e
   exact Kd.R_ne (hb j hj).row hbx (by decide) hk2
 ·refine blk_kept h.res hk ?_
  rintro (e | e)
  ·exact Kd.R_ne h.rR (show W.heap[w0.heap.size]? = some (.cells _ 25 (0, 0)) from h.res) (by decide) e
  ·omega
 ·exact blk_set (show W1.heap[w0.heap.size + 1 + 3]? = some (.cells _ 25 (0, 0)) from hbox1) 3 vR'
 ·refine Kd.R_tight rfl (Kd.R_far (p := ⟨w0.heap.size + 1 + 3, 3, none⟩) (Kd.R_tight rfl hR) ?_ vR')
  rintro k hk2 rfl
  exact Kd.R_ne hR (show W1.heap[w0.heap.size + 1 + 3]? = some (.cells _ 25 (0, 0)) from hbox1) (by decide) hk2
 ·refine Kd.R_kept h.rQ hk ?_
  rintro k hk2 (e | e)
  ·exact ne_ty h.rQ h.rR (by decide) k hk2 e
  ·subst e
   exact Kd.R_ne h.rQ hbx (by decide) hk2
structure Sw (w0 W : World) (vR : Value) (J : Nat → Prop) (T : Nat → List Int) (R : List ByteArray) (keep : Int) : Prop where
 below : Below w0.heap.size w0 W
 ex : ∃ p v : Nat → Value, (∀ j, j < 3 → J j → Bld W w0.heap.size (w0.heap.size + 1 + j) (p j) (v j) (T j)) ∧ (∀ i j, i < 3 → j < 3 → i ≠ j → NeRow (v i) (v j)) ∧ ∀ j, j < 3 → T j = [] → v j = .slice none 0 0
 res : W.heap[w0.heap.size]? = some boxZ
 box : W.heap[w0.heap.size + 1 + 3]? = some (boxS vR keep)
 rR : Kd.R Kd.string 9 W w0.heap.size (fun k => some k = vR.ownBlock) vR R
theorem Sv.sw (h : Sv w0 W vQ vR T R Q keep) : Sw w0 W vR (fun _ => True) T R keep := by
 obtain ⟨p, v, hb, hn, hz⟩ := h.ex
 exact ⟨h.below, ⟨p, v, fun j hj _ => hb j hj, hn, hz⟩, h.res, h.box, h.rR⟩
theorem Sw.string {J : Nat → Prop} (h : Sw w0 W vR J T R keep) {j : Nat} (hj : j < 3) (hJ : J j) {l : List UInt8} (hl : T j = nums l) :
  Calls Try.prog 110 #[.pointer (some ⟨w0.heap.size + 1 + j, 0, none⟩)] W fun e w' => e = .returned (.string ⟨l.toArray⟩) ∧ Aside0 (Sw w0 w' vR (fun i => J i ∧ i ≠ j) T R keep) := by
 obtain ⟨p, v, hb, hn, hz⟩ := h.ex
 have hbj := hb j hj hJ
 have go : ∀ w', Kept W w' (fun k => some k = (v j).ownBlock) → Below w0.heap.size W w' → Sw w0 w' vR (fun i => J i ∧ i ≠ j) T R keep := by
  intro w' hk hbel
  refine ⟨h.below.trans hbel, ⟨p, v, fun i hi hJi => (hb i hi hJi.1).kept hk (fun e => Kd.R_ne hbj.row (hb i hi hJi.1).box (by decide) e) (fun k hk2 e => hn i j hi hj hJi.2 k hk2.symm e.symm), hn, hz⟩, ?_, ?_, ?_⟩
  ·exact blk_kept h.res hk (fun e => Kd.R_ne hbj.row (show W.heap[w0.heap.size]? = some (.cells _ 25 (0, 0)) from h.res) (by decide) e)
  ·exact blk_kept h.box hk (fun e => Kd.R_ne hbj.row (show W.heap[w0.heap.size + 1 + 3]? = some (.cells _ 25 (0, 0)) from h.box) (by decide) e)
  ·exact Kd.R_kept h.rR hk (fun k hk2 e => ne_ty h.rR hbj.row (by decide) k hk2 e)
 by_cases q : l = []
 ·subst q
  have hv := hz j hj (by rw [hl]; rfl)
  have hbx := hbj.box
  rw [hv] at hbx
  refine (string_none w0.heap.size _ _ hbx).mono ?_
  rintro e w' ⟨rfl, hk, hbel⟩
  exact ⟨rfl, ⟨go w' (hk.mono (fun _ h => h.elim)) hbel⟩⟩
 ·rw [hl] at hbj
  refine (string_some hbj q).mono ?_
  rintro e w' ⟨rfl, hk, hbel⟩
  exact ⟨rfl, ⟨go w' hk hbel⟩⟩
end
theorem Sv.start (w : World) {A0 : Option Addr} {c0 : Nat} {l0 : List ByteArray} (a1 : Int) (hr0 : Kd.C Kd.string w A0 l0.length l0) (hc0 : l0.length ≤ c0) :
  Sv w ((((((w.alloc (.cells #[.string ⟨#[]⟩, .string ⟨#[]⟩, .string ⟨#[]⟩, .slice none 0 0, .int .i64 0] 25)).alloc (.cells #[.pointer none, .slice none 0 0] 106)).alloc (.cells #[.pointer none, .slice none 0 0] 106)).alloc (.cells #[.pointer none, .slice none 0 0] 106)).alloc
   (.cells #[.string ⟨#[]⟩, .string ⟨#[]⟩, .string ⟨#[]⟩, .slice none 0 0, .int .i64 a1] 25)).alloc (.cells #[.slice A0 l0.length c0, .int .i64 0] 108))
   (.slice (some ⟨w.heap.size + 1 + 1 + 1 + 1 + 1, 0, none⟩) 1 1) (.slice none 0 0) (fun _ => []) [] [⟨l0, 0⟩] a1 := by
 have hz : ∀ (w : World) (o : Obj), (w.alloc o).heap.size = w.heap.size + 1 := fun w o => by simp only [World.alloc, Array.size_push]
 have e0 := blk_new w (.cells #[.string ⟨#[]⟩, .string ⟨#[]⟩, .string ⟨#[]⟩, .slice none 0 0, .int .i64 0] 25)
 generalize hw1 : w.alloc (.cells #[.string ⟨#[]⟩, .string ⟨#[]⟩, .string ⟨#[]⟩, .slice none 0 0, .int .i64 0] 25) = w1 at e0 ⊢
 have z1 : w1.heap.size = w.heap.size + 1 := by rw [← hw1, hz]
 have b1 : Below w.heap.size w w1 := by rw [← hw1]; exact below_alloc (Below.refl _ _) _
 have e1 := blk_new w1 (.cells #[.pointer none, .slice none 0 0] 106)
 have e2 := blk_new (w1.alloc (.cells #[.pointer none, .slice none 0 0] 106)) (.cells #[.pointer none, .slice none 0 0] 106)
 have e3 := blk_new ((w1.alloc (.cells #[.pointer none, .slice none 0 0] 106)).alloc (.cells #[.pointer none, .slice none 0 0] 106)) (.cells #[.pointer none, .slice none 0 0] 106)
 rw [hz, z1] at e2
 rw [hz, hz, z1] at e3
 rw [z1] at e1
 generalize hw2 : ((w1.alloc (.cells #[.pointer none, .slice none 0 0] 106)).alloc (.cells #[.pointer none, .slice none 0 0] 106)).alloc (.cells #[.pointer none, .slice none 0 0] 106) = w2 at e3 ⊢
 have e1' : w2.heap[w.heap.size + 1]? = some (.cells #[.pointer none, .slice none 0 0] 106) := by rw [← hw2]; exact blk_alloc (blk_alloc e1 _) _
 have e2' : w2.heap[w.heap.size + 1 + 1]? = some (.cells #[.pointer none, .slice none 0 0] 106) := by rw [← hw2]; exact blk_alloc e2 _
 have e0' : w2.heap[w.heap.size]? = some (.cells #[.string ⟨#[]⟩, .string ⟨#[]⟩, .string ⟨#[]⟩, .slice none 0 0, .int .i64 0] 25) := by rw [← hw2]; exact blk_alloc (blk_alloc (blk_alloc e0 _) _) _
 have z2 : w2.heap.size = w.heap.size + 1 + 1 + 1 + 1 := by rw [← hw2, hz, hz, hz, z1]
 have b2 : Below w.heap.size w w2 := by rw [← hw2]; exact below_alloc (below_alloc (below_alloc b1 _) _) _
 have e4 := blk_new w2 (.cells #[.string ⟨#[]⟩, .string ⟨#[]⟩, .string ⟨#[]⟩, .slice none 0 0, .int .i64 a1] 25)
 have e5 := blk_new (w2.alloc (.cells #[.string ⟨#[]⟩, .string ⟨#[]⟩, .string ⟨#[]⟩, .slice none 0 0, .int .i64 a1] 25)) (.cells #[.slice A0 l0.length c0, .int .i64 0] 108)
 rw [hz, z2] at e5
 rw [z2] at e4
 refine ⟨below_alloc (below_alloc b2 _) _, ⟨fun _ => .pointer none, fun _ => .slice none 0 0, fun j hj => ⟨.inl rfl, ?_, Kd.R_nil _ _ _ _ _, by omega⟩, fun i j _ _ _ => ne_nil _, fun _ _ _ => rfl⟩, blk_alloc (blk_alloc e0' _) _, blk_alloc e4 _, Kd.R_nil _ _ _ _ _, ?_⟩
 ·match j, hj with
  | 0, _ => exact blk_alloc (blk_alloc e1' _) _
  | 1, _ => exact blk_alloc (blk_alloc e2' _) _
  | 2, _ => exact blk_alloc (blk_alloc e3 _) _
 ·refine ⟨fun k hk => hk.symm, [.slice A0 l0.length c0, .int .i64 0], ⟨rfl, .inr ⟨_, 1, #[.slice A0 l0.length c0, .int .i64 0], rfl, by omega, e5, Nat.le_refl _, by unfold maxLen; omega, rfl, rfl⟩⟩, ⟨rfl, fun j p hj => ?_⟩⟩
  match j with
  | 0 =>
   have : p = (⟨l0, 0⟩ : S108) := by simpa using hj.symm
   subst this
   exact k108_mk w ⟨l0, 0⟩ hc0 hr0
  | j + 1 => simp at hj
section
variable {w0 W W1 : World} {vQ vR : Value} {T : Nat → List Int} {R : List ByteArray} {Q : List S108} {keep : Int}
theorem Sv.slice (h : Sv w0 W vQ vR T R Q keep) : ∃ A c, vQ = .slice A Q.length c := Kd.R_slice h.rQ
theorem Sv.at {A : Option Addr} {c : Nat} (h : Sv w0 W (.slice A Q.length c) vR T R Q keep) (i : Int) (h0 : 0 ≤ i) (h1 : i < Q.length) :
  ∃ ad A1 c1, A = some ad ∧ W.cell? (ad.add (i.toNat * 2)) = some (.slice A1 (rd_T108 Q i).f0.length c1) ∧ W.cell? ⟨(ad.add (i.toNat * 2)).block, (ad.add (i.toNat * 2)).off + 1, none⟩ = some (.int .i64 (rd_T108 Q i).f1) ∧ (rd_T108 Q i).f0.length ≤ c1 ∧ Kd.string.C w0 A1 (rd_T108 Q i).f0.length (rd_T108 Q i).f0 := by
 obtain ⟨ad, c, e, _, hK, hc0⟩ := Kd.C_get (Kd.R_reads' h.rQ).2.2 z108 i h0 h1
 have hc : ∀ j u, c[j]? = some u → W.cell? (ad.add (i.toNat * 2 + j)) = some u := hc0
 obtain ⟨A0, c0, rfl, l0, g0⟩ := k108_open hK
 exact ⟨ad, A0, c0, e, hc 0 _ rfl, by rw [← add_field _ _ 1 (by omega)]; exact hc 1 _ rfl, l0, g0⟩
theorem Sv.key {A : Option Addr} {l : List ByteArray} (h : Sv w0 W vQ vR T R Q keep) (hc : Kd.string.C w0 A l.length l) (i : Int) (h0 : 0 ≤ i) (h1 : i < l.length) : ∃ ad, A = some ad ∧ W.cell? (ad.add i.toNat) = some (.string (rdOf ByteArray.empty l i)) :=
 Kd.at_string (Kd.C_below hc h.below) i h0 h1
theorem Sv.boxc (h : Sv w0 W vQ vR T R Q keep) : W.cell? ⟨w0.heap.size + 1 + 1 + 1 + 1, 3, none⟩ = some vR ∧ W.frozen? ⟨w0.heap.size + 1 + 1 + 1 + 1, 3, none⟩ = false :=
 ⟨by rw [Lib.cell_of_heap (show W.heap[w0.heap.size + 1 + 1 + 1 + 1]? = some (.cells _ 25 (0, 0)) from h.box)]; rfl, blk_frozen (show W.heap[w0.heap.size + 1 + 1 + 1 + 1]? = some (.cells _ 25 (0, 0)) from h.box) 3⟩
theorem Sv.boxg (h : Sv w0 W vQ vR T R Q keep) (hg : W.grownBy W1 vR.ownBlock) : W1.cell? ⟨w0.heap.size + 1 + 1 + 1 + 1, 3, none⟩ = some vR ∧ W1.frozen? ⟨w0.heap.size + 1 + 1 + 1 + 1, 3, none⟩ = false := by
 have hb : W1.heap[w0.heap.size + 1 + 1 + 1 + 1]? = some (boxS vR keep) := blk_kept h.box (S := fun k => some k = vR.ownBlock) ⟨hg.size, fun i hi hne => hg.block i hi hne⟩ (fun e => Kd.R_ne h.rR (show W.heap[w0.heap.size + 1 + 3]? = some (.cells _ 25 (0, 0)) from h.box) (by decide) e)
 exact ⟨by rw [Lib.cell_of_heap (show W1.heap[w0.heap.size + 1 + 1 + 1 + 1]? = some (.cells _ 25 (0, 0)) from hb)]; rfl, blk_frozen (show W1.heap[w0.heap.size + 1 + 1 + 1 + 1]? = some (.cells _ 25 (0, 0)) from hb) 3⟩
theorem Sv.congr {T' : Nat → List Int} (h : Sv w0 W vQ vR T R Q keep) (hT : ∀ j, j < 3 → T j = T' j) : Sv w0 W vQ vR T' R Q keep := by
 obtain ⟨p, v, hb, hn, hz⟩ := h.ex
 exact ⟨h.below, ⟨p, v, fun j hj => hT j hj ▸ hb j hj, hn, fun j hj e => hz j hj ((hT j hj).trans e)⟩, h.res, h.box, h.rR, h.rQ⟩
def bs (s : ByteArray) : List Int := nums s.data.toList
theorem bs_push (s : ByteArray) (c : UInt8) : bs (s.push c) = bs s ++ [(c.toNat : Int)] := by simp [bs, nums]
theorem bs_length (s : ByteArray) : (bs s).length = s.size := by simp [bs, nums]
def three (a b c : ByteArray) : Nat → List Int := tri (bs a) (bs b) (bs c)
theorem Sv.wL {a b c : ByteArray} (h : Sv w0 W vQ vR (three a b c) R Q keep) (x : UInt8) (hl : a.size + 1 ≤ 140737488355328) :
  Calls Try.prog 109 #[.pointer (some ⟨w0.heap.size + 1, 0, none⟩), .int .u8 (x.toNat : Int)] W fun e w' => e = .returned .nilIface ∧ Aside0 (Sv w0 w' vQ vR (three (a.push x) b c) R Q keep) := by
 refine (h.write (j := 0) (by omega) (x.toNat : Int) (by show (bs a).length + 1 ≤ _; rw [bs_length]; exact hl)).mono ?_
 rintro e w' ⟨rfl, hs⟩
 refine ⟨rfl, ⟨hs.out.congr (fun j hj => ?_)⟩⟩
 match j, hj with
 | 0, _ => exact (bs_push a x).symm
 | 1, _ => rfl
 | 2, _ => rfl
theorem Sv.wM {a b c : ByteArray} (h : Sv w0 W vQ vR (three a b c) R Q keep) (x : UInt8) (hl : b.size + 1 ≤ 140737488355328) :
  Calls Try.prog 109 #[.pointer (some ⟨w0.heap.size + 1 + 1, 0, none⟩), .int .u8 (x.toNat : Int)] W fun e w' => e = .returned .nilIface ∧ Aside0 (Sv w0 w' vQ vR (three a (b.push x) c) R Q keep) := by
 refine (h.write (j := 1) (by omega) (x.toNat : Int) (by show (bs b).length + 1 ≤ _; rw [bs_length]; exact hl)).mono ?_
 rintro e w' ⟨rfl, hs⟩
 refine ⟨rfl, ⟨hs.out.congr (fun j hj => ?_)⟩⟩
 match j, hj with
 | 0, _ => rfl
 | 1, _ => exact (bs_push b x).symm
 | 2, _ => rfl
theorem Sv.wF {a b c : ByteArray} (h : Sv w0 W vQ vR (three a b c) R Q keep) (x : UInt8) (hl : c.size + 1 ≤ 140737488355328) :
  Calls Try.prog 109 #[.pointer (some ⟨w0.heap.size + 1 + 1 + 1, 0, none⟩), .int .u8 (x.toNat : Int)] W fun e w' => e = .returned .nilIface ∧ Aside0 (Sv w0 w' vQ vR (three a b (c.push x)) R Q keep) := by
 refine (h.write (j := 2) (by omega) (x.toNat : Int) (by show (bs c).length + 1 ≤ _; rw [bs_length]; exact hl)).mono ?_
 rintro e w' ⟨rfl, hs⟩
 refine ⟨rfl, ⟨hs.out.congr (fun j hj => ?_)⟩⟩
 match j, hj with
 | 0, _ => rfl
 | 1, _ => rfl
 | 2, _ => exact (bs_push c x).symm
theorem Sw.sL {a b c : ByteArray} (h : Sw w0 W vR (fun _ => True) (three a b c) R keep) :
  Calls Try.prog 110 #[.pointer (some ⟨w0.heap.size + 1, 0, none⟩)] W fun e w' => e = .returned (.string a) ∧ Aside0 (Sw w0 w' vR (fun i => i ≠ 0) (three a b c) R keep) := by
 refine (h.string (j := 0) (l := a.data.toList) (by omega) trivial rfl).mono ?_
 rintro e w' ⟨rfl, hs⟩
 exact ⟨rfl, ⟨hs.out.below, (by obtain ⟨p, v, hb, hn⟩ := hs.out.ex; exact ⟨p, v, fun j hj hJ => hb j hj ⟨trivial, hJ⟩, hn⟩), hs.out.res, hs.out.box, hs.out.rR⟩⟩
theorem Sw.sM {a b c : ByteArray} (h : Sw w0 W vR (fun i => i ≠ 0) (three a b c) R keep) :
  Calls Try.prog 110 #[.pointer (some ⟨w0.heap.size + 1 + 1, 0, none⟩)] W fun e w' => e = .returned (.string b) ∧ Aside0 (Sw w0 w' vR (fun i => i = 2) (three a b c) R keep) := by
 refine (h.string (j := 1) (l := b.data.toList) (by omega) (by omega) rfl).mono ?_
 rintro e w' ⟨rfl, hs⟩
 exact ⟨rfl, ⟨hs.out.below, (by obtain ⟨p, v, hb, hn⟩ := hs.out.ex; exact ⟨p, v, fun j hj hJ => hb j hj ⟨by omega, by omega⟩, hn⟩), hs.out.res, hs.out.box, hs.out.rR⟩⟩
theorem Sw.sF {a b c : ByteArray} (h : Sw w0 W vR (fun i => i = 2) (three a b c) R keep) :
  Calls Try.prog 110 #[.pointer (some ⟨w0.heap.size + 1 + 1 + 1, 0, none⟩)] W fun e w' => e = .returned (.string c) ∧ Aside0 (Below w0.heap.size w0 w' ∧ w'.heap[w0.heap.size]? = some boxZ ∧ w'.heap[w0.heap.size + 1 + 1 + 1 + 1]? = some (boxS vR keep) ∧ Kd.R Kd.string 9 w' w0.heap.size (fun k => some k = vR.ownBlock) vR R) := by
 refine (h.string (j := 2) (l := c.data.toList) (by omega) rfl rfl).mono ?_
 rintro e w' ⟨rfl, hs⟩
 exact ⟨rfl, ⟨hs.out.below, hs.out.res, hs.out.box, hs.out.rR⟩⟩
theorem fin1 {vR : Value} {a b c : ByteArray} (h : Below w0.heap.size w0 W ∧ W.heap[w0.heap.size]? = some boxZ ∧ W.heap[w0.heap.size + 1 + 1 + 1 + 1]? = some (boxS vR keep) ∧ Kd.R Kd.string 9 W w0.heap.size (fun k => some k = vR.ownBlock) vR R) :
  Aside0 (Below w0.heap.size w0 (((W.setCell ⟨w0.heap.size + 1 + 1 + 1 + 1, 0, none⟩ (.string a)).setCell ⟨w0.heap.size + 1 + 1 + 1 + 1, 1, none⟩ (.string b)).setCell ⟨w0.heap.size + 1 + 1 + 1 + 1, 2, none⟩ (.string c)) ∧
   (((W.setCell ⟨w0.heap.size + 1 + 1 + 1 + 1, 0, none⟩ (.string a)).setCell ⟨w0.heap.size + 1 + 1 + 1 + 1, 1, none⟩ (.string b)).setCell ⟨w0.heap.size + 1 + 1 + 1 + 1, 2, none⟩ (.string c)).heap[w0.heap.size]? = some boxZ ∧
   (((W.setCell ⟨w0.heap.size + 1 + 1 + 1 + 1, 0, none⟩ (.string a)).setCell ⟨w0.heap.size + 1 + 1 + 1 + 1, 1, none⟩ (.string b)).setCell ⟨w0.heap.size + 1 + 1 + 1 + 1, 2, none⟩ (.string c)).heap[w0.heap.size + 1 + 1 + 1 + 1]? = some (.cells #[.string a, .string b, .string c, vR, .int .i64 keep] 25 (0, 0)) ∧
   Kd.R Kd.string 9 (((W.setCell ⟨w0.heap.size + 1 + 1 + 1 + 1, 0, none⟩ (.string a)).setCell ⟨w0.heap.size + 1 + 1 + 1 + 1, 1, none⟩ (.string b)).setCell ⟨w0.heap.size + 1 + 1 + 1 + 1, 2, none⟩ (.string c)) w0.heap.size (fun k => some k = vR.ownBlock) vR R) := by
 obtain ⟨h1, h2, h3, h4⟩ := h
 have hne : ∀ k, some k = vR.ownBlock → k ≠ w0.heap.size + 1 + 1 + 1 + 1 := by
  rintro k hk rfl
  exact Kd.R_ne h4 (show W.heap[w0.heap.size + 1 + 1 + 1 + 1]? = some (.cells _ 25 (0, 0)) from h3) (by decide) hk
 have hb : ∀ i : Nat, w0.heap.size ≤ (⟨w0.heap.size + 1 + 1 + 1 + 1, i, none⟩ : Addr).block := fun i => by show w0.heap.size ≤ w0.heap.size + 1 + 1 + 1 + 1; omega
 refine ⟨⟨((h1.setCell (hb 0) _).setCell (hb 1) _).setCell (hb 2) _, ?_, ?_, ?_⟩⟩
 ·refine (Below.heap_setCell _ _ _ _ (by show w0.heap.size ≠ w0.heap.size + 1 + 1 + 1 + 1; omega)).trans ((Below.heap_setCell _ _ _ _ (by show w0.heap.size ≠ w0.heap.size + 1 + 1 + 1 + 1; omega)).trans ((Below.heap_setCell _ _ _ _ (by show w0.heap.size ≠ w0.heap.size + 1 + 1 + 1 + 1; omega)).trans h2))
 ·exact blk_put (blk_put (blk_put (show W.heap[w0.heap.size + 1 + 1 + 1 + 1]? = some (.cells _ 25 (0, 0)) from h3) 0 _ rfl) 1 _ rfl) 2 _ rfl
 ·exact Kd.R_far (p := ⟨w0.heap.size + 1 + 1 + 1 + 1, 2, none⟩) (Kd.R_far (p := ⟨w0.heap.size + 1 + 1 + 1 + 1, 1, none⟩) (Kd.R_far (p := ⟨w0.heap.size + 1 + 1 + 1 + 1, 0, none⟩) h4 hne _) hne _) hne _
theorem fin2 {vR : Value} {a b c : ByteArray} (h : Below w0.heap.size w0 W ∧ W.heap[w0.heap.size]? = some boxZ ∧ W.heap[w0.heap.size + 1 + 1 + 1 + 1]? = some (.cells #[.string a, .string b, .string c, vR, .int .i64 keep] 25 (0, 0)) ∧ Kd.R Kd.string 9 W w0.heap.size (fun k => some k = vR.ownBlock) vR R) :
  Aside0 (Below w0.heap.size w0 (((((W.setCell ⟨w0.heap.size, 0, none⟩ (.string a)).setCell ⟨w0.heap.size, 1, none⟩ (.string b)).setCell ⟨w0.heap.size, 2, none⟩ (.string c)).setCell ⟨w0.heap.size, 3, none⟩ vR).setCell ⟨w0.heap.size, 4, none⟩ (.int .i64 keep)) ∧
   (((((W.setCell ⟨w0.heap.size, 0, none⟩ (.string a)).setCell ⟨w0.heap.size, 1, none⟩ (.string b)).setCell ⟨w0.heap.size, 2, none⟩ (.string c)).setCell ⟨w0.heap.size, 3, none⟩ vR).setCell ⟨w0.heap.size, 4, none⟩ (.int .i64 keep)).heap[w0.heap.size]? = some (.cells #[.string a, .string b, .string c, vR, .int .i64 keep] 25 (0, 0)) ∧
   Kd.R Kd.string 9 (((((W.setCell ⟨w0.heap.size, 0, none⟩ (.string a)).setCell ⟨w0.heap.size, 1, none⟩ (.string b)).setCell ⟨w0.heap.size, 2, none⟩ (.string c)).setCell ⟨w0.heap.size, 3, none⟩ vR).setCell ⟨w0.heap.size, 4, none⟩ (.int .i64 keep)) w0.heap.size (fun _ => True) vR R) := by
 obtain ⟨h1, h2, h3, h4⟩ := h
 have hne : ∀ k, some k = vR.ownBlock → k ≠ w0.heap.size := by
  rintro k hk rfl
  exact Kd.R_ne h4 (show W.heap[w0.heap.size]? = some (.cells _ 25 (0, 0)) from h2) (by decide) hk
 have hb : ∀ i : Nat, w0.heap.size ≤ (⟨w0.heap.size, i, none⟩ : Addr).block := fun i => Nat.le_refl _
 refine ⟨⟨((((h1.setCell (hb 0) _).setCell (hb 1) _).setCell (hb 2) _).setCell (hb 3) _).setCell (hb 4) _, ?_, ?_⟩⟩
 ·exact blk_put (blk_put (blk_put (blk_put (blk_put (show W.heap[w0.heap.size]? = some (.cells _ 25 (0, 0)) from h2) 0 _ rfl) 1 _ rfl) 2 _ rfl) 3 _ rfl) 4 _ rfl
 ·exact Kd.R_mono (Kd.R_far (p := ⟨w0.heap.size, 4, none⟩) (Kd.R_far (p := ⟨w0.heap.size, 3, none⟩) (Kd.R_far (p := ⟨w0.heap.size, 2, none⟩) (Kd.R_far (p := ⟨w0.heap.size, 1, none⟩) (Kd.R_far (p := ⟨w0.heap.size, 0, none⟩) h4 hne _) hne _) hne _) hne _) hne _) (fun _ _ => trivial)
theorem byte_of {c : Int} (h0 : 0 ≤ c) (h1 : c ≤ 255) : ((c.toNat.toUInt8).toNat : Int) = c := by
 have : (c.toNat.toUInt8).toNat = c.toNat % 256 := by simp [Nat.toUInt8]
 rw [this]; omega
theorem Sv.bL {a b c : ByteArray} (h : Sv w0 W vQ vR (three a b c) R Q keep) (x : Int) (hx : 0 ≤ x ∧ x ≤ 255) (hl : a.size + 1 ≤ 140737488355328) :
  Calls Try.prog 109 #[.pointer (some ⟨w0.heap.size + 1, 0, none⟩), .int .u8 x] W fun e w' => e = .returned .nilIface ∧ Aside0 (Sv w0 w' vQ vR (three (a.push x.toNat.toUInt8) b c) R Q keep) := by
 have := h.wL x.toNat.toUInt8 hl
 rwa [byte_of hx.1 hx.2] at this
theorem Sv.bM {a b c : ByteArray} (h : Sv w0 W vQ vR (three a b c) R Q keep) (x : Int) (hx : 0 ≤ x ∧ x ≤ 255) (hl : b.size + 1 ≤ 140737488355328) :
  Calls Try.prog 109 #[.pointer (some ⟨w0.heap.size + 1 + 1, 0, none⟩), .int .u8 x] W fun e w' => e = .returned .nilIface ∧ Aside0 (Sv w0 w' vQ vR (three a (b.push x.toNat.toUInt8) c) R Q keep) := by
 have := h.wM x.toNat.toUInt8 hl
 rwa [byte_of hx.1 hx.2] at this
theorem Sv.bF {a b c : ByteArray} (h : Sv w0 W vQ vR (three a b c) R Q keep) (x : Int) (hx : 0 ≤ x ∧ x ≤ 255) (hl : c.size + 1 ≤ 140737488355328) :
  Calls Try.prog 109 #[.pointer (some ⟨w0.heap.size + 1 + 1 + 1, 0, none⟩), .int .u8 x] W fun e w' => e = .returned .nilIface ∧ Aside0 (Sv w0 w' vQ vR (three a b (c.push x.toNat.toUInt8)) R Q keep) := by
 have := h.wF x.toNat.toUInt8 hl
 rwa [byte_of hx.1 hx.2] at this
end
end Go.Proofs.Ytifgcajpkgamgaa.Hand
end
section
namespace Go.Proofs.Ytifgcajpkgamgaa.Hand
open Go Go.RowKit Go.Proofs.Ytifgcajpkgamgaa.Q Go.Proofs.YtifgcajpkgamgaaW.PrintWords Go.Proofs.YtifgcajpkgamgaaW.PrintLast Go.Proofs.YtifgcajpkgamgaaW.PrintMore
attribute [local go_sem] max2_int min2_int max_two min_two max_three min_three max_four min_four
set_option linter.unusedVariables false
set_option linter.unusedSimpArgs false
theorem label_range {a : ByteArray} {d r : Int} (h : impl_label.f a d = some r) : 0 ≤ r ∧ r ≤ 255 := by
 unfold impl_label.f at h
 split at h
 ·injection h with h; omega
 ·split at h
  ·split at h
   ·injection h with h
    have := bt_range a d
    omega
   ·cases h
  ·cases h
def SvPost (w : World) (r : ByteArray × ByteArray × ByteArray × List ByteArray × Int) (e : Ending) (w' : World) : Prop :=
 ∃ v3_ : Value, e = .returned (.agg #[.string r.1, .string r.2.1, .string r.2.2.1, v3_, .int .i64 r.2.2.2.2]) ∧ Kd.R Kd.string 9 w' w.heap.size (fun _ => True) v3_ r.2.2.2.1 ∧ Below w.heap.size w w'
set_option maxHeartbeats 8000000 in
set_option maxRecDepth 100000 in
theorem sieveOf (k : Nat) (A0 : Option Addr) (c0 : Nat) (l0 : List ByteArray) (a1 : Int) (r : ByteArray × ByteArray × ByteArray × List ByteArray × Int) (w : World) (hr0 : Kd.C Kd.string w A0 l0.length l0) (hc0 : l0.length ≤ c0) (h : impl_sieveOf.f k l0 a1 = some r) :
  Calls Try.prog 75 #[.slice A0 l0.length c0, .int .i64 a1] w (SvPost w r) := by
 have HS := Aside0.mk (Sv.start w a1 hr0 hc0)
 have H' := Aside0.mk (show impl_sieveOf.l0 k (⟨#[]⟩ : ByteArray) (⟨#[]⟩ : ByteArray) (⟨#[]⟩ : ByteArray) [] [⟨l0, 0⟩] a1 0 = some r from h)
 clear hr0 hc0 h
 go_enter Try.func75, Try.ntmps75
 go_wp2
 go_loopg [9, 10] k (fun kq v9 v10 wr => ∃ (a b c : ByteArray) (R : List ByteArray) (Q : List S108) (i : Int) (vR : Value), v10 = .int .i64 i ∧ Aside0 (impl_sieveOf.l0 kq a b c R Q a1 i = some r) ∧ Aside0 (kq ≤ k) ∧ Aside0 (Sv w wr v9 vR (three a b c) R Q a1))
 case atStart => exact ⟨_, _, _, _, _, 0, _, rfl, H', ⟨Nat.le_refl _⟩, ⟨HS.out.congr (fun j hj => match j, hj with | 0, _ => rfl | 1, _ => rfl | 2, _ => rfl)⟩⟩
 case round =>
  clear H' HS
  obtain ⟨a, b, c, R, Q, i, vR, rfl, HA, HK1, HS⟩ := hrel
  cases gk with
  | zero => exact absurd HA.out (by simp [impl_sieveOf.l0])
  | succ k1 =>
   have H := HA.out
   clear HA
   simp only [impl_sieveOf.l0] at H
   obtain ⟨Aq, cq, hvq⟩ := HS.out.slice
   subst hvq
   by_cases c5 : i < (Q.length : Int)
   ·rw [if_pos c5] at H
    obtain ⟨c6, H⟩ := zn H
    obtain ⟨ad, A1, c1, hA, x0, x1, hl1, hC⟩ := HS.out.at i c6 c5
    subst hA
    have HC := Aside0.mk (And.intro hl1 hC)
    clear hl1 hC
    have H' := Aside0.mk H
    clear H
    have t5 : decide (i < (Q.length : Int)) = true := decide_eq_true c5
    replace c5 := eq_true c5
    replace c6 := eq_true c6
    generalize (rd_T108 Q i).f0 = rest at H' HC x0
    generalize (rd_T108 Q i).f1 = depth at H' x1
    go_wp2
    go_quiet (fail)
    go_wp2
    clear x0 x1 t5 c5 c6
    go_loopg [9, 11, 13] k1 (fun kq v9 v11 v13 wr => ∃ (a b c : ByteArray) (R : List ByteArray) (Q : List S108) (vR : Value) (rest : List ByteArray) (A1 : Option Addr) (c1 : Nat) (mark : Int), v11 = .slice A1 rest.length c1 ∧ v13 = .int .u8 mark ∧ Aside0 (impl_sieveOf.l1 kq a b c R Q a1 i rest depth mark = some r) ∧ Aside0 (kq ≤ k1) ∧ Aside0 (Sv w wr v9 vR (three a b c) R Q a1) ∧ Aside0 (rest.length ≤ c1 ∧ Kd.string.C w A1 rest.length rest) ∧ Aside0 (0 ≤ mark ∧ mark ≤ 255))
    case atStart => exact ⟨a, b, c, R, Q, vR, rest, A1, c1, 49, rfl, rfl, H', ⟨Nat.le_refl _⟩, ⟨HS.out.drewN _⟩, HC, ⟨by omega⟩⟩
    case round =>
     clear H' HS HC
     obtain ⟨a, b, c, R, Q, vR, rest, A1, c1, mark, rfl, rfl, HA, HK2, HS, HC, HM⟩ := hrel
     cases gk with
     | zero => exact absurd HA.out (by simp [impl_sieveOf.l1])
     | succ k2 =>
      have H := HA.out
      clear HA
      simp only [impl_sieveOf.l1] at H
      obtain ⟨Aq, cq, hvq⟩ := HS.out.slice
      subst hvq
      by_cases c7 : (rest.length : Int) > 0
      ·rw [if_pos c7] at H
       have H' := Aside0.mk H
       clear H
       have t7 : decide ((rest.length : Int) > 0) = true := decide_eq_true c7
       have t7' : decide (0 < rest.length) = true := decide_eq_true (by omega)
       have C7 := Aside0.mk c7
       clear c7
       go_upto_block 4 with (fail)
       go_cut [14] (fun v14 wc => ∃ (kq : Nat) (n : Int), v14 = .int .i64 n ∧ Aside0 (impl_sieveOf.l3 kq a b c R Q a1 i rest depth mark n = some r) ∧ Aside0 (kq ≤ k2) ∧ Aside0 (Sv w wc (.slice Aq Q.length cq) vR (three a b c) R Q a1))
       case first =>
        go_wp2
        go_loopg [14] k2 (fun kq v14 wr => ∃ (n : Int), v14 = .int .i64 n ∧ Aside0 (impl_sieveOf.l2 kq a b c R Q a1 i rest depth mark n = some r) ∧ Aside0 (kq ≤ k2) ∧ Aside0 (Sv w wr (.slice Aq Q.length cq) vR (three a b c) R Q a1))
        case atStart => exact ⟨1, rfl, H', ⟨Nat.le_refl _⟩, HS⟩
        case round =>
         clear H' HS
         obtain ⟨n, rfl, HA, HK3, HS⟩ := hrel
         cases gk with
         | zero => exact absurd HA.out (by simp [impl_sieveOf.l2])
         | succ k3 =>
          have H := HA.out
          clear HA
          simp only [impl_sieveOf.l2] at H
          by_cases c8 : n < (rest.length : Int)
          ·rw [if_pos c8] at H
           obtain ⟨c9, H⟩ := zn H
           obtain ⟨x, hx, H⟩ := Option.bind_eq_some_iff.1 H
           obtain ⟨y, hy, H⟩ := Option.bind_eq_some_iff.1 H
           obtain ⟨ad1, hA, x0⟩ := HS.out.key HC.out.2 n c9 c8
           subst hA
           obtain ⟨ad2, hA, y0⟩ := HS.out.key HC.out.2 0 (Int.le_refl 0) (by omega)
           obtain rfl : ad1 = ad2 := by injection hA
           clear hA
           have HX := Aside0.mk hx
           have HY := Aside0.mk hy
           clear hx hy
           have t8 : decide (n < (rest.length : Int)) = true := decide_eq_true c8
           have t9 : (0 < rest.length) = True := eq_true (by omega)
           rw [show ((0 : Int)).toNat = 0 from rfl, Addr.add_zero'] at y0
           replace c8 := eq_true c8
           replace c9 := eq_true c9
           by_cases cq' : x = y
           ·rw [if_pos cq'] at H
            have H' := Aside0.mk H
            clear H
            have t10 : ((x : Int) == y) = true := beq_iff_eq.2 cq'
            clear cq'
            go_wp2
            go_quiet (first | (go_at_call 103; (with_reducible refine (impl_label.calls _ _ x _ HX.out).mono ?_); rintro e w' ⟨rfl, ⟨nd, rfl⟩⟩; (first | exact ⟨rfl, _, World.drewN_drewN _ _ _⟩ | exact ⟨rfl, _, Eq.trans (World.drewN_drewN _ _ _) (congrArg (World.drewN _) (Nat.add_assoc _ _ _))⟩)) | (go_at_call 103; (with_reducible refine (impl_label.calls _ _ y _ HY.out).mono ?_); rintro e w' ⟨rfl, ⟨nd, rfl⟩⟩; (first | exact ⟨rfl, _, World.drewN_drewN _ _ _⟩ | exact ⟨rfl, _, Eq.trans (World.drewN_drewN _ _ _) (congrArg (World.drewN _) (Nat.add_assoc _ _ _))⟩)))
            go_wp2
            go_roundg k3
            case measure => omega
            case rel => exact ⟨_, rfl, H', ⟨by have := HK3.out; omega⟩, ⟨HS.out.drewN _⟩⟩
           ·rw [if_neg cq'] at H
            have H' := Aside0.mk H
            clear H
            have t10 : ((x : Int) == y) = false := beq_eq_false_iff_ne.2 cq'
            clear cq'
            go_wp2
            go_quiet (first | (go_at_call 103; (with_reducible refine (impl_label.calls _ _ x _ HX.out).mono ?_); rintro e w' ⟨rfl, ⟨nd, rfl⟩⟩; (first | exact ⟨rfl, _, World.drewN_drewN _ _ _⟩ | exact ⟨rfl, _, Eq.trans (World.drewN_drewN _ _ _) (congrArg (World.drewN _) (Nat.add_assoc _ _ _))⟩)) | (go_at_call 103; (with_reducible refine (impl_label.calls _ _ y _ HY.out).mono ?_); rintro e w' ⟨rfl, ⟨nd, rfl⟩⟩; (first | exact ⟨rfl, _, World.drewN_drewN _ _ _⟩ | exact ⟨rfl, _, Eq.trans (World.drewN_drewN _ _ _) (congrArg (World.drewN _) (Nat.add_assoc _ _ _))⟩)))
            go_wp2
            go_meet
            case rel => exact ⟨_, n, rfl, H', ⟨by have := HK3.out; omega⟩, ⟨HS.out.drewN _⟩⟩
          ·rw [if_neg c8] at H
           have H' := Aside0.mk H
           clear H
           have t8 : decide (n < (rest.length : Int)) = false := decide_eq_false c8
           clear c8
           go_wp2
           go_quiet (fail)
           go_wp2
           go_meet
           case rel => exact ⟨_, n, rfl, H', ⟨by have := HK3.out; omega⟩, ⟨HS.out.drewN _⟩⟩
       case rest =>
        clear H' HS
        obtain ⟨kq, n, rfl, HA, HK3, HS⟩ := hcut
        cases kq with
        | zero => exact absurd HA.out (by simp [impl_sieveOf.l3])
        | succ k3 =>
         have H := HA.out
         clear HA
         simp only [impl_sieveOf.l3] at H
         obtain ⟨g, H⟩ := zn H
         obtain ⟨x, hx, H⟩ := Option.bind_eq_some_iff.1 H
         have HXR := Aside0.mk (label_range hx)
         have HX := Aside0.mk hx
         clear hx
         obtain ⟨ad1, hA, y0⟩ := HS.out.key HC.out.2 0 (Int.le_refl 0) (by have := C7.out; omega)
         subst hA
         rw [show ((0 : Int)).toNat = 0 from rfl, Addr.add_zero'] at y0
         have t9 : (0 < rest.length) = True := eq_true (by have := C7.out; omega)
         obtain ⟨i9, hi9, _, hsz9, _⟩ := info_parts info9
         have hcutF := cut_from (P := Try.prog) 23 9 .i64 Try.underlying23 hi9 1 hsz9 (some ad1) rest.length c1 n g.2.2.2.1 g.2.2.2.2.1
         have hcutT := cut_to (P := Try.prog) 23 9 .i64 Try.underlying23 hi9 (some ad1) rest.length c1 n g.2.2.2.1 g.2.2.2.2.1 HC.out.1
         have hCF := Kd.C_drop (m := n.toNat) (c := c1) HC.out.2 (by omega) HC.out.1
         have hCT := Kd.C_take (m := n.toNat) HC.out.2 (by omega)
         obtain ⟨dr, hdr⟩ : ∃ dr, dr = rest.drop n.toNat := ⟨_, rfl⟩
         obtain ⟨tk, htk⟩ : ∃ tk, tk = rest.take n.toNat := ⟨_, rfl⟩
         have hdl : rest.length - n.toNat = dr.length := by rw [hdr, List.length_drop]
         have htl : n.toNat = tk.length := by rw [htk, List.length_take]; omega
         have hc1' := HC.out.1
         obtain ⟨Af, hAf⟩ : ∃ Af, Af = (if c1 = n.toNat then (some ad1 : Option Addr) else (some ad1 : Option Addr).map (·.add (n.toNat * 1))) := ⟨_, rfl⟩
         obtain ⟨cf, hcf⟩ : ∃ cf, cf = c1 - n.toNat := ⟨_, rfl⟩
         have hcle : dr.length ≤ cf := by omega
         have htc : tk.length ≤ c1 := by omega
         rw [← hdr] at H hCF
         rw [← htk] at H hCT
         rw [← hAf, ← hcf, hdl] at hcutF
         replace hCF : Kd.string.C w Af dr.length dr := by rw [hAf]; exact hCF
         rw [htl] at hcutT
         have HCF := Aside0.mk (And.intro hcle hCF)
         have HCT := Aside0.mk (And.intro htc hCT)
         have G := Aside0.mk g
         have HT := Aside0.mk htl
         clear g hi9 hsz9 hCF hCT hdr htk hdl htl hAf hcf hcle htc hc1'
         by_cases c8 : n > 1
         ·rw [if_pos c8] at H
          have H' := Aside0.mk H
          clear H
          have t8 : decide (n > 1) = true := decide_eq_true c8
          clear c8
          go_wp2_with (first | (go_at_call 103; (with_reducible refine (impl_label.calls _ _ x _ HX.out).mono ?_); rintro e w' ⟨rfl, ⟨nd, rfl⟩⟩; replace HS := Aside0.mk (HS.out.drewN nd)) | (go_at_call 109; (with_reducible refine (Sv.bL HS.out x HXR.out G.out.1).mono ?_); rintro e w5 ⟨rfl, HS1⟩; clear HS; have HS := HS1; clear HS1) | (go_at_call 109; (with_reducible refine (Sv.bF HS.out mark HM.out G.out.2.2.1).mono ?_); rintro e w6 ⟨rfl, HS1⟩; clear HS; have HS := HS1; clear HS1) | (go_at_call 109; (with_reducible refine (Sv.bM HS.out 49 (by omega) G.out.2.1).mono ?_); rintro e w7 ⟨rfl, HS1⟩; clear HS; have HS := HS1; clear HS1) | ((with_reducible refine gate_builtin (b := .append) (xs := #[.tmp 71, .tmp 78]) rfl ?_); at_builtin; go_must (refine Kd.R_append (kq w) (w0 := w) w.heap.size rfl (.tmp 71) (.tmp 78) 109 108 (.agg #[(.slice none 0 0), (.int .i64 0)]) 32 rfl Try.underlying109 info108 rfl (show 0 < 2 by decide) (by omega) (.slice Aq Q.length cq) Q (⟨tk, wrap64 (depth + 1)⟩ : S108) [.slice (some ad1) tk.length c1, .int .i64 (wrap64 (depth + 1))] (fun _ => True) (fun _ => False) rfl rfl (k108_mk w ⟨tk, wrap64 (depth + 1)⟩ HCT.out.1 HCT.out.2) (fun _ h => h.elim) (fun _ _ => trivial) (Kd.R_mono HS.out.rQ (fun _ _ => trivial)) HS.out.below HS.out.below.size (by have := G.out.2.2.2.2.2.2.2.2.1; omega) ?_); intro v8 w8 hown8 hbel8 hgrow8 hat8; have HS1 := Aside0.mk (HS.out.pushQ hgrow8 hbel8 hown8); clear HS hown8 hbel8 hgrow8 hat8; have HS := HS1; clear HS1))
          go_roundg k3
          case measure => have := HK3.out; omega
          case rel => exact ⟨_, _, _, _, _, _, dr, Af, cf, 48, rfl, rfl, H', ⟨by have := HK2.out; have := HK3.out; omega⟩, HS, HCF, ⟨by omega⟩⟩
         ·rw [if_neg c8] at H
          have H' := Aside0.mk H
          clear H
          have t8 : decide (n > 1) = false := decide_eq_false c8
          clear c8
          go_upto_region 20 with (first | (go_at_call 103; (with_reducible refine (impl_label.calls _ _ x _ HX.out).mono ?_); rintro e w' ⟨rfl, ⟨nd, rfl⟩⟩; replace HS := Aside0.mk (HS.out.drewN nd)) | (go_at_call 109; (with_reducible refine (Sv.bL HS.out x HXR.out G.out.1).mono ?_); rintro e w5 ⟨rfl, HS1⟩; clear HS; have HS := HS1; clear HS1) | (go_at_call 109; (with_reducible refine (Sv.bF HS.out mark HM.out G.out.2.2.1).mono ?_); rintro e w6 ⟨rfl, HS1⟩; clear HS; have HS := HS1; clear HS1) | (go_at_call 109; (with_reducible refine (Sv.bM HS.out 48 (by omega) G.out.2.1).mono ?_); rintro e w7 ⟨rfl, HS1⟩; clear HS; have HS := HS1; clear HS1))
          clear y0
          obtain ⟨ad2, hA, y0⟩ := HS.out.key HC.out.2 0 (Int.le_refl 0) (by have := C7.out; omega)
          obtain rfl : ad1 = ad2 := by injection hA
          clear hA
          rw [show ((0 : Int)).toNat = 0 from rfl, Addr.add_zero'] at y0
          generalize rdOf ByteArray.empty rest 0 = s at y0 H'
          have LO := Aside0.mk (show 0 ≤ mn (wrap64 (depth + 1)) (s.size : Int) ∧ mn (wrap64 (depth + 1)) (s.size : Int) ≤ (s.size : Int) by
           have h1 := G.out.2.2.2.2.2.1
           have h2 := G.out.2.2.2.2.2.2.1
           have h3 : wrap64 (depth + 1) = depth + 1 := by unfold wrap64; omega
           rw [h3]
           unfold mn
           split <;> omega)
          obtain ⟨ji, hji⟩ : ∃ j_ : Int, mn (wrap64 (depth + 1)) (s.size : Int) = j_ := ⟨_, rfl⟩
          rw [hji] at LO H'
          have hji_ : (if (s.size : Int) < (wrap64 (depth + 1)) then (s.size : Int) else (wrap64 (depth + 1))) = ji := hji
          clear hji
          have hwr : IntKind.i64.wrap (depth + 1) = wrap64 (depth + 1) := i64_w _
          have p1 := eq_true LO.out.1
          have p2 := eq_true LO.out.2
          have p3 : decide (0 ≤ ji) = true := decide_eq_true LO.out.1
          have p4 : decide (ji ≤ (s.size : Int)) = true := decide_eq_true LO.out.2
          go_wp2
          go_quiet (fail)
          go_wp2
          replace HS := Aside0.mk (HS.out.drewN nq)
          generalize w7.drewN nq = w8 at HS ⊢
          clear y0 p1 p2 p3 p4 hji_ hwr LO
          generalize s.extract ji.toNat s.size = tl at H' ⊢
          have LO := Aside0.mk (show 0 ≤ mn a1 (tl.size : Int) ∧ mn a1 (tl.size : Int) ≤ (tl.size : Int) by
           have h1 := G.out.2.2.2.2.2.2.2.1
           unfold mn
           split <;> omega)
          obtain ⟨jh, hjh⟩ : ∃ j_ : Int, mn a1 (tl.size : Int) = j_ := ⟨_, rfl⟩
          rw [hjh] at LO H'
          have hjh_ : (if (tl.size : Int) < a1 then (tl.size : Int) else a1) = jh := hjh
          clear hjh
          have p1 := eq_true LO.out.1
          have p2 := eq_true LO.out.2
          have p3 : decide (0 ≤ jh) = true := decide_eq_true LO.out.1
          have p4 : decide (jh ≤ (tl.size : Int)) = true := decide_eq_true LO.out.2
          obtain ⟨b0, f0⟩ := HS.out.boxc
          have hlt : (w.heap.size + 1 + 1 + 1 + 1 < w8.heap.size) = True := eq_true (blk_lt HS.out.box)
          go_region_law ((refine Kd.R_append_step Kd.string (w0 := w) (W := w8.drew) w.heap.size (by first | rfl | simp [Region.wanted]) (.tmp 93) (.tmp 100) 23 9 (.string ⟨#[]⟩) 16 (by rfl) Try.underlying23 info9 (by rfl) (by decide) (by omega) vR R (tl.extract 0 jh.toNat) [.string (tl.extract 0 jh.toNat)] (fun _ => True) (fun _ => False) (by first | rfl | simp [Act.eval, Act.put]) (by first | rfl | (simp [Act.eval, Act.put]; done)) (by rfl) (fun _ h => h.elim) (fun _ _ => trivial) (Kd.R_mono HS.out.drew.rR (fun _ _ => trivial)) HS.out.drew.below HS.out.drew.below.size (by have := G.out.2.2.2.2.2.2.2.2.2; omega) ?_; intro v9 w9 hown9 hbel9 hgrow9 hat9; obtain ⟨ao9, cap9, rfl⟩ := Kd.R_slice hown9; obtain ⟨b9, f9⟩ := HS.out.drew.boxg hgrow9; have HS9 := Aside0.mk (HS.out.drew.pushR hgrow9 hbel9 hown9); rw [show (R ++ [tl.extract 0 jh.toNat]).length = R.length + 1 from List.length_append] at HS9; clear hown9 hbel9 hgrow9 hat9))
          all_goals
           clear b0 f0 b9 f9 p1 p2 p3 p4 hjh_ hlt HS
           go_wp2
           go_roundg k3
           case measure => have := HK3.out; omega
           case rel => exact ⟨_, _, _, _, _, _, dr, Af, cf, 48, rfl, rfl, H', ⟨by have := HK2.out; have := HK3.out; omega⟩, HS9, HCF, ⟨by omega⟩⟩
      ·rw [if_neg c7] at H
       have H' := Aside0.mk H
       clear H
       have t7 : decide ((rest.length : Int) > 0) = false := decide_eq_false c7
       have t7' : decide (0 < rest.length) = false := decide_eq_false (by omega)
       clear c7
       go_wp2
       go_roundg k2
       case measure => have := HK2.out; omega
       case rel => exact ⟨a, b, c, R, Q, _, vR, rfl, H', ⟨by have := HK1.out; have := HK2.out; omega⟩, HS⟩
   ·rw [if_neg c5] at H
    have t5 : decide (i < (Q.length : Int)) = false := decide_eq_false c5
    clear c5
    obtain rfl := Option.some.inj H
    clear H
    replace HS := Aside0.mk HS.out.sw
    go_upto_region 24 with (first | (go_at_call 110; (with_reducible refine (Sw.sL HS.out).mono ?_); rintro e w5 ⟨rfl, HS1⟩; clear HS; have HS := HS1; clear HS1) | (go_at_call 110; (with_reducible refine (Sw.sM HS.out).mono ?_); rintro e w6 ⟨rfl, HS1⟩; clear HS; have HS := HS1; clear HS1) | (go_at_call 110; (with_reducible refine (Sw.sF HS.out).mono ?_); rintro e w7 ⟨rfl, HS1⟩; clear HS; have HS := HS1; clear HS1; have b0 := blk_cell (show w7.heap[w.heap.size + 1 + 1 + 1 + 1]? = some (.cells _ 25 (0, 0)) from HS.out.2.2.1) 0; have b1 := blk_cell (show w7.heap[w.heap.size + 1 + 1 + 1 + 1]? = some (.cells _ 25 (0, 0)) from HS.out.2.2.1) 1; have b2 := blk_cell (show w7.heap[w.heap.size + 1 + 1 + 1 + 1]? = some (.cells _ 25 (0, 0)) from HS.out.2.2.1) 2; have f0 := blk_frozen (show w7.heap[w.heap.size + 1 + 1 + 1 + 1]? = some (.cells _ 25 (0, 0)) from HS.out.2.2.1) 0; have f1 := blk_frozen (show w7.heap[w.heap.size + 1 + 1 + 1 + 1]? = some (.cells _ 25 (0, 0)) from HS.out.2.2.1) 1; have f2 := blk_frozen (show w7.heap[w.heap.size + 1 + 1 + 1 + 1]? = some (.cells _ 25 (0, 0)) from HS.out.2.2.1) 2))
    obtain ⟨Av, cv, hv⟩ := Kd.R_slice HS.out.2.2.2
    subst hv
    replace HS := fin1 (a := a) (b := b) (c := c) HS.out
    clear b0 b1 b2 f0 f1 f2
    generalize (((w7.setCell ⟨w.heap.size + 1 + 1 + 1 + 1, 0, none⟩ (.string a)).setCell ⟨w.heap.size + 1 + 1 + 1 + 1, 1, none⟩ (.string b)).setCell ⟨w.heap.size + 1 + 1 + 1 + 1, 2, none⟩ (.string c)) = w8 at HS ⊢
    have z0 := blk_cell HS.out.2.2.1 0
    have z1 := blk_cell HS.out.2.2.1 1
    have z2 := blk_cell HS.out.2.2.1 2
    have z3 := blk_cell HS.out.2.2.1 3
    have z4 := blk_cell HS.out.2.2.1 4
    have g0 := blk_frozen (show w8.heap[w.heap.size]? = some (.cells _ 25 (0, 0)) from HS.out.2.1) 0
    have g1 := blk_frozen (show w8.heap[w.heap.size]? = some (.cells _ 25 (0, 0)) from HS.out.2.1) 1
    have g2 := blk_frozen (show w8.heap[w.heap.size]? = some (.cells _ 25 (0, 0)) from HS.out.2.1) 2
    have g3 := blk_frozen (show w8.heap[w.heap.size]? = some (.cells _ 25 (0, 0)) from HS.out.2.1) 3
    have g4 := blk_frozen (show w8.heap[w.heap.size]? = some (.cells _ 25 (0, 0)) from HS.out.2.1) 4
    have y0 := blk_cell (show w8.heap[w.heap.size]? = some (.cells _ 25 (0, 0)) from HS.out.2.1) 0
    have y1 := blk_cell (show w8.heap[w.heap.size]? = some (.cells _ 25 (0, 0)) from HS.out.2.1) 1
    have y2 := blk_cell (show w8.heap[w.heap.size]? = some (.cells _ 25 (0, 0)) from HS.out.2.1) 2
    have y3 := blk_cell (show w8.heap[w.heap.size]? = some (.cells _ 25 (0, 0)) from HS.out.2.1) 3
    have y4 := blk_cell (show w8.heap[w.heap.size]? = some (.cells _ 25 (0, 0)) from HS.out.2.1) 4
    have hu25 := Try.underlying25
    go_wp2
    have HZ := fin2 HS.out
    clear z0 z1 z2 z3 z4 g0 g1 g2 g3 g4 y0 y1 y2 y3 y4 HS
    refine bodyPost_ret (results_cell_row rfl _ _ w.heap.size 25 #[.string a, .string b, .string c, .slice Av R.length cv, .int .i64 a1] (0, 0) _ rfl HZ.out.2.1 Try.underlying25 rfl (by kernel_rfl)) rfl ?_
    exact ⟨_, rfl, HZ.out.2.2, HZ.out.1⟩
end Go.Proofs.Ytifgcajpkgamgaa.Hand
end
section
namespace Go.Proofs.Ytifgcajpkgamgaa.Q
open Go.RowKit Go.Proofs.YtifgcajpkgamgaaW.PrintWords Go.Proofs.YtifgcajpkgamgaaW.PrintLast Go.Proofs.YtifgcajpkgamgaaW.PrintMore
attribute [local go_sem] max2_int min2_int max_two min_two max_three min_three max_four min_four   
set_option linter.unusedVariables false
set_option linter.unusedSimpArgs false
set_option maxHeartbeats 8000000
set_option maxRecDepth 100000
theorem impl_sieveOf.mono_l : ∀ k, (∀ y0 y1 y2 y3 y4 y5 y6, LeO (impl_sieveOf.l0 k y0 y1 y2 y3 y4 y5 y6) (impl_sieveOf.l0 (k + 1) y0 y1 y2 y3 y4 y5 y6)) ∧ (∀ y0 y1 y2 y3 y4 y5 y6 y7 y8 y9, LeO (impl_sieveOf.l1 k y0 y1 y2 y3 y4 y5 y6 y7 y8 y9) (impl_sieveOf.l1 (k + 1) y0 y1 y2 y3 y4 y5 y6 y7 y8 y9)) ∧ (∀ y0 y1 y2 y3 y4 y5 y6 y7 y8 y9 y10, LeO (impl_sieveOf.l2 k y0 y1 y2 y3 y4 y5 y6 y7 y8 y9 y10) (impl_sieveOf.l2 (k + 1) y0 y1 y2 y3 y4 y5 y6 y7 y8 y9 y10)) ∧ (∀ y0 y1 y2 y3 y4 y5 y6 y7 y8 y9 y10, LeO (impl_sieveOf.l3 k y0 y1 y2 y3 y4 y5 y6 y7 y8 y9 y10) (impl_sieveOf.l3 (k + 1) y0 y1 y2 y3 y4 y5 y6 y7 y8 y9 y10))
  | 0 => ⟨fun _ _ _ _ _ _ _ r h => by simp [impl_sieveOf.l0] at h, fun _ _ _ _ _ _ _ _ _ _ r h => by simp [impl_sieveOf.l1] at h, fun _ _ _ _ _ _ _ _ _ _ _ r h => by simp [impl_sieveOf.l2] at h, fun _ _ _ _ _ _ _ _ _ _ _ r h => by simp [impl_sieveOf.l3] at h⟩
  | k + 1 => by
    obtain ⟨ih0, ih1, ih2, ih3⟩ := impl_sieveOf.mono_l k
    refine ⟨?_, ?_, ?_, ?_⟩
    · intro y0 y1 y2 y3 y4 y5 y6
      unfold impl_sieveOf.l0
      repeat' first | (with_reducible first | apply ih0 | apply ih1 | apply ih2 | apply ih3 | exact LeO.refl _ | exact LeO.none _ | refine LeO.ite ?_ ?_ | refine LeO.bind ?_ (fun _ => ?_)) | exact LeO.none _ | refine LeO.ite ?_ ?_ | refine LeO.bind ?_ (fun _ => ?_)
    · intro y0 y1 y2 y3 y4 y5 y6 y7 y8 y9
      unfold impl_sieveOf.l1
      repeat' first | (with_reducible first | apply ih0 | apply ih1 | apply ih2 | apply ih3 | exact LeO.refl _ | exact LeO.none _ | refine LeO.ite ?_ ?_ | refine LeO.bind ?_ (fun _ => ?_)) | exact LeO.none _ | refine LeO.ite ?_ ?_ | refine LeO.bind ?_ (fun _ => ?_)
    · intro y0 y1 y2 y3 y4 y5 y6 y7 y8 y9 y10
      unfold impl_sieveOf.l2
      repeat' first | (with_reducible first | apply ih0 | apply ih1 | apply ih2 | apply ih3 | exact LeO.refl _ | exact LeO.none _ | refine LeO.ite ?_ ?_ | refine LeO.bind ?_ (fun _ => ?_)) | exact LeO.none _ | refine LeO.ite ?_ ?_ | refine LeO.bind ?_ (fun _ => ?_)
    · intro y0 y1 y2 y3 y4 y5 y6 y7 y8 y9 y10
      unfold impl_sieveOf.l3
      repeat' first | (with_reducible first | apply ih0 | apply ih1 | apply ih2 | apply ih3 | exact LeO.refl _ | exact LeO.none _ | refine LeO.ite ?_ ?_ | refine LeO.bind ?_ (fun _ => ?_)) | exact LeO.none _ | refine LeO.ite ?_ ?_ | refine LeO.bind ?_ (fun _ => ?_)
theorem impl_sieveOf.mono : ∀ a0 a1 k, LeO (impl_sieveOf.f k a0 a1) (impl_sieveOf.f (k + 1) a0 a1) := by
  intro a0 a1 k
  obtain ⟨ih0, ih1, ih2, ih3⟩ := impl_sieveOf.mono_l k
  unfold impl_sieveOf.f
  repeat' first | (with_reducible first | apply ih0 | apply ih1 | apply ih2 | apply ih3 | exact LeO.refl _ | exact LeO.none _ | refine LeO.ite ?_ ?_ | refine LeO.bind ?_ (fun _ => ?_)) | exact LeO.none _ | refine LeO.ite ?_ ?_ | refine LeO.bind ?_ (fun _ => ?_)
theorem impl_sieveOf.calls (k : Nat) (A0 : Option Addr) (c0 : Nat) (l0 : List ByteArray) (a1 : Int) (r1 : ByteArray) (r2 : ByteArray) (r3 : ByteArray) (r4 : List ByteArray) (r5 : Int) (w : World) (hr0 : Kd.C Kd.string w A0 l0.length l0) (hc0 : l0.length ≤ c0) (h : impl_sieveOf.f k l0 a1 = some (r1, r2, r3, r4, r5)) :
    Calls Try.prog 75 #[.slice A0 l0.length c0, .int .i64 a1] w fun e w' => ∃ v3_ : Value, e = .returned (.agg #[.string r1, .string r2, .string r3, v3_, .int .i64 r5]) ∧ Kd.R Kd.string 9 w' w.heap.size (fun _ => True) v3_ r4 ∧ Below w.heap.size w w' :=
  (Hand.sieveOf k A0 c0 l0 a1 (r1, r2, r3, r4, r5) w hr0 hc0 h).mono fun e w' h => h
theorem impl_SieveOf.mono : ∀ a0 a1 k, LeO (impl_SieveOf.f k a0 a1) (impl_SieveOf.f (k + 1) a0 a1) := by
  intro a0 a1 k
  unfold impl_SieveOf.f
  repeat' first | (with_reducible first | apply impl_KeysOk.mono | apply impl_sieveOf.mono | exact LeO.refl _ | exact LeO.none _ | refine LeO.ite ?_ ?_ | refine LeO.bind ?_ (fun _ => ?_)) | exact LeO.none _ | refine LeO.ite ?_ ?_ | refine LeO.bind ?_ (fun _ => ?_)
theorem impl_SieveOf.calls (k : Nat) (A0 : Option Addr) (c0 : Nat) (l0 : List ByteArray) (a1 : Int) (r1 r2 r3 : ByteArray) (r4 : List ByteArray) (r5 : Int) (r6 : Bool) (w : World) (hr0 : Kd.C Kd.string w A0 l0.length l0) (hc0 : l0.length ≤ c0) (h : impl_SieveOf.f k l0 a1 = some (r1, r2, r3, r4, r5, r6)) :
    Calls Try.prog 30 #[.slice A0 l0.length c0, .int .i64 a1] w fun e w' => ∃ v3_ : Value, e = .returned (.tuple #[.agg #[.string r1, .string r2, .string r3, v3_, .int .i64 r5], .bool r6]) ∧ Kd.R Kd.string 9 w' w.heap.size (fun _ => True) v3_ r4 ∧ Below w.heap.size w w' := by
 have hu25 := Try.underlying25; have HR0 := z0 hr0; have HC0 := z0 hc0; clear hr0 hc0; have HB := z0 (Below.refl w.heap.size w); have H : ((impl_KeysOk.f k l0).bind fun t321 => (if t321 = true then ((impl_isKeep.f a1).bind fun t322 => (if t322 = true then ((impl_sieveOf.f k l0 a1).bind fun bt323 => (some (bt323.1, bt323.2.1, bt323.2.2.1, bt323.2.2.2.1, bt323.2.2.2.2, true))) else (some ((⟨#[]⟩ : ByteArray), (⟨#[]⟩ : ByteArray), (⟨#[]⟩ : ByteArray), ([] : List ByteArray), 0, false)))) else (some ((⟨#[]⟩ : ByteArray), (⟨#[]⟩ : ByteArray), (⟨#[]⟩ : ByteArray), ([] : List ByteArray), 0, false)))) = some (r1, r2, r3, r4, r5, r6) := h; clear h; replace H := zi H; obtain ⟨t321, A3, H⟩ := H
 by_cases c4 : t321 = true
 ·subst c4
  have H1 : ((impl_isKeep.f a1).bind fun t322 => (if t322 = true then ((impl_sieveOf.f k l0 a1).bind fun bt323 => (some (bt323.1, bt323.2.1, bt323.2.2.1, bt323.2.2.2.1, bt323.2.2.2.2, true))) else (some ((⟨#[]⟩ : ByteArray), (⟨#[]⟩ : ByteArray), (⟨#[]⟩ : ByteArray), ([] : List ByteArray), 0, false)))) = some (r1, r2, r3, r4, r5, r6) := by rw [if_pos rfl] at H; exact H
  clear H; have H := H1; clear H1; replace H := zi H; obtain ⟨t322, A5, H⟩ := H
  by_cases c6 : t322 = true
  ·subst c6
   have H1 : ((impl_sieveOf.f k l0 a1).bind fun bt323 => (some (bt323.1, bt323.2.1, bt323.2.2.1, bt323.2.2.2.1, bt323.2.2.2.2, true))) = some (r1, r2, r3, r4, r5, r6) := by rw [if_pos rfl] at H; exact H
   clear H; have H := H1; clear H1; replace H := zi H; obtain ⟨⟨t323, t324, t325, t326, t329⟩, A7, H⟩ := H; (try dsimp only at H); simp only [Option.some.injEq, Prod.mk.injEq] at H; obtain ⟨rfl, rfl, rfl, rfl, rfl, rfl⟩ := H; go_enter Try.func30, Try.ntmps30
   go_wp2_with (first | ((with_reducible refine gd 4 ?_); refine zbx 25 #[.string ⟨#[]⟩, .string ⟨#[]⟩, .string ⟨#[]⟩, .slice none 0 0, .int .i64 0] ?_; intro gb320 hg w8 hbox hb; have BK320 := z0 (hbox); have GE320 := zG hg HB; replace HB := zH HB hb; clear hb hbox hg) | ((with_reducible refine gc 73 ?_); refine zL (some 7) Try.func73 #[.slice A0 l0.length c0] ?_; (with_reducible refine (impl_KeysOk.calls k _ _ l0 true _ ?side1 ?side2 A3.out).mono ?_); (case side1 => repeat (first | exact (Kd.C_below HR0.out HB.out) | (with_reducible refine Kd.C_alloc ?_ _) | (with_reducible refine Kd.C_drewN ?_ _) | (with_reducible refine Kd.C_drew ?_))); (case side2 => exact HC0.out); rintro e w' ⟨rfl, ⟨nd, rfl⟩⟩; refine ⟨_, rfl, ?_⟩; (try (rw [drewN_self w8]; generalize hq_ : World.drewN w8 _ = w8; have n0_ : Aside0 (w8.heap[gb320]? = some (.cells #[.string ⟨#[]⟩, .string ⟨#[]⟩, .string ⟨#[]⟩, .slice none 0 0, .int .i64 0] 25 (0, 0))) := ⟨by rw [← hq_]; exact (zl BK320.out)⟩; have n1_ : Aside0 (Below w.heap.size w w8) := ⟨by rw [← hq_]; exact (zb HB.out)⟩; clear BK320 HB hq_; have BK320 := n0_; have HB := n1_; clear n0_ n1_))) | (go_at_call 74; (with_reducible refine (impl_isKeep.calls a1 true _ A5.out).mono ?_); rintro e w' ⟨rfl, ⟨nd, rfl⟩⟩; (try (rw [drewN_self w8]; generalize hq_ : World.drewN w8 _ = w8; have n0_ : Aside0 (w8.heap[gb320]? = some (.cells #[.string ⟨#[]⟩, .string ⟨#[]⟩, .string ⟨#[]⟩, .slice none 0 0, .int .i64 0] 25 (0, 0))) := ⟨by rw [← hq_]; exact (zl BK320.out)⟩; have n1_ : Aside0 (Below w.heap.size w w8) := ⟨by rw [← hq_]; exact (zb HB.out)⟩; clear BK320 HB hq_; have BK320 := n0_; have HB := n1_; clear n0_ n1_))) | ((with_reducible refine gc 75 ?_); refine zL (some 17) Try.func75 #[.slice A0 l0.length c0, .int .i64 a1] ?_; (with_reducible refine (impl_sieveOf.calls k _ _ l0 a1 t323 t324 t325 t326 t329 _ (zC (Kd.C_below HR0.out HB.out)) HC0.out A7.out).mono ?_); rintro e w9 ⟨v327, rfl, ho0, hb⟩; refine zv ?_; have HO328 := z0 (Kd.R_lower ho0 (below_size (zb HB.out))); replace BK320 := zK BK320 hb; replace HB := zH HB hb; (try clear hb ho0); have hcz10 := zc5 BK320.out; obtain ⟨Ao11, co11, eo11⟩ := Kd.R_slice HO328.out; subst eo11))
   refine bodyPost_ret (results_ct rfl _ _ gb320 25 #[.string t323, .string t324, .string t325, .slice Ao11 t326.length co11, .int .i64 t329] (0, 0) _ rfl (zp BK320.out) Try.underlying25 rfl (by kernel_rfl)) rfl ?_; exact ⟨_, ze, Kd.R_mono (zt HO328.out BK320.out) (fun _ hk => trivial), zb HB.out⟩
  ·replace c6 := Bool.eq_false_iff.mpr c6; subst c6
   have H1 : (some ((⟨#[]⟩ : ByteArray), (⟨#[]⟩ : ByteArray), (⟨#[]⟩ : ByteArray), ([] : List ByteArray), 0, false)) = some (r1, r2, r3, r4, r5, r6) := by rw [if_neg (show ¬ (false = true) by decide)] at H; exact H
   clear H; have H := H1; clear H1; simp only [Option.some.injEq, Prod.mk.injEq] at H; obtain ⟨rfl, rfl, rfl, rfl, rfl, rfl⟩ := H; go_enter Try.func30, Try.ntmps30
   go_wp2_with (first | ((with_reducible refine gd 4 ?_); refine zbx 25 #[.string ⟨#[]⟩, .string ⟨#[]⟩, .string ⟨#[]⟩, .slice none 0 0, .int .i64 0] ?_; intro gb320 hg w12 hbox hb; have BK320 := z0 (hbox); have GE320 := zG hg HB; replace HB := zH HB hb; clear hb hbox hg) | ((with_reducible refine gc 73 ?_); refine zL (some 7) Try.func73 #[.slice A0 l0.length c0] ?_; (with_reducible refine (impl_KeysOk.calls k _ _ l0 true _ ?side1 ?side2 A3.out).mono ?_); (case side1 => repeat (first | exact (Kd.C_below HR0.out HB.out) | (with_reducible refine Kd.C_alloc ?_ _) | (with_reducible refine Kd.C_drewN ?_ _) | (with_reducible refine Kd.C_drew ?_))); (case side2 => exact HC0.out); rintro e w' ⟨rfl, ⟨nd, rfl⟩⟩; refine ⟨_, rfl, ?_⟩; (try (rw [drewN_self w12]; generalize hq_ : World.drewN w12 _ = w12; have n0_ : Aside0 (w12.heap[gb320]? = some (.cells #[.string ⟨#[]⟩, .string ⟨#[]⟩, .string ⟨#[]⟩, .slice none 0 0, .int .i64 0] 25 (0, 0))) := ⟨by rw [← hq_]; exact (zl BK320.out)⟩; have n1_ : Aside0 (Below w.heap.size w w12) := ⟨by rw [← hq_]; exact (zb HB.out)⟩; clear BK320 HB hq_; have BK320 := n0_; have HB := n1_; clear n0_ n1_))) | (go_at_call 74; (with_reducible refine (impl_isKeep.calls a1 false _ A5.out).mono ?_); rintro e w' ⟨rfl, ⟨nd, rfl⟩⟩; (try (rw [drewN_self w12]; generalize hq_ : World.drewN w12 _ = w12; have n0_ : Aside0 (w12.heap[gb320]? = some (.cells #[.string ⟨#[]⟩, .string ⟨#[]⟩, .string ⟨#[]⟩, .slice none 0 0, .int .i64 0] 25 (0, 0))) := ⟨by rw [← hq_]; exact (zl BK320.out)⟩; have n1_ : Aside0 (Below w.heap.size w w12) := ⟨by rw [← hq_]; exact (zb HB.out)⟩; clear BK320 HB hq_; have BK320 := n0_; have HB := n1_; clear n0_ n1_)); have hcz13 := zc5 BK320.out))
   refine bodyPost_ret (results_ct rfl _ _ gb320 25 #[.string ⟨#[]⟩, .string ⟨#[]⟩, .string ⟨#[]⟩, .slice none 0 0, .int .i64 0] (0, 0) _ rfl (zp BK320.out) Try.underlying25 rfl (by kernel_rfl)) rfl ?_; exact ⟨_, ze, by first | exact Kd.R_nil _ _ _ _ _ | exact Kd.N_nil _ _ _ _ _ | exact Kd.V_nil _ _ _ _ _ | exact Kd.Q_nil _ _ _ _ _ | exact Kd.S_nil _ _ _ _ _, zb HB.out⟩
 ·replace c4 := Bool.eq_false_iff.mpr c4; subst c4
  have H1 : (some ((⟨#[]⟩ : ByteArray), (⟨#[]⟩ : ByteArray), (⟨#[]⟩ : ByteArray), ([] : List ByteArray), 0, false)) = some (r1, r2, r3, r4, r5, r6) := by rw [if_neg (show ¬ (false = true) by decide)] at H; exact H
  clear H; have H := H1; clear H1; simp only [Option.some.injEq, Prod.mk.injEq] at H; obtain ⟨rfl, rfl, rfl, rfl, rfl, rfl⟩ := H; go_enter Try.func30, Try.ntmps30
  go_wp2_with (first | ((with_reducible refine gd 4 ?_); refine zbx 25 #[.string ⟨#[]⟩, .string ⟨#[]⟩, .string ⟨#[]⟩, .slice none 0 0, .int .i64 0] ?_; intro gb320 hg w14 hbox hb; have BK320 := z0 (hbox); have GE320 := zG hg HB; replace HB := zH HB hb; clear hb hbox hg) | ((with_reducible refine gc 73 ?_); refine zL (some 7) Try.func73 #[.slice A0 l0.length c0] ?_; (with_reducible refine (impl_KeysOk.calls k _ _ l0 false _ ?side1 ?side2 A3.out).mono ?_); (case side1 => repeat (first | exact (Kd.C_below HR0.out HB.out) | (with_reducible refine Kd.C_alloc ?_ _) | (with_reducible refine Kd.C_drewN ?_ _) | (with_reducible refine Kd.C_drew ?_))); (case side2 => exact HC0.out); rintro e w' ⟨rfl, ⟨nd, rfl⟩⟩; refine ⟨_, rfl, ?_⟩; (try (rw [drewN_self w14]; generalize hq_ : World.drewN w14 _ = w14; have n0_ : Aside0 (w14.heap[gb320]? = some (.cells #[.string ⟨#[]⟩, .string ⟨#[]⟩, .string ⟨#[]⟩, .slice none 0 0, .int .i64 0] 25 (0, 0))) := ⟨by rw [← hq_]; exact (zl BK320.out)⟩; have n1_ : Aside0 (Below w.heap.size w w14) := ⟨by rw [← hq_]; exact (zb HB.out)⟩; clear BK320 HB hq_; have BK320 := n0_; have HB := n1_; clear n0_ n1_)); have hcz15 := zc5 BK320.out))
  refine bodyPost_ret (results_ct rfl _ _ gb320 25 #[.string ⟨#[]⟩, .string ⟨#[]⟩, .string ⟨#[]⟩, .slice none 0 0, .int .i64 0] (0, 0) _ rfl (zp BK320.out) Try.underlying25 rfl (by kernel_rfl)) rfl ?_; exact ⟨_, ze, by first | exact Kd.R_nil _ _ _ _ _ | exact Kd.N_nil _ _ _ _ _ | exact Kd.V_nil _ _ _ _ _ | exact Kd.Q_nil _ _ _ _ _ | exact Kd.S_nil _ _ _ _ _, zb HB.out⟩
theorem impl_BitsOk.mono_l : ∀ k, (∀ y0 y1 y2, LeO (impl_BitsOk.l0 k y0 y1 y2) (impl_BitsOk.l0 (k + 1) y0 y1 y2))
  | 0 => fun _ _ _ r h => by simp [impl_BitsOk.l0] at h
  | k + 1 => by
    have ih0 := impl_BitsOk.mono_l k
    · intro y0 y1 y2
      unfold impl_BitsOk.l0
      repeat' first | (with_reducible first | apply ih0 | exact LeO.refl _ | exact LeO.none _ | refine LeO.ite ?_ ?_ | refine LeO.bind ?_ (fun _ => ?_)) | exact LeO.none _ | refine LeO.ite ?_ ?_ | refine LeO.bind ?_ (fun _ => ?_)
theorem impl_BitsOk.mono : ∀ a0 k, LeO (impl_BitsOk.f k a0) (impl_BitsOk.f (k + 1) a0) := by
  intro a0 k
  have ih0 := impl_BitsOk.mono_l k
  unfold impl_BitsOk.f
  repeat' first | (with_reducible first | apply ih0 | exact LeO.refl _ | exact LeO.none _ | refine LeO.ite ?_ ?_ | refine LeO.bind ?_ (fun _ => ?_)) | exact LeO.none _ | refine LeO.ite ?_ ?_ | refine LeO.bind ?_ (fun _ => ?_)
theorem impl_BitsOk.calls (k : Nat) (a0 : ByteArray) (r : Bool) (w : World) (h : impl_BitsOk.f k a0 = some r) :
    Calls Try.prog 98 #[.string a0] w fun e w' => e = .returned (.bool r) ∧ Drawn0 w w' := by
 have H : (impl_BitsOk.l0 k a0 (a0.size : Int) 0) = some r := h; clear h; have H' := z0 H; clear H; go_enter Try.func98, Try.ntmps98; go_wp2
 go_loopg [6] k (fun kq v6 w' => ∃ (x6_1 : Int), v6 = .int .i64 x6_1 ∧ Aside0 (impl_BitsOk.l0 kq a0 (a0.size : Int) x6_1 = some r) ∧ Aside0 (kq ≤ k) ∧ Drawn0 w w')
 case atStart => exact ⟨(0), zf, H', ⟨Nat.le_refl _⟩, by repeat (first | exact Drawn0.refl _ | apply Drawn0.step)⟩
 case round =>
  clear H'; obtain ⟨x6_1, rfl, HA, HK1, ⟨m1, rfl⟩⟩ := hrel
  cases gk with
  | zero => exact absurd HA.out (by simp [impl_BitsOk.l0])
  | succ k1 =>
   have H := HA.out; clear HA; simp only [impl_BitsOk.l0] at H
   by_cases c2 : x6_1 < (a0.size : Int)
   ·rw [if_pos c2] at H; have c2b0 := decide_eq_true c2; clear c2; replace H := zn H; obtain ⟨c3, H⟩ := H; have c3b0 := decide_eq_true c3; clear c3; replace H := zn H; obtain ⟨c4, H⟩ := H; have c4b0 := decide_eq_true c4; clear c4
    by_cases c6 : (bt a0 x6_1) = 48
    ·rw [if_pos c6] at H; have c6b0 : ((bt a0 x6_1) == 48) = true := beq_iff_eq.mpr c6; have c6b1 : ((bt a0 x6_1) != 48) = false := bne_eq_false_iff_eq.mpr c6; clear c6; have H' := z0 H; clear H; have p5 : 0 ≤ (x6_1 : Int) := zd; have q5 : x6_1 < (a0.size : Int) := zd; have hx5 := bt_at a0 x6_1; replace p5 := eq_true p5; replace q5 := eq_true q5; go_wp2; go_roundg k1
     case measure => have := HK1.out; omega
     case rel => exact ⟨(wrap64 (x6_1 + 1)), zf, H', ⟨by have := HK1.out; omega⟩, by repeat (first | exact Drawn0.refl _ | apply Drawn0.step)⟩
    ·rw [if_neg c6] at H; have c6b0 : ((bt a0 x6_1) == 48) = false := beq_eq_false_iff_ne.mpr c6; have c6b1 : ((bt a0 x6_1) != 48) = true := bne_iff_ne.mpr c6
     by_cases c8 : (bt a0 x6_1) = 49
     ·rw [if_pos c8] at H; have c8b0 : ((bt a0 x6_1) == 49) = true := beq_iff_eq.mpr c8; have c8b1 : ((bt a0 x6_1) != 49) = false := bne_eq_false_iff_eq.mpr c8; clear c8; have H' := z0 H; clear H; have p5 : 0 ≤ (x6_1 : Int) := zd; have q5 : x6_1 < (a0.size : Int) := zd; have hx5 := bt_at a0 x6_1; replace p5 := eq_true p5; replace q5 := eq_true q5; have p7 : 0 ≤ (x6_1 : Int) := zd; have q7 : x6_1 < (a0.size : Int) := zd; have hx7 := bt_at a0 x6_1; replace p7 := eq_true p7; replace q7 := eq_true q7; go_wp2; go_roundg k1
      case measure => have := HK1.out; omega
      case rel => exact ⟨(wrap64 (x6_1 + 1)), zf, H', ⟨by have := HK1.out; omega⟩, by repeat (first | exact Drawn0.refl _ | apply Drawn0.step)⟩
     ·rw [if_neg c8] at H; have c8b0 : ((bt a0 x6_1) == 49) = false := beq_eq_false_iff_ne.mpr c8; have c8b1 : ((bt a0 x6_1) != 49) = true := bne_iff_ne.mpr c8; obtain rfl := Option.some.inj H; have p5 : 0 ≤ (x6_1 : Int) := zd; have q5 : x6_1 < (a0.size : Int) := zd; have hx5 := bt_at a0 x6_1; replace p5 := eq_true p5; replace q5 := eq_true q5; have p7 : 0 ≤ (x6_1 : Int) := zd; have q7 : x6_1 < (a0.size : Int) := zd; have hx7 := bt_at a0 x6_1; replace p7 := eq_true p7; replace q7 := eq_true q7; go_wp2; go_ret; exact ⟨zf, by repeat (first | exact Drawn0.refl _ | apply Drawn0.step)⟩
   ·rw [if_neg c2] at H; have c2b0 := decide_eq_false c2; clear c2; obtain rfl := Option.some.inj H; go_wp2; go_ret; exact ⟨zf, by repeat (first | exact Drawn0.refl _ | apply Drawn0.step)⟩
theorem strings_Count.calls (a0 a1 : ByteArray) (r : Int) (w : World) (h : strings_Count.f a0 a1 = some r) :
    Calls Try.prog 100 #[.string a0, .string a1] w fun e w' => e = .returned (.int .i64 r) ∧ Drawn0 w w' := by
 unfold strings_Count.f at h
 by_cases hs : a1.size = 1
 ·rw [if_pos hs] at h; obtain rfl := Option.some.inj h
  obtain ⟨c, rfl⟩ : ∃ c, a1 = ⟨#[c]⟩ := by
    obtain ⟨⟨l⟩⟩ := a1
    match l, hs with
    | [c], _ => exact ⟨c, rfl⟩
  exact (Try.strings_Count_one a0 c w).mono fun e w' ⟨he, hw⟩ => ⟨he, ⟨⟨0, hw⟩⟩⟩
 ·rw [if_neg hs] at h
  cases h
theorem impl_one.mono_l : ∀ k, (∀ y0 y1 y2 y3, LeO (impl_one.l0 k y0 y1 y2 y3) (impl_one.l0 (k + 1) y0 y1 y2 y3))
  | 0 => fun _ _ _ _ r h => by simp [impl_one.l0] at h
  | k + 1 => by
    have ih0 := impl_one.mono_l k
    · intro y0 y1 y2 y3
      unfold impl_one.l0
      repeat' first | (with_reducible first | apply ih0 | exact LeO.refl _ | exact LeO.none _ | refine LeO.ite ?_ ?_ | refine LeO.bind ?_ (fun _ => ?_)) | exact LeO.none _ | refine LeO.ite ?_ ?_ | refine LeO.bind ?_ (fun _ => ?_)
theorem impl_one.mono : ∀ a0 a1 k, LeO (impl_one.f k a0 a1) (impl_one.f (k + 1) a0 a1) := by
  intro a0 a1 k
  have ih0 := impl_one.mono_l k
  unfold impl_one.f
  repeat' first | (with_reducible first | apply ih0 | exact LeO.refl _ | exact LeO.none _ | refine LeO.ite ?_ ?_ | refine LeO.bind ?_ (fun _ => ?_)) | exact LeO.none _ | refine LeO.ite ?_ ?_ | refine LeO.bind ?_ (fun _ => ?_)
theorem impl_one.calls (k : Nat) (a0 : ByteArray) (a1 r : Int) (w : World) (h : impl_one.f k a0 a1 = some r) :
    Calls Try.prog 125 #[.string a0, .int .i64 a1] w fun e w' => e = .returned (.int .i64 r) ∧ Drawn0 w w' := by
 have H : (impl_one.l0 k a0 a1 (a0.size : Int) 0) = some r := h; clear h; have H' := z0 H; clear H; go_enter Try.func125, Try.ntmps125; go_wp2
 go_loopg [1, 8] k (fun kq v1 v8 w' => ∃ (x1_1 : Int) (x8_1 : Int), v1 = .int .i64 x1_1 ∧ v8 = .int .i64 x8_1 ∧ Aside0 (impl_one.l0 kq a0 x1_1 (a0.size : Int) x8_1 = some r) ∧ Aside0 (kq ≤ k) ∧ Drawn0 w w')
 case atStart => exact ⟨(a1), (0), zf, zf, H', ⟨Nat.le_refl _⟩, by repeat (first | exact Drawn0.refl _ | apply Drawn0.step)⟩
 case round =>
  clear H'
  try clear c1
  try clear p2
  obtain ⟨x1_1, x8_1, rfl, rfl, HA, HK1, ⟨m1, rfl⟩⟩ := hrel
  cases gk with
  | zero => exact absurd HA.out (by simp [impl_one.l0])
  | succ k1 =>
   have H := HA.out; clear HA; simp only [impl_one.l0] at H
   by_cases c3 : x8_1 < (a0.size : Int)
   ·rw [if_pos c3] at H; have c3b0 := decide_eq_true c3; clear c3; replace H := zn H; obtain ⟨c4, H⟩ := H; have c4b0 := decide_eq_true c4; clear c4; replace H := zn H; obtain ⟨c5, H⟩ := H; have c5b0 := decide_eq_true c5; clear c5
    by_cases c7 : (bt a0 x8_1) = 49
    ·rw [if_pos c7] at H; have c7b0 : ((bt a0 x8_1) == 49) = true := beq_iff_eq.mpr c7; have c7b1 : ((bt a0 x8_1) != 49) = false := bne_eq_false_iff_eq.mpr c7; clear c7
     by_cases c8 : x1_1 = 0
     ·rw [if_pos c8] at H; have c8b0 : (x1_1 == 0) = true := beq_iff_eq.mpr c8; have c8b1 : (x1_1 != 0) = false := bne_eq_false_iff_eq.mpr c8; clear c8; obtain rfl := Option.some.inj H; have p6 : 0 ≤ (x8_1 : Int) := zd; have q6 : x8_1 < (a0.size : Int) := zd; have hx6 := bt_at a0 x8_1; replace p6 := eq_true p6; replace q6 := eq_true q6; go_wp2; go_ret; exact ⟨zf, by repeat (first | exact Drawn0.refl _ | apply Drawn0.step)⟩
     ·rw [if_neg c8] at H; have c8b0 : (x1_1 == 0) = false := beq_eq_false_iff_ne.mpr c8; have c8b1 : (x1_1 != 0) = true := bne_iff_ne.mpr c8; have H' := z0 H; clear H; have p6 : 0 ≤ (x8_1 : Int) := zd; have q6 : x8_1 < (a0.size : Int) := zd; have hx6 := bt_at a0 x8_1; replace p6 := eq_true p6; replace q6 := eq_true q6; go_wp2; go_roundg k1
      case measure => have := HK1.out; omega
      case rel => exact ⟨(wrap64 (x1_1 - 1)), (wrap64 (x8_1 + 1)), zf, zf, H', ⟨by have := HK1.out; omega⟩, by repeat (first | exact Drawn0.refl _ | apply Drawn0.step)⟩
    ·rw [if_neg c7] at H; have c7b0 : ((bt a0 x8_1) == 49) = false := beq_eq_false_iff_ne.mpr c7; have c7b1 : ((bt a0 x8_1) != 49) = true := bne_iff_ne.mpr c7; have H' := z0 H; clear H; have p6 : 0 ≤ (x8_1 : Int) := zd; have q6 : x8_1 < (a0.size : Int) := zd; have hx6 := bt_at a0 x8_1; replace p6 := eq_true p6; replace q6 := eq_true q6; go_wp2; go_roundg k1
     case measure => have := HK1.out; omega
     case rel => exact ⟨(x1_1), (wrap64 (x8_1 + 1)), zf, zf, H', ⟨by have := HK1.out; omega⟩, by repeat (first | exact Drawn0.refl _ | apply Drawn0.step)⟩
   ·rw [if_neg c3] at H; have c3b0 := decide_eq_false c3; clear c3; obtain rfl := Option.some.inj H; go_wp2; go_ret; exact ⟨zf, by repeat (first | exact Drawn0.refl _ | apply Drawn0.step)⟩
theorem impl_Sieve_branches.mono_l : ∀ k, (∀ y0 y1 y2 y3 y4 y5 y6, LeO (impl_Sieve_branches.l0 k y0 y1 y2 y3 y4 y5 y6) (impl_Sieve_branches.l0 (k + 1) y0 y1 y2 y3 y4 y5 y6))
  | 0 => fun _ _ _ _ _ _ _ r h => by simp [impl_Sieve_branches.l0] at h
  | k + 1 => by
    have ih0 := impl_Sieve_branches.mono_l k
    · intro y0 y1 y2 y3 y4 y5 y6
      unfold impl_Sieve_branches.l0
      repeat' first | (with_reducible first | apply ih0 | apply impl_one.mono | exact LeO.refl _ | exact LeO.none _ | refine LeO.ite ?_ ?_ | refine LeO.bind ?_ (fun _ => ?_)) | exact LeO.none _ | refine LeO.ite ?_ ?_ | refine LeO.bind ?_ (fun _ => ?_)
theorem impl_Sieve_branches.mono : ∀ a0 a1 a2 a3 a4 a5 k, LeO (impl_Sieve_branches.f k a0 a1 a2 a3 a4 a5) (impl_Sieve_branches.f (k + 1) a0 a1 a2 a3 a4 a5) := by
  intro a0 a1 a2 a3 a4 a5 k
  have ih0 := impl_Sieve_branches.mono_l k
  unfold impl_Sieve_branches.f
  repeat' first | (with_reducible first | apply ih0 | apply impl_one.mono | exact LeO.refl _ | exact LeO.none _ | refine LeO.ite ?_ ?_ | refine LeO.bind ?_ (fun _ => ?_)) | exact LeO.none _ | refine LeO.ite ?_ ?_ | refine LeO.bind ?_ (fun _ => ?_)
theorem impl_Sieve_branches.calls (k : Nat) (a0_0 a0_1 a0_2 : ByteArray) (A0_3 : Option Addr) (c0_3 : Nat) (l0_3 : List ByteArray) (a0_4 a1 r1 r2 : Int) (w : World) (hr0_3 : Kd.C Kd.string w A0_3 l0_3.length l0_3) (hc0_3 : l0_3.length ≤ c0_3) (h : impl_Sieve_branches.f k a0_0 a0_1 a0_2 l0_3 a0_4 a1 = some (r1, r2)) :
    Calls Try.prog 102 #[.agg #[.string a0_0, .string a0_1, .string a0_2, .slice A0_3 l0_3.length c0_3, .int .i64 a0_4], .int .i64 a1] w fun e w' => e = .returned (.tuple #[.int .i64 r1, .int .i64 r2]) ∧ Below w.heap.size w w' := by
 have hu25 := Try.underlying25; have HR0_3 := z0 hr0_3; have HC0_3 := z0 hc0_3; clear hr0_3 hc0_3; have HB := z0 (Below.refl w.heap.size w); have H : ((impl_one.f k a0_2 a1).bind fun t338 => (if t338 < 0 then (some (0, 0)) else (impl_Sieve_branches.l0 k t338 (wrap64 (t338 + 1)) a0_0 a0_1 a0_2 l0_3 a0_4))) = some (r1, r2) := h; clear h; replace H := zi H; obtain ⟨t338, A3, H⟩ := H; go_enter Try.func102, Try.ntmps102
 go_upto_if 13 with (first | ((with_reducible refine gd 2 ?_); refine zbx 25 #[.string a0_0, .string a0_1, .string a0_2, .slice A0_3 l0_3.length c0_3, .int .i64 a0_4] ?_; intro gb337 hg w4 hbox hb; have BK337 := z0 (hbox); have GE337 := zG hg HB; replace HB := zH HB hb; clear hb hbox hg; have hcz5 := zc5 BK337.out) | ((with_reducible refine gc 125 ?_); refine zL (some 11) Try.func125 #[.string a0_2, .int .i64 a1] ?_; (with_reducible refine (impl_one.calls k a0_2 a1 t338 _ A3.out).mono ?_); rintro e w' ⟨rfl, ⟨nd, rfl⟩⟩; refine ⟨_, rfl, ?_⟩))
 by_cases c6 : t338 < 0
 ·rw [if_pos c6] at H; have c6b0 := decide_eq_true c6; clear c6; (first | rw [c6b0] | (simp only [i64_w, i32_w]; rw [c6b0]) | simp only [*, Bool.not_true, Bool.not_false] | skip); simp only [Option.some.injEq, Prod.mk.injEq] at H; obtain ⟨rfl, rfl⟩ := H; go_wp2
  go_ret2
  exact ⟨ze, zb HB.out⟩
 ·rw [if_neg c6] at H; have c6b0 := decide_eq_false c6; clear c6; (first | rw [c6b0] | (simp only [i64_w, i32_w]; rw [c6b0]) | simp only [*, Bool.not_true, Bool.not_false] | skip); have H' := z0 H; clear H; go_wp2
  go_loopg [7] k (fun kq v7 w' => ∃ (x7_1 : Int), v7 = .int .i64 x7_1 ∧ Aside0 (impl_Sieve_branches.l0 kq t338 x7_1 a0_0 a0_1 a0_2 l0_3 a0_4 = some (r1, r2)) ∧ Aside0 (kq ≤ k) ∧ Aside0 (w'.heap[gb337]? = some (.cells #[.string a0_0, .string a0_1, .string a0_2, (.slice A0_3 l0_3.length c0_3), .int .i64 a0_4] 25 (0, 0))) ∧ Aside0 (Below w.heap.size w w'))
  case atStart => exact ⟨(wrap64 (t338 + 1)), zf, H', ⟨Nat.le_refl _⟩, ⟨zl BK337.out⟩, ⟨zb HB.out⟩⟩
  case round =>
   clear H'
   try clear c1
   try clear p2
   try clear c6
   try clear c6b0
   try clear p6
   try clear hcz5
   obtain ⟨x7_1, rfl, HA, HK1, BK337, HB⟩ := hrel
   cases gk with
   | zero => exact absurd HA.out (by simp [impl_Sieve_branches.l0])
   | succ k1 =>
    have H := HA.out; clear HA; simp only [impl_Sieve_branches.l0] at H
    by_cases c7 : x7_1 < (a0_2.size : Int)
    ·rw [if_pos c7] at H; have c7b0 := decide_eq_true c7; clear c7; replace H := zn H; obtain ⟨c8, H⟩ := H; have c8b0 := decide_eq_true c8; clear c8
     by_cases c10 : (bt a0_2 x7_1) = 48
     ·rw [if_pos c10] at H; have c10b0 : ((bt a0_2 x7_1) == 48) = true := beq_iff_eq.mpr c10; have c10b1 : ((bt a0_2 x7_1) != 48) = false := bne_eq_false_iff_eq.mpr c10; clear c10; have H' := z0 H; clear H; have hcz11 := zc5 BK337.out; have p9 : 0 ≤ (x7_1 : Int) := zd; have q9 : x7_1 < (a0_2.size : Int) := zd; have hx9 := bt_at a0_2 x7_1; replace p9 := eq_true p9; replace q9 := eq_true q9; go_wp2; go_roundg k1
      case measure => have := HK1.out; omega
      case rel => exact ⟨(wrap64 (x7_1 + 1)), zf, H', ⟨by have := HK1.out; omega⟩, ⟨zl BK337.out⟩, ⟨zb HB.out⟩⟩
     ·rw [if_neg c10] at H; have c10b0 : ((bt a0_2 x7_1) == 48) = false := beq_eq_false_iff_ne.mpr c10; have c10b1 : ((bt a0_2 x7_1) != 48) = true := bne_iff_ne.mpr c10; simp only [Option.some.injEq, Prod.mk.injEq] at H; obtain ⟨rfl, rfl⟩ := H; have hcz12 := zc5 BK337.out; have p9 : 0 ≤ (x7_1 : Int) := zd; have q9 : x7_1 < (a0_2.size : Int) := zd; have hx9 := bt_at a0_2 x7_1; replace p9 := eq_true p9; replace q9 := eq_true q9; go_wp2
      go_ret2
      exact ⟨ze, zb HB.out⟩
    ·rw [if_neg c7] at H; have c7b0 := decide_eq_false c7; clear c7; simp only [Option.some.injEq, Prod.mk.injEq] at H; obtain ⟨rfl, rfl⟩ := H; have hcz13 := zc5 BK337.out; go_wp2
     go_ret2
     exact ⟨ze, zb HB.out⟩
theorem impl_Sieve_node.calls (a0_0 a0_1 a0_2 : ByteArray) (A0_3 : Option Addr) (c0_3 : Nat) (l0_3 : List ByteArray) (a0_4 a1 r : Int) (w : World) (hr0_3 : Kd.C Kd.string w A0_3 l0_3.length l0_3) (hc0_3 : l0_3.length ≤ c0_3) (h : impl_Sieve_node.f a0_0 a0_1 a0_2 l0_3 a0_4 a1 = some r) :
    Calls Try.prog 104 #[.agg #[.string a0_0, .string a0_1, .string a0_2, .slice A0_3 l0_3.length c0_3, .int .i64 a0_4], .int .i64 a1] w fun e w' => e = .returned (.int .i64 r) ∧ Below w.heap.size w w' := by
 have hu25 := Try.underlying25; have HR0_3 := z0 hr0_3; have HC0_3 := z0 hc0_3; clear hr0_3 hc0_3; have HB := z0 (Below.refl w.heap.size w); have H : (if 0 ≤ (wrap64 (a1 + 1)) then (if (wrap64 (a1 + 1)) ≤ (a0_1.size : Int) then ((strings_Count.f (a0_1.extract 0 ((wrap64 (a1 + 1)) : Int).toNat) (⟨#[49]⟩ : ByteArray)).bind fun t340 => (some t340)) else (none)) else (none)) = some r := h; clear h; obtain ⟨ji3, hji3⟩ : ∃ j_ : Int, (wrap64 (a1 + 1)) = j_ := ⟨_, rfl⟩
 replace H : (if 0 ≤ (ji3) then (if (ji3) ≤ (a0_1.size : Int) then ((strings_Count.f (a0_1.extract 0 ((ji3) : Int).toNat) (⟨#[49]⟩ : ByteArray)).bind fun t340 => (some t340)) else (none)) else (none)) = some r := by first | (rw [hji3] at H; exact H) | (simp only [hji3] at H ⊢; exact H)
 have hji3w : (IntKind.i64.wrap (a1 + 1)) = ji3 := (i64_w _).trans hji3; replace H := zn H; obtain ⟨c4, H⟩ := H; have c4b0 := eq_true c4; have c4b1 := decide_eq_true c4; clear c4; replace H := zn H; obtain ⟨c5, H⟩ := H; have c5b0 := eq_true c5; have c5b1 := decide_eq_true c5; clear c5; replace H := zi H; obtain ⟨t340, A6, H⟩ := H; obtain rfl := Option.some.inj H; go_enter Try.func104, Try.ntmps104
 go_wp2_with (first | ((with_reducible refine gd 2 ?_); refine zbx 25 #[.string a0_0, .string a0_1, .string a0_2, .slice A0_3 l0_3.length c0_3, .int .i64 a0_4] ?_; intro gb339 hg w7 hbox hb; have BK339 := z0 (hbox); have GE339 := zG hg HB; replace HB := zH HB hb; clear hb hbox hg; have hcz8 := zc5 BK339.out) | ((with_reducible refine gc 100 ?_); refine goesL_ (some 10) rfl rfl Try.func100 (by kernel_rfl) rfl #[.string (a0_1.extract 0 ((ji3) : Int).toNat), .string ⟨#[49]⟩] rfl (by (try simp only [List.map_toArray, List.map_cons, List.map_nil]); first | done | (simp only [hji3]; rfl) | rfl | (simp only [List.length_drop, List.length_take]; rfl)) ?_; (with_reducible refine (strings_Count.calls (a0_1.extract 0 ((ji3) : Int).toNat) (⟨#[49]⟩ : ByteArray) t340 _ A6.out).mono ?_); rintro e w' ⟨rfl, ⟨nd, rfl⟩⟩; refine ⟨_, rfl, ?_⟩))
 go_ret; exact ⟨by first | rfl | (simp [errW_none, errW_some] <;> rfl) | (simp only [← hji3]; first | rfl | (simp [errW_none, errW_some] <;> rfl)) | (simp [*, errW_none, errW_some] <;> rfl), zb HB.out⟩
theorem impl_Sieve_rest.calls (a0_0 a0_1 a0_2 : ByteArray) (A0_3 : Option Addr) (c0_3 : Nat) (l0_3 : List ByteArray) (a0_4 a1 : Int) (r : ByteArray) (w : World) (hr0_3 : Kd.C Kd.string w A0_3 l0_3.length l0_3) (hc0_3 : l0_3.length ≤ c0_3) (h : impl_Sieve_rest.f a0_0 a0_1 a0_2 l0_3 a0_4 a1 = some r) :
    Calls Try.prog 106 #[.agg #[.string a0_0, .string a0_1, .string a0_2, .slice A0_3 l0_3.length c0_3, .int .i64 a0_4], .int .i64 a1] w fun e w' => e = .returned (.string r) ∧ Below w.heap.size w w' := by
 have hu25 := Try.underlying25; have HR0_3 := z0 hr0_3; have HC0_3 := z0 hc0_3; clear hr0_3 hc0_3; have HB := z0 (Below.refl w.heap.size w); have H : (if 0 ≤ a1 then (if a1 ≤ (a0_1.size : Int) then ((strings_Count.f (a0_1.extract 0 (a1 : Int).toNat) (⟨#[48]⟩ : ByteArray)).bind fun t342 => (if 0 ≤ t342 then (if t342 < (l0_3.length : Int) then (some (rdOf ByteArray.empty l0_3 t342)) else (none)) else (none))) else (none)) else (none)) = some r := h; clear h; replace H := zn H; obtain ⟨c3, H⟩ := H; have c3b0 := eq_true c3; have c3b1 := decide_eq_true c3; clear c3; replace H := zn H; obtain ⟨c4, H⟩ := H; have c4b0 := eq_true c4; have c4b1 := decide_eq_true c4; clear c4; replace H := zi H; obtain ⟨t342, A5, H⟩ := H; replace H := zn H; obtain ⟨c6, H⟩ := H; have c6b0 := decide_eq_true c6; clear c6; replace H := zn H; obtain ⟨c7, H⟩ := H; have c7b0 := decide_eq_true c7; clear c7; obtain rfl := Option.some.inj H; go_enter Try.func106, Try.ntmps106
 go_wp2_with (first | ((with_reducible refine gd 2 ?_); refine zbx 25 #[.string a0_0, .string a0_1, .string a0_2, .slice A0_3 l0_3.length c0_3, .int .i64 a0_4] ?_; intro gb341 hg w8 hbox hb; have BK341 := z0 (hbox); have GE341 := zG hg HB; replace HB := zH HB hb; clear hb hbox hg; have hcz9 := zc5 BK341.out) | (go_at_call 100; (with_reducible refine (strings_Count.calls (a0_1.extract 0 (a1 : Int).toNat) (⟨#[48]⟩ : ByteArray) t342 _ A5.out).mono ?_); rintro e w' ⟨rfl, ⟨nd, rfl⟩⟩; (try exact zdd); have p343 : 0 ≤ (t342 : Int) := zd; have q343 : t342 < (l0_3.length : Int) := zd; obtain ⟨ad343, e343, hx343_0⟩ := Kd.at_string HR0_3.out t342 p343 q343; cases e343; replace hx343_0 := (HB.out.cell (World.block_lt_of_cell? w _ hx343_0)).trans hx343_0; replace p343 := eq_true p343; replace q343 := eq_true q343))
 repeat (go_quiet (first | ((with_reducible refine gd 2 ?_); refine zbx 25 #[.string a0_0, .string a0_1, .string a0_2, .slice A0_3 l0_3.length c0_3, .int .i64 a0_4] ?_; intro gb341 hg w8 hbox hb; have BK341 := z0 (hbox); have GE341 := zG hg HB; replace HB := zH HB hb; clear hb hbox hg; have hcz9 := zc5 BK341.out) | (go_at_call 100; (with_reducible refine (strings_Count.calls (a0_1.extract 0 (a1 : Int).toNat) (⟨#[48]⟩ : ByteArray) t342 _ A5.out).mono ?_); rintro e w' ⟨rfl, ⟨nd, rfl⟩⟩; (try exact zdd); have p343 : 0 ≤ (t342 : Int) := zd; have q343 : t342 < (l0_3.length : Int) := zd; obtain ⟨ad343, e343, hx343_0⟩ := Kd.at_string HR0_3.out t342 p343 q343; cases e343; replace hx343_0 := (HB.out.cell (World.block_lt_of_cell? w _ hx343_0)).trans hx343_0; replace p343 := eq_true p343; replace q343 := eq_true q343)); try go_wp2_with (first | ((with_reducible refine gd 2 ?_); refine zbx 25 #[.string a0_0, .string a0_1, .string a0_2, .slice A0_3 l0_3.length c0_3, .int .i64 a0_4] ?_; intro gb341 hg w8 hbox hb; have BK341 := z0 (hbox); have GE341 := zG hg HB; replace HB := zH HB hb; clear hb hbox hg; have hcz9 := zc5 BK341.out) | (go_at_call 100; (with_reducible refine (strings_Count.calls (a0_1.extract 0 (a1 : Int).toNat) (⟨#[48]⟩ : ByteArray) t342 _ A5.out).mono ?_); rintro e w' ⟨rfl, ⟨nd, rfl⟩⟩; (try exact zdd); have p343 : 0 ≤ (t342 : Int) := zd; have q343 : t342 < (l0_3.length : Int) := zd; obtain ⟨ad343, e343, hx343_0⟩ := Kd.at_string HR0_3.out t342 p343 q343; cases e343; replace hx343_0 := (HB.out.cell (World.block_lt_of_cell? w _ hx343_0)).trans hx343_0; replace p343 := eq_true p343; replace q343 := eq_true q343)))
 go_ret; exact ⟨ze, zb HB.out⟩
def impl_Sieve_complete.T1 : Bool × List (List Nat × List Nat) := (true, [([], []), ([0], [0]), ([], []), ([1, 2], [1, 2]), ([3], [3]), ([4], [4]), ([5], [5]), ([5], [5]), ([6, 7, 5, 5], [5, 6, 7]), ([8, 5], [5, 8]), ([5], [5]), ([10, 5], [5, 10]), ([9, 11, 5], [5, 9, 11]), ([5, 12], [5, 12]), ([13, 8, 0, 1, 2, 3, 4, 5, 6, 7, 8, 9, 10, 11, 12, 13], [13])])
def impl_Sieve_complete.B1 : List Nat := [0, 1, 0, 7, 15, 31, 63, 63, 255, 511, 63, 1087, 4095, 8191, 16383]
theorem impl_Sieve_complete.tab1 : rtab .any (opsOf Try.f105 1) = impl_Sieve_complete.T1 := by kernel_rfl
theorem impl_Sieve_complete.bits1 : waitsOk impl_Sieve_complete.T1.2 impl_Sieve_complete.B1 = true := by kernel_rfl
theorem impl_Sieve_complete.calls (a0_0 a0_1 a0_2 : ByteArray) (A0_3 : Option Addr) (c0_3 : Nat) (l0_3 : List ByteArray) (a0_4 a1 : Int) (r : Bool) (w : World) (hr0_3 : Kd.C Kd.string w A0_3 l0_3.length l0_3) (hc0_3 : l0_3.length ≤ c0_3) (h : impl_Sieve_complete.f a0_0 a0_1 a0_2 l0_3 a0_4 a1 = some r) :
    Calls Try.prog 105 #[.agg #[.string a0_0, .string a0_1, .string a0_2, .slice A0_3 l0_3.length c0_3, .int .i64 a0_4], .int .i64 a1] w fun e w' => e = .returned (.bool r) ∧ Below w.heap.size w w' := by
 have hu25 := Try.underlying25; have HR0_3 := z0 hr0_3; have HC0_3 := z0 hc0_3; clear hr0_3 hc0_3; have HB := z0 (Below.refl w.heap.size w); have H : (if 0 ≤ a1 then (if a1 < (a0_0.size : Int) then (if (bt a0_0 a1) = 45 then (some true) else ((impl_Sieve_rest.f a0_0 a0_1 a0_2 l0_3 a0_4 a1).bind fun t345 => (some (decide ((t345.size : Int) < a0_4))))) else (none)) else (none)) = some r := h; clear h; replace H := zn H; obtain ⟨c3, H⟩ := H; have c3b0 := decide_eq_true c3; clear c3; replace H := zn H; obtain ⟨c4, H⟩ := H; have c4b0 := decide_eq_true c4; clear c4
 by_cases c6 : (bt a0_0 a1) = 45
 ·rw [if_pos c6] at H; have c6b0 : ((bt a0_0 a1) == 45) = true := beq_iff_eq.mpr c6; have c6b1 : ((bt a0_0 a1) != 45) = false := bne_eq_false_iff_eq.mpr c6; clear c6; obtain rfl := Option.some.inj H; go_enter Try.func105, Try.ntmps105
  try go_wp2_with (first | ((with_reducible refine gd 2 ?_); (try (refine gate_guard (by rfl) ?_; dsimp only)); refine zbx 25 #[.string a0_0, .string a0_1, .string a0_2, .slice A0_3 l0_3.length c0_3, .int .i64 a0_4] ?_; intro gb344 hg w7 hbox hb; have BK344 := z0 (hbox); have GE344 := zG hg HB; replace HB := zH HB hb; clear hb hbox hg))
  replace BK344 := z0 (blk_drew BK344.out); replace HB := z0 (below_drew1 HB.out); have p5 : 0 ≤ (a1 : Int) := zd; have q5 : a1 < (a0_0.size : Int) := zd; have hx5 := bt_at a0_0 a1; replace p5 := eq_true p5; replace q5 := eq_true q5; refine start_ (n := 15) (S := fun w' => w'.cell? ⟨gb344, 0, none⟩ = some (.string a0_0) ∧ w'.cell? ⟨gb344, 1, none⟩ = some (.string a0_1) ∧ w'.cell? ⟨gb344, 2, none⟩ = some (.string a0_2) ∧ w'.cell? ⟨gb344, 3, none⟩ = some (.slice A0_3 l0_3.length c0_3) ∧ w'.cell? ⟨gb344, 4, none⟩ = some (.int .i64 a0_4)) (ds := []) (fb 15 0) (by kernel_rfl) rfl rfl (zb5 BK344.out) (fun hHeld => ?_); refine with_tabW impl_Sieve_complete.tab1 impl_Sieve_complete.bits1 (fun HT_ HW_ => ?_); generalize w7.drew = w8 at BK344 HB hHeld ⊢; refine zu 0 1 ?_; refine zu 2 5 ?_; refine zx 1 7 hHeld ?_; refine zx 3 15 hHeld ?_; refine zu 4 31 ?_; refine zu 5 63 ?_; refine zw 6 127 ?_; refine zw 7 255 ?_; refine zw 8 511 ?_; refine zw 9 1023 ?_; refine zw 10 2047 ?_; refine zw 11 4095 ?_; refine zw 12 8191 ?_; refine zu 13 16383 ?_; refine zu 14 32767 ?_; refine done_ (done_of HT_.out (by kernel_rfl)) ?_
  try go_wp2
  go_ret; exact ⟨ze, zb HB.out⟩
 ·rw [if_neg c6] at H; have c6b0 : ((bt a0_0 a1) == 45) = false := beq_eq_false_iff_ne.mpr c6; have c6b1 : ((bt a0_0 a1) != 45) = true := bne_iff_ne.mpr c6; replace H := zi H; obtain ⟨t345, A9, H⟩ := H; obtain rfl := Option.some.inj H; go_enter Try.func105, Try.ntmps105
  try go_wp2_with (first | ((with_reducible refine gd 2 ?_); (try (refine gate_guard (by rfl) ?_; dsimp only)); refine zbx 25 #[.string a0_0, .string a0_1, .string a0_2, .slice A0_3 l0_3.length c0_3, .int .i64 a0_4] ?_; intro gb344 hg w10 hbox hb; have BK344 := z0 (hbox); have GE344 := zG hg HB; replace HB := zH HB hb; clear hb hbox hg))
  replace BK344 := z0 (blk_drew BK344.out); replace HB := z0 (below_drew1 HB.out); have p5 : 0 ≤ (a1 : Int) := zd; have q5 : a1 < (a0_0.size : Int) := zd; have hx5 := bt_at a0_0 a1; replace p5 := eq_true p5; replace q5 := eq_true q5; refine start_ (n := 15) (S := fun w' => w'.cell? ⟨gb344, 0, none⟩ = some (.string a0_0) ∧ w'.cell? ⟨gb344, 1, none⟩ = some (.string a0_1) ∧ w'.cell? ⟨gb344, 2, none⟩ = some (.string a0_2) ∧ w'.cell? ⟨gb344, 3, none⟩ = some (.slice A0_3 l0_3.length c0_3) ∧ w'.cell? ⟨gb344, 4, none⟩ = some (.int .i64 a0_4)) (ds := []) (fb 15 0) (by kernel_rfl) rfl rfl (zb5 BK344.out) (fun hHeld => ?_); refine with_tabW impl_Sieve_complete.tab1 impl_Sieve_complete.bits1 (fun HT_ HW_ => ?_); generalize w10.drew = w11 at BK344 HB hHeld ⊢; refine zu 0 1 ?_; refine zu 2 5 ?_; refine zx 1 7 hHeld ?_; refine zx 3 15 hHeld ?_; refine zu 4 31 ?_; refine zu 5 63 ?_; refine zu 7 191 ?_; refine zu 10 1215 ?_; refine zx 6 1279 hHeld ?_; refine zx 11 3327 hHeld ?_; refine zone 8 3583 (fun K hK => ?_); refine zG2 Try.func106 #[.agg #[.string a0_0, .string a0_1, .string a0_2, .slice A0_3 l0_3.length c0_3, .int .i64 a0_4], .int .i64 a1] ?_
  with_reducible refine (impl_Sieve_rest.calls a0_0 a0_1 a0_2 _ _ l0_3 a0_4 a1 t345 _ ?side1 ?side2 A9.out).mono ?_
  (case side1 => repeat (first | exact (Kd.C_below HR0_3.out HB.out) | (with_reducible refine Kd.C_alloc ?_ _) | (with_reducible refine Kd.C_drewN ?_ _) | (with_reducible refine Kd.C_drew ?_))); (case side2 => exact HC0_3.out); rintro e w12 ⟨rfl, hb⟩; refine ⟨_, rfl, ?_⟩; replace BK344 := zK BK344 hb; replace HB := zH HB hb; (try clear hb); refine hK.out _ _ (zb5 BK344.out) (fun hHeld => ?_); clear hK K; refine znm ?_; refine zu 9 4095 ?_; refine zu 12 8191 ?_; refine zu 13 16383 ?_; refine zu 14 32767 ?_; refine done_ (done_of HT_.out (by kernel_rfl)) ?_
  try go_wp2
  go_ret; exact ⟨ze, zb HB.out⟩
theorem impl_Sieve_parts.mono_l : ∀ k, (∀ y0 y1 y2 y3 y4 y5 y6 y7, LeO (impl_Sieve_parts.f k y0 y1 y2 y3 y4 y5 y6 y7) (impl_Sieve_parts.f (k + 1) y0 y1 y2 y3 y4 y5 y6 y7)) ∧ (∀ y0 y1 y2 y3 y4 y5 y6 y7 y8, LeO (impl_Sieve_parts.l0 k y0 y1 y2 y3 y4 y5 y6 y7 y8) (impl_Sieve_parts.l0 (k + 1) y0 y1 y2 y3 y4 y5 y6 y7 y8)) ∧ (∀ y0 y1 y2 y3 y4 y5 y6 y7 y8 y9, LeO (impl_Sieve_parts.j1 k y0 y1 y2 y3 y4 y5 y6 y7 y8 y9) (impl_Sieve_parts.j1 (k + 1) y0 y1 y2 y3 y4 y5 y6 y7 y8 y9)) ∧ (∀ y0 y1 y2 y3 y4 y5 y6 y7 y8 y9 y10, LeO (impl_Sieve_parts.j2 k y0 y1 y2 y3 y4 y5 y6 y7 y8 y9 y10) (impl_Sieve_parts.j2 (k + 1) y0 y1 y2 y3 y4 y5 y6 y7 y8 y9 y10))
  | 0 => ⟨fun _ _ _ _ _ _ _ _ r h => by simp [impl_Sieve_parts.f] at h, fun _ _ _ _ _ _ _ _ _ r h => by simp [impl_Sieve_parts.l0] at h, fun _ _ _ _ _ _ _ _ _ _ r h => by simp [impl_Sieve_parts.j1] at h, fun _ _ _ _ _ _ _ _ _ _ _ r h => by simp [impl_Sieve_parts.j2] at h⟩
  | k + 1 => by
    obtain ⟨ih0, ih1, ih2, ih3⟩ := impl_Sieve_parts.mono_l k
    refine ⟨?_, ?_, ?_, ?_⟩
    · intro y0 y1 y2 y3 y4 y5 y6 y7
      unfold impl_Sieve_parts.f
      repeat' first | (with_reducible first | apply ih0 | apply ih1 | apply ih2 | apply ih3 | apply impl_Sieve_branches.mono | exact LeO.refl _ | exact LeO.none _ | refine LeO.ite ?_ ?_ | refine LeO.bind ?_ (fun _ => ?_)) | exact LeO.none _ | refine LeO.ite ?_ ?_ | refine LeO.bind ?_ (fun _ => ?_)
    · intro y0 y1 y2 y3 y4 y5 y6 y7 y8
      unfold impl_Sieve_parts.l0
      repeat' first | (with_reducible first | apply ih0 | apply ih1 | apply ih2 | apply ih3 | apply impl_Sieve_branches.mono | exact LeO.refl _ | exact LeO.none _ | refine LeO.ite ?_ ?_ | refine LeO.bind ?_ (fun _ => ?_)) | exact LeO.none _ | refine LeO.ite ?_ ?_ | refine LeO.bind ?_ (fun _ => ?_)
    · intro y0 y1 y2 y3 y4 y5 y6 y7 y8 y9
      unfold impl_Sieve_parts.j1
      repeat' first | (with_reducible first | apply ih0 | apply ih1 | apply ih2 | apply ih3 | apply impl_Sieve_branches.mono | exact LeO.refl _ | exact LeO.none _ | refine LeO.ite ?_ ?_ | refine LeO.bind ?_ (fun _ => ?_)) | exact LeO.none _ | refine LeO.ite ?_ ?_ | refine LeO.bind ?_ (fun _ => ?_)
    · intro y0 y1 y2 y3 y4 y5 y6 y7 y8 y9 y10
      unfold impl_Sieve_parts.j2
      repeat' first | (with_reducible first | apply ih0 | apply ih1 | apply ih2 | apply ih3 | apply impl_Sieve_branches.mono | exact LeO.refl _ | exact LeO.none _ | refine LeO.ite ?_ ?_ | refine LeO.bind ?_ (fun _ => ?_)) | exact LeO.none _ | refine LeO.ite ?_ ?_ | refine LeO.bind ?_ (fun _ => ?_)
theorem impl_Sieve_parts.mono : ∀ a0 a1 a2 a3 a4 a5 a6 a7 k, LeO (impl_Sieve_parts.f k a0 a1 a2 a3 a4 a5 a6 a7) (impl_Sieve_parts.f (k + 1) a0 a1 a2 a3 a4 a5 a6 a7) := by
  intro a0 a1 a2 a3 a4 a5 a6 a7 k
  obtain ⟨ih0, ih1, ih2, ih3⟩ := impl_Sieve_parts.mono_l k
  exact ih0 a0 a1 a2 a3 a4 a5 a6 a7
def impl_Sieve_parts.T11 : Bool × List (List Nat × List Nat) := (true, [([], []), ([], []), ([], []), ([], []), ([2, 3], [2, 3]), ([1, 4], [1, 4]), ([], []), ([], []), ([6, 7, 4], [6, 7]), ([5, 8], [5, 8]), ([9], [9]), ([0, 10, 8], [0, 10]), ([11, 11, 0, 1, 2, 3, 4, 5, 6, 7, 8, 9, 10, 11], [0, 11])])
def impl_Sieve_parts.B11 : List Nat := [0, 0, 0, 0, 12, 30, 0, 0, 220, 510, 1022, 2047, 4095]
theorem impl_Sieve_parts.tab11 : rtab .any (opsOf Try.f118 11) = impl_Sieve_parts.T11 := by kernel_rfl
theorem impl_Sieve_parts.bits11 : waitsOk impl_Sieve_parts.T11.2 impl_Sieve_parts.B11 = true := by kernel_rfl
def impl_Sieve_parts.T12 : Bool × List (List Nat × List Nat) := (true, [([], []), ([], []), ([], []), ([1, 2], [1, 2]), ([0, 3, 3], [0, 3]), ([4], [4]), ([5], [5]), ([5], [5]), ([6, 4, 0, 1, 2, 3, 4, 5, 6], [6]), ([7, 8, 0, 1, 2, 3, 4, 5, 6, 7, 8], [7])])
def impl_Sieve_parts.B12 : List Nat := [0, 0, 0, 6, 15, 31, 63, 63, 127, 511]
theorem impl_Sieve_parts.tab12 : rtab .any (opsOf Try.f118 12) = impl_Sieve_parts.T12 := by kernel_rfl
theorem impl_Sieve_parts.bits12 : waitsOk impl_Sieve_parts.T12.2 impl_Sieve_parts.B12 = true := by kernel_rfl
def impl_Sieve_parts.T15 : Bool × List (List Nat × List Nat) := (true, [([], []), ([], []), ([], []), ([1, 2], [1, 2]), ([], []), ([], []), ([0, 3, 4, 5, 3], [0, 3, 4, 5]), ([6], [6]), ([7], [7]), ([7], [7]), ([8, 6, 0, 1, 2, 3, 4, 5, 6, 7, 8], [8]), ([9, 10, 0, 1, 2, 3, 4, 5, 6, 7, 8, 9, 10], [9])])
def impl_Sieve_parts.B15 : List Nat := [0, 0, 0, 6, 0, 0, 63, 127, 255, 255, 511, 2047]
theorem impl_Sieve_parts.tab15 : rtab .any (opsOf Try.f118 15) = impl_Sieve_parts.T15 := by kernel_rfl
theorem impl_Sieve_parts.bits15 : waitsOk impl_Sieve_parts.T15.2 impl_Sieve_parts.B15 = true := by kernel_rfl
theorem impl_Sieve_parts.calls (k : Nat) : ∀ (a0_0 a0_1 a0_2 : ByteArray) (A0_3 : Option Addr) (c0_3 : Nat) (l0_3 : List ByteArray) (a0_4 a1 : Int) (a2 : ByteArray) (P3_ : Nat → Prop) (u9000_ : Value) (l3 : List (S93)) (r1 : List (S93)) (r2 : Bool) (w0 w : World) (hB : Below w0.heap.size w0 w) (hr0_3 : ∀ W_, Kept w W_ (fun k_ => P3_ k_) → Kd.C Kd.string W_ A0_3 l0_3.length l0_3) (hc0_3 : l0_3.length ≤ c0_3) (ho3 : Kd.R k93 93 w w0.heap.size P3_ u9000_ l3) (h : impl_Sieve_parts.f k a0_0 a0_1 a0_2 l0_3 a0_4 a1 a2 l3 = some (r1, r2)),
    Calls Try.prog 118 #[.agg #[.string a0_0, .string a0_1, .string a0_2, .slice A0_3 l0_3.length c0_3, .int .i64 a0_4], .int .i64 a1, .string a2, u9000_] w fun e w' => ∃ v0_ : Value, e = .returned (.tuple #[v0_, .bool r2]) ∧ Kd.R k93 93 w' w0.heap.size (fun k_ => (P3_ k_ ∨ w.heap.size ≤ k_)) v0_ r1 ∧ Below w0.heap.size w0 w' ∧ Kept w w' (fun k_ => P3_ k_) := by
 induction k using Nat.strongRecOn with
 | _ k ih =>
 intro a0_0 a0_1 a0_2 A0_3 c0_3 l0_3 a0_4 a1 a2 P3_ u9000_ l3 r1 r2 w0 w hB hr0_3 hc0_3 ho3 h
 cases k with
 | zero => exact absurd h (by simp [impl_Sieve_parts.f])
 | succ k =>
 simp only [impl_Sieve_parts.f] at h; have hu25 := Try.underlying25; have hu93 := Try.underlying93; have HR0_3 := z0 hr0_3; have HC0_3 := z0 hc0_3; clear hr0_3 hc0_3; have HO3 := z0 (show Kd.R k93 93 w w0.heap.size (fun k_ => (P3_ k_ ∨ w.heap.size ≤ k_)) u9000_ l3 from Kd.R_mono ho3 (fun k_ hk => (.inl hk))); have HK := z0 (Kept.refl w (fun k_ => P3_ k_)); have HW0 := z0 hB.size; have HB := z0 hB; clear hB; have H : (if (a2.size : Int) > 5 then (some (([] : List (S93)), false)) else ((impl_Sieve_branches.f k a0_0 a0_1 a0_2 l0_3 a0_4 a1).bind fun bt347 => (impl_Sieve_parts.l0 k a2 l3 bt347.2 bt347.1 a0_0 a0_1 a0_2 l0_3 a0_4))) = some (r1, r2) := h; clear h
 by_cases c5 : (a2.size : Int) > 5
 ·rw [if_pos c5] at H; have c5b0 : decide (5 < (a2.size : Int)) = true := decide_eq_true c5; have c5b1 : decide (5 < a2.size) = true := decide_eq_true (by omega); clear c5; simp only [Option.some.injEq, Prod.mk.injEq] at H; obtain ⟨rfl, rfl⟩ := H; go_enter Try.func118, Try.ntmps118
  go_wp2_with (first | ((with_reducible refine gd 4 ?_); refine zbx 25 #[.string a0_0, .string a0_1, .string a0_2, .slice A0_3 l0_3.length c0_3, .int .i64 a0_4] ?_; intro gb346 hg w6 hbox hb; replace HO3 := zA HO3 hb; have BK346 := z0 (hbox); have GW346 := z0 ((by rw [hg]; exact (by first | exact HK.out.1 | exact (show Kept w _ (fun k_ => P3_ k_) from zk HK.out).1) : w.heap.size ≤ gb346)); replace HK := z0 (Kept.below (zk HK.out) hb); have GE346 := zG hg HB; replace HB := zH HB hb; clear hb hbox hg))
  go_ret2
  exact ⟨_, ze, by first | exact Kd.R_nil _ _ _ _ _ | exact Kd.N_nil _ _ _ _ _ | exact Kd.V_nil _ _ _ _ _ | exact Kd.Q_nil _ _ _ _ _ | exact Kd.S_nil _ _ _ _ _, zb HB.out, zk HK.out⟩
 ·rw [if_neg c5] at H; have c5b0 : decide (5 < (a2.size : Int)) = false := decide_eq_false c5; have c5b1 : decide (5 < a2.size) = false := decide_eq_false (by omega); clear c5; replace H := zi H; obtain ⟨⟨t347, t348⟩, A7, H⟩ := H; (try dsimp only at H); have H' := z0 H; clear H; go_enter Try.func118, Try.ntmps118
  go_wp2_with (first | ((with_reducible refine gd 4 ?_); refine zbx 25 #[.string a0_0, .string a0_1, .string a0_2, .slice A0_3 l0_3.length c0_3, .int .i64 a0_4] ?_; intro gb346 hg w8 hbox hb; replace HO3 := zA HO3 hb; have BK346 := z0 (hbox); have GW346 := z0 ((by rw [hg]; exact (by first | exact HK.out.1 | exact (show Kept w _ (fun k_ => P3_ k_) from zk HK.out).1) : w.heap.size ≤ gb346)); replace HK := z0 (Kept.below (zk HK.out) hb); have GE346 := zG hg HB; replace HB := zH HB hb; clear hb hbox hg; have hcz9 := zc5 BK346.out) | ((with_reducible refine gc 102 ?_); refine zL (some 24) Try.func102 #[.agg #[.string a0_0, .string a0_1, .string a0_2, .slice A0_3 l0_3.length c0_3, .int .i64 a0_4], .int .i64 a1] ?_; (with_reducible refine (impl_Sieve_branches.calls k a0_0 a0_1 a0_2 _ _ l0_3 a0_4 a1 t347 t348 _ (Kd.C_kept_now HR0_3.out (zk HK.out)) HC0_3.out A7.out).mono ?_); rintro e w10 ⟨rfl, hb⟩; refine zv ?_; replace HO3 := zA HO3 hb; replace BK346 := zK BK346 hb; replace HK := z0 (Kept.below (zk HK.out) hb); replace HB := zH HB hb; (try clear hb)))
  go_loopg [3, 12] k (fun kq v3 v12 w' => ∃ (x3_1 : List (S93)) (x12_1 : Int), v12 = .int .i64 x12_1 ∧ Aside0 (impl_Sieve_parts.l0 kq a2 x3_1 t348 x12_1 a0_0 a0_1 a0_2 l0_3 a0_4 = some (r1, r2)) ∧ Aside0 (kq ≤ k) ∧ Aside0 (Kd.R k93 93 w' w0.heap.size (fun k_ => (P3_ k_ ∨ w.heap.size ≤ k_)) v3 x3_1) ∧ Aside0 (w'.heap[gb346]? = some (.cells #[.string a0_0, .string a0_1, .string a0_2, (.slice A0_3 l0_3.length c0_3), .int .i64 a0_4] 25 (0, 0))) ∧ Aside0 (Kept w w' (fun k_ => P3_ k_)) ∧ Aside0 (Below w0.heap.size w0 w'))
  case atStart => exact ⟨(l3), (t347), zf, H', ⟨Nat.le_refl _⟩, ⟨zr HO3.out⟩, ⟨zl BK346.out⟩, ⟨zk HK.out⟩, ⟨zb HB.out⟩⟩
  case round =>
   clear H'
   try clear c1
   try clear p2
   try clear c5
   try clear c5b0
   try clear c5b1
   try clear c10
   try clear hcz9
   obtain ⟨x3_1, x12_1, rfl, HA, HK1, HO_3, BK346, HK, HB⟩ := hrel
   cases gk with
   | zero => exact absurd HA.out (by simp [impl_Sieve_parts.l0])
   | succ k1 =>
    have H := HA.out; clear HA; simp only [impl_Sieve_parts.l0] at H
    by_cases c11 : x12_1 < t348
    ·rw [if_pos c11] at H; have c11b0 := decide_eq_true c11; clear c11; replace H := zn H; obtain ⟨c12, H⟩ := H; have c12b0 := decide_eq_true c12; clear c12; replace H := zn H; obtain ⟨c13, H⟩ := H; have c13b0 := decide_eq_true c13; clear c13; have HC15 := z0 H; clear H; have hcz16 := zc5 BK346.out; have p14 : 0 ≤ (x12_1 : Int) := zd; have q14 : x12_1 < (a0_0.size : Int) := zd; have hx14 := bt_at a0_0 x12_1; replace p14 := eq_true p14; replace q14 := eq_true q14
     go_upto_if 38 with (fail)
     go_cut [13] (fun v13 wc => ∃ (kq : Nat) (x13_14 : ByteArray), v13 = .string x13_14 ∧ Aside0 (impl_Sieve_parts.j1 kq a2 x3_1 t348 x12_1 x13_14 a0_0 a0_1 a0_2 l0_3 a0_4 = some (r1, r2)) ∧ Aside0 (kq ≤ k1) ∧ Aside0 (Kd.R k93 93 wc w0.heap.size (fun k_ => (P3_ k_ ∨ w.heap.size ≤ k_)) u3 x3_1) ∧ Aside0 (wc.heap[gb346]? = some (.cells #[.string a0_0, .string a0_1, .string a0_2, (.slice A0_3 l0_3.length c0_3), .int .i64 a0_4] 25 (0, 0))) ∧ Aside0 (Kept w wc (fun k_ => P3_ k_)) ∧ Aside0 (Below w0.heap.size w0 wc))
     case first =>
      have H := HC15.out; clear HC15
      by_cases c17 : (bt a0_0 x12_1) = 45
      ·rw [if_pos c17] at H; have c17b0 : ((bt a0_0 x12_1) == 45) = true := beq_iff_eq.mpr c17; have c17b1 : ((bt a0_0 x12_1) != 45) = false := bne_eq_false_iff_eq.mpr c17; clear c17; (first | rw [c17b0] | (simp only [i64_w, i32_w]; rw [c17b0]) | simp only [*, Bool.not_true, Bool.not_false] | skip); have H' := z0 H; clear H; go_wp2; go_meet
       case rel => exact ⟨_, (a2), zf, H', ⟨by have := HK1.out; first | omega | exact Nat.le_refl _⟩, ⟨zr HO_3.out⟩, ⟨zl BK346.out⟩, ⟨zk HK.out⟩, ⟨zb HB.out⟩⟩
      ·rw [if_neg c17] at H; have c17b0 : ((bt a0_0 x12_1) == 45) = false := beq_eq_false_iff_ne.mpr c17; have c17b1 : ((bt a0_0 x12_1) != 45) = true := bne_iff_ne.mpr c17; (first | rw [c17b0] | (simp only [i64_w, i32_w]; rw [c17b0]) | simp only [*, Bool.not_true, Bool.not_false] | skip); have c18b0 := eq_true (zd : 0 ≤ x12_1); replace H := zn H; obtain ⟨c19, H⟩ := H; have c19b0 := eq_true c19; have c19b1 := decide_eq_true c19; replace H := zn H; obtain ⟨c20, H⟩ := H; have c20b0 := eq_true c20; have c20b1 := decide_eq_true c20; replace H := zn H; obtain ⟨c21, H⟩ := H; have c21b0 := eq_true c21; have c21b1 := decide_eq_true c21
       try have c21b2 : (9223372036854775807 < a2.size + (a0_0.extract (x12_1 : Int).toNat ((wrap64 (x12_1 + 1)) : Int).toNat).size) = False := eq_false (Nat.not_lt.2 c21)
       have H' := z0 H; clear H; have hcz22 := zc5 BK346.out; go_wp2; go_meet
       case rel => exact ⟨_, (a2 ++ (a0_0.extract (x12_1 : Int).toNat ((wrap64 (x12_1 + 1)) : Int).toNat)), zf, H', ⟨by have := HK1.out; first | omega | exact Nat.le_refl _⟩, ⟨zr HO_3.out⟩, ⟨zl BK346.out⟩, ⟨zk HK.out⟩, ⟨zb HB.out⟩⟩
     case rest =>
      clear HC15
      try clear c1
      try clear p1
      try clear q1
      try clear hx1
      try clear c2
      try clear p2
      try clear c5
      try clear c5b0
      try clear c5b1
      try clear p6
      try clear c10
      try clear c11
      try clear c11b0
      try clear c12
      try clear c12b0
      try clear c13
      try clear c13b0
      try clear p14
      try clear q14
      try clear hx14
      try clear c17
      try clear c17b0
      try clear c17b1
      try clear c18
      try clear c18b0
      try clear c19
      try clear c19b0
      try clear c19b1
      try clear c20
      try clear c20b0
      try clear c20b1
      try clear c21
      try clear c21b0
      try clear c21b1
      try clear c21b2
      try clear hcz16
      try clear hcz22
      try clear hcz9
      try clear p14
      try clear p2
      try clear q14
      obtain ⟨kq, x13_14, rfl, HA, HJ14, HO_3, BK346, HK, HB⟩ := hcut
      cases kq with
      | zero => exact absurd HA.out (by simp [impl_Sieve_parts.j1])
      | succ kj14 =>
       have H := HA.out; clear HA; simp only [impl_Sieve_parts.j1] at H; replace H := zn H; obtain ⟨c23, H⟩ := H; have c23b0 := decide_eq_true c23; clear c23; replace H := zn H; obtain ⟨c24, H⟩ := H; have c24b0 := decide_eq_true c24; clear c24
       by_cases c26 : (bt a0_1 x12_1) = 48
       ·rw [if_pos c26] at H; have c26b0 : ((bt a0_1 x12_1) == 48) = true := beq_iff_eq.mpr c26; have c26b1 : ((bt a0_1 x12_1) != 48) = false := bne_eq_false_iff_eq.mpr c26; clear c26; replace H := zi H; obtain ⟨t349, A27, H⟩ := H; replace H := zn H; obtain ⟨c28, H⟩ := H; have c28b0 := eq_true c28; have c28b1 := decide_eq_true c28
        try have c28b2 : (9223372036854775807 < x13_14.size + t349.size) = False := eq_false (Nat.not_lt.2 c28)
        replace H := zi H; obtain ⟨t350, A29, H⟩ := H; replace H := zn H; obtain ⟨c30, H⟩ := H; have LMc30 := z0 c30; clear c30; obtain ⟨y351, hy351⟩ : ∃ y_ : List (S93), y_ = (x3_1 ++ [(⟨x13_14 ++ t349, t350⟩ : S93)]) := ⟨_, rfl⟩; replace H : (impl_Sieve_parts.l0 kj14 a2 y351 t348 (wrap64 (x12_1 + 1)) a0_0 a0_1 a0_2 l0_3 a0_4) = some (r1, r2) := zH2 hy351 H; have Ny351 := z0 hy351; clear hy351; have H' := z0 H; clear H; have hcz31 := zc5 BK346.out; have p25 : 0 ≤ (x12_1 : Int) := zd; have q25 : x12_1 < (a0_1.size : Int) := zd; have hx25 := bt_at a0_1 x12_1; replace p25 := eq_true p25; replace q25 := eq_true q25
        try go_wp2
        replace HO_3 := z0 (Kd.R_drew HO_3.out); replace BK346 := z0 (blk_drew BK346.out); replace HK := z0 (Kept.drew HK.out); replace HB := z0 (below_drew1 HB.out); refine start_ (n := 13) (S := fun w' => w'.cell? ⟨gb346, 0, none⟩ = some (.string a0_0) ∧ w'.cell? ⟨gb346, 1, none⟩ = some (.string a0_1) ∧ w'.cell? ⟨gb346, 2, none⟩ = some (.string a0_2) ∧ w'.cell? ⟨gb346, 3, none⟩ = some (.slice A0_3 l0_3.length c0_3) ∧ w'.cell? ⟨gb346, 4, none⟩ = some (.int .i64 a0_4)) (ds := []) (fb 13 0) (by kernel_rfl) rfl rfl (zb5 BK346.out) (fun hHeld => ?_); refine with_tabW impl_Sieve_parts.tab11 impl_Sieve_parts.bits11 (fun HT_ HW_ => ?_); generalize wc.drew = w32 at HO_3 BK346 HK HB hHeld ⊢; refine zu 0 1 ?_; refine zu 1 3 ?_; refine zu 3 11 ?_; refine zu 7 139 ?_; refine zx 2 143 hHeld ?_; refine zx 6 207 hHeld ?_; refine zone 4 223 (fun K hK => ?_); refine zG2 Try.func106 #[.agg #[.string a0_0, .string a0_1, .string a0_2, .slice A0_3 l0_3.length c0_3, .int .i64 a0_4], .int .i64 x12_1] ?_
        with_reducible refine (impl_Sieve_rest.calls a0_0 a0_1 a0_2 _ _ l0_3 a0_4 x12_1 t349 _ ?side1 ?side2 A27.out).mono ?_
        (case side1 => exact Kd.C_kept_now HR0_3.out (zk HK.out)); (case side2 => exact HC0_3.out); rintro e w33 ⟨rfl, hb⟩; refine ⟨_, rfl, ?_⟩; replace HO_3 := zA HO_3 hb; replace BK346 := zK BK346 hb; replace HK := z0 (Kept.below (zk HK.out) hb); replace HB := zH HB hb; (try clear hb); refine hK.out _ _ (zb5 BK346.out) (fun hHeld => ?_); clear hK K; refine znm ?_; refine zu 5 255 ?_; refine zone 8 511 (fun K hK => ?_); refine zG2 Try.func105 #[.agg #[.string a0_0, .string a0_1, .string a0_2, .slice A0_3 l0_3.length c0_3, .int .i64 a0_4], .int .i64 x12_1] ?_
        with_reducible refine (impl_Sieve_complete.calls a0_0 a0_1 a0_2 _ _ l0_3 a0_4 x12_1 t350 _ ?side1 ?side2 A29.out).mono ?_
        (case side1 => exact Kd.C_kept_now HR0_3.out (zk HK.out)); (case side2 => exact HC0_3.out); rintro e w34 ⟨rfl, hb⟩; refine ⟨_, rfl, ?_⟩; replace HO_3 := zA HO_3 hb; replace BK346 := zK BK346 hb; replace HK := z0 (Kept.below (zk HK.out) hb); replace HB := zH HB hb; (try clear hb); refine hK.out _ _ (zb5 BK346.out) (fun hHeld => ?_); clear hK K; refine znm ?_; refine zu 9 1023 ?_; refine zone 10 2047 (fun K hK => ?_); refine value_ (w1 := ?_) (v := ?_) (by rfl) rfl ?_ ?_; rotate_left 2
        ·go_simp
         constructor
         ·rfl
         ·rfl
        refine hK.out _ _ ⟨(blk_cell (blk_alloc BK346.out _) 0).trans rfl, (blk_cell (blk_alloc BK346.out _) 1).trans rfl, (blk_cell (blk_alloc BK346.out _) 2).trans rfl, (blk_cell (blk_alloc BK346.out _) 3).trans rfl, (blk_cell (blk_alloc BK346.out _) 4).trans rfl⟩ (fun hHeld => ?_); clear hK K; refine znm ?_; refine zone 11 4095 (fun K hK => ?_); refine Kd.R_append_step k93 (w0 := w0) w0.heap.size (by rfl) (.tmp 52) (.tmp 62) 88 93 (.agg #[(.string ⟨#[]⟩), (.bool false)]) 24 rfl Try.underlying88 info93 rfl (by decide) (by omega) u3 x3_1 (⟨x13_14 ++ t349, t350⟩ : S93) [.string (x13_14 ++ t349), .bool t350] (fun k_ => (P3_ k_ ∨ w.heap.size ≤ k_)) (fun _ => False) rfl rfl ?aP (fun _ hk => hk.elim) ?aF ?aO ?aB ?aS ?aL ?_; (case aP => exact k93_mkM _ _ _ (⟨x13_14 ++ t349, t350⟩ : S93)); (case aB => exact (zb HB.out)); (case aF => exact (fun k_ hk => (.inr (Nat.le_trans (by first | exact HK.out.1 | exact (show Kept w _ (fun k_ => P3_ k_) from zk HK.out).1) hk)))); (case aO => exact (zr HO_3.out)); (case aS => exact (below_size (zb HB.out))); (case aL => have := LMc30.out; omega); intro v352 w35 ho hb hg hat; rw [← Ny351.out] at ho; replace BK346 := z0 (blk_grown (zl BK346.out) hg (Kd.R_ne HO_3.out BK346.out (by decide))); replace HB := z0 (hb); replace HK := z0 (Kept.of_grown (S := (fun k_ => P3_ k_)) hg (zk HK.out) (fun k_ e_ => (HO_3.out.1 k_ e_))); have HO353 := z0 (ho); clear HO_3; clear ho hb hg hat; refine hK.out _ _ (zb5 BK346.out) (fun hHeld => ?_); clear hK K; refine znm ?_; refine zu 12 8191 ?_; refine done_ (done_of HT_.out (by kernel_rfl)) ?_
        try go_wp2
        go_roundg kj14
        case measure => have := HK1.out; have := HJ14.out; omega
        case rel => exact ⟨(y351), (wrap64 (x12_1 + 1)), zf, H', ⟨by have := HK1.out; have := HJ14.out; omega⟩, ⟨zr HO353.out⟩, ⟨zl BK346.out⟩, ⟨zk HK.out⟩, ⟨zb HB.out⟩⟩
       ·rw [if_neg c26] at H; have c26b0 : ((bt a0_1 x12_1) == 48) = false := beq_eq_false_iff_ne.mpr c26; have c26b1 : ((bt a0_1 x12_1) != 48) = true := bne_iff_ne.mpr c26; replace H := zi H; obtain ⟨t354, A36, H⟩ := H; replace H := zi H; obtain ⟨⟨t355, t356⟩, A37, H⟩ := H; (try dsimp only at H); have HC38 := z0 H; clear H; have hcz39 := zc5 BK346.out; have p25 : 0 ≤ (x12_1 : Int) := zd; have q25 : x12_1 < (a0_1.size : Int) := zd; have hx25 := bt_at a0_1 x12_1; replace p25 := eq_true p25; replace q25 := eq_true q25
        try go_wp2
        replace HO_3 := z0 (Kd.R_drew HO_3.out); replace BK346 := z0 (blk_drew BK346.out); replace HK := z0 (Kept.drew HK.out); replace HB := z0 (below_drew1 HB.out); refine start_ (n := 10) (S := fun w' => w'.cell? ⟨gb346, 0, none⟩ = some (.string a0_0) ∧ w'.cell? ⟨gb346, 1, none⟩ = some (.string a0_1) ∧ w'.cell? ⟨gb346, 2, none⟩ = some (.string a0_2) ∧ w'.cell? ⟨gb346, 3, none⟩ = some (.slice A0_3 l0_3.length c0_3) ∧ w'.cell? ⟨gb346, 4, none⟩ = some (.int .i64 a0_4)) (ds := []) (fb 10 0) (by kernel_rfl) rfl rfl (zb5 BK346.out) (fun hHeld => ?_); refine with_tabW impl_Sieve_parts.tab12 impl_Sieve_parts.bits12 (fun HT_ HW_ => ?_); generalize wc.drew = w40 at HO_3 BK346 HK HB hHeld ⊢; refine zu 2 4 ?_; refine zx 0 5 hHeld ?_; refine zx 1 7 hHeld ?_; refine zone 3 15 (fun K hK => ?_); refine zG2 Try.func104 #[.agg #[.string a0_0, .string a0_1, .string a0_2, .slice A0_3 l0_3.length c0_3, .int .i64 a0_4], .int .i64 x12_1] ?_
        with_reducible refine (impl_Sieve_node.calls a0_0 a0_1 a0_2 _ _ l0_3 a0_4 x12_1 t354 _ ?side1 ?side2 A36.out).mono ?_
        (case side1 => exact Kd.C_kept_now HR0_3.out (zk HK.out)); (case side2 => exact HC0_3.out); rintro e w41 ⟨rfl, hb⟩; refine ⟨_, rfl, ?_⟩; replace HO_3 := zA HO_3 hb; replace BK346 := zK BK346 hb; replace HK := z0 (Kept.below (zk HK.out) hb); replace HB := zH HB hb; (try clear hb); refine hK.out _ _ (zb5 BK346.out) (fun hHeld => ?_); clear hK K; refine znm ?_; refine zone 4 31 (fun K hK => ?_); refine zG2 Try.func102 #[.agg #[.string a0_0, .string a0_1, .string a0_2, .slice A0_3 l0_3.length c0_3, .int .i64 a0_4], .int .i64 t354] ?_
        with_reducible refine (impl_Sieve_branches.calls kj14 a0_0 a0_1 a0_2 _ _ l0_3 a0_4 t354 t355 t356 _ ?side1 ?side2 A37.out).mono ?_
        (case side1 => exact Kd.C_kept_now HR0_3.out (zk HK.out)); (case side2 => exact HC0_3.out); rintro e w42 ⟨rfl, hb⟩; refine ⟨_, rfl, ?_⟩; replace HO_3 := zA HO_3 hb; replace BK346 := zK BK346 hb; replace HK := z0 (Kept.below (zk HK.out) hb); replace HB := zH HB hb; (try clear hb); refine hK.out _ _ (zb5 BK346.out) (fun hHeld => ?_); clear hK K; refine znm ?_; refine zu 5 63 ?_; refine zu 6 127 ?_; refine zu 7 255 ?_; refine zu 8 511 ?_; refine zu 9 1023 ?_; refine done_ (done_of HT_.out (by kernel_rfl)) ?_
        go_upto_region 13 with (fail)
        go_cut [81] (fun v81 wc => ∃ (kq : Nat) (x81_37 : Bool), v81 = .bool x81_37 ∧ Aside0 (impl_Sieve_parts.j2 kq a2 x3_1 t348 x12_1 x13_14 x81_37 a0_0 a0_1 a0_2 l0_3 a0_4 = some (r1, r2)) ∧ Aside0 (kq ≤ kj14) ∧ Aside0 (Kd.R k93 93 wc w0.heap.size (fun k_ => (P3_ k_ ∨ w.heap.size ≤ k_)) u3 x3_1) ∧ Aside0 (wc.heap[gb346]? = some (.cells #[.string a0_0, .string a0_1, .string a0_2, (.slice A0_3 l0_3.length c0_3), .int .i64 a0_4] 25 (0, 0))) ∧ Aside0 (Kept w wc (fun k_ => P3_ k_)) ∧ Aside0 (Below w0.heap.size w0 wc))
        case first =>
         have H := HC38.out; clear HC38
         by_cases c43 : t355 ≤ x12_1
         ·rw [if_pos c43] at H; have c43b0 := decide_eq_true c43; clear c43; (first | rw [c43b0] | (simp only [i64_w, i32_w]; rw [c43b0]) | simp only [*, Bool.not_true, Bool.not_false] | skip); have H' := z0 H; clear H; go_wp2; go_meet
          case rel => exact ⟨_, (true), zf, H', ⟨by have := HK1.out; have := HJ14.out; first | omega | exact Nat.le_refl _⟩, ⟨zr HO_3.out⟩, ⟨zl BK346.out⟩, ⟨zk HK.out⟩, ⟨zb HB.out⟩⟩
         ·rw [if_neg c43] at H; have c43b0 := decide_eq_false c43; clear c43; (first | rw [c43b0] | (simp only [i64_w, i32_w]; rw [c43b0]) | simp only [*, Bool.not_true, Bool.not_false] | skip); replace H := zn H; obtain ⟨c44, H⟩ := H; have c44b0 := decide_eq_true c44; clear c44; have H' := z0 H; clear H; have hcz46 := zc5 BK346.out; have p45 : 0 ≤ (x12_1 : Int) := zd; have q45 : x12_1 < (a0_0.size : Int) := zd; have hx45 := bt_at a0_0 x12_1; replace p45 := eq_true p45; replace q45 := eq_true q45; go_wp2; go_meet
          case rel => exact ⟨_, (((bt a0_0 x12_1) == 45)), zf, H', ⟨by have := HK1.out; have := HJ14.out; first | omega | exact Nat.le_refl _⟩, ⟨zr HO_3.out⟩, ⟨zl BK346.out⟩, ⟨zk HK.out⟩, ⟨zb HB.out⟩⟩
        case rest =>
         clear HC38
         try clear c1
         try clear p1
         try clear q1
         try clear hx1
         try clear c2
         try clear p2
         try clear q2
         try clear hx2
         try clear c3
         try clear c4
         try clear p4
         try clear q4
         try clear hx4
         try clear c5
         try clear c5b0
         try clear c5b1
         try clear p6
         try clear c10
         try clear c11
         try clear c11b0
         try clear c12
         try clear c12b0
         try clear c13
         try clear c13b0
         try clear p14
         try clear q14
         try clear hx14
         try clear c17
         try clear c17b0
         try clear c17b1
         try clear c18
         try clear c18b0
         try clear c19
         try clear c19b0
         try clear c19b1
         try clear c20
         try clear c20b0
         try clear c20b1
         try clear c21
         try clear c21b0
         try clear c21b1
         try clear c21b2
         try clear c23
         try clear c23b0
         try clear c24
         try clear c24b0
         try clear p25
         try clear q25
         try clear hx25
         try clear c26
         try clear c26b0
         try clear c26b1
         try clear c28
         try clear c28b0
         try clear c28b1
         try clear c28b2
         try clear c30
         try clear c43
         try clear c43b0
         try clear c44
         try clear c44b0
         try clear p45
         try clear q45
         try clear hx45
         try clear hcz16
         try clear hcz22
         try clear hcz31
         try clear hcz39
         try clear hcz46
         try clear hcz9
         try clear p1
         try clear p14
         try clear p2
         try clear p25
         try clear p45
         try clear p6
         try clear q1
         try clear q14
         try clear q25
         try clear q45
         obtain ⟨kq, x81_37, rfl, HA, HJ37, HO_3, BK346, HK, HB⟩ := hcut
         cases kq with
         | zero => exact absurd HA.out (by simp [impl_Sieve_parts.j2])
         | succ kj37 =>
          have H := HA.out; clear HA; simp only [impl_Sieve_parts.j2] at H
          by_cases c47 : x81_37 = true
          ·subst c47
           have H1 : (some (([] : List (S93)), false)) = some (r1, r2) := by rw [if_pos rfl] at H; exact H
           clear H; have H := H1; clear H1; simp only [Option.some.injEq, Prod.mk.injEq] at H; obtain ⟨rfl, rfl⟩ := H; go_wp2
           go_ret2
           exact ⟨_, ze, by first | exact Kd.R_nil _ _ _ _ _ | exact Kd.N_nil _ _ _ _ _ | exact Kd.V_nil _ _ _ _ _ | exact Kd.Q_nil _ _ _ _ _ | exact Kd.S_nil _ _ _ _ _, zb HB.out, zk HK.out⟩
          ·replace c47 := Bool.eq_false_iff.mpr c47; subst c47
           have H1 : ((impl_Sieve_node.f a0_0 a0_1 a0_2 l0_3 a0_4 x12_1).bind fun t357 => ((impl_Sieve_parts.f kj37 a0_0 a0_1 a0_2 l0_3 a0_4 t357 x13_14 x3_1).bind fun bt358 => (if bt358.2 = true then (impl_Sieve_parts.l0 kj37 a2 bt358.1 t348 (wrap64 (x12_1 + 1)) a0_0 a0_1 a0_2 l0_3 a0_4) else (some (([] : List (S93)), false))))) = some (r1, r2) := by rw [if_neg (show ¬ (false = true) by decide)] at H; exact H
           clear H; have H := H1; clear H1; replace H := zi H; obtain ⟨t357, A48, H⟩ := H; replace H := zi H; obtain ⟨⟨t358, t361⟩, A49, H⟩ := H; (try dsimp only at H)
           by_cases c50 : t361 = true
           ·subst c50
            have H1 : (impl_Sieve_parts.l0 kj37 a2 t358 t348 (wrap64 (x12_1 + 1)) a0_0 a0_1 a0_2 l0_3 a0_4) = some (r1, r2) := by rw [if_pos rfl] at H; exact H
            clear H; have H := H1; clear H1; have H' := z0 H; clear H
            try go_wp2
            replace HO_3 := z0 (Kd.R_drew HO_3.out); replace BK346 := z0 (blk_drew BK346.out); replace HK := z0 (Kept.drew HK.out); replace HB := z0 (below_drew1 HB.out); refine start_ (n := 12) (S := fun w' => w'.cell? ⟨gb346, 0, none⟩ = some (.string a0_0) ∧ w'.cell? ⟨gb346, 1, none⟩ = some (.string a0_1) ∧ w'.cell? ⟨gb346, 2, none⟩ = some (.string a0_2) ∧ w'.cell? ⟨gb346, 3, none⟩ = some (.slice A0_3 l0_3.length c0_3) ∧ w'.cell? ⟨gb346, 4, none⟩ = some (.int .i64 a0_4)) (ds := []) (fb 12 0) (by kernel_rfl) rfl rfl (zb5 BK346.out) (fun hHeld => ?_); refine with_tabW impl_Sieve_parts.tab15 impl_Sieve_parts.bits15 (fun HT_ HW_ => ?_); generalize wc.drew = w51 at HO_3 BK346 HK HB hHeld ⊢; refine zu 2 4 ?_; refine zu 4 20 ?_; refine zu 5 52 ?_; refine zx 0 53 hHeld ?_; refine zx 1 55 hHeld ?_; refine zone 3 63 (fun K hK => ?_); refine zG2 Try.func104 #[.agg #[.string a0_0, .string a0_1, .string a0_2, .slice A0_3 l0_3.length c0_3, .int .i64 a0_4], .int .i64 x12_1] ?_
            with_reducible refine (impl_Sieve_node.calls a0_0 a0_1 a0_2 _ _ l0_3 a0_4 x12_1 t357 _ ?side1 ?side2 A48.out).mono ?_
            (case side1 => exact Kd.C_kept_now HR0_3.out (zk HK.out)); (case side2 => exact HC0_3.out); rintro e w52 ⟨rfl, hb⟩; refine ⟨_, rfl, ?_⟩; replace HO_3 := zA HO_3 hb; replace BK346 := zK BK346 hb; replace HK := z0 (Kept.below (zk HK.out) hb); replace HB := zH HB hb; (try clear hb); obtain ⟨Ao53, co53, eo53⟩ := Kd.R_slice HO_3.out; (first | subst eo53 | (injection eo53 with f1_ f2_ f3_; have f4_ := f1_.symm; have f5_ := f3_.symm; clear f1_ f2_ f3_; subst f4_; subst f5_)); refine hK.out _ _ (zb5 BK346.out) (fun hHeld => ?_); clear hK K; refine znm ?_; refine zone 6 127 (fun K hK => ?_); refine zG2 Try.func118 #[.agg #[.string a0_0, .string a0_1, .string a0_2, .slice A0_3 l0_3.length c0_3, .int .i64 a0_4], .int .i64 t357, .string x13_14, .slice Ao53 x3_1.length co53] ?_
            with_reducible refine (ih kj37 (by have := HK1.out; have := HJ14.out; have := HJ37.out; omega) a0_0 a0_1 a0_2 _ _ l0_3 a0_4 t357 x13_14 (fun k_ => some k_ = (.slice Ao53 x3_1.length co53 : Value).ownBlock) (.slice Ao53 x3_1.length co53) x3_1 t358 true w0 _ ?side1 ?side2 ?side3 ?side4 A49.out).mono ?_
            (case side1 => repeat (first | (with_reducible first | exact HB.out | apply below_alloc | apply pw_below_drewN | apply below_drew1 | refine below_set ?_ GE346.out) | exact HB.out)); (case side2 => exact Kd.C_kept_call HR0_3.out (zk HK.out) (fun k_ hs_ => (fun e_ => (HO_3.out.1 k_ e_.symm)) hs_)); (case side3 => exact HC0_3.out); (case side4 => exact Kd.R_tight rfl HO_3.out); rintro e w54 ⟨v359, rfl, ho0, hb, hkp⟩; refine ⟨_, rfl, ?_⟩; replace BK346 := z0 (blk_kept (zl BK346.out) hkp (fun hs_ => (fun e_ => (Kd.R_ne HO_3.out BK346.out (by decide)) e_) hs_)); have HO360 := z0 (Kd.R_mono (ok' := fun k_ => (P3_ k_ ∨ w.heap.size ≤ k_)) ho0 (fun k_ hk_ => Or.elim hk_ (fun hs_ => (HO_3.out.1 k_ (hs_).symm)) (fun hn_ => (.inr (Nat.le_trans (by first | exact HK.out.1 | exact (show Kept w _ (fun k_ => P3_ k_) from zk HK.out).1) hn_))))); replace HK := z0 (Kept.then_ (S := (fun k_ => P3_ k_)) (zk HK.out) hkp (fun k_ hs_ => (fun e_ => (HO_3.out.1 k_ e_.symm)) hs_)); replace HB := z0 (hb); clear HO_3; (try clear hb); (try clear hkp); (try clear ho0); refine hK.out _ _ (zb5 BK346.out) (fun hHeld => ?_); clear hK K; refine znm ?_; refine zu 7 255 ?_; refine zu 8 511 ?_; refine zu 9 1023 ?_; refine zu 10 2047 ?_; refine zu 11 4095 ?_; refine done_ (done_of HT_.out (by kernel_rfl)) ?_
            try go_wp2
            go_roundg kj37
            case measure => have := HK1.out; have := HJ14.out; have := HJ37.out; omega
            case rel => exact ⟨(t358), (wrap64 (x12_1 + 1)), zf, H', ⟨by have := HK1.out; have := HJ14.out; have := HJ37.out; omega⟩, ⟨zr HO360.out⟩, ⟨zl BK346.out⟩, ⟨zk HK.out⟩, ⟨zb HB.out⟩⟩
           ·replace c50 := Bool.eq_false_iff.mpr c50; subst c50
            have H1 : (some (([] : List (S93)), false)) = some (r1, r2) := by rw [if_neg (show ¬ (false = true) by decide)] at H; exact H
            clear H; have H := H1; clear H1; simp only [Option.some.injEq, Prod.mk.injEq] at H; obtain ⟨rfl, rfl⟩ := H
            try go_wp2
            replace HO_3 := z0 (Kd.R_drew HO_3.out); replace BK346 := z0 (blk_drew BK346.out); replace HK := z0 (Kept.drew HK.out); replace HB := z0 (below_drew1 HB.out); refine start_ (n := 12) (S := fun w' => w'.cell? ⟨gb346, 0, none⟩ = some (.string a0_0) ∧ w'.cell? ⟨gb346, 1, none⟩ = some (.string a0_1) ∧ w'.cell? ⟨gb346, 2, none⟩ = some (.string a0_2) ∧ w'.cell? ⟨gb346, 3, none⟩ = some (.slice A0_3 l0_3.length c0_3) ∧ w'.cell? ⟨gb346, 4, none⟩ = some (.int .i64 a0_4)) (ds := []) (fb 12 0) (by kernel_rfl) rfl rfl (zb5 BK346.out) (fun hHeld => ?_); refine with_tabW impl_Sieve_parts.tab15 impl_Sieve_parts.bits15 (fun HT_ HW_ => ?_); generalize wc.drew = w55 at HO_3 BK346 HK HB hHeld ⊢; refine zu 2 4 ?_; refine zu 4 20 ?_; refine zu 5 52 ?_; refine zx 0 53 hHeld ?_; refine zx 1 55 hHeld ?_; refine zone 3 63 (fun K hK => ?_); refine zG2 Try.func104 #[.agg #[.string a0_0, .string a0_1, .string a0_2, .slice A0_3 l0_3.length c0_3, .int .i64 a0_4], .int .i64 x12_1] ?_
            with_reducible refine (impl_Sieve_node.calls a0_0 a0_1 a0_2 _ _ l0_3 a0_4 x12_1 t357 _ ?side1 ?side2 A48.out).mono ?_
            (case side1 => exact Kd.C_kept_now HR0_3.out (zk HK.out)); (case side2 => exact HC0_3.out); rintro e w56 ⟨rfl, hb⟩; refine ⟨_, rfl, ?_⟩; replace HO_3 := zA HO_3 hb; replace BK346 := zK BK346 hb; replace HK := z0 (Kept.below (zk HK.out) hb); replace HB := zH HB hb; (try clear hb); obtain ⟨Ao57, co57, eo57⟩ := Kd.R_slice HO_3.out; (first | subst eo57 | (injection eo57 with f1_ f2_ f3_; have f4_ := f1_.symm; have f5_ := f3_.symm; clear f1_ f2_ f3_; subst f4_; subst f5_)); refine hK.out _ _ (zb5 BK346.out) (fun hHeld => ?_); clear hK K; refine znm ?_; refine zone 6 127 (fun K hK => ?_); refine zG2 Try.func118 #[.agg #[.string a0_0, .string a0_1, .string a0_2, .slice A0_3 l0_3.length c0_3, .int .i64 a0_4], .int .i64 t357, .string x13_14, .slice Ao57 x3_1.length co57] ?_
            with_reducible refine (ih kj37 (by have := HK1.out; have := HJ14.out; have := HJ37.out; omega) a0_0 a0_1 a0_2 _ _ l0_3 a0_4 t357 x13_14 (fun k_ => some k_ = (.slice Ao57 x3_1.length co57 : Value).ownBlock) (.slice Ao57 x3_1.length co57) x3_1 t358 false w0 _ ?side1 ?side2 ?side3 ?side4 A49.out).mono ?_
            (case side1 => repeat (first | (with_reducible first | exact HB.out | apply below_alloc | apply pw_below_drewN | apply below_drew1 | refine below_set ?_ GE346.out) | exact HB.out)); (case side2 => exact Kd.C_kept_call HR0_3.out (zk HK.out) (fun k_ hs_ => (fun e_ => (HO_3.out.1 k_ e_.symm)) hs_)); (case side3 => exact HC0_3.out); (case side4 => exact Kd.R_tight rfl HO_3.out); rintro e w58 ⟨v359, rfl, ho0, hb, hkp⟩; refine ⟨_, rfl, ?_⟩; replace BK346 := z0 (blk_kept (zl BK346.out) hkp (fun hs_ => (fun e_ => (Kd.R_ne HO_3.out BK346.out (by decide)) e_) hs_)); have HO360 := z0 (Kd.R_mono (ok' := fun k_ => (P3_ k_ ∨ w.heap.size ≤ k_)) ho0 (fun k_ hk_ => Or.elim hk_ (fun hs_ => (HO_3.out.1 k_ (hs_).symm)) (fun hn_ => (.inr (Nat.le_trans (by first | exact HK.out.1 | exact (show Kept w _ (fun k_ => P3_ k_) from zk HK.out).1) hn_))))); replace HK := z0 (Kept.then_ (S := (fun k_ => P3_ k_)) (zk HK.out) hkp (fun k_ hs_ => (fun e_ => (HO_3.out.1 k_ e_.symm)) hs_)); replace HB := z0 (hb); clear HO_3; (try clear hb); (try clear hkp); (try clear ho0); refine hK.out _ _ (zb5 BK346.out) (fun hHeld => ?_); clear hK K; refine znm ?_; refine zu 7 255 ?_; refine zu 8 511 ?_; refine zu 9 1023 ?_; refine zu 10 2047 ?_; refine zu 11 4095 ?_; refine done_ (done_of HT_.out (by kernel_rfl)) ?_
            try go_wp2
            go_ret2
            exact ⟨_, ze, by first | exact Kd.R_nil _ _ _ _ _ | exact Kd.N_nil _ _ _ _ _ | exact Kd.V_nil _ _ _ _ _ | exact Kd.Q_nil _ _ _ _ _ | exact Kd.S_nil _ _ _ _ _, zb HB.out, zk HK.out⟩
    ·rw [if_neg c11] at H; have c11b0 := decide_eq_false c11; clear c11; simp only [Option.some.injEq, Prod.mk.injEq] at H; obtain ⟨rfl, rfl⟩ := H; go_wp2
     go_ret2
     exact ⟨_, ze, zr HO_3.out, zb HB.out, zk HK.out⟩
theorem slices_Equal_string_string.mono_l : ∀ k, (∀ y0 y1 y2 y3, LeO (slices_Equal_string_string.l0 k y0 y1 y2 y3) (slices_Equal_string_string.l0 (k + 1) y0 y1 y2 y3))
  | 0 => fun _ _ _ _ r h => by simp [slices_Equal_string_string.l0] at h
  | k + 1 => by
    have ih0 := slices_Equal_string_string.mono_l k
    · intro y0 y1 y2 y3
      unfold slices_Equal_string_string.l0
      repeat' first | (with_reducible first | apply ih0 | exact LeO.refl _ | exact LeO.none _ | refine LeO.ite ?_ ?_ | refine LeO.bind ?_ (fun _ => ?_)) | exact LeO.none _ | refine LeO.ite ?_ ?_ | refine LeO.bind ?_ (fun _ => ?_)
theorem slices_Equal_string_string.mono : ∀ a0 a1 k, LeO (slices_Equal_string_string.f k a0 a1) (slices_Equal_string_string.f (k + 1) a0 a1) := by
  intro a0 a1 k
  have ih0 := slices_Equal_string_string.mono_l k
  unfold slices_Equal_string_string.f
  repeat' first | (with_reducible first | apply ih0 | exact LeO.refl _ | exact LeO.none _ | refine LeO.ite ?_ ?_ | refine LeO.bind ?_ (fun _ => ?_)) | exact LeO.none _ | refine LeO.ite ?_ ?_ | refine LeO.bind ?_ (fun _ => ?_)
theorem slices_Equal_string_string.calls (k : Nat) (A0 : Option Addr) (c0 : Nat) (l0 : List ByteArray) (A1 : Option Addr) (c1 : Nat) (l1 : List ByteArray) (r : Bool) (w : World) (hr0 : Kd.C Kd.string w A0 l0.length l0) (hc0 : l0.length ≤ c0) (hr1 : Kd.C Kd.string w A1 l1.length l1) (hc1 : l1.length ≤ c1) (h : slices_Equal_string_string.f k l0 l1 = some r) :
    Calls Try.prog 138 #[.slice A0 l0.length c0, .slice A1 l1.length c1] w fun e w' => e = .returned (.bool r) ∧ Drawn0 w w' := by
 have HR0 := z0 hr0; have HC0 := z0 hc0; clear hr0 hc0; have HR1 := z0 hr1; have HC1 := z0 hc1; clear hr1 hc1; have H : (if (l0.length : Int) = (l1.length : Int) then (slices_Equal_string_string.l0 k l0 l1 (l0.length : Int) 0) else (some false)) = some r := h; clear h
 by_cases c3 : (l0.length : Int) = (l1.length : Int)
 ·rw [if_pos c3] at H; have c3b0 : ((l0.length : Int) == (l1.length : Int)) = true := beq_iff_eq.mpr c3; have c3b1 : ((l0.length : Int) != (l1.length : Int)) = false := bne_eq_false_iff_eq.mpr c3
  have c3b2 : (l0.length == l1.length) = true := by first | simpa using c3 | (simp at c3 ⊢; omega)
  clear c3; have H' := z0 H; clear H; go_enter Try.func138, Try.ntmps138; go_wp2
  repeat (go_quiet (fail); try go_wp2)
  go_loopg [13] k (fun kq v13 w' => ∃ (x13_1 : Int), v13 = .int .i64 x13_1 ∧ Aside0 (slices_Equal_string_string.l0 kq l0 l1 (l0.length : Int) x13_1 = some r) ∧ Aside0 (kq ≤ k) ∧ Drawn0 w w')
  case atStart => exact ⟨(0), zf, H', ⟨Nat.le_refl _⟩, by repeat (first | exact Drawn0.refl _ | apply Drawn0.step)⟩
  case round =>
   clear H'
   try clear c1
   try clear p2
   try clear c3
   try clear c3b0
   try clear c3b1
   try clear c3b2
   obtain ⟨x13_1, rfl, HA, HK1, ⟨m1, rfl⟩⟩ := hrel
   cases gk with
   | zero => exact absurd HA.out (by simp [slices_Equal_string_string.l0])
   | succ k1 =>
    have H := HA.out; clear HA; simp only [slices_Equal_string_string.l0] at H
    by_cases c4 : x13_1 < (l0.length : Int)
    ·rw [if_pos c4] at H; have c4b0 := decide_eq_true c4; clear c4; replace H := zn H; obtain ⟨c5, H⟩ := H; have c5b0 := decide_eq_true c5; clear c5; replace H := zn H; obtain ⟨c6, H⟩ := H; have c6b0 := decide_eq_true c6; clear c6; replace H := zn H; obtain ⟨c7, H⟩ := H; have c7b0 := decide_eq_true c7; clear c7
     by_cases c8 : (rdOf ByteArray.empty l0 x13_1).toList = (rdOf ByteArray.empty l1 x13_1).toList
     ·rw [if_pos c8] at H; have c8b0 : ((rdOf ByteArray.empty l0 x13_1).toList == (rdOf ByteArray.empty l1 x13_1).toList) = true := beq_iff_eq.mpr c8; have c8b1 : ((rdOf ByteArray.empty l0 x13_1).toList != (rdOf ByteArray.empty l1 x13_1).toList) = false := bne_eq_false_iff_eq.mpr c8; clear c8; have H' := z0 H; clear H; have p362 : 0 ≤ (x13_1 : Int) := zd; have q362 : x13_1 < (l0.length : Int) := zd; obtain ⟨ad362, e362, hx362_0⟩ := Kd.at_string HR0.out x13_1 p362 q362; cases e362; replace p362 := eq_true p362; replace q362 := eq_true q362; have p363 : 0 ≤ (x13_1 : Int) := zd; have q363 : x13_1 < (l1.length : Int) := zd; obtain ⟨ad363, e363, hx363_0⟩ := Kd.at_string HR1.out x13_1 p363 q363; cases e363; replace p363 := eq_true p363; replace q363 := eq_true q363; go_wp2
      repeat (go_quiet (fail); try go_wp2)
      go_roundg k1
      case measure => have := HK1.out; omega
      case rel => exact ⟨(wrap64 (x13_1 + 1)), zf, H', ⟨by have := HK1.out; omega⟩, by repeat (first | exact Drawn0.refl _ | apply Drawn0.step)⟩
     ·rw [if_neg c8] at H; have c8b0 : ((rdOf ByteArray.empty l0 x13_1).toList == (rdOf ByteArray.empty l1 x13_1).toList) = false := beq_eq_false_iff_ne.mpr c8; have c8b1 : ((rdOf ByteArray.empty l0 x13_1).toList != (rdOf ByteArray.empty l1 x13_1).toList) = true := bne_iff_ne.mpr c8; obtain rfl := Option.some.inj H; have p362 : 0 ≤ (x13_1 : Int) := zd; have q362 : x13_1 < (l0.length : Int) := zd; obtain ⟨ad362, e362, hx362_0⟩ := Kd.at_string HR0.out x13_1 p362 q362; cases e362; replace p362 := eq_true p362; replace q362 := eq_true q362; have p363 : 0 ≤ (x13_1 : Int) := zd; have q363 : x13_1 < (l1.length : Int) := zd; obtain ⟨ad363, e363, hx363_0⟩ := Kd.at_string HR1.out x13_1 p363 q363; cases e363; replace p363 := eq_true p363; replace q363 := eq_true q363; go_wp2
      repeat (go_quiet (fail); try go_wp2)
      go_ret; exact ⟨zf, by repeat (first | exact Drawn0.refl _ | apply Drawn0.step)⟩
    ·rw [if_neg c4] at H; have c4b0 := decide_eq_false c4; clear c4; obtain rfl := Option.some.inj H; go_wp2
     repeat (go_quiet (fail); try go_wp2)
     go_ret; exact ⟨zf, by repeat (first | exact Drawn0.refl _ | apply Drawn0.step)⟩
 ·rw [if_neg c3] at H; have c3b0 : ((l0.length : Int) == (l1.length : Int)) = false := beq_eq_false_iff_ne.mpr c3; have c3b1 : ((l0.length : Int) != (l1.length : Int)) = true := bne_iff_ne.mpr c3
  have c3b2 : (l0.length == l1.length) = false := by first | simpa using c3 | (simp at c3 ⊢; omega)
  obtain rfl := Option.some.inj H; go_enter Try.func138, Try.ntmps138; go_wp2
  repeat (go_quiet (fail); try go_wp2)
  go_ret; exact ⟨zf, by repeat (first | exact Drawn0.refl _ | apply Drawn0.step)⟩
theorem impl_Sieve_same.mono : ∀ a0 a1 a2 a3 a4 a5 a6 a7 a8 a9 k, LeO (impl_Sieve_same.f k a0 a1 a2 a3 a4 a5 a6 a7 a8 a9) (impl_Sieve_same.f (k + 1) a0 a1 a2 a3 a4 a5 a6 a7 a8 a9) := by
  intro a0 a1 a2 a3 a4 a5 a6 a7 a8 a9 k
  unfold impl_Sieve_same.f
  repeat' first | (with_reducible first | apply slices_Equal_string_string.mono | exact LeO.refl _ | exact LeO.none _ | refine LeO.ite ?_ ?_ | refine LeO.bind ?_ (fun _ => ?_)) | exact LeO.none _ | refine LeO.ite ?_ ?_ | refine LeO.bind ?_ (fun _ => ?_)
theorem impl_Sieve_same.calls (k : Nat) (a0_0 a0_1 a0_2 : ByteArray) (A0_3 : Option Addr) (c0_3 : Nat) (l0_3 : List ByteArray) (a0_4 : Int) (a1_0 a1_1 a1_2 : ByteArray) (A1_3 : Option Addr) (c1_3 : Nat) (l1_3 : List ByteArray) (a1_4 : Int) (r : Bool) (w : World) (hr0_3 : Kd.C Kd.string w A0_3 l0_3.length l0_3) (hc0_3 : l0_3.length ≤ c0_3) (hr1_3 : Kd.C Kd.string w A1_3 l1_3.length l1_3) (hc1_3 : l1_3.length ≤ c1_3) (h : impl_Sieve_same.f k a0_0 a0_1 a0_2 l0_3 a0_4 a1_0 a1_1 a1_2 l1_3 a1_4 = some r) :
    Calls Try.prog 119 #[.agg #[.string a0_0, .string a0_1, .string a0_2, .slice A0_3 l0_3.length c0_3, .int .i64 a0_4], .agg #[.string a1_0, .string a1_1, .string a1_2, .slice A1_3 l1_3.length c1_3, .int .i64 a1_4]] w fun e w' => e = .returned (.bool r) ∧ Below w.heap.size w w' := by
 have hu25 := Try.underlying25; have HR0_3 := z0 hr0_3; have HC0_3 := z0 hc0_3; clear hr0_3 hc0_3; have HR1_3 := z0 hr1_3; have HC1_3 := z0 hc1_3; clear hr1_3 hc1_3; have HB := z0 (Below.refl w.heap.size w); have H : (if a0_0.toList = a1_0.toList then (if a0_1.toList = a1_1.toList then (if a0_2.toList = a1_2.toList then (if a0_4 = a1_4 then ((slices_Equal_string_string.f k l0_3 l1_3).bind fun t366 => (some t366)) else (some false)) else (some false)) else (some false)) else (some false)) = some r := h; clear h
 by_cases c3 : a0_0.toList = a1_0.toList
 ·rw [if_pos c3] at H; have c3b0 : (a0_0.toList == a1_0.toList) = true := beq_iff_eq.mpr c3; have c3b1 : (a0_0.toList != a1_0.toList) = false := bne_eq_false_iff_eq.mpr c3; clear c3
  by_cases c4 : a0_1.toList = a1_1.toList
  ·rw [if_pos c4] at H; have c4b0 : (a0_1.toList == a1_1.toList) = true := beq_iff_eq.mpr c4; have c4b1 : (a0_1.toList != a1_1.toList) = false := bne_eq_false_iff_eq.mpr c4; clear c4
   by_cases c5 : a0_2.toList = a1_2.toList
   ·rw [if_pos c5] at H; have c5b0 : (a0_2.toList == a1_2.toList) = true := beq_iff_eq.mpr c5; have c5b1 : (a0_2.toList != a1_2.toList) = false := bne_eq_false_iff_eq.mpr c5; clear c5
    by_cases c6 : a0_4 = a1_4
    ·rw [if_pos c6] at H; have c6b0 : (a0_4 == a1_4) = true := beq_iff_eq.mpr c6; have c6b1 : (a0_4 != a1_4) = false := bne_eq_false_iff_eq.mpr c6; clear c6; replace H := zi H; obtain ⟨t366, A7, H⟩ := H; obtain rfl := Option.some.inj H; go_enter Try.func119, Try.ntmps119
     go_wp2_with (first | ((with_reducible refine gd 2 ?_); refine zbx 25 #[.string a0_0, .string a0_1, .string a0_2, .slice A0_3 l0_3.length c0_3, .int .i64 a0_4] ?_; intro gb364 hg w8 hbox hb; have BK364 := z0 (hbox); have GE364 := zG hg HB; replace HB := zH HB hb; clear hb hbox hg) | ((with_reducible refine gd 3 ?_); refine zbx 25 #[.string a1_0, .string a1_1, .string a1_2, .slice A1_3 l1_3.length c1_3, .int .i64 a1_4] ?_; intro gb365 hg w9 hbox hb; have BK365 := z0 (hbox); have GE365 := zG hg HB; replace HB := zH HB hb; have NB364_365 := zLt hg BK364; have NB365_364 := zGt hg BK364; replace BK364 := zK BK364 hb; clear hb hbox hg; have hnb10 := NB364_365.out; have hnc10 := NB365_364.out; have hcz11 := zc5 BK364.out; have hcz12 := zc5 BK365.out) | (go_at_call 138; (with_reducible refine (slices_Equal_string_string.calls k _ _ l0_3 _ _ l1_3 t366 _ ?side1 ?side2 ?side3 ?side4 A7.out).mono ?_); (case side1 => repeat (first | exact (Kd.C_below HR0_3.out HB.out) | (with_reducible refine Kd.C_alloc ?_ _) | (with_reducible refine Kd.C_drewN ?_ _) | (with_reducible refine Kd.C_drew ?_))); (case side2 => exact HC0_3.out); (case side3 => repeat (first | exact (Kd.C_below HR1_3.out HB.out) | (with_reducible refine Kd.C_alloc ?_ _) | (with_reducible refine Kd.C_drewN ?_ _) | (with_reducible refine Kd.C_drew ?_))); (case side4 => exact HC1_3.out); rintro e w' ⟨rfl, ⟨nd, rfl⟩⟩))
     go_ret; exact ⟨ze, zb HB.out⟩
    ·rw [if_neg c6] at H; have c6b0 : (a0_4 == a1_4) = false := beq_eq_false_iff_ne.mpr c6; have c6b1 : (a0_4 != a1_4) = true := bne_iff_ne.mpr c6; obtain rfl := Option.some.inj H; go_enter Try.func119, Try.ntmps119
     go_wp2_with (first | ((with_reducible refine gd 2 ?_); refine zbx 25 #[.string a0_0, .string a0_1, .string a0_2, .slice A0_3 l0_3.length c0_3, .int .i64 a0_4] ?_; intro gb364 hg w13 hbox hb; have BK364 := z0 (hbox); have GE364 := zG hg HB; replace HB := zH HB hb; clear hb hbox hg) | ((with_reducible refine gd 3 ?_); refine zbx 25 #[.string a1_0, .string a1_1, .string a1_2, .slice A1_3 l1_3.length c1_3, .int .i64 a1_4] ?_; intro gb365 hg w14 hbox hb; have BK365 := z0 (hbox); have GE365 := zG hg HB; replace HB := zH HB hb; have NB364_365 := zLt hg BK364; have NB365_364 := zGt hg BK364; replace BK364 := zK BK364 hb; clear hb hbox hg; have hnb15 := NB364_365.out; have hnc15 := NB365_364.out; have hcz16 := zc5 BK364.out; have hcz17 := zc5 BK365.out))
     go_ret; exact ⟨ze, zb HB.out⟩
   ·rw [if_neg c5] at H; have c5b0 : (a0_2.toList == a1_2.toList) = false := beq_eq_false_iff_ne.mpr c5; have c5b1 : (a0_2.toList != a1_2.toList) = true := bne_iff_ne.mpr c5; obtain rfl := Option.some.inj H; go_enter Try.func119, Try.ntmps119
    go_wp2_with (first | ((with_reducible refine gd 2 ?_); refine zbx 25 #[.string a0_0, .string a0_1, .string a0_2, .slice A0_3 l0_3.length c0_3, .int .i64 a0_4] ?_; intro gb364 hg w18 hbox hb; have BK364 := z0 (hbox); have GE364 := zG hg HB; replace HB := zH HB hb; clear hb hbox hg) | ((with_reducible refine gd 3 ?_); refine zbx 25 #[.string a1_0, .string a1_1, .string a1_2, .slice A1_3 l1_3.length c1_3, .int .i64 a1_4] ?_; intro gb365 hg w19 hbox hb; have BK365 := z0 (hbox); have GE365 := zG hg HB; replace HB := zH HB hb; have NB364_365 := zLt hg BK364; have NB365_364 := zGt hg BK364; replace BK364 := zK BK364 hb; clear hb hbox hg; have hnb20 := NB364_365.out; have hnc20 := NB365_364.out; have hcz21 := zc5 BK364.out; have hcz22 := zc5 BK365.out))
    go_ret; exact ⟨ze, zb HB.out⟩
  ·rw [if_neg c4] at H; have c4b0 : (a0_1.toList == a1_1.toList) = false := beq_eq_false_iff_ne.mpr c4; have c4b1 : (a0_1.toList != a1_1.toList) = true := bne_iff_ne.mpr c4; obtain rfl := Option.some.inj H; go_enter Try.func119, Try.ntmps119
   go_wp2_with (first | ((with_reducible refine gd 2 ?_); refine zbx 25 #[.string a0_0, .string a0_1, .string a0_2, .slice A0_3 l0_3.length c0_3, .int .i64 a0_4] ?_; intro gb364 hg w23 hbox hb; have BK364 := z0 (hbox); have GE364 := zG hg HB; replace HB := zH HB hb; clear hb hbox hg) | ((with_reducible refine gd 3 ?_); refine zbx 25 #[.string a1_0, .string a1_1, .string a1_2, .slice A1_3 l1_3.length c1_3, .int .i64 a1_4] ?_; intro gb365 hg w24 hbox hb; have BK365 := z0 (hbox); have GE365 := zG hg HB; replace HB := zH HB hb; have NB364_365 := zLt hg BK364; have NB365_364 := zGt hg BK364; replace BK364 := zK BK364 hb; clear hb hbox hg; have hnb25 := NB364_365.out; have hnc25 := NB365_364.out; have hcz26 := zc5 BK364.out; have hcz27 := zc5 BK365.out))
   go_ret; exact ⟨ze, zb HB.out⟩
 ·rw [if_neg c3] at H; have c3b0 : (a0_0.toList == a1_0.toList) = false := beq_eq_false_iff_ne.mpr c3; have c3b1 : (a0_0.toList != a1_0.toList) = true := bne_iff_ne.mpr c3; obtain rfl := Option.some.inj H; go_enter Try.func119, Try.ntmps119
  go_wp2_with (first | ((with_reducible refine gd 2 ?_); refine zbx 25 #[.string a0_0, .string a0_1, .string a0_2, .slice A0_3 l0_3.length c0_3, .int .i64 a0_4] ?_; intro gb364 hg w28 hbox hb; have BK364 := z0 (hbox); have GE364 := zG hg HB; replace HB := zH HB hb; clear hb hbox hg) | ((with_reducible refine gd 3 ?_); refine zbx 25 #[.string a1_0, .string a1_1, .string a1_2, .slice A1_3 l1_3.length c1_3, .int .i64 a1_4] ?_; intro gb365 hg w29 hbox hb; have BK365 := z0 (hbox); have GE365 := zG hg HB; replace HB := zH HB hb; have NB364_365 := zLt hg BK364; have NB365_364 := zGt hg BK364; replace BK364 := zK BK364 hb; clear hb hbox hg; have hnb30 := NB364_365.out; have hnc30 := NB365_364.out; have hcz31 := zc5 BK364.out; have hcz32 := zc5 BK365.out))
  go_ret; exact ⟨ze, zb HB.out⟩
end Go.Proofs.Ytifgcajpkgamgaa.Q
end
