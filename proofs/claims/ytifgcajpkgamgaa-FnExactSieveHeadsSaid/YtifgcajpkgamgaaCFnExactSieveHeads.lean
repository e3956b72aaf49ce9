/- The law FnExactSieveHeads holds at every argument: the function returns true, and the caller's memory is as it was. -/
import Derived.Test.YtifgcajpkgamgaaRows
import Derived.WalkKit
import Derived.ProofKit
import Derived.OpenShut
import Derived.ShutString
import Derived.ChangeOld
import Derived.Below
import Derived.SizedLaws
import Derived.SliceStrings
import Derived.Deep.Fields
import Derived.ChangeArms
import Derived.Test.YtifgcajpkgamgaaBFnExactSieveHeadsa
namespace Go.Proofs.Ytifgcajpkgamgaa.fnExactSieveHeads
open Go.ChangeShapes Go.WideShapes Go.ChangeAt Go.RowKit
open Go.ChangeMaps (open_string shut_string)
set_option linter.unusedVariables false
theorem own : ownKnob Try.prog.godebug = none := by kernel_rfl
theorem laidOut : laidOutB Try.prog = true := by kernel_rfl
/-- Texts that lie in a row, as the walks read them. -/
theorem row_of {w : World} {a : Addr} {n : Nat} {ss : List ByteArray} (hn : n ≤ ss.length) (hm : n ≤ 9223372036854775807) (hc : ∀ i, i < ss.length → w.cell? (a.add i) = some (.string (ss.getD i ByteArray.empty))) : Go.Proofs.YtifgcajpkgamgaaW.PrintWords.Kd.C Go.Proofs.YtifgcajpkgamgaaW.PrintWords.Kd.string w (some a) n (ss.take n) := by
  refine ⟨by rw [List.length_take]; omega, hm, fun _ => ⟨a, rfl, fun j x hx => ⟨[.string x], rfl, rfl, fun i u hu => ?_⟩⟩⟩
  have hj : j < n := by
    have := (List.getElem?_eq_some_iff.1 hx).1
    rw [List.length_take] at this; omega
  have hi : i = 0 ∧ u = .string x := by
    cases i with
    | zero => exact ⟨rfl, by simpa using hu.symm⟩
    | succ i => simp at hu
  obtain ⟨rfl, rfl⟩ := hi
  have e : ss.getD j ByteArray.empty = x := by
    rw [List.getElem?_take_of_lt hj] at hx
    rw [List.getD_eq_getElem?_getD, hx]; rfl
  have := hc j (by omega)
  rw [e] at this
  simpa [Go.Proofs.YtifgcajpkgamgaaW.PrintWords.Kd.string, Go.Proofs.YtifgcajpkgamgaaW.PrintWords.Kd.scalar] using this
theorem array5 {α : Type} {cs : Array α} (h : cs.size = 5) : ∃ c0 c1 c2 c3 c4, cs = #[c0, c1, c2, c3, c4] := by
  obtain ⟨l⟩ := cs
  match l, h with
  | [c0, c1, c2, c3, c4], _ => exact ⟨c0, c1, c2, c3, c4, rfl⟩
theorem open_agg5 {H : Type} {enc : TypeId × Value → H} {P : Program} {w : World} {base : Nat} {spare : Nat → Bool} {held : Bool} {r : Reach} {b0 : Nat} {t : TypeId} {f0 f1 f2 f3 f4 : Field} {v : Value} {d : DataW H} {p : List MemPlace} (hs : P.underlying t = some (.struct #[f0, f1, f2, f3, f4])) (hone : Go.Deep.oneCellFields P #[f0, f1, f2, f3, f4] = true) (hC : P.cellsOf t = 5)
    (hv : Value.okWide P w r b0 t v) (h : DataW.Trod enc P w base spare held t v d p) :
    ∃ (v0 v1 v2 v3 v4 : Value) (y0 y1 y2 y3 y4 : DataW H × List MemPlace) (n : Nat), v = .agg #[v0, v1, v2, v3, v4] ∧
      DataW.trod enc P w base spare held n f0.type [v0] = some y0 ∧ DataW.trod enc P w base spare held n f1.type [v1] = some y1 ∧ DataW.trod enc P w base spare held n f2.type [v2] = some y2 ∧ DataW.trod enc P w base spare held n f3.type [v3] = some y3 ∧ DataW.trod enc P w base spare held n f4.type [v4] = some y4 := by
  obtain ⟨cs, rfl, hsz⟩ := okWide_struct hs hv
  obtain ⟨c0, c1, c2, c3, c4, rfl⟩ := array5 (hsz.trans hC)
  obtain ⟨fuel, hf⟩ := h
  obtain ⟨xs, n, _, _, _, hlen, hx⟩ := DataW.trod_struct hs hf
  obtain ⟨o0, k0⟩ := Go.Deep.hone_of hone 0 f0 rfl
  obtain ⟨o1, k1⟩ := Go.Deep.hone_of hone 1 f1 rfl
  obtain ⟨o2, k2⟩ := Go.Deep.hone_of hone 2 f2 rfl
  obtain ⟨o3, k3⟩ := Go.Deep.hone_of hone 3 f3 rfl
  obtain ⟨o4, k4⟩ := Go.Deep.hone_of hone 4 f4 rfl
  have g0 := hx 0 f0 rfl
  have g1 := hx 1 f1 rfl
  have g2 := hx 2 f2 rfl
  have g3 := hx 3 f3 rfl
  have g4 := hx 4 f4 rfl
  match xs, hlen with
  | [y0, y1, y2, y3, y4], _ => exact ⟨c0, c1, c2, c3, c4, y0, y1, y2, y3, y4, n, rfl, by simpa [Value.cells, o0, k0] using g0, by simpa [Value.cells, o1, k1] using g1, by simpa [Value.cells, o2, k2] using g2, by simpa [Value.cells, o3, k3] using g3, by simpa [Value.cells, o4, k4] using g4⟩
set_option maxRecDepth 100000 in
theorem lifted (os : Os) (started : os.Started) (H : Type) (enc : TypeId × Value → H) :
    ReturnsInHanded {} Try.checked os 15 .any (Rows.fnExactSieveHeadsSpec.pre6 enc Try.prog Try.f15 Rows.fnExactSieveHeadsRow.domain false) (Rows.fnExactSieveHeadsSpec.post enc Try.prog Try.f15 false true false false) := by
  refine returnsInHanded_of_change_sized (C := Try.checked) own started (by kernel_rfl) Try.func15
    (ChangeSpec.witness6 (enc := enc) (C := Try.checked) false ⟨#[], #[.agg #[.string ByteArray.empty, .string ByteArray.empty, .string ByteArray.empty, .slice none 0 0, .int .i64 0]], []⟩ 8 (by kernel_rfl) (by kernel_rfl) (by kernel_rfl) (by kernel_rfl)) ?_
  intro W base args ds gs before hval0 hW hcnd hsz0 _
  have hsz : (DataW.weightsEach Try.prog (Try.f15.params.toList ++ Rows.fnExactSieveHeadsSpec.plain.varTypes Try.prog) (ds ++ gs)).all (· ≤ reachBytes) = true := hsz0
  have hval : ∀ (j : Nat) t v, Try.f15.params[j]? = some t → args[j]? = some v → Value.okWide Try.prog W .any base t v := hval0
  have hW' := hW
  obtain ⟨p, q, hA0, hV, rfl, hfz, hnd⟩ := hW
  have hA : DataW.TrodAll enc Try.prog W 0 (fun _ => true) true Try.f15.params.toList args.toList ds p := hA0
  rw [Try.params15] at hA hval hsz
  obtain ⟨v0, vs0, d0, ds0, p0, q0, hargs, rfl, rfl, h0, r0⟩ := trodAll_cons hA
  obtain ⟨rfl, rfl, rfl⟩ := trodAll_nil r0
  obtain rfl : args = #[v0] := by cases args; simp_all
  obtain ⟨rfl, rfl⟩ := trodVars_none hV
  obtain ⟨e0, e1, e2, e3, e4, y0, y1, y2, y3, y4, fn, rfl, t0, t1, t2, t3, t4⟩ := open_agg5 Try.underlying49 (by kernel_rfl) (by kernel_rfl) (hval 0 49 v0 rfl rfl) h0
  have k0 := h0
  have lt0 : ∀ x ∈ p0, x.block < W.heap.size := by obtain ⟨m, hm⟩ := k0; exact DataW.trod_lt m _ _ _ hm
  obtain ⟨s0, q0, _, u0⟩ := DataW.trod_string Try.underlying9 t0
  obtain ⟨s1, q1, _, u1⟩ := DataW.trod_string Try.underlying9 t1
  obtain ⟨s2, q2, _, u2⟩ := DataW.trod_string Try.underlying9 t2
  obtain ⟨n4, q4, _, u4⟩ := DataW.trod_int Try.underlying3 t4
  obtain rfl : e0 = .string s0 := by simpa using q0
  obtain rfl : e1 = .string s1 := by simpa using q1
  obtain rfl : e2 = .string s2 := by simpa using q2
  obtain rfl : e4 = .int .i64 n4 := by simpa using q4
  obtain ⟨a3, cap3, z3, rfl, zc3, zm3, zr3, zs3⟩ : ∃ (a : Option Addr) (cap : Nat) (z : List ByteArray), e3 = .slice a z.length cap ∧ z.length ≤ cap ∧ z.length ≤ 9223372036854775807 ∧ Go.Proofs.YtifgcajpkgamgaaW.PrintWords.Kd.C Go.Proofs.YtifgcajpkgamgaaW.PrintWords.Kd.string W a z.length z ∧ ∀ s ∈ z, s.size ≤ 9223372036854775807 := by
    rcases open_strings Try.underlying23 Try.underlying9 (by kernel_rfl) t3 with ⟨hcs, _⟩ | ⟨x, l, c, zs, hcs, _, hl, hm, hz, _, hcell, hsz⟩
    · have hcs : e3 = .slice none 0 0 := by simpa using hcs
      exact ⟨none, 0, [], hcs, Nat.le_refl _, Nat.zero_le _, ⟨rfl, Nat.zero_le _, fun h => absurd h (Nat.lt_irrefl _)⟩, fun s hs => by cases hs⟩
    · have hcs : e3 = .slice (some x) l c := by simpa using hcs
      have hm' : c ≤ 9223372036854775807 := hm
      have hz' : l ≤ zs.length := by rw [hz]; split <;> omega
      have hzl : (zs.take l).length = l := by rw [List.length_take]; omega
      exact ⟨some x, c, zs.take l, by rw [hzl]; exact hcs, by omega, by omega, by rw [hzl]; exact row_of hz' (by omega) hcell, fun s hs => hsz s (List.mem_of_mem_take hs)⟩
  clear hA0 hval0 hsz0 hsz
  obtain ⟨k, hk⟩ := Pure.FnExactSieveHeads s0 s1 s2 z3 n4 u0 u1 u2 zm3 zs3
  refine (Q.laws_FnExactSieveHeads.calls k s0 s1 s2 a3 cap3 z3 n4 true W zr3 zc3 hk).mono fun e W' ⟨he, bel⟩ => ?_
  subst he
  exact ⟨_, rfl, _, _, _, [], _, [], hW', trodAll_mk1 (shut_bool Try.underlying4 _), (trodAll_cons_mk (Below.trod laidOut (by kernel_rfl) (of_decide_eq_true (by kernel_rfl)) k0 bel lt0) trodAll_mk0), rfl, bel.frame _, fun h => by cases h⟩
theorem j1 : (Rows.fnExactSieveHeadsRow.wf (OpenSpec.ofChange Rows.fnExactSieveHeadsSpec) && laidOutB Try.prog && mapsRowed Try.prog && Try.f15.params.all (Try.prog.readableRec ·) && namedTie Try.prog Rows.fnExactSieveHeadsRow.named Rows.fnExactSieveHeadsSpec.vars && (Rows.fnExactSieveHeadsRow.stops == []) && (Try.prog.stops == []) && (Rows.fnExactSieveHeadsRow.knobs == []) && (Try.prog.stopKnobs == [])) = true := by kernel_rfl
theorem j2 : (Rows.fnExactSieveHeadsRow.inPlace == Try.prog.inPlace 15) = true := by kernel_rfl
theorem j3 : (Rows.fnExactSieveHeadsRow.unfollowed == Try.prog.unfollowed 15) = true := by kernel_rfl
theorem j4 : (Rows.fnExactSieveHeadsRow.recurses == Try.prog.recurses 15) = true := by kernel_rfl
theorem j5 : (Rows.fnExactSieveHeadsRow.named == Try.prog.varsNamed 15) = true := by kernel_rfl
theorem over : Rows.fnExactSieveHeadsRow.holds Try.pinned (OpenSpec.ofChange Rows.fnExactSieveHeadsSpec) :=
  OpenClaim.holds_of_wide 15 Try.f15 rfl rfl rfl rfl rfl rfl rfl ⟨rfl, rfl, rfl, rfl, rfl⟩ rfl rfl rfl rfl rfl (by kernel_rfl) Try.func15 (show joinedFacts Try.prog 15 Try.f15 Rows.fnExactSieveHeadsSpec Rows.fnExactSieveHeadsRow = true from Start.joined 15 Try.f15 Rows.fnExactSieveHeadsSpec Rows.fnExactSieveHeadsRow j1 j2 j3 j4 j5 (by kernel_rfl) (by kernel_rfl) rfl rfl (by kernel_rfl))
    (of_decide_eq_true (by kernel_rfl)) (by unfold Func.isWrapper; first | (rw [if_pos (by decide +kernel)]; kernel_rfl) | (rw [if_neg (by decide +kernel)]; exact ⟨rfl, rfl⟩))
    (fun os started H enc _ => lifted os started H enc)
theorem proved : Rows.FnExactSieveHeadsSaid := over
#print axioms proved
end Go.Proofs.Ytifgcajpkgamgaa.fnExactSieveHeads
namespace Go.Proofs.Ytifgcajpkgamgaa
/-- The row, under a short name, for the claim. -/
theorem fnExactSieveHeads_holds : Rows.FnExactSieveHeadsSaid := fnExactSieveHeads.proved
end Go.Proofs.Ytifgcajpkgamgaa
