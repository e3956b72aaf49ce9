/- The law FnExactSieveOf holds at every argument: the function returns true, and the caller's memory is as it was. -/
import Derived.Test.YtonagfbadoacjaaRows
import Derived.WalkKit
import Derived.ProofKit
import Derived.OpenShut
import Derived.ShutString
import Derived.ChangeOld
import Derived.Below
import Derived.SizedLaws
import Derived.SliceStrings
import Derived.Test.YtonagfbadoacjaaBFnExactSieveOfe
namespace Go.Proofs.Ytonagfbadoacjaa.fnExactSieveOf
open Go.ChangeShapes Go.WideShapes Go.ChangeAt Go.RowKit
open Go.ChangeMaps (open_string shut_string)
set_option linter.unusedVariables false
theorem own : ownKnob Try.prog.godebug = none := by kernel_rfl
theorem laidOut : laidOutB Try.prog = true := by kernel_rfl
/-- Texts that lie in a row, as the walks read them. -/
theorem row_of {w : World} {a : Addr} {n : Nat} {ss : List ByteArray} (hn : n ≤ ss.length) (hm : n ≤ 9223372036854775807) (hc : ∀ i, i < ss.length → w.cell? (a.add i) = some (.string (ss.getD i ByteArray.empty))) : Go.Proofs.YtonagfbadoacjaaW.PrintWords.Kd.C Go.Proofs.YtonagfbadoacjaaW.PrintWords.Kd.string w (some a) n (ss.take n) := by
  refine ⟨by rw [List.length_take]; omega, hm, fun _ => ⟨a, rfl, fun j x hx => ⟨[.string x], rfl, rfl, fun i u hu => ?_⟩⟩⟩
  have hj : j < n := by
    have := (List.getElem?_eq_some_iff.1 hx).1
    rw [List.length_take] at this; omega
  have hi : i = 0 ∧ u = .string x := by
    cases i with
    | zero => exact ⟨rfl, by simpa using hu.symm⟩
    | succ i => simp at hu
  obtain ⟨rfl, rfl⟩ := hi
  have e : ss.getD j ByteArray.empty = x := by
    rw [List.getElem?_take_of_lt hj] at hx
    rw [List.getD_eq_getElem?_getD, hx]; rfl
  have := hc j (by omega)
  rw [e] at this
  simpa [Go.Proofs.YtonagfbadoacjaaW.PrintWords.Kd.string, Go.Proofs.YtonagfbadoacjaaW.PrintWords.Kd.scalar] using this
set_option maxRecDepth 100000 in
theorem lifted (os : Os) (started : os.Started) (H : Type) (enc : TypeId × Value → H) :
    ReturnsInHanded {} Try.checked os 15 .any (Rows.fnExactSieveOfSpec.pre6 enc Try.prog Try.f15 Rows.fnExactSieveOfRow.domain false) (Rows.fnExactSieveOfSpec.post enc Try.prog Try.f15 false true false false) := by
  refine returnsInHanded_of_change_sized (C := Try.checked) own started (by kernel_rfl) Try.func15
    (ChangeSpec.witness6 (enc := enc) (C := Try.checked) false ⟨#[], #[.slice none 0 0, .int .i64 0], []⟩ 8 (by kernel_rfl) (by kernel_rfl) (by kernel_rfl) (by kernel_rfl)) ?_
  intro W base args ds gs before hval0 hW hcnd hsz0 _
  have hsz : (DataW.weightsEach Try.prog (Try.f15.params.toList ++ Rows.fnExactSieveOfSpec.plain.varTypes Try.prog) (ds ++ gs)).all (· ≤ reachBytes) = true := hsz0
  have hval : ∀ (j : Nat) t v, Try.f15.params[j]? = some t → args[j]? = some v → Value.okWide Try.prog W .any base t v := hval0
  have hW' := hW
  obtain ⟨p, q, hA0, hV, rfl, hfz, hnd⟩ := hW
  have hA : DataW.TrodAll enc Try.prog W 0 (fun _ => true) true Try.f15.params.toList args.toList ds p := hA0
  rw [Try.params15] at hA hval hsz
  obtain ⟨v0, vs0, d0, ds0, p0, q0, hargs, rfl, rfl, h0, r0⟩ := trodAll_cons hA
  obtain ⟨v1, vs1, d1, ds1, p1, q1, rfl, rfl, rfl, h1, r1⟩ := trodAll_cons r0
  obtain ⟨rfl, rfl, rfl⟩ := trodAll_nil r1
  obtain rfl : args = #[v0, v1] := by cases args; simp_all
  obtain ⟨rfl, rfl⟩ := trodVars_none hV
  obtain ⟨a0, len0, cap0, rfl⟩ := okWide_slice Try.underlying26 (hval 0 26 v0 rfl rfl)
  have k0 := h0
  have lt0 : ∀ x ∈ p0, x.block < W.heap.size := by obtain ⟨m, hm⟩ := k0; exact DataW.trod_lt m _ _ _ hm
  obtain ⟨z0, zl0, zc0, zm0, zr0, zs0⟩ : ∃ z : List ByteArray, z.length = len0 ∧ len0 ≤ cap0 ∧ len0 ≤ 9223372036854775807 ∧ Go.Proofs.YtonagfbadoacjaaW.PrintWords.Kd.C Go.Proofs.YtonagfbadoacjaaW.PrintWords.Kd.string W a0 len0 z ∧ ∀ s ∈ z, s.size ≤ 9223372036854775807 := by
    obtain ⟨fuel, hf⟩ := h0
    rcases open_strings Try.underlying26 Try.underlying9 (by kernel_rfl) hf with ⟨hcs, _⟩ | ⟨x, l, c, zs, hcs, _, hl, hm, hz, _, hcell, hsz⟩
    · simp [Value.cells] at hcs
      obtain ⟨rfl, rfl, rfl⟩ := hcs
      exact ⟨[], rfl, Nat.le_refl _, Nat.zero_le _, ⟨rfl, Nat.zero_le _, fun h => absurd h (Nat.lt_irrefl _)⟩, fun s hs => by cases hs⟩
    · simp [Value.cells] at hcs
      obtain ⟨rfl, rfl, rfl⟩ := hcs
      have hm' : cap0 ≤ 9223372036854775807 := hm
      have hz' : len0 ≤ zs.length := by rw [hz]; split <;> omega
      exact ⟨zs.take len0, by rw [List.length_take]; omega, hl, by omega, row_of hz' (by omega) hcell, fun s hs => hsz s (List.mem_of_mem_take hs)⟩
  obtain ⟨a1, rfl, rfl, rfl, w1⟩ := open_int Try.underlying3 (hval 1 3 v1 rfl rfl) h1
  clear hA0 hval0 hsz0 hsz
  subst zl0
  obtain ⟨k, hk⟩ := Pure.FnExactSieveOf z0 a1 (by omega) zs0 w1
  refine (Q.laws_FnExactSieveOf.calls k a0 cap0 z0 a1 true W zr0 zc0 hk).mono fun e W' ⟨he, bel⟩ => ?_
  subst he
  exact ⟨_, rfl, _, _, _, [], _, [], hW', trodAll_mk1 (shut_bool Try.underlying4 _), (trodAll_cons_mk (Below.trod laidOut (by kernel_rfl) (of_decide_eq_true (by kernel_rfl)) k0 bel lt0) (trodAll_cons_mk (shut_int Try.underlying3 w1) trodAll_mk0)), rfl, bel.frame _, fun h => by cases h⟩
theorem j1 : (Rows.fnExactSieveOfRow.wf (OpenSpec.ofChange Rows.fnExactSieveOfSpec) && laidOutB Try.prog && mapsRowed Try.prog && Try.f15.params.all (Try.prog.readableRec ·) && namedTie Try.prog Rows.fnExactSieveOfRow.named Rows.fnExactSieveOfSpec.vars && (Rows.fnExactSieveOfRow.stops == []) && (Try.prog.stops == []) && (Rows.fnExactSieveOfRow.knobs == []) && (Try.prog.stopKnobs == [])) = true := by kernel_rfl
theorem j2 : (Rows.fnExactSieveOfRow.inPlace == Try.prog.inPlace 15) = true := by kernel_rfl
theorem j3 : (Rows.fnExactSieveOfRow.unfollowed == Try.prog.unfollowed 15) = true := by kernel_rfl
theorem j4 : (Rows.fnExactSieveOfRow.recurses == Try.prog.recurses 15) = true := by kernel_rfl
theorem j5 : (Rows.fnExactSieveOfRow.named == Try.prog.varsNamed 15) = true := by kernel_rfl
theorem over : Rows.fnExactSieveOfRow.holds Try.pinned (OpenSpec.ofChange Rows.fnExactSieveOfSpec) :=
  OpenClaim.holds_of_wide 15 Try.f15 rfl rfl rfl rfl rfl rfl rfl ⟨rfl, rfl, rfl, rfl, rfl⟩ rfl rfl rfl rfl rfl (by kernel_rfl) Try.func15 (show joinedFacts Try.prog 15 Try.f15 Rows.fnExactSieveOfSpec Rows.fnExactSieveOfRow = true from Start.joined 15 Try.f15 Rows.fnExactSieveOfSpec Rows.fnExactSieveOfRow j1 j2 j3 j4 j5 (by kernel_rfl) (by kernel_rfl) rfl rfl (by kernel_rfl))
    (of_decide_eq_true (by kernel_rfl)) (by unfold Func.isWrapper; first | (rw [if_pos (by decide +kernel)]; kernel_rfl) | (rw [if_neg (by decide +kernel)]; exact ⟨rfl, rfl⟩))
    (fun os started H enc _ => lifted os started H enc)
theorem proved : Rows.FnExactSieveOfSaid := over
#print axioms proved
end Go.Proofs.Ytonagfbadoacjaa.fnExactSieveOf
namespace Go.Proofs.Ytonagfbadoacjaa
/-- The row, under a short name, for the claim. -/
theorem fnExactSieveOf_holds : Rows.FnExactSieveOfSaid := fnExactSieveOf.proved
end Go.Proofs.Ytonagfbadoacjaa
