/- At every argument CoverOf of the program answers as CoverOf of the reference, before and after its arguments and its answer are written over: no condition but the statement's own. -/
import Derived.Test.YtpagpbamdpllnaaRows
import Derived.Test.YtpagpbamdpllnaaCFnExactCoverOf2
import Derived.WalkKit
import Derived.ProofKit
import Derived.OpenShut
import Derived.ShutString
import Derived.ChangeOld
import Derived.Below
import Derived.SizedLaws
namespace Go.Proofs.Ytpagpbamdpllnaa.fnExactCoverOf
open Go.ChangeShapes Go.WideShapes Go.ChangeAt Go.RowKit
open Go.ChangeMaps (open_string shut_string)
open Go.Proofs.Ytpagpbamdpllnaa.RowW Go.Proofs.YtpagpbamdpllnaaW.PrintWords Go.Proofs.Ytpagpbamdpllnaa.Print
set_option linter.unusedVariables false
theorem own : ownKnob Try.prog.godebug = none := by kernel_rfl
theorem laidOut : laidOutB Try.prog = true := by kernel_rfl
set_option maxRecDepth 100000 in
theorem lifted (os : Os) (started : os.Started) (H : Type) (enc : TypeId × Value → H) :
    ReturnsInHanded {} Try.checked os 9 .any (Rows.fnExactCoverOfSpec.pre6 enc Try.prog Try.f9 Rows.fnExactCoverOfRow.domain false) (Rows.fnExactCoverOfSpec.post enc Try.prog Try.f9 false true false false) := by
  refine returnsInHanded_of_change_sized (C := Try.checked) own started (by kernel_rfl) Try.func9
    (ChangeSpec.witness6 (enc := enc) (C := Try.checked) false ⟨#[], #[.slice none 0 0], []⟩ 8 (by kernel_rfl) (by kernel_rfl) (by kernel_rfl) (by kernel_rfl)) ?_
  intro W base args ds gs before hval0 hW hcnd hsz0 _
  have hval : ∀ (j : Nat) t v, Try.f9.params[j]? = some t → args[j]? = some v → Value.okWide Try.prog W .any base t v := hval0
  have hW' := hW
  obtain ⟨p, q, hA0, hV, rfl, hfz, hnd⟩ := hW
  have hA : DataW.TrodAll enc Try.prog W 0 (fun _ => true) true Try.f9.params.toList args.toList ds p := hA0
  rw [Try.params9] at hA hval
  obtain ⟨v0, vs0, d0, ds0, p0, q0, hargs, rfl, rfl, h0, r0⟩ := trodAll_cons hA
  obtain ⟨rfl, rfl, rfl⟩ := trodAll_nil r0
  obtain rfl : args = #[v0] := by cases args; simp_all
  obtain ⟨rfl, rfl⟩ := trodVars_none hV
  have k0 := h0
  have lt0 : ∀ x ∈ p0, x.block < W.heap.size := by obtain ⟨m, hm⟩ := k0; exact DataW.trod_lt m _ _ _ hm
  obtain ⟨fu0, hf0⟩ := h0
  obtain ⟨a_0, n_0, c_0, rfl⟩ := okWide_slice Try.underlying70 (hval 0 70 v0 rfl rfl)
  obtain ⟨l0, ⟨A0, c0, eu0, hc0, hr0⟩, hw0⟩ := (Opens.slice Try.underlying70 (by kernel_rfl) (Opens.slice Try.underlying88 (by kernel_rfl) (Opens.bool Try.underlying4))) hf0
  obtain ⟨rfl, rfl, rfl⟩ : a_0 = A0 ∧ n_0 = l0.length ∧ c_0 = c0 := by simpa [Value.cells] using eu0
  obtain ⟨k, rounds_⟩ := Pure.FnExactCoverOf l0 hw0
  refine (Print.laws_FnExactCoverOf.calls k _ _ l0 true W hr0 hc0 rounds_).mono fun e W' ⟨he, bel_⟩ => ?_
  have bel := bel_
  subst he
  exact ⟨_, rfl, _, _, _, [], _, [], hW', trodAll_mk1 (shut_bool Try.underlying4 _), (trodAll_cons_mk (Below.trod laidOut (by kernel_rfl) (of_decide_eq_true (by kernel_rfl)) k0 bel lt0) trodAll_mk0), rfl, bel.frame _, fun h => by cases h⟩
theorem over : Rows.fnExactCoverOfRow.holds Try.pinned (OpenSpec.ofChange Rows.fnExactCoverOfSpec) :=
  OpenClaim.holds_of_wide 9 Try.f9 rfl rfl rfl rfl rfl rfl rfl ⟨rfl, rfl, rfl, rfl, rfl⟩ rfl rfl rfl rfl rfl (by kernel_rfl) Try.func9 (by kernel_rfl)
    (of_decide_eq_true (by kernel_rfl)) (by unfold Func.isWrapper; first | (rw [if_pos (by decide +kernel)]; kernel_rfl) | (rw [if_neg (by decide +kernel)]; exact ⟨rfl, rfl⟩))
    (fun os started H enc _ => lifted os started H enc)
theorem proved : Rows.FnExactCoverOfSaid := over
#print axioms proved
end Go.Proofs.Ytpagpbamdpllnaa.fnExactCoverOf
namespace Go.Proofs.Ytpagpbamdpllnaa
/-- The row, under a short name, for the claim. -/
theorem fnExactCoverOf_holds : Rows.FnExactCoverOfSaid := fnExactCoverOf.proved
end Go.Proofs.Ytpagpbamdpllnaa
