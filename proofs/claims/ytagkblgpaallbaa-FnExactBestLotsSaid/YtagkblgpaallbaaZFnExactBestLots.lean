/- At every argument BestLots of the program answers as BestLots of the reference, before and after its answer is written over: no condition but the statement's own. -/
import Derived.Test.YtagkblgpaallbaaRows
import Derived.Test.YtagkblgpaallbaaCFnExactBestLots2
import Derived.WalkKit
import Derived.ProofKit
import Derived.OpenShut
import Derived.ShutString
import Derived.ChangeOld
import Derived.Below
import Derived.SizedLaws
namespace Go.Proofs.Ytagkblgpaallbaa.fnExactBestLots
open Go.ChangeShapes Go.WideShapes Go.ChangeAt Go.RowKit
open Go.ChangeMaps (open_string shut_string)
open Go.Proofs.Ytagkblgpaallbaa.RowW Go.Proofs.YtagkblgpaallbaaW.PrintWords Go.Proofs.Ytagkblgpaallbaa.Print
set_option linter.unusedVariables false
theorem own : ownKnob Try.prog.godebug = none := by kernel_rfl
theorem laidOut : laidOutB Try.prog = true := by kernel_rfl
theorem len_3 {cs : List Value} (h : cs.length = 3) : ∃ u0 u1 u2, cs = [u0, u1, u2] := by
  match cs, h with
  | [u0, u1, u2], _ => exact ⟨u0, u1, u2, rfl⟩
set_option maxRecDepth 100000 in
theorem lifted (os : Os) (started : os.Started) (H : Type) (enc : TypeId × Value → H) :
    ReturnsInHanded {} Try.checked os 9 .any (Rows.fnExactBestLotsSpec.pre6 enc Try.prog Try.f9 Rows.fnExactBestLotsRow.domain false) (Rows.fnExactBestLotsSpec.post enc Try.prog Try.f9 false true false false) := by
  refine returnsInHanded_of_change_sized (C := Try.checked) own started (by kernel_rfl) Try.func9
    (ChangeSpec.witness6 (enc := enc) (C := Try.checked) false ⟨#[], #[.agg #[.slice none 0 0, .int .i64 0, .int .i64 0]], []⟩ 8 (by kernel_rfl) (by kernel_rfl) (by kernel_rfl) (by kernel_rfl)) ?_
  intro W base args ds gs before hval0 hW hcnd hsz0 _
  have hval : ∀ (j : Nat) t v, Try.f9.params[j]? = some t → args[j]? = some v → Value.okWide Try.prog W .any base t v := hval0
  have hW' := hW
  obtain ⟨p, q, hA0, hV, rfl, hfz, hnd⟩ := hW
  have hA : DataW.TrodAll enc Try.prog W 0 (fun _ => true) true Try.f9.params.toList args.toList ds p := hA0
  rw [Try.params9] at hA hval
  obtain ⟨v0, vs0, d0, ds0, p0, q0, hargs, rfl, rfl, h0, r0⟩ := trodAll_cons hA
  obtain ⟨rfl, rfl, rfl⟩ := trodAll_nil r0
  obtain rfl : args = #[v0] := by cases args; simp_all
  obtain ⟨rfl, rfl⟩ := trodVars_none hV
  have k0 := h0
  have lt0 : ∀ x ∈ p0, x.block < W.heap.size := by obtain ⟨m, hm⟩ := k0; exact DataW.trod_lt m _ _ _ hm
  obtain ⟨fu0, hf0⟩ := h0
  obtain ⟨cs0, rfl, hz0⟩ := okWide_struct Try.underlying24 (hval 0 24 v0 rfl rfl)
  obtain ⟨ys0, n0, _, _, hl0, hys0, hg0⟩ := DataW.trod_struct Try.underlying24 hf0
  rw [show Try.prog.cellsOf 24 = 3 by kernel_rfl] at hz0
  obtain ⟨cl0⟩ := cs0
  obtain ⟨u0_0, u0_1, u0_2, rfl⟩ := len_3 (show cl0.length = 3 from hz0)
  have hys0 : ys0.length = 3 := hys0
  obtain ⟨y0_0, q0_0⟩ : ∃ y_, DataW.trod enc Try.prog W 0 (fun _ => true) true n0 22 [u0_0] = some y_ := by have z_ := field_some 0 (by rw [hys0]; decide) (hg0 0 (⟨"Need", 22, 0, false, "", "", 0⟩ : Field) rfl); dsimp only at z_; rw [show Try.prog.cellsOf 22 = 1 by kernel_rfl] at z_; exact ⟨_, z_⟩
  obtain ⟨l0_0, ⟨A0_0, c0_0, eu0_0, hc0_0, hr0_0⟩, hw0_0⟩ := (Opens.slice Try.underlying22 (by kernel_rfl) (Opens.int Try.underlying3)) q0_0
  obtain rfl : u0_0 = _ := (List.cons.inj eu0_0).1
  obtain ⟨y0_1, q0_1⟩ : ∃ y_, DataW.trod enc Try.prog W 0 (fun _ => true) true n0 3 [u0_1] = some y_ := by have z_ := field_some 1 (by rw [hys0]; decide) (hg0 1 (⟨"Start", 3, 1, false, "", "", 24⟩ : Field) rfl); dsimp only at z_; rw [show Try.prog.cellsOf 3 = 1 by kernel_rfl] at z_; exact ⟨_, z_⟩
  obtain ⟨a0_1, eu0_1, hw0_1⟩ := (Opens.int Try.underlying3) q0_1
  obtain rfl : u0_1 = _ := (List.cons.inj eu0_1).1
  obtain ⟨y0_2, q0_2⟩ : ∃ y_, DataW.trod enc Try.prog W 0 (fun _ => true) true n0 3 [u0_2] = some y_ := by have z_ := field_some 2 (by rw [hys0]; decide) (hg0 2 (⟨"Keep", 3, 2, false, "", "", 32⟩ : Field) rfl); dsimp only at z_; rw [show Try.prog.cellsOf 3 = 1 by kernel_rfl] at z_; exact ⟨_, z_⟩
  obtain ⟨a0_2, eu0_2, hw0_2⟩ := (Opens.int Try.underlying3) q0_2
  obtain rfl : u0_2 = _ := (List.cons.inj eu0_2).1
  obtain ⟨k, rounds_⟩ := Pure.FnExactBestLots l0_0 a0_1 a0_2 hw0_0 hw0_1 hw0_2
  refine (Print.laws_FnExactBestLots.calls k _ _ l0_0 a0_1 a0_2 true W hr0_0 hc0_0 rounds_).mono fun e W' ⟨he, bel_⟩ => ?_
  have bel := bel_
  subst he
  exact ⟨_, rfl, _, _, _, [], _, [], hW', trodAll_mk1 (shut_bool Try.underlying4 _), (trodAll_cons_mk (Below.trod laidOut (by kernel_rfl) (of_decide_eq_true (by kernel_rfl)) k0 bel lt0) trodAll_mk0), rfl, bel.frame _, fun h => by cases h⟩
theorem over : Rows.fnExactBestLotsRow.holds Try.pinned (OpenSpec.ofChange Rows.fnExactBestLotsSpec) :=
  OpenClaim.holds_of_wide 9 Try.f9 rfl rfl rfl rfl rfl rfl rfl ⟨rfl, rfl, rfl, rfl, rfl⟩ rfl rfl rfl rfl rfl (by kernel_rfl) Try.func9 (by kernel_rfl)
    (of_decide_eq_true (by kernel_rfl)) (by unfold Func.isWrapper; first | (rw [if_pos (by decide +kernel)]; kernel_rfl) | (rw [if_neg (by decide +kernel)]; exact ⟨rfl, rfl⟩))
    (fun os started H enc _ => lifted os started H enc)
theorem proved : Rows.FnExactBestLotsSaid := over
#print axioms proved
end Go.Proofs.Ytagkblgpaallbaa.fnExactBestLots
namespace Go.Proofs.Ytagkblgpaallbaa
/-- The row, under a short name, for the claim. -/
theorem fnExactBestLots_holds : Rows.FnExactBestLotsSaid := fnExactBestLots.proved
end Go.Proofs.Ytagkblgpaallbaa
