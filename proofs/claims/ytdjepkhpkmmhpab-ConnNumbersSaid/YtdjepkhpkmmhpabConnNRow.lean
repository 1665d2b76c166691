/-
  ConnNumbers returns true for every number.
-/
import Derived.Test.YtdjepkhpkmmhpabRows
import Derived.Test.YtdjepkhpkmmhpabConnN
namespace Go.Proofs.Ytdjepkhpkmmhpab
open Go.ChangeShapes Go.WideShapes Go.ChangeAt Go.RowKit
set_option linter.unusedVariables false
set_option linter.unusedSimpArgs false

theorem connNumbers_own : ownKnob Try.prog.godebug = none := by kernel_rfl
set_option maxRecDepth 100000 in
theorem connNumbers_lifted (os : Os) (started : os.Started) (H : Type) (enc : TypeId × Value → H) :
    ReturnsInHanded {} Try.checked os 8 .any (Rows.connNumbersSpec.pre6 enc Try.prog Try.f8 Rows.connNumbersRow.domain false) (Rows.connNumbersSpec.post enc Try.prog Try.f8 false true false false) := by
  refine returnsInHanded_of_change (C := Try.checked) connNumbers_own started (by kernel_rfl) Try.func8
    (ChangeSpec.witness6 (enc := enc) (C := Try.checked) false ⟨#[], #[.int .i64 0], []⟩ 8 (by kernel_rfl) (by kernel_rfl) (by kernel_rfl) (by kernel_rfl)) ?_
  intro W base args ds gs before hval0 hW hcnd _
  have hval : ∀ (j : Nat) t v, Try.f8.params[j]? = some t → args[j]? = some v → Value.okWide Try.prog W .any base t v := hval0
  have hW' := hW
  obtain ⟨p, q, hA0, hV, rfl, hfz, hnd⟩ := hW
  have hA : DataW.TrodAll enc Try.prog W 0 (fun _ => true) true Try.f8.params.toList args.toList ds p := hA0
  rw [Try.params8] at hA hval
  obtain ⟨rfl, rfl⟩ := trodVars_none hV
  clear hA0 hval0
  obtain ⟨v0, d0, rfl, rfl, h0⟩ := trodAll_one hA
  obtain ⟨s, rfl, rfl, rfl, ws⟩ := open_int Try.underlying3 (hval 0 3 _ rfl rfl) h0
  refine Calls.mono (connNumbers_use (Q := fun e w' => e = .returned (.bool true) ∧ Sat W (whole W * emp) w') s (sat_start W) (fun w' h => ⟨rfl, h⟩)) ?_
  rintro e W' ⟨rfl, hs⟩
  exact ⟨_, rfl, law_post 4 hW' rfl rfl rfl rfl rfl Try.underlying4 (by kernel_rfl) (by kernel_rfl) (below_of_sat hs)⟩

theorem connNumbers_holds : Rows.ConnNumbersSaid :=
  OpenClaim.holds_of_wide 8 Try.f8 rfl rfl rfl rfl rfl rfl rfl ⟨rfl, rfl, rfl, rfl, rfl⟩ rfl rfl rfl rfl rfl (by kernel_rfl) Try.func8 (by kernel_rfl)
    (of_decide_eq_true (by kernel_rfl)) (by unfold Func.isWrapper; first | (rw [if_pos (by decide +kernel)]; kernel_rfl) | (rw [if_neg (by decide +kernel)]; exact ⟨rfl, rfl⟩))
    (fun os started H enc _ => connNumbers_lifted os started H enc)
#print axioms connNumbers_holds
end Go.Proofs.Ytdjepkhpkmmhpab
