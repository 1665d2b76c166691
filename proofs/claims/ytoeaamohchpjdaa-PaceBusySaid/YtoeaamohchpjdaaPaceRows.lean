/-
  PaceFresh and PaceBusy return true for every list of ticks (and every number).
-/
import Derived.Test.YtoeaamohchpjdaaRows
import Derived.Test.YtoeaamohchpjdaaPaceL
import Derived.Test.YtoeaamohchpjdaaShape
namespace Go.Proofs.Ytoeaamohchpjdaa
open Go.ChangeShapes Go.WideShapes Go.ChangeAt Go.RowKit
set_option linter.unusedVariables false
set_option linter.unusedSimpArgs false

theorem paceFresh_own : ownKnob Try.prog.godebug = none := by kernel_rfl
set_option maxRecDepth 100000 in
theorem paceFresh_lifted (os : Os) (started : os.Started) (H : Type) (enc : TypeId × Value → H) :
    ReturnsInHanded {} Try.checked os 3 .any (Rows.paceFreshSpec.pre6 enc Try.prog Try.f3 Rows.paceFreshRow.domain false) (Rows.paceFreshSpec.post enc Try.prog Try.f3 false true false false) := by
  refine returnsInHanded_of_change (C := Try.checked) paceFresh_own started (by kernel_rfl) Try.func3
    (ChangeSpec.witness6 (enc := enc) (C := Try.checked) false ⟨#[], #[.slice none 0 0], []⟩ 8 (by kernel_rfl) (by kernel_rfl) (by kernel_rfl) (by kernel_rfl)) ?_
  intro W base args ds gs before hval0 hW hcnd _
  have hval : ∀ (j : Nat) t v, Try.f3.params[j]? = some t → args[j]? = some v → Value.okWide Try.prog W .any base t v := hval0
  have hW' := hW
  obtain ⟨p, q, hA0, hV, rfl, hfz, hnd⟩ := hW
  have hA : DataW.TrodAll enc Try.prog W 0 (fun _ => true) true Try.f3.params.toList args.toList ds p := hA0
  rw [Try.params3] at hA hval
  obtain ⟨rfl, rfl⟩ := trodVars_none hV
  clear hA0 hval0
  obtain ⟨v0, d0, rfl, rfl, h0⟩ := trodAll_one hA
  obtain ⟨a0, len0, cap0, rfl⟩ := okWide_slice Try.underlying22 (hval 0 22 _ rfl rfl)
  have sh0 := shape_arg 6 (by kernel_rfl) h0
  obtain ⟨v, hv, rows, hr0, hrows⟩ := sh0.isSlice Try.underlying22
  have hc : Value.slice a0 len0 cap0 = v := by simpa [Value.cells] using hv
  subst hc
  have hrows' : ∀ row ∈ rows, ∃ x : Int, row = intC x := fun row hm => by obtain ⟨n, rfl, _⟩ := (hrows row hm).isInt Try.underlying3; exact ⟨n, rfl⟩
  obtain ⟨L0, rfl⟩ := rows_data intC rows hrows'
  rw [List.length_map, show Try.prog.cellsOf 3 = 1 by kernel_rfl, ← List.flatMap_def] at hr0
  obtain ⟨q0, k0, hq0⟩ := ReadsL.header (f := intC) (L := L0) hr0
  cases hq0
  clear hrows hrows'
  have hs : Sat W (whole W * emp * rL 1 intC (.slice a0 L0.length cap0) L0) W := (sat_arg (sat_start W) hr0).eq (by simp only [← star_assoc]; rfl)
  refine Calls.mono (paceFresh_use (Q := fun e w' => e = .returned (.bool true) ∧ Sat W (whole W * (emp * rL 1 intC (.slice a0 L0.length cap0) L0)) w') hs (Cut.head _ _) (fun w' h => ⟨rfl, h.eq (by simp only [← star_assoc])⟩)) ?_
  rintro e W' ⟨rfl, hs⟩
  exact ⟨_, rfl, law_post 4 hW' rfl rfl rfl rfl rfl Try.underlying4 (by kernel_rfl) (by kernel_rfl) (below_of_sat hs)⟩

theorem paceFresh_holds : Rows.PaceFreshSaid :=
  OpenClaim.holds_of_wide 3 Try.f3 rfl rfl rfl rfl rfl rfl rfl ⟨rfl, rfl, rfl, rfl, rfl⟩ rfl rfl rfl rfl rfl (by kernel_rfl) Try.func3 (by kernel_rfl)
    (of_decide_eq_true (by kernel_rfl)) (by unfold Func.isWrapper; first | (rw [if_pos (by decide +kernel)]; kernel_rfl) | (rw [if_neg (by decide +kernel)]; exact ⟨rfl, rfl⟩))
    (fun os started H enc _ => paceFresh_lifted os started H enc)
#print axioms paceFresh_holds

theorem paceBusy_own : ownKnob Try.prog.godebug = none := by kernel_rfl
set_option maxRecDepth 100000 in
theorem paceBusy_lifted (os : Os) (started : os.Started) (H : Type) (enc : TypeId × Value → H) :
    ReturnsInHanded {} Try.checked os 4 .any (Rows.paceBusySpec.pre6 enc Try.prog Try.f4 Rows.paceBusyRow.domain false) (Rows.paceBusySpec.post enc Try.prog Try.f4 false true false false) := by
  refine returnsInHanded_of_change (C := Try.checked) paceBusy_own started (by kernel_rfl) Try.func4
    (ChangeSpec.witness6 (enc := enc) (C := Try.checked) false ⟨#[], #[.slice none 0 0, .int .i64 0], []⟩ 8 (by kernel_rfl) (by kernel_rfl) (by kernel_rfl) (by kernel_rfl)) ?_
  intro W base args ds gs before hval0 hW hcnd _
  have hval : ∀ (j : Nat) t v, Try.f4.params[j]? = some t → args[j]? = some v → Value.okWide Try.prog W .any base t v := hval0
  have hW' := hW
  obtain ⟨p, q, hA0, hV, rfl, hfz, hnd⟩ := hW
  have hA : DataW.TrodAll enc Try.prog W 0 (fun _ => true) true Try.f4.params.toList args.toList ds p := hA0
  rw [Try.params4] at hA hval
  obtain ⟨rfl, rfl⟩ := trodVars_none hV
  clear hA0 hval0
  obtain ⟨v0, v1, d0, d1, p0, p1, rfl, rfl, rfl, h0, h1⟩ := trodAll_two hA
  obtain ⟨a0, len0, cap0, rfl⟩ := okWide_slice Try.underlying22 (hval 0 22 _ rfl rfl)
  have sh0 := shape_arg 6 (by kernel_rfl) h0
  obtain ⟨v, hv, rows, hr0, hrows⟩ := sh0.isSlice Try.underlying22
  have hc : Value.slice a0 len0 cap0 = v := by simpa [Value.cells] using hv
  subst hc
  have hrows' : ∀ row ∈ rows, ∃ x : Int, row = intC x := fun row hm => by obtain ⟨n, rfl, _⟩ := (hrows row hm).isInt Try.underlying3; exact ⟨n, rfl⟩
  obtain ⟨L0, rfl⟩ := rows_data intC rows hrows'
  rw [List.length_map, show Try.prog.cellsOf 3 = 1 by kernel_rfl, ← List.flatMap_def] at hr0
  obtain ⟨q0, k0, hq0⟩ := ReadsL.header (f := intC) (L := L0) hr0
  cases hq0
  clear hrows hrows'
  obtain ⟨s1, rfl, rfl, rfl, ws1⟩ := open_int Try.underlying3 (hval 1 3 _ rfl rfl) h1
  have hs : Sat W (whole W * emp * rL 1 intC (.slice a0 L0.length cap0) L0) W := (sat_arg (sat_start W) hr0).eq (by simp only [← star_assoc]; rfl)
  refine Calls.mono (paceBusy_use (Q := fun e w' => e = .returned (.bool true) ∧ Sat W (whole W * (emp * rL 1 intC (.slice a0 L0.length cap0) L0)) w') s1 hs (Cut.head _ _) (fun w' h => ⟨rfl, h.eq (by simp only [← star_assoc])⟩)) ?_
  rintro e W' ⟨rfl, hs⟩
  exact ⟨_, rfl, law_post 4 hW' rfl rfl rfl rfl rfl Try.underlying4 (by kernel_rfl) (by kernel_rfl) (below_of_sat hs)⟩

theorem paceBusy_holds : Rows.PaceBusySaid :=
  OpenClaim.holds_of_wide 4 Try.f4 rfl rfl rfl rfl rfl rfl rfl ⟨rfl, rfl, rfl, rfl, rfl⟩ rfl rfl rfl rfl rfl (by kernel_rfl) Try.func4 (by kernel_rfl)
    (of_decide_eq_true (by kernel_rfl)) (by unfold Func.isWrapper; first | (rw [if_pos (by decide +kernel)]; kernel_rfl) | (rw [if_neg (by decide +kernel)]; exact ⟨rfl, rfl⟩))
    (fun os started H enc _ => paceBusy_lifted os started H enc)
#print axioms paceBusy_holds
end Go.Proofs.Ytoeaamohchpjdaa
