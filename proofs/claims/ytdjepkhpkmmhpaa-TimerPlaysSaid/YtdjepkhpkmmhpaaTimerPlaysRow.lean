/-
  TimerPlays: the row.
-/
import Derived.Test.YtdjepkhpkmmhpaaTimerPlays
import Derived.Test.YtdjepkhpkmmhpaaShape
namespace Go.Proofs.Ytdjepkhpkmmhpaa
open Go.ChangeShapes Go.WideShapes Go.ChangeAt Go.RowKit
set_option linter.unusedVariables false

theorem timerPlays_own : ownKnob Try.prog.godebug = none := by kernel_rfl
set_option maxRecDepth 100000 in
theorem timerPlays_lifted (os : Os) (started : os.Started) (H : Type) (enc : TypeId × Value → H) :
    ReturnsInHanded {} Try.checked os 5 .any (Rows.timerPlaysSpec.pre6 enc Try.prog Try.f5 Rows.timerPlaysRow.domain false) (Rows.timerPlaysSpec.post enc Try.prog Try.f5 false true false false) := by
  refine returnsInHanded_of_change (C := Try.checked) timerPlays_own started (by kernel_rfl) Try.func5
    (ChangeSpec.witness6 (enc := enc) (C := Try.checked) false ⟨#[], #[.slice none 0 0], []⟩ 8 (by kernel_rfl) (by kernel_rfl) (by kernel_rfl) (by kernel_rfl)) ?_
  intro W base args ds gs before hval0 hW hcnd _
  have hval : ∀ (j : Nat) t v, Try.f5.params[j]? = some t → args[j]? = some v → Value.okWide Try.prog W .any base t v := hval0
  have hW' := hW
  obtain ⟨p, q, hA0, hV, rfl, hfz, hnd⟩ := hW
  have hA : DataW.TrodAll enc Try.prog W 0 (fun _ => true) true Try.f5.params.toList args.toList ds p := hA0
  rw [Try.params5] at hA hval
  obtain ⟨rfl, rfl⟩ := trodVars_none hV
  clear hA0 hval0
  obtain ⟨v0, d0, rfl, rfl, h0⟩ := trodAll_one hA
  obtain ⟨a0, len0, cap0, rfl⟩ := okWide_slice Try.underlying35 (hval 0 35 v0 rfl rfl)
  have sh := shape_arg 4 (by kernel_rfl) h0
  obtain ⟨v, hv, rows, hr, hrows⟩ := sh.isSlice Try.underlying35
  have hc : Value.slice a0 len0 cap0 = v := by simpa [Value.cells] using hv
  subst hc
  have hrows' : ∀ row ∈ rows, ∃ x : Int × Int × Int, row = actCells x := fun row hm => by
    obtain ⟨rs, hl, rfl, each⟩ := (hrows row hm).isStruct Try.underlying37
    match rs, hl with
    | [r1, r2, r3], _ =>
      obtain ⟨n1, rfl, _⟩ := (each 0 _ r1 rfl rfl).isInt Try.underlying3
      obtain ⟨n2, rfl, _⟩ := (each 1 _ r2 rfl rfl).isInt Try.underlying3
      obtain ⟨n3, rfl, _⟩ := (each 2 _ r3 rfl rfl).isInt Try.underlying3
      exact ⟨(n1, n2, n3), rfl⟩
  obtain ⟨ac, rfl⟩ := rows_data actCells rows hrows'
  rw [List.length_map, show Try.prog.cellsOf 37 = 3 by kernel_rfl, ← List.flatMap_def] at hr
  refine (timerPlays_walk _ ac W (whole W) W (sat_arg (sat_start W) hr)).mono ?_
  rintro e W' ⟨rfl, hs⟩
  exact ⟨_, rfl, law_post 4 hW' rfl rfl rfl rfl rfl Try.underlying4 (by kernel_rfl) (by kernel_rfl) (below_of_sat hs)⟩

theorem timerPlays_holds : Rows.TimerPlaysSaid :=
  OpenClaim.holds_of_wide 5 Try.f5 rfl rfl rfl rfl rfl rfl rfl ⟨rfl, rfl, rfl, rfl, rfl⟩ rfl rfl rfl rfl rfl (by kernel_rfl) Try.func5 (by kernel_rfl)
    (of_decide_eq_true (by kernel_rfl)) (by unfold Func.isWrapper; first | (rw [if_pos (by decide +kernel)]; kernel_rfl) | (rw [if_neg (by decide +kernel)]; exact ⟨rfl, rfl⟩))
    (fun os started H enc _ => timerPlays_lifted os started H enc)
#print axioms timerPlays_holds
end Go.Proofs.Ytdjepkhpkmmhpaa
