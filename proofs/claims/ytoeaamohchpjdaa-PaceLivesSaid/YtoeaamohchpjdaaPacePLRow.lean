/-
  PaceLives returns true for every list of ticks, every list of answers and every list of calls.
-/
import Derived.Test.YtoeaamohchpjdaaRows
import Derived.Test.YtoeaamohchpjdaaPacePL
import Derived.Test.YtoeaamohchpjdaaShape
namespace Go.Proofs.Ytoeaamohchpjdaa
open Go.ChangeShapes Go.WideShapes Go.ChangeAt Go.RowKit
set_option linter.unusedVariables false
set_option linter.unusedSimpArgs false

theorem paceLives_own : ownKnob Try.prog.godebug = none := by kernel_rfl
set_option maxRecDepth 100000 in
theorem paceLives_lifted (os : Os) (started : os.Started) (H : Type) (enc : TypeId × Value → H) :
    ReturnsInHanded {} Try.checked os 6 .any (Rows.paceLivesSpec.pre6 enc Try.prog Try.f6 Rows.paceLivesRow.domain false) (Rows.paceLivesSpec.post enc Try.prog Try.f6 false true false false) := by
  refine returnsInHanded_of_change (C := Try.checked) paceLives_own started (by kernel_rfl) Try.func6
    (ChangeSpec.witness6 (enc := enc) (C := Try.checked) false ⟨#[], #[.slice none 0 0, .slice none 0 0, .slice none 0 0], []⟩ 8 (by kernel_rfl) (by kernel_rfl) (by kernel_rfl) (by kernel_rfl)) ?_
  intro W base args ds gs before hval0 hW hcnd _
  have hval : ∀ (j : Nat) t v, Try.f6.params[j]? = some t → args[j]? = some v → Value.okWide Try.prog W .any base t v := hval0
  have hW' := hW
  obtain ⟨p, q, hA0, hV, rfl, hfz, hnd⟩ := hW
  have hA : DataW.TrodAll enc Try.prog W 0 (fun _ => true) true Try.f6.params.toList args.toList ds p := hA0
  rw [Try.params6] at hA hval
  obtain ⟨rfl, rfl⟩ := trodVars_none hV
  clear hA0 hval0
  obtain ⟨v0, vs', d0, ds', p0, ps', e1, e2, e3, h0, hA'⟩ := trodAll_cons hA
  obtain ⟨v1, vs'', d1, ds'', p1, ps'', rfl, rfl, rfl, h1, hA''⟩ := trodAll_cons hA'
  obtain ⟨v2, vs3, d2, ds3, p2, ps3, rfl, rfl, rfl, h2, hA3⟩ := trodAll_cons hA''
  obtain ⟨rfl, rfl, rfl⟩ := trodAll_nil hA3
  subst e2
  subst e3
  obtain rfl : args = #[v0, v1, v2] := by apply Array.toList_inj.1; exact e1
  obtain ⟨a0, len0, cap0, rfl⟩ := okWide_slice Try.underlying22 (hval 0 22 _ rfl rfl)
  have sh0 := shape_arg 6 (by kernel_rfl) h0
  obtain ⟨v, hv, rows, hr0, hrows⟩ := sh0.isSlice Try.underlying22
  have hc : Value.slice a0 len0 cap0 = v := by simpa [Value.cells] using hv
  subst hc
  have hrows' : ∀ row ∈ rows, ∃ x : Int, row = intC x := fun row hm => by obtain ⟨n, rfl, _⟩ := (hrows row hm).isInt Try.underlying3; exact ⟨n, rfl⟩
  obtain ⟨L0, rfl⟩ := rows_data intC rows hrows'
  rw [List.length_map, show Try.prog.cellsOf 3 = 1 by kernel_rfl, ← List.flatMap_def] at hr0
  obtain ⟨q0, k0, hq0⟩ := ReadsL.header (f := intC) (L := L0) hr0
  cases hq0
  clear hrows hrows'
  obtain ⟨a1, len1, cap1, rfl⟩ := okWide_slice Try.underlying54 (hval 1 54 _ rfl rfl)
  have sh1 := shape_arg 6 (by kernel_rfl) h1
  obtain ⟨v, hv, rows, hr1, hrows⟩ := sh1.isSlice Try.underlying54
  have hc : Value.slice a1 len1 cap1 = v := by simpa [Value.cells] using hv
  subst hc
  have hrows' : ∀ row ∈ rows, ∃ x : Bool, row = booC x := fun row hm => by obtain ⟨n, rfl⟩ := (hrows row hm).isBool Try.underlying4; exact ⟨n, rfl⟩
  obtain ⟨L1, rfl⟩ := rows_data booC rows hrows'
  rw [List.length_map, show Try.prog.cellsOf 4 = 1 by kernel_rfl, ← List.flatMap_def] at hr1
  obtain ⟨q1, k1, hq1⟩ := ReadsL.header (f := booC) (L := L1) hr1
  cases hq1
  clear hrows hrows'
  obtain ⟨a2, len2, cap2, rfl⟩ := okWide_slice Try.underlying44 (hval 2 44 _ rfl rfl)
  have sh2 := shape_arg 6 (by kernel_rfl) h2
  obtain ⟨v, hv, rows, hr2, hrows⟩ := sh2.isSlice Try.underlying44
  have hc : Value.slice a2 len2 cap2 = v := by simpa [Value.cells] using hv
  subst hc
  have hrows' : ∀ row ∈ rows, ∃ x : Int × Bool, row = act5C x := fun row hm => by obtain ⟨rs, hl, rfl, each⟩ := (hrows row hm).isStruct Try.underlying51; (match rs, hl with | [r1, r2], _ => exact (by obtain ⟨n1, rfl, _⟩ := (each 0 _ r1 rfl rfl).isInt Try.underlying3; obtain ⟨n2, rfl⟩ := (each 1 _ r2 rfl rfl).isBool Try.underlying4; exact ⟨(n1, n2), rfl⟩))
  obtain ⟨L2, rfl⟩ := rows_data act5C rows hrows'
  rw [List.length_map, show Try.prog.cellsOf 51 = 2 by kernel_rfl, ← List.flatMap_def] at hr2
  obtain ⟨q2, k2, hq2⟩ := ReadsL.header (f := act5C) (L := L2) hr2
  cases hq2
  clear hrows hrows'
  have hs : Sat W (whole W * emp * rL 1 intC (.slice a0 L0.length cap0) L0 * rL 1 booC (.slice a1 L1.length cap1) L1 * rL 2 act5C (.slice a2 L2.length cap2) L2) W := (sat_arg (sat_arg (sat_arg (sat_start W) hr0) hr1) hr2).eq (by simp only [← star_assoc]; rfl)
  refine Calls.mono (paceLives_use (Q := fun e w' => e = .returned (.bool true) ∧ Sat W (whole W * emp) w') hs (by (repeat (first | apply Cut.pair | exact Cut.head _ _ | apply Cut.tail)); done) (fun w' h => ⟨rfl, h⟩)) ?_
  rintro e W' ⟨rfl, hs⟩
  exact ⟨_, rfl, law_post 4 hW' rfl rfl rfl rfl rfl Try.underlying4 (by kernel_rfl) (by kernel_rfl) (below_of_sat hs)⟩

theorem paceLives_holds : Rows.PaceLivesSaid :=
  OpenClaim.holds_of_wide 6 Try.f6 rfl rfl rfl rfl rfl rfl rfl ⟨rfl, rfl, rfl, rfl, rfl⟩ rfl rfl rfl rfl rfl (by kernel_rfl) Try.func6 (by kernel_rfl)
    (of_decide_eq_true (by kernel_rfl)) (by unfold Func.isWrapper; first | (rw [if_pos (by decide +kernel)]; kernel_rfl) | (rw [if_neg (by decide +kernel)]; exact ⟨rfl, rfl⟩))
    (fun os started H enc _ => paceLives_lifted os started H enc)
#print axioms paceLives_holds
end Go.Proofs.Ytoeaamohchpjdaa
