/-
  RulesEnds, RulesRequests and RulesCovered: walks and rows.
-/
import Derived.Test.YtdjepkhpkmmhpaaRulesLaws
namespace Go.Proofs.Ytdjepkhpkmmhpaa
open Go Go.RowKit Go.ChangeShapes Go.WideShapes
set_option linter.unusedVariables false

theorem tab3 {s : Int} (h1 : 1 ≤ s) (h2 : s ≤ 10) (h : ¬ s = 2) : tableM s 3 = 1 := by
  have := fin_check1 (p := fun s => s == 2 || tableM s 3 == 1) (n := 10) (by kernel_rfl) h1 h2
  simpa [h] using this
theorem tab1 {s : Int} (h1 : 1 ≤ s) (h2 : s ≤ 10) : tableM s 1 = 1 := by simpa using fin_check1 (p := fun s => tableM s 1 == 1) (n := 10) (by kernel_rfl) h1 h2
theorem tab13 {s : Int} (h1 : 1 ≤ s) (h2 : s ≤ 10) : tableM s 13 = 1 := by simpa using fin_check1 (p := fun s => tableM s 13 == 1) (n := 10) (by kernel_rfl) h1 h2
theorem tab14 {s : Int} (h1 : 1 ≤ s) (h2 : s ≤ 10) : tableM s 14 = 1 := by simpa using fin_check1 (p := fun s => tableM s 14 == 1) (n := 10) (by kernel_rfl) h1 h2
theorem tab4 {s : Int} (h1 : 5 ≤ s) (h2 : s ≤ 10) : tableM s 4 = 4 := by
  have := fin_check1 (p := fun s => decide (s < 5) || tableM s 4 == 4) (n := 10) (by kernel_rfl) (by omega) h2
  simpa [show ¬ s < 5 by omega] using this
theorem tab7 {s : Int} (h1 : 5 ≤ s) (h2 : s ≤ 10) : tableM s 7 = 4 := by
  have := fin_check1 (p := fun s => decide (s < 5) || tableM s 7 == 4) (n := 10) (by kernel_rfl) (by omega) h2
  simpa [show ¬ s < 5 by omega] using this
theorem tab4' {s : Int} (h1 : 1 ≤ s) (h2 : s < 5) : (tableM s 4 == 4) = false := by
  have := fin_check1 (p := fun s => decide (5 ≤ s) || tableM s 4 != 4) (n := 10) (by kernel_rfl) h1 (by omega)
  simpa [show ¬ 5 ≤ s by omega] using this

set_option maxHeartbeats 4000000 in
theorem rulesEnds_walk (x : Int) (hw : (Lit.int .i64 x).wf = true) : SpecV Try.prog 9 #[.int .i64 x] emp (.bool true) emp := by
  intro E F w hs
  rw [star_emp] at hs
  go_enter Try.func9, Try.ntmps9
  go_wp2_with fail
  refine awake13.use0 hs ?_; intro w hs
  have m0 : 0 ≤ x % 256 := by omega
  have m1 : x % 256 < 256 := by omega
  go_upto_region 4 with (first | (refine wpL_mask 8 256 255 _ _ _ rfl rfl (by decide) rfl rfl rfl ?_))
  have g1 : 1 ≤ 1 + x % 256 % 10 := by omega
  have g2 : 1 + x % 256 % 10 ≤ 10 := by omega
  generalize 1 + x % 256 % 10 = s at *
  clear m0 m1 hw
  have Hw := Lib.hid (WalkArith.wf_i64 (n := s) (by omega))
  have T1 := Lib.hid (tab1 g1 g2)
  have T13 := Lib.hid (tab13 g1 g2)
  have T14 := Lib.hid (tab14 g1 g2)
  by_cases h5 : 5 ≤ s
  · have T4 := Lib.hid (tab4 h5 g2)
    have T7 := Lib.hid (tab7 h5 g2)
    have T3 := Lib.hid (tab3 g1 g2 (by omega))
    have n2 : (s != 2) = true := by simp; omega
    go_wp2_with (first | (go_at_call 21; first | ((with_reducible refine (ofV T3.out Hw.out (by decide)).use0 hs ?_); intro w hs) | ((with_reducible refine (ofV T1.out Hw.out (by decide)).use0 hs ?_); intro w hs) | ((with_reducible refine (ofV T13.out Hw.out (by decide)).use0 hs ?_); intro w hs) | ((with_reducible refine (ofV T14.out Hw.out (by decide)).use0 hs ?_); intro w hs) | ((with_reducible refine (ofV T4.out Hw.out (by decide)).use0 hs ?_); intro w hs) | ((with_reducible refine (ofV T7.out Hw.out (by decide)).use0 hs ?_); intro w hs)))
    go_ret
    exact ⟨rfl, hs.mkEmp⟩
  · have t4 := tab4' g1 (by omega : s < 5)
    obtain ⟨x4, hx4⟩ : ∃ x4, tableM s 4 = x4 := ⟨_, rfl⟩
    rw [hx4] at t4
    have T4 := Lib.hid hx4
    clear hx4
    by_cases h2 : s = 2
    · subst h2
      have T3 := Lib.hid (show tableM 2 3 = 0 by kernel_rfl)
      go_wp2_with (first | (go_at_call 21; first | ((with_reducible refine (ofV T3.out Hw.out (by decide)).use0 hs ?_); intro w hs) | ((with_reducible refine (ofV T1.out Hw.out (by decide)).use0 hs ?_); intro w hs) | ((with_reducible refine (ofV T13.out Hw.out (by decide)).use0 hs ?_); intro w hs) | ((with_reducible refine (ofV T14.out Hw.out (by decide)).use0 hs ?_); intro w hs) | ((with_reducible refine (ofV T4.out Hw.out (by decide)).use0 hs ?_); intro w hs)))
      go_ret
      exact ⟨rfl, hs.mkEmp⟩
    · have n2 : (s != 2) = true := by simpa using h2
      have T3 := Lib.hid (tab3 g1 g2 h2)
      have d5 : decide (5 ≤ s) = false := by simpa using h5
      clear h2
      go_wp2_with (first | (go_at_call 21; first | ((with_reducible refine (ofV T3.out Hw.out (by decide)).use0 hs ?_); intro w hs) | ((with_reducible refine (ofV T1.out Hw.out (by decide)).use0 hs ?_); intro w hs) | ((with_reducible refine (ofV T13.out Hw.out (by decide)).use0 hs ?_); intro w hs) | ((with_reducible refine (ofV T14.out Hw.out (by decide)).use0 hs ?_); intro w hs) | ((with_reducible refine (ofV T4.out Hw.out (by decide)).use0 hs ?_); intro w hs)))
      go_ret
      exact ⟨rfl, hs.mkEmp⟩

theorem req8 {s : Int} (h1 : 1 ≤ s) (h2 : s ≤ 10) : (requestsM s 8 == 1) = true := fin_check1 (p := fun s => requestsM s 8 == 1) (n := 10) (by kernel_rfl) h1 h2
theorem req11 {s : Int} (h1 : 1 ≤ s) (h2 : s ≤ 10) : (requestsM s 11 == 1) = true := fin_check1 (p := fun s => requestsM s 11 == 1) (n := 10) (by kernel_rfl) h1 h2
theorem req0 {s : Int} : (requestsM s 0 == 1) = false := by rw [inside_requests s 0 (by omega)]; rfl
theorem req12 {s : Int} : (requestsM s 12 == 1) = false := by rw [inside_requests s 12 (by omega)]; rfl

set_option maxHeartbeats 4000000 in
theorem rulesRequests_walk (x : Int) (hw : (Lit.int .i64 x).wf = true) : SpecV Try.prog 10 #[.int .i64 x] emp (.bool true) emp := by
  intro E F w hs
  rw [star_emp] at hs
  go_enter Try.func10, Try.ntmps10
  go_wp2_with fail
  refine awake13.use0 hs ?_; intro w hs
  have m0 : 0 ≤ x % 256 := by omega
  have m1 : x % 256 < 256 := by omega
  go_upto_region 4 with (first | (refine wpL_mask 8 256 255 _ _ _ rfl rfl (by decide) rfl rfl rfl ?_))
  have g1 : 1 ≤ 1 + x % 256 % 10 := by omega
  have g2 : 1 + x % 256 % 10 ≤ 10 := by omega
  generalize 1 + x % 256 % 10 = s at *
  clear m0 m1 hw
  have Hw := Lib.hid (WalkArith.wf_i64 (n := s) (by omega))
  have T8 := Lib.hid (req8 g1 g2)
  have T11 := Lib.hid (req11 g1 g2)
  have T0 := Lib.hid (req0 (s := s))
  have T12 := Lib.hid (req12 (s := s))
  by_cases h1 : s = 1
  · subst h1
    have T1 := Lib.hid (show (requestsM 1 1 == 1) = true by kernel_rfl)
    have T3 := Lib.hid (show (requestsM 1 3 == 1) = false by kernel_rfl)
    have T2 := Lib.hid (show (requestsM 1 2 == 1) = false by kernel_rfl)
    go_wp2_with (first | (go_at_call 25; first | ((with_reducible refine (mayB T1.out Hw.out (by decide)).use0 hs ?_); intro w hs) | ((with_reducible refine (mayB T3.out Hw.out (by decide)).use0 hs ?_); intro w hs) | ((with_reducible refine (mayB T2.out Hw.out (by decide)).use0 hs ?_); intro w hs) | ((with_reducible refine (mayB T8.out Hw.out (by decide)).use0 hs ?_); intro w hs) | ((with_reducible refine (mayB T11.out Hw.out (by decide)).use0 hs ?_); intro w hs) | ((with_reducible refine (mayB T0.out Hw.out (by decide)).use0 hs ?_); intro w hs) | ((with_reducible refine (mayB T12.out Hw.out (by decide)).use0 hs ?_); intro w hs)))
    go_ret
    exact ⟨rfl, hs.mkEmp⟩
  · by_cases h4 : s = 4
    · subst h4
      have T1 := Lib.hid (show (requestsM 4 1 == 1) = true by kernel_rfl)
      have T3 := Lib.hid (show (requestsM 4 3 == 1) = false by kernel_rfl)
      have T2 := Lib.hid (show (requestsM 4 2 == 1) = false by kernel_rfl)
      go_wp2_with (first | (go_at_call 25; first | ((with_reducible refine (mayB T1.out Hw.out (by decide)).use0 hs ?_); intro w hs) | ((with_reducible refine (mayB T3.out Hw.out (by decide)).use0 hs ?_); intro w hs) | ((with_reducible refine (mayB T2.out Hw.out (by decide)).use0 hs ?_); intro w hs) | ((with_reducible refine (mayB T8.out Hw.out (by decide)).use0 hs ?_); intro w hs) | ((with_reducible refine (mayB T11.out Hw.out (by decide)).use0 hs ?_); intro w hs) | ((with_reducible refine (mayB T0.out Hw.out (by decide)).use0 hs ?_); intro w hs) | ((with_reducible refine (mayB T12.out Hw.out (by decide)).use0 hs ?_); intro w hs)))
      go_ret
      exact ⟨rfl, hs.mkEmp⟩
    · by_cases h3 : s = 3
      · subst h3
        have T1 := Lib.hid (show (requestsM 3 1 == 1) = false by kernel_rfl)
        have T3 := Lib.hid (show (requestsM 3 3 == 1) = true by kernel_rfl)
        have T2 := Lib.hid (show (requestsM 3 2 == 1) = true by kernel_rfl)
        go_wp2_with (first | (go_at_call 25; first | ((with_reducible refine (mayB T1.out Hw.out (by decide)).use0 hs ?_); intro w hs) | ((with_reducible refine (mayB T3.out Hw.out (by decide)).use0 hs ?_); intro w hs) | ((with_reducible refine (mayB T2.out Hw.out (by decide)).use0 hs ?_); intro w hs) | ((with_reducible refine (mayB T8.out Hw.out (by decide)).use0 hs ?_); intro w hs) | ((with_reducible refine (mayB T11.out Hw.out (by decide)).use0 hs ?_); intro w hs) | ((with_reducible refine (mayB T0.out Hw.out (by decide)).use0 hs ?_); intro w hs) | ((with_reducible refine (mayB T12.out Hw.out (by decide)).use0 hs ?_); intro w hs)))
        go_ret
        exact ⟨rfl, hs.mkEmp⟩
      · have T1 := Lib.hid (show (requestsM s 1 == 1) = false by
          have := fin_check1 (p := fun s => s == 1 || s == 4 || requestsM s 1 != 1) (n := 10) (by kernel_rfl) g1 g2
          simpa [h1, h4] using this)
        have T3 := Lib.hid (show (requestsM s 3 == 1) = true by
          have := fin_check1 (p := fun s => s == 1 || s == 4 || requestsM s 3 == 1) (n := 10) (by kernel_rfl) g1 g2
          simpa [h1, h4] using this)
        have T2 := Lib.hid (show (requestsM s 2 == 1) = false by
          have := fin_check1 (p := fun s => s == 3 || requestsM s 2 != 1) (n := 10) (by kernel_rfl) g1 g2
          simpa [h3] using this)
        have k1 : (s == 1) = false := by simpa using h1
        have k4 : (s == 4) = false := by simpa using h4
        have k3 : (s == 3) = false := by simpa using h3
        clear h1 h4 h3
        go_wp2_with (first | (go_at_call 25; first | ((with_reducible refine (mayB T1.out Hw.out (by decide)).use0 hs ?_); intro w hs) | ((with_reducible refine (mayB T3.out Hw.out (by decide)).use0 hs ?_); intro w hs) | ((with_reducible refine (mayB T2.out Hw.out (by decide)).use0 hs ?_); intro w hs) | ((with_reducible refine (mayB T8.out Hw.out (by decide)).use0 hs ?_); intro w hs) | ((with_reducible refine (mayB T11.out Hw.out (by decide)).use0 hs ?_); intro w hs) | ((with_reducible refine (mayB T0.out Hw.out (by decide)).use0 hs ?_); intro w hs) | ((with_reducible refine (mayB T12.out Hw.out (by decide)).use0 hs ?_); intro w hs)))
        go_ret
        exact ⟨rfl, hs.mkEmp⟩

end Go.Proofs.Ytdjepkhpkmmhpaa
