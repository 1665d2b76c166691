/-
  The rules' laws: walks.
-/
import Derived.Test.YtdjepkhpkmmhpaaRulesRef
namespace Go.Proofs.Ytdjepkhpkmmhpaa
open Go Go.RowKit Go.ChangeShapes Go.WideShapes
set_option linter.unusedVariables false

theorem SpecV.use0 {P : Program} {k : Nat} {args : Array Value} {val : Value} (s : SpecV P k args emp val emp) {E : World} {H : HP} {w : World} (h : Sat E H w)
    {R : Ending → World → Prop} (g : ∀ w', Sat E H w' → R (.returned val) w') : Calls P k args w R :=
  s.use h (Cut.nothing _) (fun w' h' => g w' (h'.eq (star_emp _)))
theorem ofV {s k v : Int} (h : tableM s k = v) (hw1 : (Lit.int .i64 s).wf = true) (hw2 : (Lit.int .i64 k).wf = true) : SpecV Try.prog 21 #[.int .i64 s, .int .i64 k] emp (.int .i64 v) emp := by subst h; exact of_spec s k hw1 hw2
theorem refOfV {s k v : Int} (h : tableM s k = v) (hw1 : (Lit.int .i64 s).wf = true) (hw2 : (Lit.int .i64 k).wf = true) : SpecV Try.prog 22 #[.int .i64 s, .int .i64 k] emp (.int .i64 v) emp := by subst h; exact refOf_spec s k hw1 hw2
theorem mayB {s k : Int} {v : Bool} (h : (requestsM s k == 1) = v) (hw1 : (Lit.int .i64 s).wf = true) (hw2 : (Lit.int .i64 k).wf = true) : SpecV Try.prog 25 #[.int .i64 s, .int .i64 k] emp (.bool v) emp := by subst h; exact may_spec s k hw1 hw2
theorem refMayB {s k : Int} {v : Bool} (h : (requestsM s k == 1) = v) (hw1 : (Lit.int .i64 s).wf = true) (hw2 : (Lit.int .i64 k).wf = true) : SpecV Try.prog 26 #[.int .i64 s, .int .i64 k] emp (.bool v) emp := by subst h; exact refMay_spec s k hw1 hw2
theorem letterV {k v : Int} (h : letterN k = v) (hw : (Lit.int .i64 k).wf = true) : SpecV Try.prog 23 #[.int .i64 k] emp (.int .u8 v) emp := by subst h; exact letter_spec k hw
theorem refLetterV {k v : Int} (h : letterN k = v) (hw : (Lit.int .i64 k).wf = true) : SpecV Try.prog 24 #[.int .i64 k] emp (.int .u8 v) emp := by subst h; exact refLetter_spec k hw
theorem nameV {s : Int} {v : ByteArray} (h : nameB s = v) (hw : (Lit.int .i64 s).wf = true) : SpecV Try.prog 27 #[.int .i64 s] emp (.string v) emp := by subst h; exact name_spec s hw

theorem nm_at {cs : List Value} {s : Int} {y : ByteArray} (e : nameB s = y) (h : ((List.range 10).all fun i => isName cs[(((i : Int) + 1) - 1).toNat * 1 + 0]? ((i : Int) + 1)) = true) (h1 : 1 ≤ s) (h2 : s ≤ 10) : cs[(s - 1).toNat * 1 + 0]? = some (.string y) := e ▸ names_at' h h1 h2
theorem v1 : tableM 1 8 = 3 := by kernel_rfl
theorem v2 : tableM 2 8 = 0 := by kernel_rfl
theorem v3 : letterN 8 = 65 := by kernel_rfl
theorem v4 : (requestsM 1 1 == 1) = true := by kernel_rfl
theorem v5 : nameB 10 = ⟨#[114, 101, 97, 100, 121]⟩ := by kernel_rfl
set_option maxHeartbeats 4000000 in
theorem awake13 : SpecV Try.prog 20 #[] emp (.bool true) emp := by
  intro E F w hs
  rw [star_emp] at hs
  have s1 := ofV v1 rfl rfl
  have s2 := ofV v2 rfl rfl
  have s3 := letterV v3 rfl
  have s4 := mayB v4 rfl rfl
  have s5 := nameV v5 rfl
  go_enter Try.func20, Try.ntmps20
  go_wp2_with (first
    | (go_at_call 21; first | (refine s1.use0 hs ?_; intro w hs) | (refine s2.use0 hs ?_; intro w hs))
    | (go_at_call 23; refine s3.use0 hs ?_; intro w hs)
    | (go_at_call 25; refine s4.use0 hs ?_; intro w hs)
    | (go_at_call 27; refine s5.use0 hs ?_; intro w hs))
  go_ret
  exact ⟨rfl, hs.mkEmp⟩

theorem rulesOf_walk (s k : Int) (hw1 : (Lit.int .i64 s).wf = true) (hw2 : (Lit.int .i64 k).wf = true) : SpecV Try.prog 6 #[.int .i64 s, .int .i64 k] emp (.bool true) emp := by
  intro E F w hs
  rw [star_emp] at hs
  obtain ⟨x, hx⟩ : ∃ x, tableM s k = x := ⟨_, rfl⟩
  obtain ⟨y, hy⟩ : ∃ y, letterN k = y := ⟨_, rfl⟩
  have Hx := Lib.hid hx
  have Hy := Lib.hid hy
  have H1 := Lib.hid hw1
  have H2 := Lib.hid hw2
  clear hx hy hw1 hw2
  go_enter Try.func6, Try.ntmps6
  go_wp2_with (first
    | (go_at_call 20; refine awake13.use0 hs ?_; intro w hs)
    | (go_at_call 21; refine (ofV Hx.out H1.out H2.out).use0 hs ?_; intro w hs)
    | (go_at_call 22; refine (refOfV Hx.out H1.out H2.out).use0 hs ?_; intro w hs)
    | (go_at_call 23; refine (letterV Hy.out H2.out).use0 hs ?_; intro w hs)
    | (go_at_call 24; refine (refLetterV Hy.out H2.out).use0 hs ?_; intro w hs))
  go_ret
  exact ⟨rfl, hs.mkEmp⟩

theorem rulesMay_walk (s k : Int) (hw1 : (Lit.int .i64 s).wf = true) (hw2 : (Lit.int .i64 k).wf = true) : SpecV Try.prog 7 #[.int .i64 s, .int .i64 k] emp (.bool true) emp := by
  intro E F w hs
  rw [star_emp] at hs
  have b1 := bounds_i64 hw1
  obtain ⟨x, hx⟩ : ∃ x, (requestsM s k == 1) = x := ⟨_, rfl⟩
  obtain ⟨y, hy⟩ : ∃ y, nameB s = y := ⟨_, rfl⟩
  have Hx := Lib.hid hx
  have Hy := Lib.hid hy
  have H1 := Lib.hid hw1
  have H2 := Lib.hid hw2
  clear hx hy hw1 hw2
  go_enter Try.func7, Try.ntmps7
  go_upto_region 5 with (first | (go_at_call 20; refine awake13.use0 hs ?_; intro w hs) | (refine wpL_buildSlice 1 _ _ _ rfl rfl rfl rfl rfl rfl rfl (by decide) rfl hs ?_; intro vn w hs; replace hs := hs.oslRsl))
  have r := hs.readsS
  by_cases h1 : s ≥ 1
  · by_cases h2 : s ≤ 10
    · go_wp2_with (first
        | (refine wpL_indexAddrR 1 _ _ _ rfl rfl rfl rfl rfl rfl rfl r (by omega) (by omega) ?_; intro ad had) | (refine wpL_loadR _ _ rfl rfl rfl (by simp) (had 0 _ (nm_at Hy.out (by kernel_rfl) h1 h2)) ?_)
        | (go_at_call 25; refine (mayB Hx.out H1.out H2.out).use0 hs ?_; intro w hs)
        | (go_at_call 26; refine (refMayB Hx.out H1.out H2.out).use0 hs ?_; intro w hs)
        | (go_at_call 27; refine (nameV Hy.out H1.out).use0 hs ?_; intro w hs))
      go_ret
      exact ⟨rfl, hs.drop.mkEmp⟩
    · have e : y = ⟨#[]⟩ := by rw [← Hy.out, nameB, if_neg (by omega)]
      subst e
      go_wp2_with (first
        | (go_at_call 25; refine (mayB Hx.out H1.out H2.out).use0 hs ?_; intro w hs)
        | (go_at_call 26; refine (refMayB Hx.out H1.out H2.out).use0 hs ?_; intro w hs)
        | (go_at_call 27; refine (nameV Hy.out H1.out).use0 hs ?_; intro w hs))
      go_ret
      exact ⟨rfl, hs.drop.mkEmp⟩
  · have e : y = ⟨#[]⟩ := by rw [← Hy.out, nameB, if_neg (by omega)]
    subst e
    go_wp2_with (first
      | (go_at_call 25; refine (mayB Hx.out H1.out H2.out).use0 hs ?_; intro w hs)
      | (go_at_call 26; refine (refMayB Hx.out H1.out H2.out).use0 hs ?_; intro w hs)
      | (go_at_call 27; refine (nameV Hy.out H1.out).use0 hs ?_; intro w hs))
    go_ret
    exact ⟨rfl, hs.drop.mkEmp⟩
end Go.Proofs.Ytdjepkhpkmmhpaa
