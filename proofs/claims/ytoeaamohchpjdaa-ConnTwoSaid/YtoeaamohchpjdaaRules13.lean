/-
  The rules' reference, and letters and names: contracts; what the tables say.
-/
import Derived.Test.YtoeaamohchpjdaaRules
import Derived.Deep.DeepCutAuto
import Derived.Deep.CutBlock
namespace Go.Proofs.Ytoeaamohchpjdaa
open Go Go.RowKit Go.ChangeShapes Go.WideShapes
set_option linter.unusedVariables false
set_option maxRecDepth 100000

/-- Nothing outside the ten states and the fifteen kinds. -/
def Inside (n : Int) (m : Int → Int → Int) : Prop := ∀ a b, ¬ (1 ≤ a ∧ a ≤ 10 ∧ 1 ≤ b ∧ b ≤ n) → m a b = 0
theorem Inside.row {n : Int} : ∀ (ks : List Int) (m : Int → Int → Int) (s what : Int), Inside n m → 1 ≤ s → s ≤ 10 → (ks.all fun k => decide (1 ≤ k ∧ k ≤ n)) = true → Inside n (rowM m s what ks)
  | [], m, s, what, h, _, _, _ => h
  | k :: r, m, s, what, h, h1, h2, hk => by
    simp only [List.all_cons, Bool.and_eq_true, decide_eq_true_eq] at hk
    refine Inside.row r _ s what (fun a b hab => ?_) h1 h2 hk.2
    unfold updM
    rw [if_neg (fun e => hab (by obtain ⟨rfl, rfl⟩ := e; omega))]
    exact h a b hab
theorem inside_roundsT : ∀ n : Nat, n ≤ 10 → Inside 15 (roundsT n)
  | 0, _ => fun _ _ _ => rfl
  | n + 1, hn => by
    have ih := inside_roundsT n (by omega)
    show Inside 15 (roundT (roundsT n) ((n : Int) + 1))
    have a1 : 1 ≤ (n : Int) + 1 := by omega
    have a2 : (n : Int) + 1 ≤ 10 := by omega
    by_cases h2 : (n : Int) + 1 = 2
    · have : n = 1 := by omega
      subst this
      exact Inside.row _ _ _ _ ih (by decide) (by decide) (by decide)
    · by_cases h5 : 5 ≤ (n : Int) + 1
      · by_cases h7 : 7 ≤ (n : Int) + 1
        · rw [roundT_high h2 h5 h7]
          iterate 5 refine Inside.row _ _ _ _ ?_ a1 a2 (by decide)
          exact ih
        · rw [roundT_mid h2 h5 h7]
          iterate 4 refine Inside.row _ _ _ _ ?_ a1 a2 (by decide)
          exact ih
      · rw [roundT_low h2 h5 (by omega)]
        iterate 2 refine Inside.row _ _ _ _ ?_ a1 a2 (by decide)
        exact ih
theorem inside_table : Inside 15 tableM := by
  unfold tableM
  iterate 8 refine Inside.row _ _ _ _ ?_ (by decide) (by decide) (by decide)
  exact inside_roundsT 10 (by omega)
theorem inside_roundsR : ∀ n : Nat, n ≤ 10 → Inside 11 (roundsR n)
  | 0, _ => fun _ _ _ => rfl
  | n + 1, hn => by
    have ih := inside_roundsR n (by omega)
    show Inside 11 (roundR (roundsR n) ((n : Int) + 1))
    have a1 : 1 ≤ (n : Int) + 1 := by omega
    have a2 : (n : Int) + 1 ≤ 10 := by omega
    by_cases h2 : (n : Int) + 1 = 1 ∨ (n : Int) + 1 = 4
    · rw [roundR_in h2]
      exact Inside.row _ _ _ _ ih a1 a2 (by decide)
    · rw [roundR_out h2]
      iterate 2 refine Inside.row _ _ _ _ ?_ a1 a2 (by decide)
      exact ih
theorem inside_requests : Inside 11 requestsM := by
  unfold requestsM
  iterate 7 refine Inside.row _ _ _ _ ?_ (by decide) (by decide) (by decide)
  exact inside_roundsR 10 (by omega)

/-- A word for each letter of the reference's rows. -/
def codeL (n : Int) : Int := if n = 72 then 1 else if n = 87 then 2 else if n = 82 then 3 else if n = 70 then 4 else 0
def cellGood (xs : List Value) (s k : Nat) : Bool := match xs[s]? with
  | some (.string b) => match b.data.toList[k]? with
    | some c => codeL c.toNat == tableM ((s : Int) + 1) ((k : Int) + 1)
    | none => false
  | _ => false
def rowsGood (xs : List Value) : Bool := (List.range 10).all fun s => (List.range 15).all fun k => cellGood xs s k
theorem rows_at {xs : List Value} (h : rowsGood xs = true) {s k : Int} (h1 : 1 ≤ s) (h2 : s ≤ 10) (h3 : 1 ≤ k) (h4 : k ≤ 15) :
    ∃ b c, xs[(s - 1).toNat]? = some (.string b) ∧ b.data.toList[(k - 1).toNat]? = some c ∧ codeL c.toNat = tableM s k := by
  unfold rowsGood at h
  rw [List.all_eq_true] at h
  have h5 := h (s - 1).toNat (List.mem_range.2 (by omega))
  rw [List.all_eq_true] at h5
  have h6 := h5 (k - 1).toNat (List.mem_range.2 (by omega))
  unfold cellGood at h6
  split at h6
  · rename_i b hb
    split at h6
    · rename_i c hc
      refine ⟨b, c, hb, hc, ?_⟩
      rw [show (((s - 1).toNat : Nat) : Int) + 1 = s by omega, show (((k - 1).toNat : Nat) : Int) + 1 = k by omega] at h6
      simpa using h6
    · cases h6
  · cases h6

theorem rows_use {E : World} {F : HP} {w : World} {Q : Ending → World → Prop} (hs : Sat E F w) (g : ∀ v xs w', rowsGood xs = true → Sat E (F * rsl 1 v 10 xs) w' → Q (.returned v) w') :
    Calls Try.prog 122 #[] w Q := by
  refine Calls.mono (R := fun e w' => ∃ v xs, rowsGood xs = true ∧ e = .returned v ∧ Sat E (F * rsl 1 v 10 xs) w') ?_ (fun e w' ⟨v, xs, h1, e1, h⟩ => by subst e1; exact g v xs w' h1 h)
  go_enter Try.func122, Try.ntmps122
  go_wp2_with (first | (refine wpL_buildSlice 1 _ _ _ rfl rfl rfl rfl rfl rfl rfl (by decide) rfl hs ?_; intro vn w hs; replace hs := hs.oslRsl))
  go_ret
  exact ⟨_, _, by kernel_rfl, rfl, hs⟩

theorem refOf_spec (s k : Int) (hw1 : (Lit.int .i64 s).wf = true) (hw2 : (Lit.int .i64 k).wf = true) : SpecV Try.prog 116 #[.int .i64 s, .int .i64 k] emp (.int .i64 (tableM s k)) emp := by
  intro E F w hs
  have b1 := bounds_i64 hw1
  have b2 := bounds_i64 hw2
  go_enter Try.func116, Try.ntmps116
  by_cases h1 : s < 1
  · go_wp2_with fail
    go_ret
    exact ⟨by rw [inside_table s k (by omega)]; rfl, hs⟩
  · by_cases h2 : s > 10
    · go_wp2_with fail
      go_ret
      exact ⟨by rw [inside_table s k (by omega)]; rfl, hs⟩
    · by_cases h3 : k < 1
      · go_wp2_with fail
        go_ret
        exact ⟨by rw [inside_table s k (by omega)]; rfl, hs⟩
      · by_cases h4 : k > 15
        · go_wp2_with fail
          go_ret
          exact ⟨by rw [inside_table s k (by omega)]; rfl, hs⟩
        · go_wp2_with fail
          refine rows_use hs ?_; intro v xs w hg hs
          obtain ⟨b, c, hb, hc, hcode⟩ := rows_at hg (s := s) (k := k) (by omega) (by omega) (by omega) (by omega)
          have hz : xs[(s - 1).toNat * 1 + 0]? = some (.string b) := by simpa using hb
          have r := hs.readsS
          have Hc := Lib.hid hcode
          clear hcode hg
          go_upto_region 4 with (first | (refine wpL_indexAddrR 1 _ _ _ rfl rfl rfl rfl rfl rfl rfl r (by omega) (by omega) ?_; intro ad had) | (refine wpL_loadR _ _ rfl rfl rfl (by simp) (had 0 _ hz) ?_) | (refine wpL_indexStr _ _ _ rfl rfl rfl rfl (by first | rfl | exact Try.underlying9) (by omega) hc ?_))
          have hs' := hs.drop
          clear hc hz hb r had hs
          have Hc' := Hc.out
          clear Hc
          generalize ((c.toNat : Nat) : Int) = n at *
          by_cases g1 : n = 72
          · subst g1
            go_wp2_with fail
            go_ret
            exact ⟨by rw [← Hc']; rfl, hs'⟩
          · by_cases g2 : n = 87
            · subst g2
              go_wp2_with fail
              go_ret
              exact ⟨by rw [← Hc']; rfl, hs'⟩
            · by_cases g3 : n = 82
              · subst g3
                go_wp2_with fail
                go_ret
                exact ⟨by rw [← Hc']; rfl, hs'⟩
              · by_cases g4 : n = 70
                · subst g4
                  go_wp2_with fail
                  go_ret
                  exact ⟨by rw [← Hc']; rfl, hs'⟩
                · have Hn : codeL n = 0 := by simp [codeL, g1, g2, g3, g4]
                  rw [Hn] at Hc'
                  have Hc := Lib.hid Hc'
                  have k1 : (n == 72) = false := by simpa using g1
                  have k2 : (n == 87) = false := by simpa using g2
                  have k3 : (n == 82) = false := by simpa using g3
                  have k4 : (n == 70) = false := by simpa using g4
                  clear g1 g2 g3 g4 Hc'
                  go_wp2_with fail
                  go_ret
                  exact ⟨by rw [← Hc.out]; rfl, hs'⟩

theorem fin_check {p : Int → Int → Bool} {n m : Nat} (h : ((List.range n).all fun i => (List.range m).all fun j => p ((i : Int) + 1) ((j : Int) + 1)) = true) {s k : Int} (h1 : 1 ≤ s) (h2 : s ≤ n) (h3 : 1 ≤ k) (h4 : k ≤ m) : p s k = true := by
  rw [List.all_eq_true] at h
  have h5 := h (s - 1).toNat (List.mem_range.2 (by omega))
  rw [List.all_eq_true] at h5
  have h6 := h5 (k - 1).toNat (List.mem_range.2 (by omega))
  rwa [show (((s - 1).toNat : Nat) : Int) + 1 = s by omega, show (((k - 1).toNat : Nat) : Int) + 1 = k by omega] at h6
theorem fin_check1 {p : Int → Bool} {n : Nat} (h : ((List.range n).all fun i => p ((i : Int) + 1)) = true) {s : Int} (h1 : 1 ≤ s) (h2 : s ≤ n) : p s = true := by
  rw [List.all_eq_true] at h
  have h5 := h (s - 1).toNat (List.mem_range.2 (by omega))
  rwa [show (((s - 1).toNat : Nat) : Int) + 1 = s by omega] at h5

/-- What is told of a wrong one. -/
def letterN (k : Int) : Int := if 1 ≤ k ∧ k ≤ 15 then ([66, 67, 69, 70, 74, 75, 68, 65, 76, 71, 72, 73, 0, 0, 77] : List Int).getD (k - 1).toNat 0 else 0
theorem letters_at {b : ByteArray} (h : ((List.range 15).all fun i => byteAt b (((i : Int) + 1) - 1) == some (letterN ((i : Int) + 1))) = true) {k : Int} (h1 : 1 ≤ k) (h2 : k ≤ 15) : byteAt b (k - 1) = some (letterN k) := by
  simpa using fin_check1 (p := fun k => byteAt b (k - 1) == some (letterN k)) h h1 h2
theorem bytes_at {xs : List Value} (h : ((List.range 15).all fun i => match xs[(((i : Int) + 1) - 1).toNat * 1 + 0]? with | some (.int .u8 n) => n == letterN ((i : Int) + 1) | _ => false) = true) {k : Int} (h1 : 1 ≤ k) (h2 : k ≤ 15) :
    xs[(k - 1).toNat * 1 + 0]? = some (.int .u8 (letterN k)) := by
  have := fin_check1 (p := fun k => match xs[(k - 1).toNat * 1 + 0]? with | some (.int .u8 n) => n == letterN k | _ => false) h h1 h2
  split at this
  · rename_i n hn
    rw [hn]
    simp at this
    rw [this]
  · cases this

theorem letter_spec (k : Int) (hw : (Lit.int .i64 k).wf = true) : SpecV Try.prog 70 #[.int .i64 k] emp (.int .u8 (letterN k)) emp := by
  intro E F w hs
  have b2 := bounds_i64 hw
  go_enter Try.func70, Try.ntmps70
  by_cases h1 : k < 1
  · go_wp2_with fail
    go_ret
    exact ⟨by rw [letterN, if_neg (by omega)]; rfl, hs⟩
  · by_cases h2 : k > 15
    · go_wp2_with fail
      go_ret
      exact ⟨by rw [letterN, if_neg (by omega)]; rfl, hs⟩
    · go_wp2_with (first | (refine wpL_indexStrN _ _ _ rfl rfl rfl rfl (by kernel_rfl) (by omega) (letters_at (by kernel_rfl) (by omega) (by omega)) ?_))
      go_ret
      exact ⟨rfl, hs⟩
theorem refLetter_spec (k : Int) (hw : (Lit.int .i64 k).wf = true) : SpecV Try.prog 117 #[.int .i64 k] emp (.int .u8 (letterN k)) emp := by
  intro E F w hs
  rw [star_emp] at hs
  have b2 := bounds_i64 hw
  go_enter Try.func117, Try.ntmps117
  go_upto_region 2 with (first | (refine wpL_buildSlice 1 _ _ _ rfl rfl rfl rfl rfl rfl rfl (by decide) rfl hs ?_; intro vn w hs; replace hs := hs.oslRsl))
  have r := hs.readsS
  by_cases h1 : k < 1
  · go_wp2_with fail
    go_ret
    exact ⟨by rw [letterN, if_neg (by omega)]; rfl, hs.drop.mkEmp⟩
  · by_cases h2 : k > 15
    · go_wp2_with fail
      go_ret
      exact ⟨by rw [letterN, if_neg (by omega)]; rfl, hs.drop.mkEmp⟩
    · go_wp2_with (first | (refine wpL_indexAddrR 1 _ _ _ rfl rfl rfl rfl rfl rfl rfl r (by omega) (by omega) ?_; intro ad had) | (refine wpL_loadR _ _ rfl rfl rfl (by simp) (had 0 _ (bytes_at (by kernel_rfl) (by omega) (by omega))) ?_))
      go_ret
      exact ⟨rfl, hs.drop.mkEmp⟩

/-- A state's name. -/

def mayV (s k : Int) : Bool :=
  if k = 1 then s == 1 || s == 4 else if k = 2 then s == 3 else if k = 3 then s != 1 && s != 4 else if k = 4 then s == 8 || s == 10 else if k = 5 then s == 6 else if k = 6 then s == 8 || s == 9 else if k = 7 then s == 10
  else decide (8 ≤ k) && decide (k ≤ 11)
theorem mayV_eq {s k : Int} (h1 : 1 ≤ s) (h2 : s ≤ 10) : (requestsM s k == 1) = mayV s k := by
  by_cases h : 1 ≤ k ∧ k ≤ 11
  · have := fin_check (p := fun s k => (requestsM s k == 1) == mayV s k) (n := 10) (m := 11) (by kernel_rfl) h1 h2 h.1 h.2
    simpa using this
  · rw [inside_requests s k (by omega)]
    have e : mayV s k = false := by
      unfold mayV
      rw [if_neg (by omega), if_neg (by omega), if_neg (by omega), if_neg (by omega), if_neg (by omega), if_neg (by omega), if_neg (by omega)]
      simp; omega
    rw [e]; rfl

set_option maxRecDepth 100000 in
theorem refMay_spec (s k : Int) (hw1 : (Lit.int .i64 s).wf = true) (hw2 : (Lit.int .i64 k).wf = true) : SpecV Try.prog 107 #[.int .i64 s, .int .i64 k] emp (.bool (requestsM s k == 1)) emp := by
  intro E F w hs
  have b1 := bounds_i64 hw1
  have b2 := bounds_i64 hw2
  clear hw1 hw2
  go_enter Try.func107, Try.ntmps107
  by_cases h1 : s < 1
  · go_wp2_with fail
    go_ret
    exact ⟨by rw [inside_requests s k (by omega)]; rfl, hs⟩
  by_cases h2 : s > 10
  · go_wp2_with fail
    go_ret
    exact ⟨by rw [inside_requests s k (by omega)]; rfl, hs⟩
  · rw [mayV_eq (by omega) (by omega)]
    have H1 := Lib.hid h1
    by_cases k1 : k = 1
    · subst k1
      by_cases a1 : s = 1
      · subst a1; go_wp2_with fail; go_ret; exact ⟨rfl, hs⟩
      · have a1' : (s == 1) = false := by simpa using a1
        have a1n : (s != 1) = true := by simpa using a1
        by_cases a2 : s = 4
        · subst a2; go_wp2_with fail; go_ret; exact ⟨rfl, hs⟩
        · have a2' : (s == 4) = false := by simpa using a2
          have a2n : (s != 4) = true := by simpa using a2
          have Hv := Lib.hid (show mayV s 1 = false by simp [mayV, a1, a2])
          clear a1 a2
          go_wp2_with fail; go_ret; exact ⟨by rw [Hv.out]; rfl, hs⟩
    have k1' : (k == 1) = false := by simpa using k1
    by_cases k2 : k = 2
    · subst k2
      by_cases a1 : s = 3
      · subst a1; go_wp2_with fail; go_ret; exact ⟨rfl, hs⟩
      · have a1' : (s == 3) = false := by simpa using a1
        have Hv := Lib.hid (show mayV s 2 = false by simp [mayV, a1])
        clear a1
        go_wp2_with fail; go_ret; exact ⟨by rw [Hv.out]; rfl, hs⟩
    have k2' : (k == 2) = false := by simpa using k2
    by_cases k3 : k = 3
    · subst k3
      by_cases a1 : s = 1
      · subst a1; go_wp2_with fail; go_ret; exact ⟨rfl, hs⟩
      · have a1' : (s == 1) = false := by simpa using a1
        have a1n : (s != 1) = true := by simpa using a1
        by_cases a2 : s = 4
        · subst a2; go_wp2_with fail; go_ret; exact ⟨rfl, hs⟩
        · have a2' : (s == 4) = false := by simpa using a2
          have a2n : (s != 4) = true := by simpa using a2
          have Hv := Lib.hid (show mayV s 3 = true by simp [mayV, a1, a2])
          clear a1 a2
          go_wp2_with fail; go_ret; exact ⟨by rw [Hv.out]; rfl, hs⟩
    have k3' : (k == 3) = false := by simpa using k3
    by_cases k4 : k = 4
    · subst k4
      by_cases a1 : s = 8
      · subst a1; go_wp2_with fail; go_ret; exact ⟨rfl, hs⟩
      · have a1' : (s == 8) = false := by simpa using a1
        have a1n : (s != 8) = true := by simpa using a1
        by_cases a2 : s = 10
        · subst a2; go_wp2_with fail; go_ret; exact ⟨rfl, hs⟩
        · have a2' : (s == 10) = false := by simpa using a2
          have a2n : (s != 10) = true := by simpa using a2
          have Hv := Lib.hid (show mayV s 4 = false by simp [mayV, a1, a2])
          clear a1 a2
          go_wp2_with fail; go_ret; exact ⟨by rw [Hv.out]; rfl, hs⟩
    have k4' : (k == 4) = false := by simpa using k4
    by_cases k5 : k = 5
    · subst k5
      by_cases a1 : s = 6
      · subst a1; go_wp2_with fail; go_ret; exact ⟨rfl, hs⟩
      · have a1' : (s == 6) = false := by simpa using a1
        have Hv := Lib.hid (show mayV s 5 = false by simp [mayV, a1])
        clear a1
        go_wp2_with fail; go_ret; exact ⟨by rw [Hv.out]; rfl, hs⟩
    have k5' : (k == 5) = false := by simpa using k5
    by_cases k6 : k = 6
    · subst k6
      by_cases a1 : s = 8
      · subst a1; go_wp2_with fail; go_ret; exact ⟨rfl, hs⟩
      · have a1' : (s == 8) = false := by simpa using a1
        have a1n : (s != 8) = true := by simpa using a1
        by_cases a2 : s = 9
        · subst a2; go_wp2_with fail; go_ret; exact ⟨rfl, hs⟩
        · have a2' : (s == 9) = false := by simpa using a2
          have a2n : (s != 9) = true := by simpa using a2
          have Hv := Lib.hid (show mayV s 6 = false by simp [mayV, a1, a2])
          clear a1 a2
          go_wp2_with fail; go_ret; exact ⟨by rw [Hv.out]; rfl, hs⟩
    have k6' : (k == 6) = false := by simpa using k6
    by_cases k7 : k = 7
    · subst k7
      by_cases a1 : s = 10
      · subst a1; go_wp2_with fail; go_ret; exact ⟨rfl, hs⟩
      · have a1' : (s == 10) = false := by simpa using a1
        have Hv := Lib.hid (show mayV s 7 = false by simp [mayV, a1])
        clear a1
        go_wp2_with fail; go_ret; exact ⟨by rw [Hv.out]; rfl, hs⟩
    have k7' : (k == 7) = false := by simpa using k7
    by_cases h8 : 8 ≤ k
    · by_cases h11 : k ≤ 11
      · have Hv := Lib.hid (show mayV s k = true by simp [mayV, k1, k2, k3, k4, k5, k6, k7, h8, h11])
        clear k1 k2 k3 k4 k5 k6 k7
        go_wp2_with fail; go_ret; exact ⟨by rw [Hv.out]; rfl, hs⟩
      · have Hv := Lib.hid (show mayV s k = false by simp [mayV, k1, k2, k3, k4, k5, k6, k7]; omega)
        clear k1 k2 k3 k4 k5 k6 k7
        go_wp2_with fail; go_ret; exact ⟨by rw [Hv.out]; rfl, hs⟩
    · have Hv := Lib.hid (show mayV s k = false by simp [mayV, k1, k2, k3, k4, k5, k6, k7, h8])
      clear k1 k2 k3 k4 k5 k6 k7
      go_wp2_with fail; go_ret; exact ⟨by rw [Hv.out]; rfl, hs⟩

end Go.Proofs.Ytoeaamohchpjdaa
