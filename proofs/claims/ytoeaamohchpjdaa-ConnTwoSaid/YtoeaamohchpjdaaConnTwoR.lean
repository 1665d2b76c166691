/-
  Two connections that hear one another: the law itself.
-/
import Derived.Test.YtoeaamohchpjdaaConnTwoH
namespace Go.Proofs.Ytoeaamohchpjdaa
open Go Go.RowKit
set_option linter.unusedVariables false
set_option linter.unusedSimpArgs false
set_option maxRecDepth 100000

theorem tmod24 (x : Int) : (0 ≤ x.tmod 16777216 → x.tmod 16777216 = x % 16777216) ∧ (x.tmod 16777216 < 0 → x.tmod 16777216 + 16777216 = x % 16777216) := by
  rcases Int.lt_or_le x 0 with h | h
  · have e : x.tmod 16777216 = -((-x) % 16777216) := by
      rw [show x = -(-x) by omega, Int.neg_tmod, Int.tmod_eq_emod_of_nonneg (by omega)]; omega
    rw [e]; omega
  · rw [Int.tmod_eq_emod_of_nonneg h]; omega
/-- A number shifted; the two lowest bits of one shifted. -/
def shrI (x b : Int) : Int := x.fdiv (2 ^ min b.toNat IntKind.i64.bits)
theorem wEx (x : Int) : ∃ w m, (w = 1 ∨ w = 4 ∨ w = 3 ∨ w = 0) ∧ ([1, 4, 3, 0] : List Int)[m]? = some w ∧ x % 4 = (m : Nat) := by
  have h : x % 4 = 0 ∨ x % 4 = 1 ∨ x % 4 = 2 ∨ x % 4 = 3 := by omega
  rcases h with h | h | h | h
  · exact ⟨1, 0, by omega, rfl, h⟩
  · exact ⟨4, 1, by omega, rfl, h⟩
  · exact ⟨3, 2, by omega, rfl, h⟩
  · exact ⟨0, 3, by omega, rfl, h⟩
theorem act0_len (P : Pr) (w : Int) : (P.act0 w).t0.length ≤ P.t0.length + 2 ∧ (P.act0 w).t1 = P.t1 := by
  unfold Pr.act0
  split
  · have := few_fail P.c0 81
    unfold As.few at this
    refine ⟨?_, rfl⟩
    show (P.t0 ++ _).length ≤ _
    rw [List.length_append]; omega
  · have := few_request P.c0 w noS
    unfold As.few at this
    refine ⟨?_, rfl⟩
    show (P.t0 ++ _).length ≤ _
    rw [List.length_append]; omega
theorem first_len (P : Pr) (f0 f1 : Bool) (w : Int) : (P.first f0 f1 w).t0.length ≤ P.t0.length + 2 ∧ (P.first f0 f1 w).t1.length ≤ P.t1.length + 2 := by
  have h1 := act0_len P w
  cases f0 <;> cases f1
  · exact ⟨Nat.le_add_right _ _, Nat.le_add_right _ _⟩
  · have h2 := act0_len P.swap w
    show (P.swap.act0 w).t1.length ≤ _ ∧ (P.swap.act0 w).t0.length ≤ _
    rw [h2.2]; exact ⟨Nat.le_add_right _ _, h2.1⟩
  · show (P.act0 w).t0.length ≤ _ ∧ (P.act0 w).t1.length ≤ _
    rw [h1.2]; exact ⟨h1.1, Nat.le_add_right _ _⟩
  · have h2 := act0_len (P.act0 w).swap w
    show ((P.act0 w).swap.act0 w).t1.length ≤ _ ∧ ((P.act0 w).swap.act0 w).t0.length ≤ _
    rw [h2.2]
    have h3 : (P.act0 w).swap.t0 = P.t1 := h1.2
    rw [h3] at h2
    exact ⟨h1.1, h2.1⟩
theorem first_next {i : Nat} {f0 f1 : Bool} {P : Pr} {w : Int} (hi : i < 2) (h0 : i = 0 → f0 = false) (h1 : i ≤ 1 → f1 = false) : ∃ f0' f1', half i ((half i (P.first f0 f1 w)).act0 w) = P.first f0' f1' w ∧ (i + 1 = 0 → f0' = false) ∧ (i + 1 ≤ 1 → f1' = false) := by
  have hf1 := h1 (by omega)
  subst hf1
  rcases two_cases hi with rfl | rfl
  · have hf0 := h0 rfl
    subst hf0
    exact ⟨true, false, rfl, fun h => by omega, fun _ => rfl⟩
  · exact ⟨f0, true, by cases f0 <;> rfl, fun h => by omega, fun h => by omega⟩
theorem fail_units (c : Cn) (k : Int) : (c.fail k).r.units.length ≤ 2 := by have := few_fail c k; unfold As.few at this; omega
theorem fail_sigs (c : Cn) (k : Int) : (c.fail k).r.sigs.length ≤ 2 := by have := few_fail c k; unfold As.few at this; omega
theorem act_fail {P : Pr} {w : Int} (h : w = 0) : P.act0 w = P.give (P.c0.fail 81) := if_pos h
theorem act_ask {P : Pr} {w : Int} (h : ¬ w = 0) : P.act0 w = P.ask w := if_neg h
theorem half_sm {V : Pr} (h : Small V) (n : Nat) : Small (half n V) := by
  unfold half; split
  · exact h.swap
  · exact h
theorem half_t {V : Pr} {m : Nat} (h0 : V.t0.length ≤ m) (h1 : V.t1.length ≤ m) (n : Nat) : (half n V).t0.length ≤ m := by
  unfold half; split
  · exact h1
  · exact h0
theorem first_none (P : Pr) (w : Int) : P.first false false w = P := rfl
attribute [local irreducible] half turns Pr.first Pr.act0 Pr.toldTo Pr.comeTo Pr.told Pr.turn0 restP own fix oL rL osl rsl fact some' pv wpList wpHi wpPre wpAny After AfterH

section
variable {E : World} {H R : HP} {w : World} {Q : Ending → World → Prop}
theorem refOf_use (x : Int) (hs : Sat E H w) (hk : ∀ w', Sat E H w' → Q (.returned (.int .i64 (x % 16777216))) w') : Calls Try.prog 37 #[.int .i64 x] w Q := by
  have ht := tmod24 x
  have hl : -16777216 ≤ x.tmod 16777216 ∧ x.tmod 16777216 < 16777216 := by
    have hr : ∀ r q : Int, (0 ≤ r → r = q % 16777216) → (r < 0 → r + 16777216 = q % 16777216) → -16777216 ≤ r ∧ r < 16777216 := by
      intro r q h1 h2
      rcases Int.lt_or_le r 0 with h | h
      · have := h2 h; omega
      · have := h1 h; omega
    exact hr _ x ht.1 ht.2
  refine f_enter Try.func37 rfl rfl ?_
  show Code.wp _ _ _ (Fr _) _
  refine wp_seq_k (fun K1 hK1 => ?_)
  refine c_region ?_
  refine sVal (r_assign rfl rfl) ?_
  refine s_nil ?_
  refine hK1 _ _ ?_
  refine wp_seq_k (fun K2 hK2 => ?_)
  refine c_region ?_
  refine sVal (r_move rfl rfl) ?_
  refine sVal (r_div rfl rfl rfl (by decide) rfl (rfl : _ = x.tmod 16777216)) ?_
  refine sVal (r_assign rfl rfl) ?_
  refine s_nil ?_
  refine hK2 _ _ ?_
  refine wp_seq_k (fun K3 hK3 => ?_)
  refine wp_seq_k (fun K4 hK4 => ?_)
  refine c_region ?_
  refine sVal (r_move rfl rfl) ?_
  refine s_bool (r_cmp rfl rfl rfl rfl) rfl rfl (fun _ => by rfl) ?_
  intro c5 hc5
  refine s_nil ?_
  refine hK4 _ _ ?_
  cases c5
  case false =>
   replace hc5 := decF' hc5
   try dsimp only at hc5
   first
   | (exfalso; first | omega | (cases hc5; done))
   | (
     refine c_condF rfl ?_
     refine wp_skip ?_
     refine hK3 _ _ ?_
     refine wp_seq_k (fun K6 hK6 => ?_)
     refine c_region ?_
     refine sVal (r_move rfl rfl) ?_
     refine sVal (r_assign rfl rfl) ?_
     refine s_nil ?_
     refine hK6 _ _ ?_
     refine wp_ret ?_
     refine f_ret (rs := [.tmp 2]) rfl (.tmp rfl .nil) rfl ?_
     first | (rw [show x.tmod 16777216 = x % 16777216 by omega]; exact hk _ hs) | (rw [show x.tmod 16777216 + 16777216 = x % 16777216 by omega]; exact hk _ hs))
  case true =>
   replace hc5 := decT' hc5
   try dsimp only at hc5
   first
   | (exfalso; first | omega | (cases hc5; done))
   | (
     refine c_condT rfl ?_
     refine c_region ?_
     refine sVal (r_move rfl rfl) ?_
     refine sVal (r_ari rfl rfl rfl rfl (by first | exact wrapI (by omega) | rfl)) ?_
     refine sVal (r_assign rfl rfl) ?_
     refine s_nil ?_
     refine hK3 _ _ ?_
     refine wp_seq_k (fun K7 hK7 => ?_)
     refine c_region ?_
     refine sVal (r_move rfl rfl) ?_
     refine sVal (r_assign rfl rfl) ?_
     refine s_nil ?_
     refine hK7 _ _ ?_
     refine wp_ret ?_
     refine f_ret (rs := [.tmp 2]) rfl (.tmp rfl .nil) rfl ?_
     first | (rw [show x.tmod 16777216 = x % 16777216 by omega]; exact hk _ hs) | (rw [show x.tmod 16777216 + 16777216 = x % 16777216 by omega]; exact hk _ hs))

set_option maxHeartbeats 4000000 in
theorem connTwo_use {pf pa : Option Addr} {kf ka : Nat} (first : List Int) (ans : List Bool) (hs : Sat E H w) (cu : Cut H (rL 1 intC (.slice pf first.length kf) first * rL 1 booC (.slice pa ans.length ka) ans) R)
    (hk : ∀ w', Sat E R w' → Q (.returned (.bool true)) w') :
    Calls Try.prog 7 #[.slice pf first.length kf, .slice pa ans.length ka] w Q := by
  replace hs := hs.cut cu
  rw [← star_assoc] at hs
  refine f_enter Try.func7 rfl rfl ?_
  show Code.wp _ _ _ (Fr _) _
  refine wp_seq_k (fun K1 hK1 => ?_)
  refine c_region ?_
  refine sVal (r_assign rfl rfl) ?_
  refine s_nil ?_
  refine hK1 _ _ ?_
  refine wp_seq_k (fun K2 hK2 => ?_)
  refine wp_seq_k (fun K3 hK3 => ?_)
  refine c_region ?_
  refine s_enter (r_call rfl ent30 rfl) rfl ?_
  refine awake_use hs ?_
  intro w hs
  refine ⟨_, rfl, a_bool (fun _ => by rfl) ?_⟩
  intro c4 hc4
  cases c4
  case false =>
   replace hc4 := Eq.symm hc4
   try dsimp only at hc4
   first
   | (exfalso; first | omega | (cases hc4; done))
   | (
     refine sVal (r_notF rfl rfl) ?_
     refine s_nil ?_
     refine hK3 _ _ ?_
     refine c_condT rfl ?_
     refine wp_seq_k (fun K5 hK5 => ?_)
     refine c_region ?_
     refine sVal (r_assign rfl rfl) ?_
     refine s_nil ?_
     refine hK5 _ _ ?_
     refine wp_ret ?_
     refine f_ret (rs := [.tmp 4]) rfl (.tmp rfl .nil) rfl ?_
     exact hk _ (fin0 hs (by repeat (first | exact Keeps.refl _ | apply Keeps.tail | apply Keeps.drop))))
  case true =>
   replace hc4 := Eq.symm hc4
   try dsimp only at hc4
   first
   | (exfalso; first | omega | (cases hc4; done))
   | (
     refine sVal (r_notT rfl rfl) ?_
     refine s_nil ?_
     refine hK3 _ _ ?_
     refine c_condF rfl ?_
     refine wp_skip ?_
     refine hK2 _ _ ?_
     refine c_meet (5 :: 15 :: 16 :: 17 :: 18 :: 19 :: 20 :: 21 :: 22 :: []) (fun xs w => ∃ (b0 b1 bp : Nat) (cs ws ts : Value), xs = (.pointer (some ⟨bp, 0, none⟩) :: xAt xs 1 :: xAt xs 2 :: xAt xs 3 :: xAt xs 4 :: xAt xs 5 :: xAt xs 6 :: xAt xs 7 :: xAt xs 8 :: []) ∧ Sat E (R * rL 1 intC (.slice pf first.length kf) first * rL 1 booC (.slice pa ans.length ka) ans * own b0 (.cells (cnC (Cn.new 3 5)).toArray 108 (0, 0)) * own b1 (.cells (cnC (Cn.new 3 6)).toArray 108 (0, 0)) * oL 58 1 valC cs [.pointer (some ⟨b0, 0, none⟩), .pointer (some ⟨b1, 0, none⟩)] * oL 72 1 valC ws [.slice none 0 0, .slice none 0 0] * oL 71 1 valC ts [.slice none 0 0, .slice none 0 0] * own bp (.cells [cs, ws, ts].toArray 68 (0, 0))) w) ?_ ?_
     ·
      intro KM6 hKM6
      replace hs := hs.drew
      refine d_start (by kernel_rfl) ?_
      refine d_pre [0, 2] (g := 8) (by kernel_rfl) (fun _ _ d _ _ h => by cases d <;> exact h) ?_
      refine pVal rfl (fun w => (r_build rfl rfl pl63 zr63 (by rfl))) ?_
      refine pVal rfl (fun w => (r_build rfl rfl pl63 zr63 (by rfl))) ?_
      refine p_nil ?_
      refine d_tree 10 (.alt 1 (.alt 3 (.alt 4 (.alt 5 (.alt 6 (.take 7 (.alt 8 (.alt 9 .done .none) .none)) (.alt 8 (.alt 6 (.take 7 (.alt 9 .done .none)) .none) .none)) (.alt 6 (.alt 5 (.take 7 (.alt 8 (.alt 9 .done .none) .none)) (.alt 8 (.alt 5 (.take 7 (.alt 9 .done .none)) .none) .none)) (.alt 8 (.alt 5 (.alt 6 (.take 7 (.alt 9 .done .none)) .none) (.alt 6 (.alt 5 (.take 7 (.alt 9 .done .none)) .none) .none)) .none))) (.alt 5 (.alt 4 (.alt 6 (.take 7 (.alt 8 (.alt 9 .done .none) .none)) (.alt 8 (.alt 6 (.take 7 (.alt 9 .done .none)) .none) .none)) (.alt 6 (.alt 4 (.take 7 (.alt 8 (.alt 9 .done .none) .none)) (.alt 8 (.alt 4 (.take 7 (.alt 9 .done .none)) .none) .none)) (.alt 8 (.alt 4 (.alt 6 (.take 7 (.alt 9 .done .none)) .none) (.alt 6 (.alt 4 (.take 7 (.alt 9 .done .none)) .none) .none)) .none))) (.alt 6 (.alt 4 (.alt 5 (.take 7 (.alt 8 (.alt 9 .done .none) .none)) (.alt 8 (.alt 5 (.take 7 (.alt 9 .done .none)) .none) .none)) (.alt 5 (.alt 4 (.take 7 (.alt 8 (.alt 9 .done .none) .none)) (.alt 8 (.alt 4 (.take 7 (.alt 9 .done .none)) .none) .none)) (.alt 8 (.alt 4 (.alt 5 (.take 7 (.alt 9 .done .none)) .none) (.alt 5 (.alt 4 (.take 7 (.alt 9 .done .none)) .none) .none)) .none))) (.alt 8 (.alt 4 (.alt 5 (.alt 6 (.take 7 (.alt 9 .done .none)) .none) (.alt 6 (.alt 5 (.take 7 (.alt 9 .done .none)) .none) .none)) (.alt 5 (.alt 4 (.alt 6 (.take 7 (.alt 9 .done .none)) .none) (.alt 6 (.alt 4 (.take 7 (.alt 9 .done .none)) .none) .none)) (.alt 6 (.alt 4 (.alt 5 (.take 7 (.alt 9 .done .none)) .none) (.alt 5 (.alt 4 (.take 7 (.alt 9 .done .none)) .none) .none)) .none))) .none)))) (.alt 5 (.alt 3 (.alt 4 (.alt 6 (.take 7 (.alt 8 (.alt 9 .done .none) .none)) (.alt 8 (.alt 6 (.take 7 (.alt 9 .done .none)) .none) .none)) (.alt 6 (.alt 4 (.take 7 (.alt 8 (.alt 9 .done .none) .none)) (.alt 8 (.alt 4 (.take 7 (.alt 9 .done .none)) .none) .none)) (.alt 8 (.alt 4 (.alt 6 (.take 7 (.alt 9 .done .none)) .none) (.alt 6 (.alt 4 (.take 7 (.alt 9 .done .none)) .none) .none)) .none))) (.alt 6 (.alt 3 (.alt 4 (.take 7 (.alt 8 (.alt 9 .done .none) .none)) (.alt 8 (.alt 4 (.take 7 (.alt 9 .done .none)) .none) .none)) (.alt 8 (.alt 3 (.alt 4 (.take 7 (.alt 9 .done .none)) .none) .none) .none)) (.alt 8 (.alt 3 (.alt 4 (.alt 6 (.take 7 (.alt 9 .done .none)) .none) (.alt 6 (.alt 4 (.take 7 (.alt 9 .done .none)) .none) .none)) (.alt 6 (.alt 3 (.alt 4 (.take 7 (.alt 9 .done .none)) .none) .none) .none)) .none))) (.alt 6 (.alt 3 (.alt 4 (.alt 5 (.take 7 (.alt 8 (.alt 9 .done .none) .none)) (.alt 8 (.alt 5 (.take 7 (.alt 9 .done .none)) .none) .none)) (.alt 5 (.alt 4 (.take 7 (.alt 8 (.alt 9 .done .none) .none)) (.alt 8 (.alt 4 (.take 7 (.alt 9 .done .none)) .none) .none)) (.alt 8 (.alt 4 (.alt 5 (.take 7 (.alt 9 .done .none)) .none) (.alt 5 (.alt 4 (.take 7 (.alt 9 .done .none)) .none) .none)) .none))) (.alt 5 (.alt 3 (.alt 4 (.take 7 (.alt 8 (.alt 9 .done .none) .none)) (.alt 8 (.alt 4 (.take 7 (.alt 9 .done .none)) .none) .none)) (.alt 8 (.alt 3 (.alt 4 (.take 7 (.alt 9 .done .none)) .none) .none) .none)) (.alt 8 (.alt 3 (.alt 4 (.alt 5 (.take 7 (.alt 9 .done .none)) .none) (.alt 5 (.alt 4 (.take 7 (.alt 9 .done .none)) .none) .none)) (.alt 5 (.alt 3 (.alt 4 (.take 7 (.alt 9 .done .none)) .none) .none) .none)) .none))) (.alt 8 (.alt 3 (.alt 4 (.alt 5 (.alt 6 (.take 7 (.alt 9 .done .none)) .none) (.alt 6 (.alt 5 (.take 7 (.alt 9 .done .none)) .none) .none)) (.alt 5 (.alt 4 (.alt 6 (.take 7 (.alt 9 .done .none)) .none) (.alt 6 (.alt 4 (.take 7 (.alt 9 .done .none)) .none) .none)) (.alt 6 (.alt 4 (.alt 5 (.take 7 (.alt 9 .done .none)) .none) (.alt 5 (.alt 4 (.take 7 (.alt 9 .done .none)) .none) .none)) .none))) (.alt 5 (.alt 3 (.alt 4 (.alt 6 (.take 7 (.alt 9 .done .none)) .none) (.alt 6 (.alt 4 (.take 7 (.alt 9 .done .none)) .none) .none)) (.alt 6 (.alt 3 (.alt 4 (.take 7 (.alt 9 .done .none)) .none) .none) .none)) (.alt 6 (.alt 3 (.alt 4 (.alt 5 (.take 7 (.alt 9 .done .none)) .none) (.alt 5 (.alt 4 (.take 7 (.alt 9 .done .none)) .none) .none)) (.alt 5 (.alt 3 (.alt 4 (.take 7 (.alt 9 .done .none)) .none) .none) .none)) .none))) .none)))) (.alt 5 (.alt 1 (.alt 3 (.alt 4 (.alt 6 (.take 7 (.alt 8 (.alt 9 .done .none) .none)) (.alt 8 (.alt 6 (.take 7 (.alt 9 .done .none)) .none) .none)) (.alt 6 (.alt 4 (.take 7 (.alt 8 (.alt 9 .done .none) .none)) (.alt 8 (.alt 4 (.take 7 (.alt 9 .done .none)) .none) .none)) (.alt 8 (.alt 4 (.alt 6 (.take 7 (.alt 9 .done .none)) .none) (.alt 6 (.alt 4 (.take 7 (.alt 9 .done .none)) .none) .none)) .none))) (.alt 6 (.alt 3 (.alt 4 (.take 7 (.alt 8 (.alt 9 .done .none) .none)) (.alt 8 (.alt 4 (.take 7 (.alt 9 .done .none)) .none) .none)) (.alt 8 (.alt 3 (.alt 4 (.take 7 (.alt 9 .done .none)) .none) .none) .none)) (.alt 8 (.alt 3 (.alt 4 (.alt 6 (.take 7 (.alt 9 .done .none)) .none) (.alt 6 (.alt 4 (.take 7 (.alt 9 .done .none)) .none) .none)) (.alt 6 (.alt 3 (.alt 4 (.take 7 (.alt 9 .done .none)) .none) .none) .none)) .none))) (.alt 6 (.alt 1 (.alt 3 (.alt 4 (.take 7 (.alt 8 (.alt 9 .done .none) .none)) (.alt 8 (.alt 4 (.take 7 (.alt 9 .done .none)) .none) .none)) (.alt 8 (.alt 3 (.alt 4 (.take 7 (.alt 9 .done .none)) .none) .none) .none)) (.alt 8 (.alt 1 (.alt 3 (.alt 4 (.take 7 (.alt 9 .done .none)) .none) .none) .none) .none)) (.alt 8 (.alt 1 (.alt 3 (.alt 4 (.alt 6 (.take 7 (.alt 9 .done .none)) .none) (.alt 6 (.alt 4 (.take 7 (.alt 9 .done .none)) .none) .none)) (.alt 6 (.alt 3 (.alt 4 (.take 7 (.alt 9 .done .none)) .none) .none) .none)) (.alt 6 (.alt 1 (.alt 3 (.alt 4 (.take 7 (.alt 9 .done .none)) .none) .none) .none) .none)) .none))) (.alt 6 (.alt 1 (.alt 3 (.alt 4 (.alt 5 (.take 7 (.alt 8 (.alt 9 .done .none) .none)) (.alt 8 (.alt 5 (.take 7 (.alt 9 .done .none)) .none) .none)) (.alt 5 (.alt 4 (.take 7 (.alt 8 (.alt 9 .done .none) .none)) (.alt 8 (.alt 4 (.take 7 (.alt 9 .done .none)) .none) .none)) (.alt 8 (.alt 4 (.alt 5 (.take 7 (.alt 9 .done .none)) .none) (.alt 5 (.alt 4 (.take 7 (.alt 9 .done .none)) .none) .none)) .none))) (.alt 5 (.alt 3 (.alt 4 (.take 7 (.alt 8 (.alt 9 .done .none) .none)) (.alt 8 (.alt 4 (.take 7 (.alt 9 .done .none)) .none) .none)) (.alt 8 (.alt 3 (.alt 4 (.take 7 (.alt 9 .done .none)) .none) .none) .none)) (.alt 8 (.alt 3 (.alt 4 (.alt 5 (.take 7 (.alt 9 .done .none)) .none) (.alt 5 (.alt 4 (.take 7 (.alt 9 .done .none)) .none) .none)) (.alt 5 (.alt 3 (.alt 4 (.take 7 (.alt 9 .done .none)) .none) .none) .none)) .none))) (.alt 5 (.alt 1 (.alt 3 (.alt 4 (.take 7 (.alt 8 (.alt 9 .done .none) .none)) (.alt 8 (.alt 4 (.take 7 (.alt 9 .done .none)) .none) .none)) (.alt 8 (.alt 3 (.alt 4 (.take 7 (.alt 9 .done .none)) .none) .none) .none)) (.alt 8 (.alt 1 (.alt 3 (.alt 4 (.take 7 (.alt 9 .done .none)) .none) .none) .none) .none)) (.alt 8 (.alt 1 (.alt 3 (.alt 4 (.alt 5 (.take 7 (.alt 9 .done .none)) .none) (.alt 5 (.alt 4 (.take 7 (.alt 9 .done .none)) .none) .none)) (.alt 5 (.alt 3 (.alt 4 (.take 7 (.alt 9 .done .none)) .none) .none) .none)) (.alt 5 (.alt 1 (.alt 3 (.alt 4 (.take 7 (.alt 9 .done .none)) .none) .none) .none) .none)) .none))) (.alt 8 (.alt 1 (.alt 3 (.alt 4 (.alt 5 (.alt 6 (.take 7 (.alt 9 .done .none)) .none) (.alt 6 (.alt 5 (.take 7 (.alt 9 .done .none)) .none) .none)) (.alt 5 (.alt 4 (.alt 6 (.take 7 (.alt 9 .done .none)) .none) (.alt 6 (.alt 4 (.take 7 (.alt 9 .done .none)) .none) .none)) (.alt 6 (.alt 4 (.alt 5 (.take 7 (.alt 9 .done .none)) .none) (.alt 5 (.alt 4 (.take 7 (.alt 9 .done .none)) .none) .none)) .none))) (.alt 5 (.alt 3 (.alt 4 (.alt 6 (.take 7 (.alt 9 .done .none)) .none) (.alt 6 (.alt 4 (.take 7 (.alt 9 .done .none)) .none) .none)) (.alt 6 (.alt 3 (.alt 4 (.take 7 (.alt 9 .done .none)) .none) .none) .none)) (.alt 6 (.alt 3 (.alt 4 (.alt 5 (.take 7 (.alt 9 .done .none)) .none) (.alt 5 (.alt 4 (.take 7 (.alt 9 .done .none)) .none) .none)) (.alt 5 (.alt 3 (.alt 4 (.take 7 (.alt 9 .done .none)) .none) .none) .none)) .none))) (.alt 5 (.alt 1 (.alt 3 (.alt 4 (.alt 6 (.take 7 (.alt 9 .done .none)) .none) (.alt 6 (.alt 4 (.take 7 (.alt 9 .done .none)) .none) .none)) (.alt 6 (.alt 3 (.alt 4 (.take 7 (.alt 9 .done .none)) .none) .none) .none)) (.alt 6 (.alt 1 (.alt 3 (.alt 4 (.take 7 (.alt 9 .done .none)) .none) .none) .none) .none)) (.alt 6 (.alt 1 (.alt 3 (.alt 4 (.alt 5 (.take 7 (.alt 9 .done .none)) .none) (.alt 5 (.alt 4 (.take 7 (.alt 9 .done .none)) .none) .none)) (.alt 5 (.alt 3 (.alt 4 (.take 7 (.alt 9 .done .none)) .none) .none) .none)) (.alt 5 (.alt 1 (.alt 3 (.alt 4 (.take 7 (.alt 9 .done .none)) .none) .none) .none) .none)) .none))) .none)))) (fun _ => True) (g := 0) (by kernel_rfl) (fun _ _ d _ _ h => by cases d <;> exact h) trivial ?_
      refine t_alt ?_ ?_
      ·
       refine h_enter rfl (r_call rfl ent31 rfl) rfl ?_
       refine new_use _ _ hs ?_
       intro b0 w hs
       refine ⟨_, rfl, ah_put trivial (by rfl) ?_⟩
       refine h_nil (t_alt ?_ ?_)
       ·
        refine h_enter rfl (r_call rfl ent31 rfl) rfl ?_
        refine new_use _ _ hs ?_
        intro b1 w hs
        refine ⟨_, rfl, ah_put trivial (by rfl) ?_⟩
        refine h_nil (t_alt ?_ ?_)
        ·
         refine h_ex rfl (r_lit valC [_, _] rfl rfl rfl hs Try.underlying64 (by kernel_rfl) sz58 rfl (by decide) (fun _ => rfl)) rfl rfl (fun _ => by rfl) ?_
         intro sc w hs
         refine ⟨trivial, ?_⟩
         refine h_nil (t_alt ?_ ?_)
         ·
          refine h_ex rfl (r_mk valC (.slice none 0 0) 2 2 rfl rfl rfl hs (rfl) (rfl) (by first | decide | omega) (by first | decide | omega) Try.underlying65 (by rfl) sz72 (by decide) (by decide) rfl) rfl rfl (fun _ => by rfl) ?_
          intro sw w hs
          refine ⟨trivial, ?_⟩
          refine h_nil (t_alt ?_ ?_)
          ·
           refine h_ex rfl (r_mk valC (.slice none 0 0) 2 2 rfl rfl rfl hs (rfl) (rfl) (by first | decide | omega) (by first | decide | omega) Try.underlying66 (by rfl) sz71 (by decide) (by decide) rfl) rfl rfl (fun _ => by rfl) ?_
           intro st w hs
           refine ⟨trivial, ?_⟩
           refine h_nil (t_take ?_)
           refine hVal rfl (fun w hS => (r_build rfl rfl pl68 zr68 (by rfl))) ?_
           refine h_nil (t_alt ?_ t_none)
           refine h_ex rfl (r_alloc rfl zr68 hs) rfl rfl (fun _ => by rfl) ?_
           intro bp w hs
           refine ⟨trivial, ?_⟩
           refine h_nil (t_alt ?_ t_none)
           refine h_exS rfl (r_storeA rfl rfl rfl hs (by (repeat (first | exact Cut.head _ _ | apply Cut.tail)); done) in68 sz68 rfl (fun h => by cases h) rfl (by rfl)) rfl rfl ?_
           intro w hs
           refine ⟨trivial, ?_⟩
           refine h_nil (t_done ?_)
           refine d_tail 10 (by kernel_rfl) ?_
           refine s_nil ?_
           refine hKM6 _ _ _ (by rfl) (by rfl) ?_
           exact ⟨b0, b1, bp, _, _, _, rfl, hs.perm⟩
          refine t_alt ?_ t_none
          refine h_ex rfl (r_alloc rfl zr68 hs) rfl rfl (fun _ => by rfl) ?_
          intro bp w hs
          refine ⟨trivial, ?_⟩
          refine h_nil (t_alt ?_ t_none)
          refine h_ex rfl (r_mk valC (.slice none 0 0) 2 2 rfl rfl rfl hs (rfl) (rfl) (by first | decide | omega) (by first | decide | omega) Try.underlying66 (by rfl) sz71 (by decide) (by decide) rfl) rfl rfl (fun _ => by rfl) ?_
          intro st w hs
          refine ⟨trivial, ?_⟩
          refine h_nil (t_take ?_)
          refine hVal rfl (fun w hS => (r_build rfl rfl pl68 zr68 (by rfl))) ?_
          refine h_nil (t_alt ?_ t_none)
          refine h_exS rfl (r_storeA rfl rfl rfl hs (by (repeat (first | exact Cut.head _ _ | apply Cut.tail)); done) in68 sz68 rfl (fun h => by cases h) rfl (by rfl)) rfl rfl ?_
          intro w hs
          refine ⟨trivial, ?_⟩
          refine h_nil (t_done ?_)
          refine d_tail 10 (by kernel_rfl) ?_
          refine s_nil ?_
          refine hKM6 _ _ _ (by rfl) (by rfl) ?_
          exact ⟨b0, b1, bp, _, _, _, rfl, hs.perm⟩
         refine t_alt ?_ ?_
         ·
          refine h_ex rfl (r_mk valC (.slice none 0 0) 2 2 rfl rfl rfl hs (rfl) (rfl) (by first | decide | omega) (by first | decide | omega) Try.underlying66 (by rfl) sz71 (by decide) (by decide) rfl) rfl rfl (fun _ => by rfl) ?_
          intro st w hs
          refine ⟨trivial, ?_⟩
          refine h_nil (t_alt ?_ ?_)
          ·
           refine h_ex rfl (r_mk valC (.slice none 0 0) 2 2 rfl rfl rfl hs (rfl) (rfl) (by first | decide | omega) (by first | decide | omega) Try.underlying65 (by rfl) sz72 (by decide) (by decide) rfl) rfl rfl (fun _ => by rfl) ?_
           intro sw w hs
           refine ⟨trivial, ?_⟩
           refine h_nil (t_take ?_)
           refine hVal rfl (fun w hS => (r_build rfl rfl pl68 zr68 (by rfl))) ?_
           refine h_nil (t_alt ?_ t_none)
           refine h_ex rfl (r_alloc rfl zr68 hs) rfl rfl (fun _ => by rfl) ?_
           intro bp w hs
           refine ⟨trivial, ?_⟩
           refine h_nil (t_alt ?_ t_none)
           refine h_exS rfl (r_storeA rfl rfl rfl hs (by (repeat (first | exact Cut.head _ _ | apply Cut.tail)); done) in68 sz68 rfl (fun h => by cases h) rfl (by rfl)) rfl rfl ?_
           intro w hs
           refine ⟨trivial, ?_⟩
           refine h_nil (t_done ?_)
           refine d_tail 10 (by kernel_rfl) ?_
           refine s_nil ?_
           refine hKM6 _ _ _ (by rfl) (by rfl) ?_
           exact ⟨b0, b1, bp, _, _, _, rfl, hs.perm⟩
          refine t_alt ?_ t_none
          refine h_ex rfl (r_alloc rfl zr68 hs) rfl rfl (fun _ => by rfl) ?_
          intro bp w hs
          refine ⟨trivial, ?_⟩
          refine h_nil (t_alt ?_ t_none)
          refine h_ex rfl (r_mk valC (.slice none 0 0) 2 2 rfl rfl rfl hs (rfl) (rfl) (by first | decide | omega) (by first | decide | omega) Try.underlying65 (by rfl) sz72 (by decide) (by decide) rfl) rfl rfl (fun _ => by rfl) ?_
          intro sw w hs
          refine ⟨trivial, ?_⟩
          refine h_nil (t_take ?_)
          refine hVal rfl (fun w hS => (r_build rfl rfl pl68 zr68 (by rfl))) ?_
          refine h_nil (t_alt ?_ t_none)
          refine h_exS rfl (r_storeA rfl rfl rfl hs (by (repeat (first | exact Cut.head _ _ | apply Cut.tail)); done) in68 sz68 rfl (fun h => by cases h) rfl (by rfl)) rfl rfl ?_
          intro w hs
          refine ⟨trivial, ?_⟩
          refine h_nil (t_done ?_)
          refine d_tail 10 (by kernel_rfl) ?_
          refine s_nil ?_
          refine hKM6 _ _ _ (by rfl) (by rfl) ?_
          exact ⟨b0, b1, bp, _, _, _, rfl, hs.perm⟩
         refine t_alt ?_ t_none
         refine h_ex rfl (r_alloc rfl zr68 hs) rfl rfl (fun _ => by rfl) ?_
         intro bp w hs
         refine ⟨trivial, ?_⟩
         refine h_nil (t_alt ?_ ?_)
         ·
          refine h_ex rfl (r_mk valC (.slice none 0 0) 2 2 rfl rfl rfl hs (rfl) (rfl) (by first | decide | omega) (by first | decide | omega) Try.underlying65 (by rfl) sz72 (by decide) (by decide) rfl) rfl rfl (fun _ => by rfl) ?_
          intro sw w hs
          refine ⟨trivial, ?_⟩
          refine h_nil (t_alt ?_ t_none)
          refine h_ex rfl (r_mk valC (.slice none 0 0) 2 2 rfl rfl rfl hs (rfl) (rfl) (by first | decide | omega) (by first | decide | omega) Try.underlying66 (by rfl) sz71 (by decide) (by decide) rfl) rfl rfl (fun _ => by rfl) ?_
          intro st w hs
          refine ⟨trivial, ?_⟩
          refine h_nil (t_take ?_)
          refine hVal rfl (fun w hS => (r_build rfl rfl pl68 zr68 (by rfl))) ?_
          refine h_nil (t_alt ?_ t_none)
          refine h_exS rfl (r_storeA rfl rfl rfl hs (by (repeat (first | exact Cut.head _ _ | apply Cut.tail)); done) in68 sz68 rfl (fun h => by cases h) rfl (by rfl)) rfl rfl ?_
          intro w hs
          refine ⟨trivial, ?_⟩
          refine h_nil (t_done ?_)
          refine d_tail 10 (by kernel_rfl) ?_
          refine s_nil ?_
          refine hKM6 _ _ _ (by rfl) (by rfl) ?_
          exact ⟨b0, b1, bp, _, _, _, rfl, hs.perm⟩
         refine t_alt ?_ t_none
         refine h_ex rfl (r_mk valC (.slice none 0 0) 2 2 rfl rfl rfl hs (rfl) (rfl) (by first | decide | omega) (by first | decide | omega) Try.underlying66 (by rfl) sz71 (by decide) (by decide) rfl) rfl rfl (fun _ => by rfl) ?_
         intro st w hs
         refine ⟨trivial, ?_⟩
         refine h_nil (t_alt ?_ t_none)
         refine h_ex rfl (r_mk valC (.slice none 0 0) 2 2 rfl rfl rfl hs (rfl) (rfl) (by first | decide | omega) (by first | decide | omega) Try.underlying65 (by rfl) sz72 (by decide) (by decide) rfl) rfl rfl (fun _ => by rfl) ?_
         intro sw w hs
         refine ⟨trivial, ?_⟩
         refine h_nil (t_take ?_)
         refine hVal rfl (fun w hS => (r_build rfl rfl pl68 zr68 (by rfl))) ?_
         refine h_nil (t_alt ?_ t_none)
         refine h_exS rfl (r_storeA rfl rfl rfl hs (by (repeat (first | exact Cut.head _ _ | apply Cut.tail)); done) in68 sz68 rfl (fun h => by cases h) rfl (by rfl)) rfl rfl ?_
         intro w hs
         refine ⟨trivial, ?_⟩
         refine h_nil (t_done ?_)
         refine d_tail 10 (by kernel_rfl) ?_
         refine s_nil ?_
         refine hKM6 _ _ _ (by rfl) (by rfl) ?_
         exact ⟨b0, b1, bp, _, _, _, rfl, hs.perm⟩
        refine t_alt ?_ ?_
        ·
         refine h_ex rfl (r_mk valC (.slice none 0 0) 2 2 rfl rfl rfl hs (rfl) (rfl) (by first | decide | omega) (by first | decide | omega) Try.underlying65 (by rfl) sz72 (by decide) (by decide) rfl) rfl rfl (fun _ => by rfl) ?_
         intro sw w hs
         refine ⟨trivial, ?_⟩
         refine h_nil (t_alt ?_ ?_)
         ·
          refine h_ex rfl (r_lit valC [_, _] rfl rfl rfl hs Try.underlying64 (by kernel_rfl) sz58 rfl (by decide) (fun _ => rfl)) rfl rfl (fun _ => by rfl) ?_
          intro sc w hs
          refine ⟨trivial, ?_⟩
          refine h_nil (t_alt ?_ ?_)
          ·
           refine h_ex rfl (r_mk valC (.slice none 0 0) 2 2 rfl rfl rfl hs (rfl) (rfl) (by first | decide | omega) (by first | decide | omega) Try.underlying66 (by rfl) sz71 (by decide) (by decide) rfl) rfl rfl (fun _ => by rfl) ?_
           intro st w hs
           refine ⟨trivial, ?_⟩
           refine h_nil (t_take ?_)
           refine hVal rfl (fun w hS => (r_build rfl rfl pl68 zr68 (by rfl))) ?_
           refine h_nil (t_alt ?_ t_none)
           refine h_ex rfl (r_alloc rfl zr68 hs) rfl rfl (fun _ => by rfl) ?_
           intro bp w hs
           refine ⟨trivial, ?_⟩
           refine h_nil (t_alt ?_ t_none)
           refine h_exS rfl (r_storeA rfl rfl rfl hs (by (repeat (first | exact Cut.head _ _ | apply Cut.tail)); done) in68 sz68 rfl (fun h => by cases h) rfl (by rfl)) rfl rfl ?_
           intro w hs
           refine ⟨trivial, ?_⟩
           refine h_nil (t_done ?_)
           refine d_tail 10 (by kernel_rfl) ?_
           refine s_nil ?_
           refine hKM6 _ _ _ (by rfl) (by rfl) ?_
           exact ⟨b0, b1, bp, _, _, _, rfl, hs.perm⟩
          refine t_alt ?_ t_none
          refine h_ex rfl (r_alloc rfl zr68 hs) rfl rfl (fun _ => by rfl) ?_
          intro bp w hs
          refine ⟨trivial, ?_⟩
          refine h_nil (t_alt ?_ t_none)
          refine h_ex rfl (r_mk valC (.slice none 0 0) 2 2 rfl rfl rfl hs (rfl) (rfl) (by first | decide | omega) (by first | decide | omega) Try.underlying66 (by rfl) sz71 (by decide) (by decide) rfl) rfl rfl (fun _ => by rfl) ?_
          intro st w hs
          refine ⟨trivial, ?_⟩
          refine h_nil (t_take ?_)
          refine hVal rfl (fun w hS => (r_build rfl rfl pl68 zr68 (by rfl))) ?_
          refine h_nil (t_alt ?_ t_none)
          refine h_exS rfl (r_storeA rfl rfl rfl hs (by (repeat (first | exact Cut.head _ _ | apply Cut.tail)); done) in68 sz68 rfl (fun h => by cases h) rfl (by rfl)) rfl rfl ?_
          intro w hs
          refine ⟨trivial, ?_⟩
          refine h_nil (t_done ?_)
          refine d_tail 10 (by kernel_rfl) ?_
          refine s_nil ?_
          refine hKM6 _ _ _ (by rfl) (by rfl) ?_
          exact ⟨b0, b1, bp, _, _, _, rfl, hs.perm⟩
         refine t_alt ?_ ?_
         ·
          refine h_ex rfl (r_mk valC (.slice none 0 0) 2 2 rfl rfl rfl hs (rfl) (rfl) (by first | decide | omega) (by first | decide | omega) Try.underlying66 (by rfl) sz71 (by decide) (by decide) rfl) rfl rfl (fun _ => by rfl) ?_
          intro st w hs
          refine ⟨trivial, ?_⟩
          refine h_nil (t_alt ?_ ?_)
          ·
           refine h_ex rfl (r_lit valC [_, _] rfl rfl rfl hs Try.underlying64 (by kernel_rfl) sz58 rfl (by decide) (fun _ => rfl)) rfl rfl (fun _ => by rfl) ?_
           intro sc w hs
           refine ⟨trivial, ?_⟩
           refine h_nil (t_take ?_)
           refine hVal rfl (fun w hS => (r_build rfl rfl pl68 zr68 (by rfl))) ?_
           refine h_nil (t_alt ?_ t_none)
           refine h_ex rfl (r_alloc rfl zr68 hs) rfl rfl (fun _ => by rfl) ?_
           intro bp w hs
           refine ⟨trivial, ?_⟩
           refine h_nil (t_alt ?_ t_none)
           refine h_exS rfl (r_storeA rfl rfl rfl hs (by (repeat (first | exact Cut.head _ _ | apply Cut.tail)); done) in68 sz68 rfl (fun h => by cases h) rfl (by rfl)) rfl rfl ?_
           intro w hs
           refine ⟨trivial, ?_⟩
           refine h_nil (t_done ?_)
           refine d_tail 10 (by kernel_rfl) ?_
           refine s_nil ?_
           refine hKM6 _ _ _ (by rfl) (by rfl) ?_
           exact ⟨b0, b1, bp, _, _, _, rfl, hs.perm⟩
          refine t_alt ?_ t_none
          refine h_ex rfl (r_alloc rfl zr68 hs) rfl rfl (fun _ => by rfl) ?_
          intro bp w hs
          refine ⟨trivial, ?_⟩
          refine h_nil (t_alt ?_ t_none)
          refine h_ex rfl (r_lit valC [_, _] rfl rfl rfl hs Try.underlying64 (by kernel_rfl) sz58 rfl (by decide) (fun _ => rfl)) rfl rfl (fun _ => by rfl) ?_
          intro sc w hs
          refine ⟨trivial, ?_⟩
          refine h_nil (t_take ?_)
          refine hVal rfl (fun w hS => (r_build rfl rfl pl68 zr68 (by rfl))) ?_
          refine h_nil (t_alt ?_ t_none)
          refine h_exS rfl (r_storeA rfl rfl rfl hs (by (repeat (first | exact Cut.head _ _ | apply Cut.tail)); done) in68 sz68 rfl (fun h => by cases h) rfl (by rfl)) rfl rfl ?_
          intro w hs
          refine ⟨trivial, ?_⟩
          refine h_nil (t_done ?_)
          refine d_tail 10 (by kernel_rfl) ?_
          refine s_nil ?_
          refine hKM6 _ _ _ (by rfl) (by rfl) ?_
          exact ⟨b0, b1, bp, _, _, _, rfl, hs.perm⟩
         refine t_alt ?_ t_none
         refine h_ex rfl (r_alloc rfl zr68 hs) rfl rfl (fun _ => by rfl) ?_
         intro bp w hs
         refine ⟨trivial, ?_⟩
         refine h_nil (t_alt ?_ ?_)
         ·
          refine h_ex rfl (r_lit valC [_, _] rfl rfl rfl hs Try.underlying64 (by kernel_rfl) sz58 rfl (by decide) (fun _ => rfl)) rfl rfl (fun _ => by rfl) ?_
          intro sc w hs
          refine ⟨trivial, ?_⟩
          refine h_nil (t_alt ?_ t_none)
          refine h_ex rfl (r_mk valC (.slice none 0 0) 2 2 rfl rfl rfl hs (rfl) (rfl) (by first | decide | omega) (by first | decide | omega) Try.underlying66 (by rfl) sz71 (by decide) (by decide) rfl) rfl rfl (fun _ => by rfl) ?_
          intro st w hs
          refine ⟨trivial, ?_⟩
          refine h_nil (t_take ?_)
          refine hVal rfl (fun w hS => (r_build rfl rfl pl68 zr68 (by rfl))) ?_
          refine h_nil (t_alt ?_ t_none)
          refine h_exS rfl (r_storeA rfl rfl rfl hs (by (repeat (first | exact Cut.head _ _ | apply Cut.tail)); done) in68 sz68 rfl (fun h => by cases h) rfl (by rfl)) rfl rfl ?_
          intro w hs
          refine ⟨trivial, ?_⟩
          refine h_nil (t_done ?_)
          refine d_tail 10 (by kernel_rfl) ?_
          refine s_nil ?_
          refine hKM6 _ _ _ (by rfl) (by rfl) ?_
          exact ⟨b0, b1, bp, _, _, _, rfl, hs.perm⟩
         refine t_alt ?_ t_none
         refine h_ex rfl (r_mk valC (.slice none 0 0) 2 2 rfl rfl rfl hs (rfl) (rfl) (by first | decide | omega) (by first | decide | omega) Try.underlying66 (by rfl) sz71 (by decide) (by decide) rfl) rfl rfl (fun _ => by rfl) ?_
         intro st w hs
         refine ⟨trivial, ?_⟩
         refine h_nil (t_alt ?_ t_none)
         refine h_ex rfl (r_lit valC [_, _] rfl rfl rfl hs Try.underlying64 (by kernel_rfl) sz58 rfl (by decide) (fun _ => rfl)) rfl rfl (fun _ => by rfl) ?_
         intro sc w hs
         refine ⟨trivial, ?_⟩
         refine h_nil (t_take ?_)
         refine hVal rfl (fun w hS => (r_build rfl rfl pl68 zr68 (by rfl))) ?_
         refine h_nil (t_alt ?_ t_none)
         refine h_exS rfl (r_storeA rfl rfl rfl hs (by (repeat (first | exact Cut.head _ _ | apply Cut.tail)); done) in68 sz68 rfl (fun h => by cases h) rfl (by rfl)) rfl rfl ?_
         intro w hs
         refine ⟨trivial, ?_⟩
         refine h_nil (t_done ?_)
         refine d_tail 10 (by kernel_rfl) ?_
         refine s_nil ?_
         refine hKM6 _ _ _ (by rfl) (by rfl) ?_
         exact ⟨b0, b1, bp, _, _, _, rfl, hs.perm⟩
        refine t_alt ?_ ?_
        ·
         refine h_ex rfl (r_mk valC (.slice none 0 0) 2 2 rfl rfl rfl hs (rfl) (rfl) (by first | decide | omega) (by first | decide | omega) Try.underlying66 (by rfl) sz71 (by decide) (by decide) rfl) rfl rfl (fun _ => by rfl) ?_
         intro st w hs
         refine ⟨trivial, ?_⟩
         refine h_nil (t_alt ?_ ?_)
         ·
          refine h_ex rfl (r_lit valC [_, _] rfl rfl rfl hs Try.underlying64 (by kernel_rfl) sz58 rfl (by decide) (fun _ => rfl)) rfl rfl (fun _ => by rfl) ?_
          intro sc w hs
          refine ⟨trivial, ?_⟩
          refine h_nil (t_alt ?_ ?_)
          ·
           refine h_ex rfl (r_mk valC (.slice none 0 0) 2 2 rfl rfl rfl hs (rfl) (rfl) (by first | decide | omega) (by first | decide | omega) Try.underlying65 (by rfl) sz72 (by decide) (by decide) rfl) rfl rfl (fun _ => by rfl) ?_
           intro sw w hs
           refine ⟨trivial, ?_⟩
           refine h_nil (t_take ?_)
           refine hVal rfl (fun w hS => (r_build rfl rfl pl68 zr68 (by rfl))) ?_
           refine h_nil (t_alt ?_ t_none)
           refine h_ex rfl (r_alloc rfl zr68 hs) rfl rfl (fun _ => by rfl) ?_
           intro bp w hs
           refine ⟨trivial, ?_⟩
           refine h_nil (t_alt ?_ t_none)
           refine h_exS rfl (r_storeA rfl rfl rfl hs (by (repeat (first | exact Cut.head _ _ | apply Cut.tail)); done) in68 sz68 rfl (fun h => by cases h) rfl (by rfl)) rfl rfl ?_
           intro w hs
           refine ⟨trivial, ?_⟩
           refine h_nil (t_done ?_)
           refine d_tail 10 (by kernel_rfl) ?_
           refine s_nil ?_
           refine hKM6 _ _ _ (by rfl) (by rfl) ?_
           exact ⟨b0, b1, bp, _, _, _, rfl, hs.perm⟩
          refine t_alt ?_ t_none
          refine h_ex rfl (r_alloc rfl zr68 hs) rfl rfl (fun _ => by rfl) ?_
          intro bp w hs
          refine ⟨trivial, ?_⟩
          refine h_nil (t_alt ?_ t_none)
          refine h_ex rfl (r_mk valC (.slice none 0 0) 2 2 rfl rfl rfl hs (rfl) (rfl) (by first | decide | omega) (by first | decide | omega) Try.underlying65 (by rfl) sz72 (by decide) (by decide) rfl) rfl rfl (fun _ => by rfl) ?_
          intro sw w hs
          refine ⟨trivial, ?_⟩
          refine h_nil (t_take ?_)
          refine hVal rfl (fun w hS => (r_build rfl rfl pl68 zr68 (by rfl))) ?_
          refine h_nil (t_alt ?_ t_none)
          refine h_exS rfl (r_storeA rfl rfl rfl hs (by (repeat (first | exact Cut.head _ _ | apply Cut.tail)); done) in68 sz68 rfl (fun h => by cases h) rfl (by rfl)) rfl rfl ?_
          intro w hs
          refine ⟨trivial, ?_⟩
          refine h_nil (t_done ?_)
          refine d_tail 10 (by kernel_rfl) ?_
          refine s_nil ?_
          refine hKM6 _ _ _ (by rfl) (by rfl) ?_
          exact ⟨b0, b1, bp, _, _, _, rfl, hs.perm⟩
         refine t_alt ?_ ?_
         ·
          refine h_ex rfl (r_mk valC (.slice none 0 0) 2 2 rfl rfl rfl hs (rfl) (rfl) (by first | decide | omega) (by first | decide | omega) Try.underlying65 (by rfl) sz72 (by decide) (by decide) rfl) rfl rfl (fun _ => by rfl) ?_
          intro sw w hs
          refine ⟨trivial, ?_⟩
          refine h_nil (t_alt ?_ ?_)
          ·
           refine h_ex rfl (r_lit valC [_, _] rfl rfl rfl hs Try.underlying64 (by kernel_rfl) sz58 rfl (by decide) (fun _ => rfl)) rfl rfl (fun _ => by rfl) ?_
           intro sc w hs
           refine ⟨trivial, ?_⟩
           refine h_nil (t_take ?_)
           refine hVal rfl (fun w hS => (r_build rfl rfl pl68 zr68 (by rfl))) ?_
           refine h_nil (t_alt ?_ t_none)
           refine h_ex rfl (r_alloc rfl zr68 hs) rfl rfl (fun _ => by rfl) ?_
           intro bp w hs
           refine ⟨trivial, ?_⟩
           refine h_nil (t_alt ?_ t_none)
           refine h_exS rfl (r_storeA rfl rfl rfl hs (by (repeat (first | exact Cut.head _ _ | apply Cut.tail)); done) in68 sz68 rfl (fun h => by cases h) rfl (by rfl)) rfl rfl ?_
           intro w hs
           refine ⟨trivial, ?_⟩
           refine h_nil (t_done ?_)
           refine d_tail 10 (by kernel_rfl) ?_
           refine s_nil ?_
           refine hKM6 _ _ _ (by rfl) (by rfl) ?_
           exact ⟨b0, b1, bp, _, _, _, rfl, hs.perm⟩
          refine t_alt ?_ t_none
          refine h_ex rfl (r_alloc rfl zr68 hs) rfl rfl (fun _ => by rfl) ?_
          intro bp w hs
          refine ⟨trivial, ?_⟩
          refine h_nil (t_alt ?_ t_none)
          refine h_ex rfl (r_lit valC [_, _] rfl rfl rfl hs Try.underlying64 (by kernel_rfl) sz58 rfl (by decide) (fun _ => rfl)) rfl rfl (fun _ => by rfl) ?_
          intro sc w hs
          refine ⟨trivial, ?_⟩
          refine h_nil (t_take ?_)
          refine hVal rfl (fun w hS => (r_build rfl rfl pl68 zr68 (by rfl))) ?_
          refine h_nil (t_alt ?_ t_none)
          refine h_exS rfl (r_storeA rfl rfl rfl hs (by (repeat (first | exact Cut.head _ _ | apply Cut.tail)); done) in68 sz68 rfl (fun h => by cases h) rfl (by rfl)) rfl rfl ?_
          intro w hs
          refine ⟨trivial, ?_⟩
          refine h_nil (t_done ?_)
          refine d_tail 10 (by kernel_rfl) ?_
          refine s_nil ?_
          refine hKM6 _ _ _ (by rfl) (by rfl) ?_
          exact ⟨b0, b1, bp, _, _, _, rfl, hs.perm⟩
         refine t_alt ?_ t_none
         refine h_ex rfl (r_alloc rfl zr68 hs) rfl rfl (fun _ => by rfl) ?_
         intro bp w hs
         refine ⟨trivial, ?_⟩
         refine h_nil (t_alt ?_ ?_)
         ·
          refine h_ex rfl (r_lit valC [_, _] rfl rfl rfl hs Try.underlying64 (by kernel_rfl) sz58 rfl (by decide) (fun _ => rfl)) rfl rfl (fun _ => by rfl) ?_
          intro sc w hs
          refine ⟨trivial, ?_⟩
          refine h_nil (t_alt ?_ t_none)
          refine h_ex rfl (r_mk valC (.slice none 0 0) 2 2 rfl rfl rfl hs (rfl) (rfl) (by first | decide | omega) (by first | decide | omega) Try.underlying65 (by rfl) sz72 (by decide) (by decide) rfl) rfl rfl (fun _ => by rfl) ?_
          intro sw w hs
          refine ⟨trivial, ?_⟩
          refine h_nil (t_take ?_)
          refine hVal rfl (fun w hS => (r_build rfl rfl pl68 zr68 (by rfl))) ?_
          refine h_nil (t_alt ?_ t_none)
          refine h_exS rfl (r_storeA rfl rfl rfl hs (by (repeat (first | exact Cut.head _ _ | apply Cut.tail)); done) in68 sz68 rfl (fun h => by cases h) rfl (by rfl)) rfl rfl ?_
          intro w hs
          refine ⟨trivial, ?_⟩
          refine h_nil (t_done ?_)
          refine d_tail 10 (by kernel_rfl) ?_
          refine s_nil ?_
          refine hKM6 _ _ _ (by rfl) (by rfl) ?_
          exact ⟨b0, b1, bp, _, _, _, rfl, hs.perm⟩
         refine t_alt ?_ t_none
         refine h_ex rfl (r_mk valC (.slice none 0 0) 2 2 rfl rfl rfl hs (rfl) (rfl) (by first | decide | omega) (by first | decide | omega) Try.underlying65 (by rfl) sz72 (by decide) (by decide) rfl) rfl rfl (fun _ => by rfl) ?_
         intro sw w hs
         refine ⟨trivial, ?_⟩
         refine h_nil (t_alt ?_ t_none)
         refine h_ex rfl (r_lit valC [_, _] rfl rfl rfl hs Try.underlying64 (by kernel_rfl) sz58 rfl (by decide) (fun _ => rfl)) rfl rfl (fun _ => by rfl) ?_
         intro sc w hs
         refine ⟨trivial, ?_⟩
         refine h_nil (t_take ?_)
         refine hVal rfl (fun w hS => (r_build rfl rfl pl68 zr68 (by rfl))) ?_
         refine h_nil (t_alt ?_ t_none)
         refine h_exS rfl (r_storeA rfl rfl rfl hs (by (repeat (first | exact Cut.head _ _ | apply Cut.tail)); done) in68 sz68 rfl (fun h => by cases h) rfl (by rfl)) rfl rfl ?_
         intro w hs
         refine ⟨trivial, ?_⟩
         refine h_nil (t_done ?_)
         refine d_tail 10 (by kernel_rfl) ?_
         refine s_nil ?_
         refine hKM6 _ _ _ (by rfl) (by rfl) ?_
         exact ⟨b0, b1, bp, _, _, _, rfl, hs.perm⟩
        refine t_alt ?_ t_none
        refine h_ex rfl (r_alloc rfl zr68 hs) rfl rfl (fun _ => by rfl) ?_
        intro bp w hs
        refine ⟨trivial, ?_⟩
        refine h_nil (t_alt ?_ ?_)
        ·
         refine h_ex rfl (r_lit valC [_, _] rfl rfl rfl hs Try.underlying64 (by kernel_rfl) sz58 rfl (by decide) (fun _ => rfl)) rfl rfl (fun _ => by rfl) ?_
         intro sc w hs
         refine ⟨trivial, ?_⟩
         refine h_nil (t_alt ?_ ?_)
         ·
          refine h_ex rfl (r_mk valC (.slice none 0 0) 2 2 rfl rfl rfl hs (rfl) (rfl) (by first | decide | omega) (by first | decide | omega) Try.underlying65 (by rfl) sz72 (by decide) (by decide) rfl) rfl rfl (fun _ => by rfl) ?_
          intro sw w hs
          refine ⟨trivial, ?_⟩
          refine h_nil (t_alt ?_ t_none)
          refine h_ex rfl (r_mk valC (.slice none 0 0) 2 2 rfl rfl rfl hs (rfl) (rfl) (by first | decide | omega) (by first | decide | omega) Try.underlying66 (by rfl) sz71 (by decide) (by decide) rfl) rfl rfl (fun _ => by rfl) ?_
          intro st w hs
          refine ⟨trivial, ?_⟩
          refine h_nil (t_take ?_)
          refine hVal rfl (fun w hS => (r_build rfl rfl pl68 zr68 (by rfl))) ?_
          refine h_nil (t_alt ?_ t_none)
          refine h_exS rfl (r_storeA rfl rfl rfl hs (by (repeat (first | exact Cut.head _ _ | apply Cut.tail)); done) in68 sz68 rfl (fun h => by cases h) rfl (by rfl)) rfl rfl ?_
          intro w hs
          refine ⟨trivial, ?_⟩
          refine h_nil (t_done ?_)
          refine d_tail 10 (by kernel_rfl) ?_
          refine s_nil ?_
          refine hKM6 _ _ _ (by rfl) (by rfl) ?_
          exact ⟨b0, b1, bp, _, _, _, rfl, hs.perm⟩
         refine t_alt ?_ t_none
         refine h_ex rfl (r_mk valC (.slice none 0 0) 2 2 rfl rfl rfl hs (rfl) (rfl) (by first | decide | omega) (by first | decide | omega) Try.underlying66 (by rfl) sz71 (by decide) (by decide) rfl) rfl rfl (fun _ => by rfl) ?_
         intro st w hs
         refine ⟨trivial, ?_⟩
         refine h_nil (t_alt ?_ t_none)
         refine h_ex rfl (r_mk valC (.slice none 0 0) 2 2 rfl rfl rfl hs (rfl) (rfl) (by first | decide | omega) (by first | decide | omega) Try.underlying65 (by rfl) sz72 (by decide) (by decide) rfl) rfl rfl (fun _ => by rfl) ?_
         intro sw w hs
         refine ⟨trivial, ?_⟩
         refine h_nil (t_take ?_)
         refine hVal rfl (fun w hS => (r_build rfl rfl pl68 zr68 (by rfl))) ?_
         refine h_nil (t_alt ?_ t_none)
         refine h_exS rfl (r_storeA rfl rfl rfl hs (by (repeat (first | exact Cut.head _ _ | apply Cut.tail)); done) in68 sz68 rfl (fun h => by cases h) rfl (by rfl)) rfl rfl ?_
         intro w hs
         refine ⟨trivial, ?_⟩
         refine h_nil (t_done ?_)
         refine d_tail 10 (by kernel_rfl) ?_
         refine s_nil ?_
         refine hKM6 _ _ _ (by rfl) (by rfl) ?_
         exact ⟨b0, b1, bp, _, _, _, rfl, hs.perm⟩
        refine t_alt ?_ ?_
        ·
         refine h_ex rfl (r_mk valC (.slice none 0 0) 2 2 rfl rfl rfl hs (rfl) (rfl) (by first | decide | omega) (by first | decide | omega) Try.underlying65 (by rfl) sz72 (by decide) (by decide) rfl) rfl rfl (fun _ => by rfl) ?_
         intro sw w hs
         refine ⟨trivial, ?_⟩
         refine h_nil (t_alt ?_ ?_)
         ·
          refine h_ex rfl (r_lit valC [_, _] rfl rfl rfl hs Try.underlying64 (by kernel_rfl) sz58 rfl (by decide) (fun _ => rfl)) rfl rfl (fun _ => by rfl) ?_
          intro sc w hs
          refine ⟨trivial, ?_⟩
          refine h_nil (t_alt ?_ t_none)
          refine h_ex rfl (r_mk valC (.slice none 0 0) 2 2 rfl rfl rfl hs (rfl) (rfl) (by first | decide | omega) (by first | decide | omega) Try.underlying66 (by rfl) sz71 (by decide) (by decide) rfl) rfl rfl (fun _ => by rfl) ?_
          intro st w hs
          refine ⟨trivial, ?_⟩
          refine h_nil (t_take ?_)
          refine hVal rfl (fun w hS => (r_build rfl rfl pl68 zr68 (by rfl))) ?_
          refine h_nil (t_alt ?_ t_none)
          refine h_exS rfl (r_storeA rfl rfl rfl hs (by (repeat (first | exact Cut.head _ _ | apply Cut.tail)); done) in68 sz68 rfl (fun h => by cases h) rfl (by rfl)) rfl rfl ?_
          intro w hs
          refine ⟨trivial, ?_⟩
          refine h_nil (t_done ?_)
          refine d_tail 10 (by kernel_rfl) ?_
          refine s_nil ?_
          refine hKM6 _ _ _ (by rfl) (by rfl) ?_
          exact ⟨b0, b1, bp, _, _, _, rfl, hs.perm⟩
         refine t_alt ?_ t_none
         refine h_ex rfl (r_mk valC (.slice none 0 0) 2 2 rfl rfl rfl hs (rfl) (rfl) (by first | decide | omega) (by first | decide | omega) Try.underlying66 (by rfl) sz71 (by decide) (by decide) rfl) rfl rfl (fun _ => by rfl) ?_
         intro st w hs
         refine ⟨trivial, ?_⟩
         refine h_nil (t_alt ?_ t_none)
         refine h_ex rfl (r_lit valC [_, _] rfl rfl rfl hs Try.underlying64 (by kernel_rfl) sz58 rfl (by decide) (fun _ => rfl)) rfl rfl (fun _ => by rfl) ?_
         intro sc w hs
         refine ⟨trivial, ?_⟩
         refine h_nil (t_take ?_)
         refine hVal rfl (fun w hS => (r_build rfl rfl pl68 zr68 (by rfl))) ?_
         refine h_nil (t_alt ?_ t_none)
         refine h_exS rfl (r_storeA rfl rfl rfl hs (by (repeat (first | exact Cut.head _ _ | apply Cut.tail)); done) in68 sz68 rfl (fun h => by cases h) rfl (by rfl)) rfl rfl ?_
         intro w hs
         refine ⟨trivial, ?_⟩
         refine h_nil (t_done ?_)
         refine d_tail 10 (by kernel_rfl) ?_
         refine s_nil ?_
         refine hKM6 _ _ _ (by rfl) (by rfl) ?_
         exact ⟨b0, b1, bp, _, _, _, rfl, hs.perm⟩
        refine t_alt ?_ t_none
        refine h_ex rfl (r_mk valC (.slice none 0 0) 2 2 rfl rfl rfl hs (rfl) (rfl) (by first | decide | omega) (by first | decide | omega) Try.underlying66 (by rfl) sz71 (by decide) (by decide) rfl) rfl rfl (fun _ => by rfl) ?_
        intro st w hs
        refine ⟨trivial, ?_⟩
        refine h_nil (t_alt ?_ ?_)
        ·
         refine h_ex rfl (r_lit valC [_, _] rfl rfl rfl hs Try.underlying64 (by kernel_rfl) sz58 rfl (by decide) (fun _ => rfl)) rfl rfl (fun _ => by rfl) ?_
         intro sc w hs
         refine ⟨trivial, ?_⟩
         refine h_nil (t_alt ?_ t_none)
         refine h_ex rfl (r_mk valC (.slice none 0 0) 2 2 rfl rfl rfl hs (rfl) (rfl) (by first | decide | omega) (by first | decide | omega) Try.underlying65 (by rfl) sz72 (by decide) (by decide) rfl) rfl rfl (fun _ => by rfl) ?_
         intro sw w hs
         refine ⟨trivial, ?_⟩
         refine h_nil (t_take ?_)
         refine hVal rfl (fun w hS => (r_build rfl rfl pl68 zr68 (by rfl))) ?_
         refine h_nil (t_alt ?_ t_none)
         refine h_exS rfl (r_storeA rfl rfl rfl hs (by (repeat (first | exact Cut.head _ _ | apply Cut.tail)); done) in68 sz68 rfl (fun h => by cases h) rfl (by rfl)) rfl rfl ?_
         intro w hs
         refine ⟨trivial, ?_⟩
         refine h_nil (t_done ?_)
         refine d_tail 10 (by kernel_rfl) ?_
         refine s_nil ?_
         refine hKM6 _ _ _ (by rfl) (by rfl) ?_
         exact ⟨b0, b1, bp, _, _, _, rfl, hs.perm⟩
        refine t_alt ?_ t_none
        refine h_ex rfl (r_mk valC (.slice none 0 0) 2 2 rfl rfl rfl hs (rfl) (rfl) (by first | decide | omega) (by first | decide | omega) Try.underlying65 (by rfl) sz72 (by decide) (by decide) rfl) rfl rfl (fun _ => by rfl) ?_
        intro sw w hs
        refine ⟨trivial, ?_⟩
        refine h_nil (t_alt ?_ t_none)
        refine h_ex rfl (r_lit valC [_, _] rfl rfl rfl hs Try.underlying64 (by kernel_rfl) sz58 rfl (by decide) (fun _ => rfl)) rfl rfl (fun _ => by rfl) ?_
        intro sc w hs
        refine ⟨trivial, ?_⟩
        refine h_nil (t_take ?_)
        refine hVal rfl (fun w hS => (r_build rfl rfl pl68 zr68 (by rfl))) ?_
        refine h_nil (t_alt ?_ t_none)
        refine h_exS rfl (r_storeA rfl rfl rfl hs (by (repeat (first | exact Cut.head _ _ | apply Cut.tail)); done) in68 sz68 rfl (fun h => by cases h) rfl (by rfl)) rfl rfl ?_
        intro w hs
        refine ⟨trivial, ?_⟩
        refine h_nil (t_done ?_)
        refine d_tail 10 (by kernel_rfl) ?_
        refine s_nil ?_
        refine hKM6 _ _ _ (by rfl) (by rfl) ?_
        exact ⟨b0, b1, bp, _, _, _, rfl, hs.perm⟩
       refine t_alt ?_ ?_
       ·
        refine h_ex rfl (r_mk valC (.slice none 0 0) 2 2 rfl rfl rfl hs (rfl) (rfl) (by first | decide | omega) (by first | decide | omega) Try.underlying65 (by rfl) sz72 (by decide) (by decide) rfl) rfl rfl (fun _ => by rfl) ?_
        intro sw w hs
        refine ⟨trivial, ?_⟩
        refine h_nil (t_alt ?_ ?_)
        ·
         refine h_enter rfl (r_call rfl ent31 rfl) rfl ?_
         refine new_use _ _ hs ?_
         intro b1 w hs
         refine ⟨_, rfl, ah_put trivial (by rfl) ?_⟩
         refine h_nil (t_alt ?_ ?_)
         ·
          refine h_ex rfl (r_lit valC [_, _] rfl rfl rfl hs Try.underlying64 (by kernel_rfl) sz58 rfl (by decide) (fun _ => rfl)) rfl rfl (fun _ => by rfl) ?_
          intro sc w hs
          refine ⟨trivial, ?_⟩
          refine h_nil (t_alt ?_ ?_)
          ·
           refine h_ex rfl (r_mk valC (.slice none 0 0) 2 2 rfl rfl rfl hs (rfl) (rfl) (by first | decide | omega) (by first | decide | omega) Try.underlying66 (by rfl) sz71 (by decide) (by decide) rfl) rfl rfl (fun _ => by rfl) ?_
           intro st w hs
           refine ⟨trivial, ?_⟩
           refine h_nil (t_take ?_)
           refine hVal rfl (fun w hS => (r_build rfl rfl pl68 zr68 (by rfl))) ?_
           refine h_nil (t_alt ?_ t_none)
           refine h_ex rfl (r_alloc rfl zr68 hs) rfl rfl (fun _ => by rfl) ?_
           intro bp w hs
           refine ⟨trivial, ?_⟩
           refine h_nil (t_alt ?_ t_none)
           refine h_exS rfl (r_storeA rfl rfl rfl hs (by (repeat (first | exact Cut.head _ _ | apply Cut.tail)); done) in68 sz68 rfl (fun h => by cases h) rfl (by rfl)) rfl rfl ?_
           intro w hs
           refine ⟨trivial, ?_⟩
           refine h_nil (t_done ?_)
           refine d_tail 10 (by kernel_rfl) ?_
           refine s_nil ?_
           refine hKM6 _ _ _ (by rfl) (by rfl) ?_
           exact ⟨b0, b1, bp, _, _, _, rfl, hs.perm⟩
          refine t_alt ?_ t_none
          refine h_ex rfl (r_alloc rfl zr68 hs) rfl rfl (fun _ => by rfl) ?_
          intro bp w hs
          refine ⟨trivial, ?_⟩
          refine h_nil (t_alt ?_ t_none)
          refine h_ex rfl (r_mk valC (.slice none 0 0) 2 2 rfl rfl rfl hs (rfl) (rfl) (by first | decide | omega) (by first | decide | omega) Try.underlying66 (by rfl) sz71 (by decide) (by decide) rfl) rfl rfl (fun _ => by rfl) ?_
          intro st w hs
          refine ⟨trivial, ?_⟩
          refine h_nil (t_take ?_)
          refine hVal rfl (fun w hS => (r_build rfl rfl pl68 zr68 (by rfl))) ?_
          refine h_nil (t_alt ?_ t_none)
          refine h_exS rfl (r_storeA rfl rfl rfl hs (by (repeat (first | exact Cut.head _ _ | apply Cut.tail)); done) in68 sz68 rfl (fun h => by cases h) rfl (by rfl)) rfl rfl ?_
          intro w hs
          refine ⟨trivial, ?_⟩
          refine h_nil (t_done ?_)
          refine d_tail 10 (by kernel_rfl) ?_
          refine s_nil ?_
          refine hKM6 _ _ _ (by rfl) (by rfl) ?_
          exact ⟨b0, b1, bp, _, _, _, rfl, hs.perm⟩
         refine t_alt ?_ ?_
         ·
          refine h_ex rfl (r_mk valC (.slice none 0 0) 2 2 rfl rfl rfl hs (rfl) (rfl) (by first | decide | omega) (by first | decide | omega) Try.underlying66 (by rfl) sz71 (by decide) (by decide) rfl) rfl rfl (fun _ => by rfl) ?_
          intro st w hs
          refine ⟨trivial, ?_⟩
          refine h_nil (t_alt ?_ ?_)
          ·
           refine h_ex rfl (r_lit valC [_, _] rfl rfl rfl hs Try.underlying64 (by kernel_rfl) sz58 rfl (by decide) (fun _ => rfl)) rfl rfl (fun _ => by rfl) ?_
           intro sc w hs
           refine ⟨trivial, ?_⟩
           refine h_nil (t_take ?_)
           refine hVal rfl (fun w hS => (r_build rfl rfl pl68 zr68 (by rfl))) ?_
           refine h_nil (t_alt ?_ t_none)
           refine h_ex rfl (r_alloc rfl zr68 hs) rfl rfl (fun _ => by rfl) ?_
           intro bp w hs
           refine ⟨trivial, ?_⟩
           refine h_nil (t_alt ?_ t_none)
           refine h_exS rfl (r_storeA rfl rfl rfl hs (by (repeat (first | exact Cut.head _ _ | apply Cut.tail)); done) in68 sz68 rfl (fun h => by cases h) rfl (by rfl)) rfl rfl ?_
           intro w hs
           refine ⟨trivial, ?_⟩
           refine h_nil (t_done ?_)
           refine d_tail 10 (by kernel_rfl) ?_
           refine s_nil ?_
           refine hKM6 _ _ _ (by rfl) (by rfl) ?_
           exact ⟨b0, b1, bp, _, _, _, rfl, hs.perm⟩
          refine t_alt ?_ t_none
          refine h_ex rfl (r_alloc rfl zr68 hs) rfl rfl (fun _ => by rfl) ?_
          intro bp w hs
          refine ⟨trivial, ?_⟩
          refine h_nil (t_alt ?_ t_none)
          refine h_ex rfl (r_lit valC [_, _] rfl rfl rfl hs Try.underlying64 (by kernel_rfl) sz58 rfl (by decide) (fun _ => rfl)) rfl rfl (fun _ => by rfl) ?_
          intro sc w hs
          refine ⟨trivial, ?_⟩
          refine h_nil (t_take ?_)
          refine hVal rfl (fun w hS => (r_build rfl rfl pl68 zr68 (by rfl))) ?_
          refine h_nil (t_alt ?_ t_none)
          refine h_exS rfl (r_storeA rfl rfl rfl hs (by (repeat (first | exact Cut.head _ _ | apply Cut.tail)); done) in68 sz68 rfl (fun h => by cases h) rfl (by rfl)) rfl rfl ?_
          intro w hs
          refine ⟨trivial, ?_⟩
          refine h_nil (t_done ?_)
          refine d_tail 10 (by kernel_rfl) ?_
          refine s_nil ?_
          refine hKM6 _ _ _ (by rfl) (by rfl) ?_
          exact ⟨b0, b1, bp, _, _, _, rfl, hs.perm⟩
         refine t_alt ?_ t_none
         refine h_ex rfl (r_alloc rfl zr68 hs) rfl rfl (fun _ => by rfl) ?_
         intro bp w hs
         refine ⟨trivial, ?_⟩
         refine h_nil (t_alt ?_ ?_)
         ·
          refine h_ex rfl (r_lit valC [_, _] rfl rfl rfl hs Try.underlying64 (by kernel_rfl) sz58 rfl (by decide) (fun _ => rfl)) rfl rfl (fun _ => by rfl) ?_
          intro sc w hs
          refine ⟨trivial, ?_⟩
          refine h_nil (t_alt ?_ t_none)
          refine h_ex rfl (r_mk valC (.slice none 0 0) 2 2 rfl rfl rfl hs (rfl) (rfl) (by first | decide | omega) (by first | decide | omega) Try.underlying66 (by rfl) sz71 (by decide) (by decide) rfl) rfl rfl (fun _ => by rfl) ?_
          intro st w hs
          refine ⟨trivial, ?_⟩
          refine h_nil (t_take ?_)
          refine hVal rfl (fun w hS => (r_build rfl rfl pl68 zr68 (by rfl))) ?_
          refine h_nil (t_alt ?_ t_none)
          refine h_exS rfl (r_storeA rfl rfl rfl hs (by (repeat (first | exact Cut.head _ _ | apply Cut.tail)); done) in68 sz68 rfl (fun h => by cases h) rfl (by rfl)) rfl rfl ?_
          intro w hs
          refine ⟨trivial, ?_⟩
          refine h_nil (t_done ?_)
          refine d_tail 10 (by kernel_rfl) ?_
          refine s_nil ?_
          refine hKM6 _ _ _ (by rfl) (by rfl) ?_
          exact ⟨b0, b1, bp, _, _, _, rfl, hs.perm⟩
         refine t_alt ?_ t_none
         refine h_ex rfl (r_mk valC (.slice none 0 0) 2 2 rfl rfl rfl hs (rfl) (rfl) (by first | decide | omega) (by first | decide | omega) Try.underlying66 (by rfl) sz71 (by decide) (by decide) rfl) rfl rfl (fun _ => by rfl) ?_
         intro st w hs
         refine ⟨trivial, ?_⟩
         refine h_nil (t_alt ?_ t_none)
         refine h_ex rfl (r_lit valC [_, _] rfl rfl rfl hs Try.underlying64 (by kernel_rfl) sz58 rfl (by decide) (fun _ => rfl)) rfl rfl (fun _ => by rfl) ?_
         intro sc w hs
         refine ⟨trivial, ?_⟩
         refine h_nil (t_take ?_)
         refine hVal rfl (fun w hS => (r_build rfl rfl pl68 zr68 (by rfl))) ?_
         refine h_nil (t_alt ?_ t_none)
         refine h_exS rfl (r_storeA rfl rfl rfl hs (by (repeat (first | exact Cut.head _ _ | apply Cut.tail)); done) in68 sz68 rfl (fun h => by cases h) rfl (by rfl)) rfl rfl ?_
         intro w hs
         refine ⟨trivial, ?_⟩
         refine h_nil (t_done ?_)
         refine d_tail 10 (by kernel_rfl) ?_
         refine s_nil ?_
         refine hKM6 _ _ _ (by rfl) (by rfl) ?_
         exact ⟨b0, b1, bp, _, _, _, rfl, hs.perm⟩
        refine t_alt ?_ ?_
        ·
         refine h_ex rfl (r_mk valC (.slice none 0 0) 2 2 rfl rfl rfl hs (rfl) (rfl) (by first | decide | omega) (by first | decide | omega) Try.underlying66 (by rfl) sz71 (by decide) (by decide) rfl) rfl rfl (fun _ => by rfl) ?_
         intro st w hs
         refine ⟨trivial, ?_⟩
         refine h_nil (t_alt ?_ ?_)
         ·
          refine h_enter rfl (r_call rfl ent31 rfl) rfl ?_
          refine new_use _ _ hs ?_
          intro b1 w hs
          refine ⟨_, rfl, ah_put trivial (by rfl) ?_⟩
          refine h_nil (t_alt ?_ ?_)
          ·
           refine h_ex rfl (r_lit valC [_, _] rfl rfl rfl hs Try.underlying64 (by kernel_rfl) sz58 rfl (by decide) (fun _ => rfl)) rfl rfl (fun _ => by rfl) ?_
           intro sc w hs
           refine ⟨trivial, ?_⟩
           refine h_nil (t_take ?_)
           refine hVal rfl (fun w hS => (r_build rfl rfl pl68 zr68 (by rfl))) ?_
           refine h_nil (t_alt ?_ t_none)
           refine h_ex rfl (r_alloc rfl zr68 hs) rfl rfl (fun _ => by rfl) ?_
           intro bp w hs
           refine ⟨trivial, ?_⟩
           refine h_nil (t_alt ?_ t_none)
           refine h_exS rfl (r_storeA rfl rfl rfl hs (by (repeat (first | exact Cut.head _ _ | apply Cut.tail)); done) in68 sz68 rfl (fun h => by cases h) rfl (by rfl)) rfl rfl ?_
           intro w hs
           refine ⟨trivial, ?_⟩
           refine h_nil (t_done ?_)
           refine d_tail 10 (by kernel_rfl) ?_
           refine s_nil ?_
           refine hKM6 _ _ _ (by rfl) (by rfl) ?_
           exact ⟨b0, b1, bp, _, _, _, rfl, hs.perm⟩
          refine t_alt ?_ t_none
          refine h_ex rfl (r_alloc rfl zr68 hs) rfl rfl (fun _ => by rfl) ?_
          intro bp w hs
          refine ⟨trivial, ?_⟩
          refine h_nil (t_alt ?_ t_none)
          refine h_ex rfl (r_lit valC [_, _] rfl rfl rfl hs Try.underlying64 (by kernel_rfl) sz58 rfl (by decide) (fun _ => rfl)) rfl rfl (fun _ => by rfl) ?_
          intro sc w hs
          refine ⟨trivial, ?_⟩
          refine h_nil (t_take ?_)
          refine hVal rfl (fun w hS => (r_build rfl rfl pl68 zr68 (by rfl))) ?_
          refine h_nil (t_alt ?_ t_none)
          refine h_exS rfl (r_storeA rfl rfl rfl hs (by (repeat (first | exact Cut.head _ _ | apply Cut.tail)); done) in68 sz68 rfl (fun h => by cases h) rfl (by rfl)) rfl rfl ?_
          intro w hs
          refine ⟨trivial, ?_⟩
          refine h_nil (t_done ?_)
          refine d_tail 10 (by kernel_rfl) ?_
          refine s_nil ?_
          refine hKM6 _ _ _ (by rfl) (by rfl) ?_
          exact ⟨b0, b1, bp, _, _, _, rfl, hs.perm⟩
         refine t_alt ?_ t_none
         refine h_ex rfl (r_alloc rfl zr68 hs) rfl rfl (fun _ => by rfl) ?_
         intro bp w hs
         refine ⟨trivial, ?_⟩
         refine h_nil (t_alt ?_ t_none)
         refine h_enter rfl (r_call rfl ent31 rfl) rfl ?_
         refine new_use _ _ hs ?_
         intro b1 w hs
         refine ⟨_, rfl, ah_put trivial (by rfl) ?_⟩
         refine h_nil (t_alt ?_ t_none)
         refine h_ex rfl (r_lit valC [_, _] rfl rfl rfl hs Try.underlying64 (by kernel_rfl) sz58 rfl (by decide) (fun _ => rfl)) rfl rfl (fun _ => by rfl) ?_
         intro sc w hs
         refine ⟨trivial, ?_⟩
         refine h_nil (t_take ?_)
         refine hVal rfl (fun w hS => (r_build rfl rfl pl68 zr68 (by rfl))) ?_
         refine h_nil (t_alt ?_ t_none)
         refine h_exS rfl (r_storeA rfl rfl rfl hs (by (repeat (first | exact Cut.head _ _ | apply Cut.tail)); done) in68 sz68 rfl (fun h => by cases h) rfl (by rfl)) rfl rfl ?_
         intro w hs
         refine ⟨trivial, ?_⟩
         refine h_nil (t_done ?_)
         refine d_tail 10 (by kernel_rfl) ?_
         refine s_nil ?_
         refine hKM6 _ _ _ (by rfl) (by rfl) ?_
         exact ⟨b0, b1, bp, _, _, _, rfl, hs.perm⟩
        refine t_alt ?_ t_none
        refine h_ex rfl (r_alloc rfl zr68 hs) rfl rfl (fun _ => by rfl) ?_
        intro bp w hs
        refine ⟨trivial, ?_⟩
        refine h_nil (t_alt ?_ ?_)
        ·
         refine h_enter rfl (r_call rfl ent31 rfl) rfl ?_
         refine new_use _ _ hs ?_
         intro b1 w hs
         refine ⟨_, rfl, ah_put trivial (by rfl) ?_⟩
         refine h_nil (t_alt ?_ ?_)
         ·
          refine h_ex rfl (r_lit valC [_, _] rfl rfl rfl hs Try.underlying64 (by kernel_rfl) sz58 rfl (by decide) (fun _ => rfl)) rfl rfl (fun _ => by rfl) ?_
          intro sc w hs
          refine ⟨trivial, ?_⟩
          refine h_nil (t_alt ?_ t_none)
          refine h_ex rfl (r_mk valC (.slice none 0 0) 2 2 rfl rfl rfl hs (rfl) (rfl) (by first | decide | omega) (by first | decide | omega) Try.underlying66 (by rfl) sz71 (by decide) (by decide) rfl) rfl rfl (fun _ => by rfl) ?_
          intro st w hs
          refine ⟨trivial, ?_⟩
          refine h_nil (t_take ?_)
          refine hVal rfl (fun w hS => (r_build rfl rfl pl68 zr68 (by rfl))) ?_
          refine h_nil (t_alt ?_ t_none)
          refine h_exS rfl (r_storeA rfl rfl rfl hs (by (repeat (first | exact Cut.head _ _ | apply Cut.tail)); done) in68 sz68 rfl (fun h => by cases h) rfl (by rfl)) rfl rfl ?_
          intro w hs
          refine ⟨trivial, ?_⟩
          refine h_nil (t_done ?_)
          refine d_tail 10 (by kernel_rfl) ?_
          refine s_nil ?_
          refine hKM6 _ _ _ (by rfl) (by rfl) ?_
          exact ⟨b0, b1, bp, _, _, _, rfl, hs.perm⟩
         refine t_alt ?_ t_none
         refine h_ex rfl (r_mk valC (.slice none 0 0) 2 2 rfl rfl rfl hs (rfl) (rfl) (by first | decide | omega) (by first | decide | omega) Try.underlying66 (by rfl) sz71 (by decide) (by decide) rfl) rfl rfl (fun _ => by rfl) ?_
         intro st w hs
         refine ⟨trivial, ?_⟩
         refine h_nil (t_alt ?_ t_none)
         refine h_ex rfl (r_lit valC [_, _] rfl rfl rfl hs Try.underlying64 (by kernel_rfl) sz58 rfl (by decide) (fun _ => rfl)) rfl rfl (fun _ => by rfl) ?_
         intro sc w hs
         refine ⟨trivial, ?_⟩
         refine h_nil (t_take ?_)
         refine hVal rfl (fun w hS => (r_build rfl rfl pl68 zr68 (by rfl))) ?_
         refine h_nil (t_alt ?_ t_none)
         refine h_exS rfl (r_storeA rfl rfl rfl hs (by (repeat (first | exact Cut.head _ _ | apply Cut.tail)); done) in68 sz68 rfl (fun h => by cases h) rfl (by rfl)) rfl rfl ?_
         intro w hs
         refine ⟨trivial, ?_⟩
         refine h_nil (t_done ?_)
         refine d_tail 10 (by kernel_rfl) ?_
         refine s_nil ?_
         refine hKM6 _ _ _ (by rfl) (by rfl) ?_
         exact ⟨b0, b1, bp, _, _, _, rfl, hs.perm⟩
        refine t_alt ?_ t_none
        refine h_ex rfl (r_mk valC (.slice none 0 0) 2 2 rfl rfl rfl hs (rfl) (rfl) (by first | decide | omega) (by first | decide | omega) Try.underlying66 (by rfl) sz71 (by decide) (by decide) rfl) rfl rfl (fun _ => by rfl) ?_
        intro st w hs
        refine ⟨trivial, ?_⟩
        refine h_nil (t_alt ?_ t_none)
        refine h_enter rfl (r_call rfl ent31 rfl) rfl ?_
        refine new_use _ _ hs ?_
        intro b1 w hs
        refine ⟨_, rfl, ah_put trivial (by rfl) ?_⟩
        refine h_nil (t_alt ?_ t_none)
        refine h_ex rfl (r_lit valC [_, _] rfl rfl rfl hs Try.underlying64 (by kernel_rfl) sz58 rfl (by decide) (fun _ => rfl)) rfl rfl (fun _ => by rfl) ?_
        intro sc w hs
        refine ⟨trivial, ?_⟩
        refine h_nil (t_take ?_)
        refine hVal rfl (fun w hS => (r_build rfl rfl pl68 zr68 (by rfl))) ?_
        refine h_nil (t_alt ?_ t_none)
        refine h_exS rfl (r_storeA rfl rfl rfl hs (by (repeat (first | exact Cut.head _ _ | apply Cut.tail)); done) in68 sz68 rfl (fun h => by cases h) rfl (by rfl)) rfl rfl ?_
        intro w hs
        refine ⟨trivial, ?_⟩
        refine h_nil (t_done ?_)
        refine d_tail 10 (by kernel_rfl) ?_
        refine s_nil ?_
        refine hKM6 _ _ _ (by rfl) (by rfl) ?_
        exact ⟨b0, b1, bp, _, _, _, rfl, hs.perm⟩
       refine t_alt ?_ ?_
       ·
        refine h_ex rfl (r_mk valC (.slice none 0 0) 2 2 rfl rfl rfl hs (rfl) (rfl) (by first | decide | omega) (by first | decide | omega) Try.underlying66 (by rfl) sz71 (by decide) (by decide) rfl) rfl rfl (fun _ => by rfl) ?_
        intro st w hs
        refine ⟨trivial, ?_⟩
        refine h_nil (t_alt ?_ ?_)
        ·
         refine h_enter rfl (r_call rfl ent31 rfl) rfl ?_
         refine new_use _ _ hs ?_
         intro b1 w hs
         refine ⟨_, rfl, ah_put trivial (by rfl) ?_⟩
         refine h_nil (t_alt ?_ ?_)
         ·
          refine h_ex rfl (r_lit valC [_, _] rfl rfl rfl hs Try.underlying64 (by kernel_rfl) sz58 rfl (by decide) (fun _ => rfl)) rfl rfl (fun _ => by rfl) ?_
          intro sc w hs
          refine ⟨trivial, ?_⟩
          refine h_nil (t_alt ?_ ?_)
          ·
           refine h_ex rfl (r_mk valC (.slice none 0 0) 2 2 rfl rfl rfl hs (rfl) (rfl) (by first | decide | omega) (by first | decide | omega) Try.underlying65 (by rfl) sz72 (by decide) (by decide) rfl) rfl rfl (fun _ => by rfl) ?_
           intro sw w hs
           refine ⟨trivial, ?_⟩
           refine h_nil (t_take ?_)
           refine hVal rfl (fun w hS => (r_build rfl rfl pl68 zr68 (by rfl))) ?_
           refine h_nil (t_alt ?_ t_none)
           refine h_ex rfl (r_alloc rfl zr68 hs) rfl rfl (fun _ => by rfl) ?_
           intro bp w hs
           refine ⟨trivial, ?_⟩
           refine h_nil (t_alt ?_ t_none)
           refine h_exS rfl (r_storeA rfl rfl rfl hs (by (repeat (first | exact Cut.head _ _ | apply Cut.tail)); done) in68 sz68 rfl (fun h => by cases h) rfl (by rfl)) rfl rfl ?_
           intro w hs
           refine ⟨trivial, ?_⟩
           refine h_nil (t_done ?_)
           refine d_tail 10 (by kernel_rfl) ?_
           refine s_nil ?_
           refine hKM6 _ _ _ (by rfl) (by rfl) ?_
           exact ⟨b0, b1, bp, _, _, _, rfl, hs.perm⟩
          refine t_alt ?_ t_none
          refine h_ex rfl (r_alloc rfl zr68 hs) rfl rfl (fun _ => by rfl) ?_
          intro bp w hs
          refine ⟨trivial, ?_⟩
          refine h_nil (t_alt ?_ t_none)
          refine h_ex rfl (r_mk valC (.slice none 0 0) 2 2 rfl rfl rfl hs (rfl) (rfl) (by first | decide | omega) (by first | decide | omega) Try.underlying65 (by rfl) sz72 (by decide) (by decide) rfl) rfl rfl (fun _ => by rfl) ?_
          intro sw w hs
          refine ⟨trivial, ?_⟩
          refine h_nil (t_take ?_)
          refine hVal rfl (fun w hS => (r_build rfl rfl pl68 zr68 (by rfl))) ?_
          refine h_nil (t_alt ?_ t_none)
          refine h_exS rfl (r_storeA rfl rfl rfl hs (by (repeat (first | exact Cut.head _ _ | apply Cut.tail)); done) in68 sz68 rfl (fun h => by cases h) rfl (by rfl)) rfl rfl ?_
          intro w hs
          refine ⟨trivial, ?_⟩
          refine h_nil (t_done ?_)
          refine d_tail 10 (by kernel_rfl) ?_
          refine s_nil ?_
          refine hKM6 _ _ _ (by rfl) (by rfl) ?_
          exact ⟨b0, b1, bp, _, _, _, rfl, hs.perm⟩
         refine t_alt ?_ ?_
         ·
          refine h_ex rfl (r_mk valC (.slice none 0 0) 2 2 rfl rfl rfl hs (rfl) (rfl) (by first | decide | omega) (by first | decide | omega) Try.underlying65 (by rfl) sz72 (by decide) (by decide) rfl) rfl rfl (fun _ => by rfl) ?_
          intro sw w hs
          refine ⟨trivial, ?_⟩
          refine h_nil (t_alt ?_ ?_)
          ·
           refine h_ex rfl (r_lit valC [_, _] rfl rfl rfl hs Try.underlying64 (by kernel_rfl) sz58 rfl (by decide) (fun _ => rfl)) rfl rfl (fun _ => by rfl) ?_
           intro sc w hs
           refine ⟨trivial, ?_⟩
           refine h_nil (t_take ?_)
           refine hVal rfl (fun w hS => (r_build rfl rfl pl68 zr68 (by rfl))) ?_
           refine h_nil (t_alt ?_ t_none)
           refine h_ex rfl (r_alloc rfl zr68 hs) rfl rfl (fun _ => by rfl) ?_
           intro bp w hs
           refine ⟨trivial, ?_⟩
           refine h_nil (t_alt ?_ t_none)
           refine h_exS rfl (r_storeA rfl rfl rfl hs (by (repeat (first | exact Cut.head _ _ | apply Cut.tail)); done) in68 sz68 rfl (fun h => by cases h) rfl (by rfl)) rfl rfl ?_
           intro w hs
           refine ⟨trivial, ?_⟩
           refine h_nil (t_done ?_)
           refine d_tail 10 (by kernel_rfl) ?_
           refine s_nil ?_
           refine hKM6 _ _ _ (by rfl) (by rfl) ?_
           exact ⟨b0, b1, bp, _, _, _, rfl, hs.perm⟩
          refine t_alt ?_ t_none
          refine h_ex rfl (r_alloc rfl zr68 hs) rfl rfl (fun _ => by rfl) ?_
          intro bp w hs
          refine ⟨trivial, ?_⟩
          refine h_nil (t_alt ?_ t_none)
          refine h_ex rfl (r_lit valC [_, _] rfl rfl rfl hs Try.underlying64 (by kernel_rfl) sz58 rfl (by decide) (fun _ => rfl)) rfl rfl (fun _ => by rfl) ?_
          intro sc w hs
          refine ⟨trivial, ?_⟩
          refine h_nil (t_take ?_)
          refine hVal rfl (fun w hS => (r_build rfl rfl pl68 zr68 (by rfl))) ?_
          refine h_nil (t_alt ?_ t_none)
          refine h_exS rfl (r_storeA rfl rfl rfl hs (by (repeat (first | exact Cut.head _ _ | apply Cut.tail)); done) in68 sz68 rfl (fun h => by cases h) rfl (by rfl)) rfl rfl ?_
          intro w hs
          refine ⟨trivial, ?_⟩
          refine h_nil (t_done ?_)
          refine d_tail 10 (by kernel_rfl) ?_
          refine s_nil ?_
          refine hKM6 _ _ _ (by rfl) (by rfl) ?_
          exact ⟨b0, b1, bp, _, _, _, rfl, hs.perm⟩
         refine t_alt ?_ t_none
         refine h_ex rfl (r_alloc rfl zr68 hs) rfl rfl (fun _ => by rfl) ?_
         intro bp w hs
         refine ⟨trivial, ?_⟩
         refine h_nil (t_alt ?_ ?_)
         ·
          refine h_ex rfl (r_lit valC [_, _] rfl rfl rfl hs Try.underlying64 (by kernel_rfl) sz58 rfl (by decide) (fun _ => rfl)) rfl rfl (fun _ => by rfl) ?_
          intro sc w hs
          refine ⟨trivial, ?_⟩
          refine h_nil (t_alt ?_ t_none)
          refine h_ex rfl (r_mk valC (.slice none 0 0) 2 2 rfl rfl rfl hs (rfl) (rfl) (by first | decide | omega) (by first | decide | omega) Try.underlying65 (by rfl) sz72 (by decide) (by decide) rfl) rfl rfl (fun _ => by rfl) ?_
          intro sw w hs
          refine ⟨trivial, ?_⟩
          refine h_nil (t_take ?_)
          refine hVal rfl (fun w hS => (r_build rfl rfl pl68 zr68 (by rfl))) ?_
          refine h_nil (t_alt ?_ t_none)
          refine h_exS rfl (r_storeA rfl rfl rfl hs (by (repeat (first | exact Cut.head _ _ | apply Cut.tail)); done) in68 sz68 rfl (fun h => by cases h) rfl (by rfl)) rfl rfl ?_
          intro w hs
          refine ⟨trivial, ?_⟩
          refine h_nil (t_done ?_)
          refine d_tail 10 (by kernel_rfl) ?_
          refine s_nil ?_
          refine hKM6 _ _ _ (by rfl) (by rfl) ?_
          exact ⟨b0, b1, bp, _, _, _, rfl, hs.perm⟩
         refine t_alt ?_ t_none
         refine h_ex rfl (r_mk valC (.slice none 0 0) 2 2 rfl rfl rfl hs (rfl) (rfl) (by first | decide | omega) (by first | decide | omega) Try.underlying65 (by rfl) sz72 (by decide) (by decide) rfl) rfl rfl (fun _ => by rfl) ?_
         intro sw w hs
         refine ⟨trivial, ?_⟩
         refine h_nil (t_alt ?_ t_none)
         refine h_ex rfl (r_lit valC [_, _] rfl rfl rfl hs Try.underlying64 (by kernel_rfl) sz58 rfl (by decide) (fun _ => rfl)) rfl rfl (fun _ => by rfl) ?_
         intro sc w hs
         refine ⟨trivial, ?_⟩
         refine h_nil (t_take ?_)
         refine hVal rfl (fun w hS => (r_build rfl rfl pl68 zr68 (by rfl))) ?_
         refine h_nil (t_alt ?_ t_none)
         refine h_exS rfl (r_storeA rfl rfl rfl hs (by (repeat (first | exact Cut.head _ _ | apply Cut.tail)); done) in68 sz68 rfl (fun h => by cases h) rfl (by rfl)) rfl rfl ?_
         intro w hs
         refine ⟨trivial, ?_⟩
         refine h_nil (t_done ?_)
         refine d_tail 10 (by kernel_rfl) ?_
         refine s_nil ?_
         refine hKM6 _ _ _ (by rfl) (by rfl) ?_
         exact ⟨b0, b1, bp, _, _, _, rfl, hs.perm⟩
        refine t_alt ?_ ?_
        ·
         refine h_ex rfl (r_mk valC (.slice none 0 0) 2 2 rfl rfl rfl hs (rfl) (rfl) (by first | decide | omega) (by first | decide | omega) Try.underlying65 (by rfl) sz72 (by decide) (by decide) rfl) rfl rfl (fun _ => by rfl) ?_
         intro sw w hs
         refine ⟨trivial, ?_⟩
         refine h_nil (t_alt ?_ ?_)
         ·
          refine h_enter rfl (r_call rfl ent31 rfl) rfl ?_
          refine new_use _ _ hs ?_
          intro b1 w hs
          refine ⟨_, rfl, ah_put trivial (by rfl) ?_⟩
          refine h_nil (t_alt ?_ ?_)
          ·
           refine h_ex rfl (r_lit valC [_, _] rfl rfl rfl hs Try.underlying64 (by kernel_rfl) sz58 rfl (by decide) (fun _ => rfl)) rfl rfl (fun _ => by rfl) ?_
           intro sc w hs
           refine ⟨trivial, ?_⟩
           refine h_nil (t_take ?_)
           refine hVal rfl (fun w hS => (r_build rfl rfl pl68 zr68 (by rfl))) ?_
           refine h_nil (t_alt ?_ t_none)
           refine h_ex rfl (r_alloc rfl zr68 hs) rfl rfl (fun _ => by rfl) ?_
           intro bp w hs
           refine ⟨trivial, ?_⟩
           refine h_nil (t_alt ?_ t_none)
           refine h_exS rfl (r_storeA rfl rfl rfl hs (by (repeat (first | exact Cut.head _ _ | apply Cut.tail)); done) in68 sz68 rfl (fun h => by cases h) rfl (by rfl)) rfl rfl ?_
           intro w hs
           refine ⟨trivial, ?_⟩
           refine h_nil (t_done ?_)
           refine d_tail 10 (by kernel_rfl) ?_
           refine s_nil ?_
           refine hKM6 _ _ _ (by rfl) (by rfl) ?_
           exact ⟨b0, b1, bp, _, _, _, rfl, hs.perm⟩
          refine t_alt ?_ t_none
          refine h_ex rfl (r_alloc rfl zr68 hs) rfl rfl (fun _ => by rfl) ?_
          intro bp w hs
          refine ⟨trivial, ?_⟩
          refine h_nil (t_alt ?_ t_none)
          refine h_ex rfl (r_lit valC [_, _] rfl rfl rfl hs Try.underlying64 (by kernel_rfl) sz58 rfl (by decide) (fun _ => rfl)) rfl rfl (fun _ => by rfl) ?_
          intro sc w hs
          refine ⟨trivial, ?_⟩
          refine h_nil (t_take ?_)
          refine hVal rfl (fun w hS => (r_build rfl rfl pl68 zr68 (by rfl))) ?_
          refine h_nil (t_alt ?_ t_none)
          refine h_exS rfl (r_storeA rfl rfl rfl hs (by (repeat (first | exact Cut.head _ _ | apply Cut.tail)); done) in68 sz68 rfl (fun h => by cases h) rfl (by rfl)) rfl rfl ?_
          intro w hs
          refine ⟨trivial, ?_⟩
          refine h_nil (t_done ?_)
          refine d_tail 10 (by kernel_rfl) ?_
          refine s_nil ?_
          refine hKM6 _ _ _ (by rfl) (by rfl) ?_
          exact ⟨b0, b1, bp, _, _, _, rfl, hs.perm⟩
         refine t_alt ?_ t_none
         refine h_ex rfl (r_alloc rfl zr68 hs) rfl rfl (fun _ => by rfl) ?_
         intro bp w hs
         refine ⟨trivial, ?_⟩
         refine h_nil (t_alt ?_ t_none)
         refine h_enter rfl (r_call rfl ent31 rfl) rfl ?_
         refine new_use _ _ hs ?_
         intro b1 w hs
         refine ⟨_, rfl, ah_put trivial (by rfl) ?_⟩
         refine h_nil (t_alt ?_ t_none)
         refine h_ex rfl (r_lit valC [_, _] rfl rfl rfl hs Try.underlying64 (by kernel_rfl) sz58 rfl (by decide) (fun _ => rfl)) rfl rfl (fun _ => by rfl) ?_
         intro sc w hs
         refine ⟨trivial, ?_⟩
         refine h_nil (t_take ?_)
         refine hVal rfl (fun w hS => (r_build rfl rfl pl68 zr68 (by rfl))) ?_
         refine h_nil (t_alt ?_ t_none)
         refine h_exS rfl (r_storeA rfl rfl rfl hs (by (repeat (first | exact Cut.head _ _ | apply Cut.tail)); done) in68 sz68 rfl (fun h => by cases h) rfl (by rfl)) rfl rfl ?_
         intro w hs
         refine ⟨trivial, ?_⟩
         refine h_nil (t_done ?_)
         refine d_tail 10 (by kernel_rfl) ?_
         refine s_nil ?_
         refine hKM6 _ _ _ (by rfl) (by rfl) ?_
         exact ⟨b0, b1, bp, _, _, _, rfl, hs.perm⟩
        refine t_alt ?_ t_none
        refine h_ex rfl (r_alloc rfl zr68 hs) rfl rfl (fun _ => by rfl) ?_
        intro bp w hs
        refine ⟨trivial, ?_⟩
        refine h_nil (t_alt ?_ ?_)
        ·
         refine h_enter rfl (r_call rfl ent31 rfl) rfl ?_
         refine new_use _ _ hs ?_
         intro b1 w hs
         refine ⟨_, rfl, ah_put trivial (by rfl) ?_⟩
         refine h_nil (t_alt ?_ ?_)
         ·
          refine h_ex rfl (r_lit valC [_, _] rfl rfl rfl hs Try.underlying64 (by kernel_rfl) sz58 rfl (by decide) (fun _ => rfl)) rfl rfl (fun _ => by rfl) ?_
          intro sc w hs
          refine ⟨trivial, ?_⟩
          refine h_nil (t_alt ?_ t_none)
          refine h_ex rfl (r_mk valC (.slice none 0 0) 2 2 rfl rfl rfl hs (rfl) (rfl) (by first | decide | omega) (by first | decide | omega) Try.underlying65 (by rfl) sz72 (by decide) (by decide) rfl) rfl rfl (fun _ => by rfl) ?_
          intro sw w hs
          refine ⟨trivial, ?_⟩
          refine h_nil (t_take ?_)
          refine hVal rfl (fun w hS => (r_build rfl rfl pl68 zr68 (by rfl))) ?_
          refine h_nil (t_alt ?_ t_none)
          refine h_exS rfl (r_storeA rfl rfl rfl hs (by (repeat (first | exact Cut.head _ _ | apply Cut.tail)); done) in68 sz68 rfl (fun h => by cases h) rfl (by rfl)) rfl rfl ?_
          intro w hs
          refine ⟨trivial, ?_⟩
          refine h_nil (t_done ?_)
          refine d_tail 10 (by kernel_rfl) ?_
          refine s_nil ?_
          refine hKM6 _ _ _ (by rfl) (by rfl) ?_
          exact ⟨b0, b1, bp, _, _, _, rfl, hs.perm⟩
         refine t_alt ?_ t_none
         refine h_ex rfl (r_mk valC (.slice none 0 0) 2 2 rfl rfl rfl hs (rfl) (rfl) (by first | decide | omega) (by first | decide | omega) Try.underlying65 (by rfl) sz72 (by decide) (by decide) rfl) rfl rfl (fun _ => by rfl) ?_
         intro sw w hs
         refine ⟨trivial, ?_⟩
         refine h_nil (t_alt ?_ t_none)
         refine h_ex rfl (r_lit valC [_, _] rfl rfl rfl hs Try.underlying64 (by kernel_rfl) sz58 rfl (by decide) (fun _ => rfl)) rfl rfl (fun _ => by rfl) ?_
         intro sc w hs
         refine ⟨trivial, ?_⟩
         refine h_nil (t_take ?_)
         refine hVal rfl (fun w hS => (r_build rfl rfl pl68 zr68 (by rfl))) ?_
         refine h_nil (t_alt ?_ t_none)
         refine h_exS rfl (r_storeA rfl rfl rfl hs (by (repeat (first | exact Cut.head _ _ | apply Cut.tail)); done) in68 sz68 rfl (fun h => by cases h) rfl (by rfl)) rfl rfl ?_
         intro w hs
         refine ⟨trivial, ?_⟩
         refine h_nil (t_done ?_)
         refine d_tail 10 (by kernel_rfl) ?_
         refine s_nil ?_
         refine hKM6 _ _ _ (by rfl) (by rfl) ?_
         exact ⟨b0, b1, bp, _, _, _, rfl, hs.perm⟩
        refine t_alt ?_ t_none
        refine h_ex rfl (r_mk valC (.slice none 0 0) 2 2 rfl rfl rfl hs (rfl) (rfl) (by first | decide | omega) (by first | decide | omega) Try.underlying65 (by rfl) sz72 (by decide) (by decide) rfl) rfl rfl (fun _ => by rfl) ?_
        intro sw w hs
        refine ⟨trivial, ?_⟩
        refine h_nil (t_alt ?_ t_none)
        refine h_enter rfl (r_call rfl ent31 rfl) rfl ?_
        refine new_use _ _ hs ?_
        intro b1 w hs
        refine ⟨_, rfl, ah_put trivial (by rfl) ?_⟩
        refine h_nil (t_alt ?_ t_none)
        refine h_ex rfl (r_lit valC [_, _] rfl rfl rfl hs Try.underlying64 (by kernel_rfl) sz58 rfl (by decide) (fun _ => rfl)) rfl rfl (fun _ => by rfl) ?_
        intro sc w hs
        refine ⟨trivial, ?_⟩
        refine h_nil (t_take ?_)
        refine hVal rfl (fun w hS => (r_build rfl rfl pl68 zr68 (by rfl))) ?_
        refine h_nil (t_alt ?_ t_none)
        refine h_exS rfl (r_storeA rfl rfl rfl hs (by (repeat (first | exact Cut.head _ _ | apply Cut.tail)); done) in68 sz68 rfl (fun h => by cases h) rfl (by rfl)) rfl rfl ?_
        intro w hs
        refine ⟨trivial, ?_⟩
        refine h_nil (t_done ?_)
        refine d_tail 10 (by kernel_rfl) ?_
        refine s_nil ?_
        refine hKM6 _ _ _ (by rfl) (by rfl) ?_
        exact ⟨b0, b1, bp, _, _, _, rfl, hs.perm⟩
       refine t_alt ?_ t_none
       refine h_ex rfl (r_alloc rfl zr68 hs) rfl rfl (fun _ => by rfl) ?_
       intro bp w hs
       refine ⟨trivial, ?_⟩
       refine h_nil (t_alt ?_ ?_)
       ·
        refine h_enter rfl (r_call rfl ent31 rfl) rfl ?_
        refine new_use _ _ hs ?_
        intro b1 w hs
        refine ⟨_, rfl, ah_put trivial (by rfl) ?_⟩
        refine h_nil (t_alt ?_ ?_)
        ·
         refine h_ex rfl (r_lit valC [_, _] rfl rfl rfl hs Try.underlying64 (by kernel_rfl) sz58 rfl (by decide) (fun _ => rfl)) rfl rfl (fun _ => by rfl) ?_
         intro sc w hs
         refine ⟨trivial, ?_⟩
         refine h_nil (t_alt ?_ ?_)
         ·
          refine h_ex rfl (r_mk valC (.slice none 0 0) 2 2 rfl rfl rfl hs (rfl) (rfl) (by first | decide | omega) (by first | decide | omega) Try.underlying65 (by rfl) sz72 (by decide) (by decide) rfl) rfl rfl (fun _ => by rfl) ?_
          intro sw w hs
          refine ⟨trivial, ?_⟩
          refine h_nil (t_alt ?_ t_none)
          refine h_ex rfl (r_mk valC (.slice none 0 0) 2 2 rfl rfl rfl hs (rfl) (rfl) (by first | decide | omega) (by first | decide | omega) Try.underlying66 (by rfl) sz71 (by decide) (by decide) rfl) rfl rfl (fun _ => by rfl) ?_
          intro st w hs
          refine ⟨trivial, ?_⟩
          refine h_nil (t_take ?_)
          refine hVal rfl (fun w hS => (r_build rfl rfl pl68 zr68 (by rfl))) ?_
          refine h_nil (t_alt ?_ t_none)
          refine h_exS rfl (r_storeA rfl rfl rfl hs (by (repeat (first | exact Cut.head _ _ | apply Cut.tail)); done) in68 sz68 rfl (fun h => by cases h) rfl (by rfl)) rfl rfl ?_
          intro w hs
          refine ⟨trivial, ?_⟩
          refine h_nil (t_done ?_)
          refine d_tail 10 (by kernel_rfl) ?_
          refine s_nil ?_
          refine hKM6 _ _ _ (by rfl) (by rfl) ?_
          exact ⟨b0, b1, bp, _, _, _, rfl, hs.perm⟩
         refine t_alt ?_ t_none
         refine h_ex rfl (r_mk valC (.slice none 0 0) 2 2 rfl rfl rfl hs (rfl) (rfl) (by first | decide | omega) (by first | decide | omega) Try.underlying66 (by rfl) sz71 (by decide) (by decide) rfl) rfl rfl (fun _ => by rfl) ?_
         intro st w hs
         refine ⟨trivial, ?_⟩
         refine h_nil (t_alt ?_ t_none)
         refine h_ex rfl (r_mk valC (.slice none 0 0) 2 2 rfl rfl rfl hs (rfl) (rfl) (by first | decide | omega) (by first | decide | omega) Try.underlying65 (by rfl) sz72 (by decide) (by decide) rfl) rfl rfl (fun _ => by rfl) ?_
         intro sw w hs
         refine ⟨trivial, ?_⟩
         refine h_nil (t_take ?_)
         refine hVal rfl (fun w hS => (r_build rfl rfl pl68 zr68 (by rfl))) ?_
         refine h_nil (t_alt ?_ t_none)
         refine h_exS rfl (r_storeA rfl rfl rfl hs (by (repeat (first | exact Cut.head _ _ | apply Cut.tail)); done) in68 sz68 rfl (fun h => by cases h) rfl (by rfl)) rfl rfl ?_
         intro w hs
         refine ⟨trivial, ?_⟩
         refine h_nil (t_done ?_)
         refine d_tail 10 (by kernel_rfl) ?_
         refine s_nil ?_
         refine hKM6 _ _ _ (by rfl) (by rfl) ?_
         exact ⟨b0, b1, bp, _, _, _, rfl, hs.perm⟩
        refine t_alt ?_ ?_
        ·
         refine h_ex rfl (r_mk valC (.slice none 0 0) 2 2 rfl rfl rfl hs (rfl) (rfl) (by first | decide | omega) (by first | decide | omega) Try.underlying65 (by rfl) sz72 (by decide) (by decide) rfl) rfl rfl (fun _ => by rfl) ?_
         intro sw w hs
         refine ⟨trivial, ?_⟩
         refine h_nil (t_alt ?_ ?_)
         ·
          refine h_ex rfl (r_lit valC [_, _] rfl rfl rfl hs Try.underlying64 (by kernel_rfl) sz58 rfl (by decide) (fun _ => rfl)) rfl rfl (fun _ => by rfl) ?_
          intro sc w hs
          refine ⟨trivial, ?_⟩
          refine h_nil (t_alt ?_ t_none)
          refine h_ex rfl (r_mk valC (.slice none 0 0) 2 2 rfl rfl rfl hs (rfl) (rfl) (by first | decide | omega) (by first | decide | omega) Try.underlying66 (by rfl) sz71 (by decide) (by decide) rfl) rfl rfl (fun _ => by rfl) ?_
          intro st w hs
          refine ⟨trivial, ?_⟩
          refine h_nil (t_take ?_)
          refine hVal rfl (fun w hS => (r_build rfl rfl pl68 zr68 (by rfl))) ?_
          refine h_nil (t_alt ?_ t_none)
          refine h_exS rfl (r_storeA rfl rfl rfl hs (by (repeat (first | exact Cut.head _ _ | apply Cut.tail)); done) in68 sz68 rfl (fun h => by cases h) rfl (by rfl)) rfl rfl ?_
          intro w hs
          refine ⟨trivial, ?_⟩
          refine h_nil (t_done ?_)
          refine d_tail 10 (by kernel_rfl) ?_
          refine s_nil ?_
          refine hKM6 _ _ _ (by rfl) (by rfl) ?_
          exact ⟨b0, b1, bp, _, _, _, rfl, hs.perm⟩
         refine t_alt ?_ t_none
         refine h_ex rfl (r_mk valC (.slice none 0 0) 2 2 rfl rfl rfl hs (rfl) (rfl) (by first | decide | omega) (by first | decide | omega) Try.underlying66 (by rfl) sz71 (by decide) (by decide) rfl) rfl rfl (fun _ => by rfl) ?_
         intro st w hs
         refine ⟨trivial, ?_⟩
         refine h_nil (t_alt ?_ t_none)
         refine h_ex rfl (r_lit valC [_, _] rfl rfl rfl hs Try.underlying64 (by kernel_rfl) sz58 rfl (by decide) (fun _ => rfl)) rfl rfl (fun _ => by rfl) ?_
         intro sc w hs
         refine ⟨trivial, ?_⟩
         refine h_nil (t_take ?_)
         refine hVal rfl (fun w hS => (r_build rfl rfl pl68 zr68 (by rfl))) ?_
         refine h_nil (t_alt ?_ t_none)
         refine h_exS rfl (r_storeA rfl rfl rfl hs (by (repeat (first | exact Cut.head _ _ | apply Cut.tail)); done) in68 sz68 rfl (fun h => by cases h) rfl (by rfl)) rfl rfl ?_
         intro w hs
         refine ⟨trivial, ?_⟩
         refine h_nil (t_done ?_)
         refine d_tail 10 (by kernel_rfl) ?_
         refine s_nil ?_
         refine hKM6 _ _ _ (by rfl) (by rfl) ?_
         exact ⟨b0, b1, bp, _, _, _, rfl, hs.perm⟩
        refine t_alt ?_ t_none
        refine h_ex rfl (r_mk valC (.slice none 0 0) 2 2 rfl rfl rfl hs (rfl) (rfl) (by first | decide | omega) (by first | decide | omega) Try.underlying66 (by rfl) sz71 (by decide) (by decide) rfl) rfl rfl (fun _ => by rfl) ?_
        intro st w hs
        refine ⟨trivial, ?_⟩
        refine h_nil (t_alt ?_ ?_)
        ·
         refine h_ex rfl (r_lit valC [_, _] rfl rfl rfl hs Try.underlying64 (by kernel_rfl) sz58 rfl (by decide) (fun _ => rfl)) rfl rfl (fun _ => by rfl) ?_
         intro sc w hs
         refine ⟨trivial, ?_⟩
         refine h_nil (t_alt ?_ t_none)
         refine h_ex rfl (r_mk valC (.slice none 0 0) 2 2 rfl rfl rfl hs (rfl) (rfl) (by first | decide | omega) (by first | decide | omega) Try.underlying65 (by rfl) sz72 (by decide) (by decide) rfl) rfl rfl (fun _ => by rfl) ?_
         intro sw w hs
         refine ⟨trivial, ?_⟩
         refine h_nil (t_take ?_)
         refine hVal rfl (fun w hS => (r_build rfl rfl pl68 zr68 (by rfl))) ?_
         refine h_nil (t_alt ?_ t_none)
         refine h_exS rfl (r_storeA rfl rfl rfl hs (by (repeat (first | exact Cut.head _ _ | apply Cut.tail)); done) in68 sz68 rfl (fun h => by cases h) rfl (by rfl)) rfl rfl ?_
         intro w hs
         refine ⟨trivial, ?_⟩
         refine h_nil (t_done ?_)
         refine d_tail 10 (by kernel_rfl) ?_
         refine s_nil ?_
         refine hKM6 _ _ _ (by rfl) (by rfl) ?_
         exact ⟨b0, b1, bp, _, _, _, rfl, hs.perm⟩
        refine t_alt ?_ t_none
        refine h_ex rfl (r_mk valC (.slice none 0 0) 2 2 rfl rfl rfl hs (rfl) (rfl) (by first | decide | omega) (by first | decide | omega) Try.underlying65 (by rfl) sz72 (by decide) (by decide) rfl) rfl rfl (fun _ => by rfl) ?_
        intro sw w hs
        refine ⟨trivial, ?_⟩
        refine h_nil (t_alt ?_ t_none)
        refine h_ex rfl (r_lit valC [_, _] rfl rfl rfl hs Try.underlying64 (by kernel_rfl) sz58 rfl (by decide) (fun _ => rfl)) rfl rfl (fun _ => by rfl) ?_
        intro sc w hs
        refine ⟨trivial, ?_⟩
        refine h_nil (t_take ?_)
        refine hVal rfl (fun w hS => (r_build rfl rfl pl68 zr68 (by rfl))) ?_
        refine h_nil (t_alt ?_ t_none)
        refine h_exS rfl (r_storeA rfl rfl rfl hs (by (repeat (first | exact Cut.head _ _ | apply Cut.tail)); done) in68 sz68 rfl (fun h => by cases h) rfl (by rfl)) rfl rfl ?_
        intro w hs
        refine ⟨trivial, ?_⟩
        refine h_nil (t_done ?_)
        refine d_tail 10 (by kernel_rfl) ?_
        refine s_nil ?_
        refine hKM6 _ _ _ (by rfl) (by rfl) ?_
        exact ⟨b0, b1, bp, _, _, _, rfl, hs.perm⟩
       refine t_alt ?_ ?_
       ·
        refine h_ex rfl (r_mk valC (.slice none 0 0) 2 2 rfl rfl rfl hs (rfl) (rfl) (by first | decide | omega) (by first | decide | omega) Try.underlying65 (by rfl) sz72 (by decide) (by decide) rfl) rfl rfl (fun _ => by rfl) ?_
        intro sw w hs
        refine ⟨trivial, ?_⟩
        refine h_nil (t_alt ?_ ?_)
        ·
         refine h_enter rfl (r_call rfl ent31 rfl) rfl ?_
         refine new_use _ _ hs ?_
         intro b1 w hs
         refine ⟨_, rfl, ah_put trivial (by rfl) ?_⟩
         refine h_nil (t_alt ?_ ?_)
         ·
          refine h_ex rfl (r_lit valC [_, _] rfl rfl rfl hs Try.underlying64 (by kernel_rfl) sz58 rfl (by decide) (fun _ => rfl)) rfl rfl (fun _ => by rfl) ?_
          intro sc w hs
          refine ⟨trivial, ?_⟩
          refine h_nil (t_alt ?_ t_none)
          refine h_ex rfl (r_mk valC (.slice none 0 0) 2 2 rfl rfl rfl hs (rfl) (rfl) (by first | decide | omega) (by first | decide | omega) Try.underlying66 (by rfl) sz71 (by decide) (by decide) rfl) rfl rfl (fun _ => by rfl) ?_
          intro st w hs
          refine ⟨trivial, ?_⟩
          refine h_nil (t_take ?_)
          refine hVal rfl (fun w hS => (r_build rfl rfl pl68 zr68 (by rfl))) ?_
          refine h_nil (t_alt ?_ t_none)
          refine h_exS rfl (r_storeA rfl rfl rfl hs (by (repeat (first | exact Cut.head _ _ | apply Cut.tail)); done) in68 sz68 rfl (fun h => by cases h) rfl (by rfl)) rfl rfl ?_
          intro w hs
          refine ⟨trivial, ?_⟩
          refine h_nil (t_done ?_)
          refine d_tail 10 (by kernel_rfl) ?_
          refine s_nil ?_
          refine hKM6 _ _ _ (by rfl) (by rfl) ?_
          exact ⟨b0, b1, bp, _, _, _, rfl, hs.perm⟩
         refine t_alt ?_ t_none
         refine h_ex rfl (r_mk valC (.slice none 0 0) 2 2 rfl rfl rfl hs (rfl) (rfl) (by first | decide | omega) (by first | decide | omega) Try.underlying66 (by rfl) sz71 (by decide) (by decide) rfl) rfl rfl (fun _ => by rfl) ?_
         intro st w hs
         refine ⟨trivial, ?_⟩
         refine h_nil (t_alt ?_ t_none)
         refine h_ex rfl (r_lit valC [_, _] rfl rfl rfl hs Try.underlying64 (by kernel_rfl) sz58 rfl (by decide) (fun _ => rfl)) rfl rfl (fun _ => by rfl) ?_
         intro sc w hs
         refine ⟨trivial, ?_⟩
         refine h_nil (t_take ?_)
         refine hVal rfl (fun w hS => (r_build rfl rfl pl68 zr68 (by rfl))) ?_
         refine h_nil (t_alt ?_ t_none)
         refine h_exS rfl (r_storeA rfl rfl rfl hs (by (repeat (first | exact Cut.head _ _ | apply Cut.tail)); done) in68 sz68 rfl (fun h => by cases h) rfl (by rfl)) rfl rfl ?_
         intro w hs
         refine ⟨trivial, ?_⟩
         refine h_nil (t_done ?_)
         refine d_tail 10 (by kernel_rfl) ?_
         refine s_nil ?_
         refine hKM6 _ _ _ (by rfl) (by rfl) ?_
         exact ⟨b0, b1, bp, _, _, _, rfl, hs.perm⟩
        refine t_alt ?_ t_none
        refine h_ex rfl (r_mk valC (.slice none 0 0) 2 2 rfl rfl rfl hs (rfl) (rfl) (by first | decide | omega) (by first | decide | omega) Try.underlying66 (by rfl) sz71 (by decide) (by decide) rfl) rfl rfl (fun _ => by rfl) ?_
        intro st w hs
        refine ⟨trivial, ?_⟩
        refine h_nil (t_alt ?_ t_none)
        refine h_enter rfl (r_call rfl ent31 rfl) rfl ?_
        refine new_use _ _ hs ?_
        intro b1 w hs
        refine ⟨_, rfl, ah_put trivial (by rfl) ?_⟩
        refine h_nil (t_alt ?_ t_none)
        refine h_ex rfl (r_lit valC [_, _] rfl rfl rfl hs Try.underlying64 (by kernel_rfl) sz58 rfl (by decide) (fun _ => rfl)) rfl rfl (fun _ => by rfl) ?_
        intro sc w hs
        refine ⟨trivial, ?_⟩
        refine h_nil (t_take ?_)
        refine hVal rfl (fun w hS => (r_build rfl rfl pl68 zr68 (by rfl))) ?_
        refine h_nil (t_alt ?_ t_none)
        refine h_exS rfl (r_storeA rfl rfl rfl hs (by (repeat (first | exact Cut.head _ _ | apply Cut.tail)); done) in68 sz68 rfl (fun h => by cases h) rfl (by rfl)) rfl rfl ?_
        intro w hs
        refine ⟨trivial, ?_⟩
        refine h_nil (t_done ?_)
        refine d_tail 10 (by kernel_rfl) ?_
        refine s_nil ?_
        refine hKM6 _ _ _ (by rfl) (by rfl) ?_
        exact ⟨b0, b1, bp, _, _, _, rfl, hs.perm⟩
       refine t_alt ?_ t_none
       refine h_ex rfl (r_mk valC (.slice none 0 0) 2 2 rfl rfl rfl hs (rfl) (rfl) (by first | decide | omega) (by first | decide | omega) Try.underlying66 (by rfl) sz71 (by decide) (by decide) rfl) rfl rfl (fun _ => by rfl) ?_
       intro st w hs
       refine ⟨trivial, ?_⟩
       refine h_nil (t_alt ?_ ?_)
       ·
        refine h_enter rfl (r_call rfl ent31 rfl) rfl ?_
        refine new_use _ _ hs ?_
        intro b1 w hs
        refine ⟨_, rfl, ah_put trivial (by rfl) ?_⟩
        refine h_nil (t_alt ?_ ?_)
        ·
         refine h_ex rfl (r_lit valC [_, _] rfl rfl rfl hs Try.underlying64 (by kernel_rfl) sz58 rfl (by decide) (fun _ => rfl)) rfl rfl (fun _ => by rfl) ?_
         intro sc w hs
         refine ⟨trivial, ?_⟩
         refine h_nil (t_alt ?_ t_none)
         refine h_ex rfl (r_mk valC (.slice none 0 0) 2 2 rfl rfl rfl hs (rfl) (rfl) (by first | decide | omega) (by first | decide | omega) Try.underlying65 (by rfl) sz72 (by decide) (by decide) rfl) rfl rfl (fun _ => by rfl) ?_
         intro sw w hs
         refine ⟨trivial, ?_⟩
         refine h_nil (t_take ?_)
         refine hVal rfl (fun w hS => (r_build rfl rfl pl68 zr68 (by rfl))) ?_
         refine h_nil (t_alt ?_ t_none)
         refine h_exS rfl (r_storeA rfl rfl rfl hs (by (repeat (first | exact Cut.head _ _ | apply Cut.tail)); done) in68 sz68 rfl (fun h => by cases h) rfl (by rfl)) rfl rfl ?_
         intro w hs
         refine ⟨trivial, ?_⟩
         refine h_nil (t_done ?_)
         refine d_tail 10 (by kernel_rfl) ?_
         refine s_nil ?_
         refine hKM6 _ _ _ (by rfl) (by rfl) ?_
         exact ⟨b0, b1, bp, _, _, _, rfl, hs.perm⟩
        refine t_alt ?_ t_none
        refine h_ex rfl (r_mk valC (.slice none 0 0) 2 2 rfl rfl rfl hs (rfl) (rfl) (by first | decide | omega) (by first | decide | omega) Try.underlying65 (by rfl) sz72 (by decide) (by decide) rfl) rfl rfl (fun _ => by rfl) ?_
        intro sw w hs
        refine ⟨trivial, ?_⟩
        refine h_nil (t_alt ?_ t_none)
        refine h_ex rfl (r_lit valC [_, _] rfl rfl rfl hs Try.underlying64 (by kernel_rfl) sz58 rfl (by decide) (fun _ => rfl)) rfl rfl (fun _ => by rfl) ?_
        intro sc w hs
        refine ⟨trivial, ?_⟩
        refine h_nil (t_take ?_)
        refine hVal rfl (fun w hS => (r_build rfl rfl pl68 zr68 (by rfl))) ?_
        refine h_nil (t_alt ?_ t_none)
        refine h_exS rfl (r_storeA rfl rfl rfl hs (by (repeat (first | exact Cut.head _ _ | apply Cut.tail)); done) in68 sz68 rfl (fun h => by cases h) rfl (by rfl)) rfl rfl ?_
        intro w hs
        refine ⟨trivial, ?_⟩
        refine h_nil (t_done ?_)
        refine d_tail 10 (by kernel_rfl) ?_
        refine s_nil ?_
        refine hKM6 _ _ _ (by rfl) (by rfl) ?_
        exact ⟨b0, b1, bp, _, _, _, rfl, hs.perm⟩
       refine t_alt ?_ t_none
       refine h_ex rfl (r_mk valC (.slice none 0 0) 2 2 rfl rfl rfl hs (rfl) (rfl) (by first | decide | omega) (by first | decide | omega) Try.underlying65 (by rfl) sz72 (by decide) (by decide) rfl) rfl rfl (fun _ => by rfl) ?_
       intro sw w hs
       refine ⟨trivial, ?_⟩
       refine h_nil (t_alt ?_ t_none)
       refine h_enter rfl (r_call rfl ent31 rfl) rfl ?_
       refine new_use _ _ hs ?_
       intro b1 w hs
       refine ⟨_, rfl, ah_put trivial (by rfl) ?_⟩
       refine h_nil (t_alt ?_ t_none)
       refine h_ex rfl (r_lit valC [_, _] rfl rfl rfl hs Try.underlying64 (by kernel_rfl) sz58 rfl (by decide) (fun _ => rfl)) rfl rfl (fun _ => by rfl) ?_
       intro sc w hs
       refine ⟨trivial, ?_⟩
       refine h_nil (t_take ?_)
       refine hVal rfl (fun w hS => (r_build rfl rfl pl68 zr68 (by rfl))) ?_
       refine h_nil (t_alt ?_ t_none)
       refine h_exS rfl (r_storeA rfl rfl rfl hs (by (repeat (first | exact Cut.head _ _ | apply Cut.tail)); done) in68 sz68 rfl (fun h => by cases h) rfl (by rfl)) rfl rfl ?_
       intro w hs
       refine ⟨trivial, ?_⟩
       refine h_nil (t_done ?_)
       refine d_tail 10 (by kernel_rfl) ?_
       refine s_nil ?_
       refine hKM6 _ _ _ (by rfl) (by rfl) ?_
       exact ⟨b0, b1, bp, _, _, _, rfl, hs.perm⟩
      refine t_alt ?_ ?_
      ·
       refine h_ex rfl (r_mk valC (.slice none 0 0) 2 2 rfl rfl rfl hs (rfl) (rfl) (by first | decide | omega) (by first | decide | omega) Try.underlying65 (by rfl) sz72 (by decide) (by decide) rfl) rfl rfl (fun _ => by rfl) ?_
       intro sw w hs
       refine ⟨trivial, ?_⟩
       refine h_nil (t_alt ?_ ?_)
       ·
        refine h_enter rfl (r_call rfl ent31 rfl) rfl ?_
        refine new_use _ _ hs ?_
        intro b0 w hs
        refine ⟨_, rfl, ah_put trivial (by rfl) ?_⟩
        refine h_nil (t_alt ?_ ?_)
        ·
         refine h_enter rfl (r_call rfl ent31 rfl) rfl ?_
         refine new_use _ _ hs ?_
         intro b1 w hs
         refine ⟨_, rfl, ah_put trivial (by rfl) ?_⟩
         refine h_nil (t_alt ?_ ?_)
         ·
          refine h_ex rfl (r_lit valC [_, _] rfl rfl rfl hs Try.underlying64 (by kernel_rfl) sz58 rfl (by decide) (fun _ => rfl)) rfl rfl (fun _ => by rfl) ?_
          intro sc w hs
          refine ⟨trivial, ?_⟩
          refine h_nil (t_alt ?_ ?_)
          ·
           refine h_ex rfl (r_mk valC (.slice none 0 0) 2 2 rfl rfl rfl hs (rfl) (rfl) (by first | decide | omega) (by first | decide | omega) Try.underlying66 (by rfl) sz71 (by decide) (by decide) rfl) rfl rfl (fun _ => by rfl) ?_
           intro st w hs
           refine ⟨trivial, ?_⟩
           refine h_nil (t_take ?_)
           refine hVal rfl (fun w hS => (r_build rfl rfl pl68 zr68 (by rfl))) ?_
           refine h_nil (t_alt ?_ t_none)
           refine h_ex rfl (r_alloc rfl zr68 hs) rfl rfl (fun _ => by rfl) ?_
           intro bp w hs
           refine ⟨trivial, ?_⟩
           refine h_nil (t_alt ?_ t_none)
           refine h_exS rfl (r_storeA rfl rfl rfl hs (by (repeat (first | exact Cut.head _ _ | apply Cut.tail)); done) in68 sz68 rfl (fun h => by cases h) rfl (by rfl)) rfl rfl ?_
           intro w hs
           refine ⟨trivial, ?_⟩
           refine h_nil (t_done ?_)
           refine d_tail 10 (by kernel_rfl) ?_
           refine s_nil ?_
           refine hKM6 _ _ _ (by rfl) (by rfl) ?_
           exact ⟨b0, b1, bp, _, _, _, rfl, hs.perm⟩
          refine t_alt ?_ t_none
          refine h_ex rfl (r_alloc rfl zr68 hs) rfl rfl (fun _ => by rfl) ?_
          intro bp w hs
          refine ⟨trivial, ?_⟩
          refine h_nil (t_alt ?_ t_none)
          refine h_ex rfl (r_mk valC (.slice none 0 0) 2 2 rfl rfl rfl hs (rfl) (rfl) (by first | decide | omega) (by first | decide | omega) Try.underlying66 (by rfl) sz71 (by decide) (by decide) rfl) rfl rfl (fun _ => by rfl) ?_
          intro st w hs
          refine ⟨trivial, ?_⟩
          refine h_nil (t_take ?_)
          refine hVal rfl (fun w hS => (r_build rfl rfl pl68 zr68 (by rfl))) ?_
          refine h_nil (t_alt ?_ t_none)
          refine h_exS rfl (r_storeA rfl rfl rfl hs (by (repeat (first | exact Cut.head _ _ | apply Cut.tail)); done) in68 sz68 rfl (fun h => by cases h) rfl (by rfl)) rfl rfl ?_
          intro w hs
          refine ⟨trivial, ?_⟩
          refine h_nil (t_done ?_)
          refine d_tail 10 (by kernel_rfl) ?_
          refine s_nil ?_
          refine hKM6 _ _ _ (by rfl) (by rfl) ?_
          exact ⟨b0, b1, bp, _, _, _, rfl, hs.perm⟩
         refine t_alt ?_ ?_
         ·
          refine h_ex rfl (r_mk valC (.slice none 0 0) 2 2 rfl rfl rfl hs (rfl) (rfl) (by first | decide | omega) (by first | decide | omega) Try.underlying66 (by rfl) sz71 (by decide) (by decide) rfl) rfl rfl (fun _ => by rfl) ?_
          intro st w hs
          refine ⟨trivial, ?_⟩
          refine h_nil (t_alt ?_ ?_)
          ·
           refine h_ex rfl (r_lit valC [_, _] rfl rfl rfl hs Try.underlying64 (by kernel_rfl) sz58 rfl (by decide) (fun _ => rfl)) rfl rfl (fun _ => by rfl) ?_
           intro sc w hs
           refine ⟨trivial, ?_⟩
           refine h_nil (t_take ?_)
           refine hVal rfl (fun w hS => (r_build rfl rfl pl68 zr68 (by rfl))) ?_
           refine h_nil (t_alt ?_ t_none)
           refine h_ex rfl (r_alloc rfl zr68 hs) rfl rfl (fun _ => by rfl) ?_
           intro bp w hs
           refine ⟨trivial, ?_⟩
           refine h_nil (t_alt ?_ t_none)
           refine h_exS rfl (r_storeA rfl rfl rfl hs (by (repeat (first | exact Cut.head _ _ | apply Cut.tail)); done) in68 sz68 rfl (fun h => by cases h) rfl (by rfl)) rfl rfl ?_
           intro w hs
           refine ⟨trivial, ?_⟩
           refine h_nil (t_done ?_)
           refine d_tail 10 (by kernel_rfl) ?_
           refine s_nil ?_
           refine hKM6 _ _ _ (by rfl) (by rfl) ?_
           exact ⟨b0, b1, bp, _, _, _, rfl, hs.perm⟩
          refine t_alt ?_ t_none
          refine h_ex rfl (r_alloc rfl zr68 hs) rfl rfl (fun _ => by rfl) ?_
          intro bp w hs
          refine ⟨trivial, ?_⟩
          refine h_nil (t_alt ?_ t_none)
          refine h_ex rfl (r_lit valC [_, _] rfl rfl rfl hs Try.underlying64 (by kernel_rfl) sz58 rfl (by decide) (fun _ => rfl)) rfl rfl (fun _ => by rfl) ?_
          intro sc w hs
          refine ⟨trivial, ?_⟩
          refine h_nil (t_take ?_)
          refine hVal rfl (fun w hS => (r_build rfl rfl pl68 zr68 (by rfl))) ?_
          refine h_nil (t_alt ?_ t_none)
          refine h_exS rfl (r_storeA rfl rfl rfl hs (by (repeat (first | exact Cut.head _ _ | apply Cut.tail)); done) in68 sz68 rfl (fun h => by cases h) rfl (by rfl)) rfl rfl ?_
          intro w hs
          refine ⟨trivial, ?_⟩
          refine h_nil (t_done ?_)
          refine d_tail 10 (by kernel_rfl) ?_
          refine s_nil ?_
          refine hKM6 _ _ _ (by rfl) (by rfl) ?_
          exact ⟨b0, b1, bp, _, _, _, rfl, hs.perm⟩
         refine t_alt ?_ t_none
         refine h_ex rfl (r_alloc rfl zr68 hs) rfl rfl (fun _ => by rfl) ?_
         intro bp w hs
         refine ⟨trivial, ?_⟩
         refine h_nil (t_alt ?_ ?_)
         ·
          refine h_ex rfl (r_lit valC [_, _] rfl rfl rfl hs Try.underlying64 (by kernel_rfl) sz58 rfl (by decide) (fun _ => rfl)) rfl rfl (fun _ => by rfl) ?_
          intro sc w hs
          refine ⟨trivial, ?_⟩
          refine h_nil (t_alt ?_ t_none)
          refine h_ex rfl (r_mk valC (.slice none 0 0) 2 2 rfl rfl rfl hs (rfl) (rfl) (by first | decide | omega) (by first | decide | omega) Try.underlying66 (by rfl) sz71 (by decide) (by decide) rfl) rfl rfl (fun _ => by rfl) ?_
          intro st w hs
          refine ⟨trivial, ?_⟩
          refine h_nil (t_take ?_)
          refine hVal rfl (fun w hS => (r_build rfl rfl pl68 zr68 (by rfl))) ?_
          refine h_nil (t_alt ?_ t_none)
          refine h_exS rfl (r_storeA rfl rfl rfl hs (by (repeat (first | exact Cut.head _ _ | apply Cut.tail)); done) in68 sz68 rfl (fun h => by cases h) rfl (by rfl)) rfl rfl ?_
          intro w hs
          refine ⟨trivial, ?_⟩
          refine h_nil (t_done ?_)
          refine d_tail 10 (by kernel_rfl) ?_
          refine s_nil ?_
          refine hKM6 _ _ _ (by rfl) (by rfl) ?_
          exact ⟨b0, b1, bp, _, _, _, rfl, hs.perm⟩
         refine t_alt ?_ t_none
         refine h_ex rfl (r_mk valC (.slice none 0 0) 2 2 rfl rfl rfl hs (rfl) (rfl) (by first | decide | omega) (by first | decide | omega) Try.underlying66 (by rfl) sz71 (by decide) (by decide) rfl) rfl rfl (fun _ => by rfl) ?_
         intro st w hs
         refine ⟨trivial, ?_⟩
         refine h_nil (t_alt ?_ t_none)
         refine h_ex rfl (r_lit valC [_, _] rfl rfl rfl hs Try.underlying64 (by kernel_rfl) sz58 rfl (by decide) (fun _ => rfl)) rfl rfl (fun _ => by rfl) ?_
         intro sc w hs
         refine ⟨trivial, ?_⟩
         refine h_nil (t_take ?_)
         refine hVal rfl (fun w hS => (r_build rfl rfl pl68 zr68 (by rfl))) ?_
         refine h_nil (t_alt ?_ t_none)
         refine h_exS rfl (r_storeA rfl rfl rfl hs (by (repeat (first | exact Cut.head _ _ | apply Cut.tail)); done) in68 sz68 rfl (fun h => by cases h) rfl (by rfl)) rfl rfl ?_
         intro w hs
         refine ⟨trivial, ?_⟩
         refine h_nil (t_done ?_)
         refine d_tail 10 (by kernel_rfl) ?_
         refine s_nil ?_
         refine hKM6 _ _ _ (by rfl) (by rfl) ?_
         exact ⟨b0, b1, bp, _, _, _, rfl, hs.perm⟩
        refine t_alt ?_ ?_
        ·
         refine h_ex rfl (r_mk valC (.slice none 0 0) 2 2 rfl rfl rfl hs (rfl) (rfl) (by first | decide | omega) (by first | decide | omega) Try.underlying66 (by rfl) sz71 (by decide) (by decide) rfl) rfl rfl (fun _ => by rfl) ?_
         intro st w hs
         refine ⟨trivial, ?_⟩
         refine h_nil (t_alt ?_ ?_)
         ·
          refine h_enter rfl (r_call rfl ent31 rfl) rfl ?_
          refine new_use _ _ hs ?_
          intro b1 w hs
          refine ⟨_, rfl, ah_put trivial (by rfl) ?_⟩
          refine h_nil (t_alt ?_ ?_)
          ·
           refine h_ex rfl (r_lit valC [_, _] rfl rfl rfl hs Try.underlying64 (by kernel_rfl) sz58 rfl (by decide) (fun _ => rfl)) rfl rfl (fun _ => by rfl) ?_
           intro sc w hs
           refine ⟨trivial, ?_⟩
           refine h_nil (t_take ?_)
           refine hVal rfl (fun w hS => (r_build rfl rfl pl68 zr68 (by rfl))) ?_
           refine h_nil (t_alt ?_ t_none)
           refine h_ex rfl (r_alloc rfl zr68 hs) rfl rfl (fun _ => by rfl) ?_
           intro bp w hs
           refine ⟨trivial, ?_⟩
           refine h_nil (t_alt ?_ t_none)
           refine h_exS rfl (r_storeA rfl rfl rfl hs (by (repeat (first | exact Cut.head _ _ | apply Cut.tail)); done) in68 sz68 rfl (fun h => by cases h) rfl (by rfl)) rfl rfl ?_
           intro w hs
           refine ⟨trivial, ?_⟩
           refine h_nil (t_done ?_)
           refine d_tail 10 (by kernel_rfl) ?_
           refine s_nil ?_
           refine hKM6 _ _ _ (by rfl) (by rfl) ?_
           exact ⟨b0, b1, bp, _, _, _, rfl, hs.perm⟩
          refine t_alt ?_ t_none
          refine h_ex rfl (r_alloc rfl zr68 hs) rfl rfl (fun _ => by rfl) ?_
          intro bp w hs
          refine ⟨trivial, ?_⟩
          refine h_nil (t_alt ?_ t_none)
          refine h_ex rfl (r_lit valC [_, _] rfl rfl rfl hs Try.underlying64 (by kernel_rfl) sz58 rfl (by decide) (fun _ => rfl)) rfl rfl (fun _ => by rfl) ?_
          intro sc w hs
          refine ⟨trivial, ?_⟩
          refine h_nil (t_take ?_)
          refine hVal rfl (fun w hS => (r_build rfl rfl pl68 zr68 (by rfl))) ?_
          refine h_nil (t_alt ?_ t_none)
          refine h_exS rfl (r_storeA rfl rfl rfl hs (by (repeat (first | exact Cut.head _ _ | apply Cut.tail)); done) in68 sz68 rfl (fun h => by cases h) rfl (by rfl)) rfl rfl ?_
          intro w hs
          refine ⟨trivial, ?_⟩
          refine h_nil (t_done ?_)
          refine d_tail 10 (by kernel_rfl) ?_
          refine s_nil ?_
          refine hKM6 _ _ _ (by rfl) (by rfl) ?_
          exact ⟨b0, b1, bp, _, _, _, rfl, hs.perm⟩
         refine t_alt ?_ t_none
         refine h_ex rfl (r_alloc rfl zr68 hs) rfl rfl (fun _ => by rfl) ?_
         intro bp w hs
         refine ⟨trivial, ?_⟩
         refine h_nil (t_alt ?_ t_none)
         refine h_enter rfl (r_call rfl ent31 rfl) rfl ?_
         refine new_use _ _ hs ?_
         intro b1 w hs
         refine ⟨_, rfl, ah_put trivial (by rfl) ?_⟩
         refine h_nil (t_alt ?_ t_none)
         refine h_ex rfl (r_lit valC [_, _] rfl rfl rfl hs Try.underlying64 (by kernel_rfl) sz58 rfl (by decide) (fun _ => rfl)) rfl rfl (fun _ => by rfl) ?_
         intro sc w hs
         refine ⟨trivial, ?_⟩
         refine h_nil (t_take ?_)
         refine hVal rfl (fun w hS => (r_build rfl rfl pl68 zr68 (by rfl))) ?_
         refine h_nil (t_alt ?_ t_none)
         refine h_exS rfl (r_storeA rfl rfl rfl hs (by (repeat (first | exact Cut.head _ _ | apply Cut.tail)); done) in68 sz68 rfl (fun h => by cases h) rfl (by rfl)) rfl rfl ?_
         intro w hs
         refine ⟨trivial, ?_⟩
         refine h_nil (t_done ?_)
         refine d_tail 10 (by kernel_rfl) ?_
         refine s_nil ?_
         refine hKM6 _ _ _ (by rfl) (by rfl) ?_
         exact ⟨b0, b1, bp, _, _, _, rfl, hs.perm⟩
        refine t_alt ?_ t_none
        refine h_ex rfl (r_alloc rfl zr68 hs) rfl rfl (fun _ => by rfl) ?_
        intro bp w hs
        refine ⟨trivial, ?_⟩
        refine h_nil (t_alt ?_ ?_)
        ·
         refine h_enter rfl (r_call rfl ent31 rfl) rfl ?_
         refine new_use _ _ hs ?_
         intro b1 w hs
         refine ⟨_, rfl, ah_put trivial (by rfl) ?_⟩
         refine h_nil (t_alt ?_ ?_)
         ·
          refine h_ex rfl (r_lit valC [_, _] rfl rfl rfl hs Try.underlying64 (by kernel_rfl) sz58 rfl (by decide) (fun _ => rfl)) rfl rfl (fun _ => by rfl) ?_
          intro sc w hs
          refine ⟨trivial, ?_⟩
          refine h_nil (t_alt ?_ t_none)
          refine h_ex rfl (r_mk valC (.slice none 0 0) 2 2 rfl rfl rfl hs (rfl) (rfl) (by first | decide | omega) (by first | decide | omega) Try.underlying66 (by rfl) sz71 (by decide) (by decide) rfl) rfl rfl (fun _ => by rfl) ?_
          intro st w hs
          refine ⟨trivial, ?_⟩
          refine h_nil (t_take ?_)
          refine hVal rfl (fun w hS => (r_build rfl rfl pl68 zr68 (by rfl))) ?_
          refine h_nil (t_alt ?_ t_none)
          refine h_exS rfl (r_storeA rfl rfl rfl hs (by (repeat (first | exact Cut.head _ _ | apply Cut.tail)); done) in68 sz68 rfl (fun h => by cases h) rfl (by rfl)) rfl rfl ?_
          intro w hs
          refine ⟨trivial, ?_⟩
          refine h_nil (t_done ?_)
          refine d_tail 10 (by kernel_rfl) ?_
          refine s_nil ?_
          refine hKM6 _ _ _ (by rfl) (by rfl) ?_
          exact ⟨b0, b1, bp, _, _, _, rfl, hs.perm⟩
         refine t_alt ?_ t_none
         refine h_ex rfl (r_mk valC (.slice none 0 0) 2 2 rfl rfl rfl hs (rfl) (rfl) (by first | decide | omega) (by first | decide | omega) Try.underlying66 (by rfl) sz71 (by decide) (by decide) rfl) rfl rfl (fun _ => by rfl) ?_
         intro st w hs
         refine ⟨trivial, ?_⟩
         refine h_nil (t_alt ?_ t_none)
         refine h_ex rfl (r_lit valC [_, _] rfl rfl rfl hs Try.underlying64 (by kernel_rfl) sz58 rfl (by decide) (fun _ => rfl)) rfl rfl (fun _ => by rfl) ?_
         intro sc w hs
         refine ⟨trivial, ?_⟩
         refine h_nil (t_take ?_)
         refine hVal rfl (fun w hS => (r_build rfl rfl pl68 zr68 (by rfl))) ?_
         refine h_nil (t_alt ?_ t_none)
         refine h_exS rfl (r_storeA rfl rfl rfl hs (by (repeat (first | exact Cut.head _ _ | apply Cut.tail)); done) in68 sz68 rfl (fun h => by cases h) rfl (by rfl)) rfl rfl ?_
         intro w hs
         refine ⟨trivial, ?_⟩
         refine h_nil (t_done ?_)
         refine d_tail 10 (by kernel_rfl) ?_
         refine s_nil ?_
         refine hKM6 _ _ _ (by rfl) (by rfl) ?_
         exact ⟨b0, b1, bp, _, _, _, rfl, hs.perm⟩
        refine t_alt ?_ t_none
        refine h_ex rfl (r_mk valC (.slice none 0 0) 2 2 rfl rfl rfl hs (rfl) (rfl) (by first | decide | omega) (by first | decide | omega) Try.underlying66 (by rfl) sz71 (by decide) (by decide) rfl) rfl rfl (fun _ => by rfl) ?_
        intro st w hs
        refine ⟨trivial, ?_⟩
        refine h_nil (t_alt ?_ t_none)
        refine h_enter rfl (r_call rfl ent31 rfl) rfl ?_
        refine new_use _ _ hs ?_
        intro b1 w hs
        refine ⟨_, rfl, ah_put trivial (by rfl) ?_⟩
        refine h_nil (t_alt ?_ t_none)
        refine h_ex rfl (r_lit valC [_, _] rfl rfl rfl hs Try.underlying64 (by kernel_rfl) sz58 rfl (by decide) (fun _ => rfl)) rfl rfl (fun _ => by rfl) ?_
        intro sc w hs
        refine ⟨trivial, ?_⟩
        refine h_nil (t_take ?_)
        refine hVal rfl (fun w hS => (r_build rfl rfl pl68 zr68 (by rfl))) ?_
        refine h_nil (t_alt ?_ t_none)
        refine h_exS rfl (r_storeA rfl rfl rfl hs (by (repeat (first | exact Cut.head _ _ | apply Cut.tail)); done) in68 sz68 rfl (fun h => by cases h) rfl (by rfl)) rfl rfl ?_
        intro w hs
        refine ⟨trivial, ?_⟩
        refine h_nil (t_done ?_)
        refine d_tail 10 (by kernel_rfl) ?_
        refine s_nil ?_
        refine hKM6 _ _ _ (by rfl) (by rfl) ?_
        exact ⟨b0, b1, bp, _, _, _, rfl, hs.perm⟩
       refine t_alt ?_ ?_
       ·
        refine h_ex rfl (r_mk valC (.slice none 0 0) 2 2 rfl rfl rfl hs (rfl) (rfl) (by first | decide | omega) (by first | decide | omega) Try.underlying66 (by rfl) sz71 (by decide) (by decide) rfl) rfl rfl (fun _ => by rfl) ?_
        intro st w hs
        refine ⟨trivial, ?_⟩
        refine h_nil (t_alt ?_ ?_)
        ·
         refine h_enter rfl (r_call rfl ent31 rfl) rfl ?_
         refine new_use _ _ hs ?_
         intro b0 w hs
         refine ⟨_, rfl, ah_put trivial (by rfl) ?_⟩
         refine h_nil (t_alt ?_ ?_)
         ·
          refine h_enter rfl (r_call rfl ent31 rfl) rfl ?_
          refine new_use _ _ hs ?_
          intro b1 w hs
          refine ⟨_, rfl, ah_put trivial (by rfl) ?_⟩
          refine h_nil (t_alt ?_ ?_)
          ·
           refine h_ex rfl (r_lit valC [_, _] rfl rfl rfl hs Try.underlying64 (by kernel_rfl) sz58 rfl (by decide) (fun _ => rfl)) rfl rfl (fun _ => by rfl) ?_
           intro sc w hs
           refine ⟨trivial, ?_⟩
           refine h_nil (t_take ?_)
           refine hVal rfl (fun w hS => (r_build rfl rfl pl68 zr68 (by rfl))) ?_
           refine h_nil (t_alt ?_ t_none)
           refine h_ex rfl (r_alloc rfl zr68 hs) rfl rfl (fun _ => by rfl) ?_
           intro bp w hs
           refine ⟨trivial, ?_⟩
           refine h_nil (t_alt ?_ t_none)
           refine h_exS rfl (r_storeA rfl rfl rfl hs (by (repeat (first | exact Cut.head _ _ | apply Cut.tail)); done) in68 sz68 rfl (fun h => by cases h) rfl (by rfl)) rfl rfl ?_
           intro w hs
           refine ⟨trivial, ?_⟩
           refine h_nil (t_done ?_)
           refine d_tail 10 (by kernel_rfl) ?_
           refine s_nil ?_
           refine hKM6 _ _ _ (by rfl) (by rfl) ?_
           exact ⟨b0, b1, bp, _, _, _, rfl, hs.perm⟩
          refine t_alt ?_ t_none
          refine h_ex rfl (r_alloc rfl zr68 hs) rfl rfl (fun _ => by rfl) ?_
          intro bp w hs
          refine ⟨trivial, ?_⟩
          refine h_nil (t_alt ?_ t_none)
          refine h_ex rfl (r_lit valC [_, _] rfl rfl rfl hs Try.underlying64 (by kernel_rfl) sz58 rfl (by decide) (fun _ => rfl)) rfl rfl (fun _ => by rfl) ?_
          intro sc w hs
          refine ⟨trivial, ?_⟩
          refine h_nil (t_take ?_)
          refine hVal rfl (fun w hS => (r_build rfl rfl pl68 zr68 (by rfl))) ?_
          refine h_nil (t_alt ?_ t_none)
          refine h_exS rfl (r_storeA rfl rfl rfl hs (by (repeat (first | exact Cut.head _ _ | apply Cut.tail)); done) in68 sz68 rfl (fun h => by cases h) rfl (by rfl)) rfl rfl ?_
          intro w hs
          refine ⟨trivial, ?_⟩
          refine h_nil (t_done ?_)
          refine d_tail 10 (by kernel_rfl) ?_
          refine s_nil ?_
          refine hKM6 _ _ _ (by rfl) (by rfl) ?_
          exact ⟨b0, b1, bp, _, _, _, rfl, hs.perm⟩
         refine t_alt ?_ t_none
         refine h_ex rfl (r_alloc rfl zr68 hs) rfl rfl (fun _ => by rfl) ?_
         intro bp w hs
         refine ⟨trivial, ?_⟩
         refine h_nil (t_alt ?_ t_none)
         refine h_enter rfl (r_call rfl ent31 rfl) rfl ?_
         refine new_use _ _ hs ?_
         intro b1 w hs
         refine ⟨_, rfl, ah_put trivial (by rfl) ?_⟩
         refine h_nil (t_alt ?_ t_none)
         refine h_ex rfl (r_lit valC [_, _] rfl rfl rfl hs Try.underlying64 (by kernel_rfl) sz58 rfl (by decide) (fun _ => rfl)) rfl rfl (fun _ => by rfl) ?_
         intro sc w hs
         refine ⟨trivial, ?_⟩
         refine h_nil (t_take ?_)
         refine hVal rfl (fun w hS => (r_build rfl rfl pl68 zr68 (by rfl))) ?_
         refine h_nil (t_alt ?_ t_none)
         refine h_exS rfl (r_storeA rfl rfl rfl hs (by (repeat (first | exact Cut.head _ _ | apply Cut.tail)); done) in68 sz68 rfl (fun h => by cases h) rfl (by rfl)) rfl rfl ?_
         intro w hs
         refine ⟨trivial, ?_⟩
         refine h_nil (t_done ?_)
         refine d_tail 10 (by kernel_rfl) ?_
         refine s_nil ?_
         refine hKM6 _ _ _ (by rfl) (by rfl) ?_
         exact ⟨b0, b1, bp, _, _, _, rfl, hs.perm⟩
        refine t_alt ?_ t_none
        refine h_ex rfl (r_alloc rfl zr68 hs) rfl rfl (fun _ => by rfl) ?_
        intro bp w hs
        refine ⟨trivial, ?_⟩
        refine h_nil (t_alt ?_ t_none)
        refine h_enter rfl (r_call rfl ent31 rfl) rfl ?_
        refine new_use _ _ hs ?_
        intro b0 w hs
        refine ⟨_, rfl, ah_put trivial (by rfl) ?_⟩
        refine h_nil (t_alt ?_ t_none)
        refine h_enter rfl (r_call rfl ent31 rfl) rfl ?_
        refine new_use _ _ hs ?_
        intro b1 w hs
        refine ⟨_, rfl, ah_put trivial (by rfl) ?_⟩
        refine h_nil (t_alt ?_ t_none)
        refine h_ex rfl (r_lit valC [_, _] rfl rfl rfl hs Try.underlying64 (by kernel_rfl) sz58 rfl (by decide) (fun _ => rfl)) rfl rfl (fun _ => by rfl) ?_
        intro sc w hs
        refine ⟨trivial, ?_⟩
        refine h_nil (t_take ?_)
        refine hVal rfl (fun w hS => (r_build rfl rfl pl68 zr68 (by rfl))) ?_
        refine h_nil (t_alt ?_ t_none)
        refine h_exS rfl (r_storeA rfl rfl rfl hs (by (repeat (first | exact Cut.head _ _ | apply Cut.tail)); done) in68 sz68 rfl (fun h => by cases h) rfl (by rfl)) rfl rfl ?_
        intro w hs
        refine ⟨trivial, ?_⟩
        refine h_nil (t_done ?_)
        refine d_tail 10 (by kernel_rfl) ?_
        refine s_nil ?_
        refine hKM6 _ _ _ (by rfl) (by rfl) ?_
        exact ⟨b0, b1, bp, _, _, _, rfl, hs.perm⟩
       refine t_alt ?_ t_none
       refine h_ex rfl (r_alloc rfl zr68 hs) rfl rfl (fun _ => by rfl) ?_
       intro bp w hs
       refine ⟨trivial, ?_⟩
       refine h_nil (t_alt ?_ ?_)
       ·
        refine h_enter rfl (r_call rfl ent31 rfl) rfl ?_
        refine new_use _ _ hs ?_
        intro b0 w hs
        refine ⟨_, rfl, ah_put trivial (by rfl) ?_⟩
        refine h_nil (t_alt ?_ ?_)
        ·
         refine h_enter rfl (r_call rfl ent31 rfl) rfl ?_
         refine new_use _ _ hs ?_
         intro b1 w hs
         refine ⟨_, rfl, ah_put trivial (by rfl) ?_⟩
         refine h_nil (t_alt ?_ ?_)
         ·
          refine h_ex rfl (r_lit valC [_, _] rfl rfl rfl hs Try.underlying64 (by kernel_rfl) sz58 rfl (by decide) (fun _ => rfl)) rfl rfl (fun _ => by rfl) ?_
          intro sc w hs
          refine ⟨trivial, ?_⟩
          refine h_nil (t_alt ?_ t_none)
          refine h_ex rfl (r_mk valC (.slice none 0 0) 2 2 rfl rfl rfl hs (rfl) (rfl) (by first | decide | omega) (by first | decide | omega) Try.underlying66 (by rfl) sz71 (by decide) (by decide) rfl) rfl rfl (fun _ => by rfl) ?_
          intro st w hs
          refine ⟨trivial, ?_⟩
          refine h_nil (t_take ?_)
          refine hVal rfl (fun w hS => (r_build rfl rfl pl68 zr68 (by rfl))) ?_
          refine h_nil (t_alt ?_ t_none)
          refine h_exS rfl (r_storeA rfl rfl rfl hs (by (repeat (first | exact Cut.head _ _ | apply Cut.tail)); done) in68 sz68 rfl (fun h => by cases h) rfl (by rfl)) rfl rfl ?_
          intro w hs
          refine ⟨trivial, ?_⟩
          refine h_nil (t_done ?_)
          refine d_tail 10 (by kernel_rfl) ?_
          refine s_nil ?_
          refine hKM6 _ _ _ (by rfl) (by rfl) ?_
          exact ⟨b0, b1, bp, _, _, _, rfl, hs.perm⟩
         refine t_alt ?_ t_none
         refine h_ex rfl (r_mk valC (.slice none 0 0) 2 2 rfl rfl rfl hs (rfl) (rfl) (by first | decide | omega) (by first | decide | omega) Try.underlying66 (by rfl) sz71 (by decide) (by decide) rfl) rfl rfl (fun _ => by rfl) ?_
         intro st w hs
         refine ⟨trivial, ?_⟩
         refine h_nil (t_alt ?_ t_none)
         refine h_ex rfl (r_lit valC [_, _] rfl rfl rfl hs Try.underlying64 (by kernel_rfl) sz58 rfl (by decide) (fun _ => rfl)) rfl rfl (fun _ => by rfl) ?_
         intro sc w hs
         refine ⟨trivial, ?_⟩
         refine h_nil (t_take ?_)
         refine hVal rfl (fun w hS => (r_build rfl rfl pl68 zr68 (by rfl))) ?_
         refine h_nil (t_alt ?_ t_none)
         refine h_exS rfl (r_storeA rfl rfl rfl hs (by (repeat (first | exact Cut.head _ _ | apply Cut.tail)); done) in68 sz68 rfl (fun h => by cases h) rfl (by rfl)) rfl rfl ?_
         intro w hs
         refine ⟨trivial, ?_⟩
         refine h_nil (t_done ?_)
         refine d_tail 10 (by kernel_rfl) ?_
         refine s_nil ?_
         refine hKM6 _ _ _ (by rfl) (by rfl) ?_
         exact ⟨b0, b1, bp, _, _, _, rfl, hs.perm⟩
        refine t_alt ?_ t_none
        refine h_ex rfl (r_mk valC (.slice none 0 0) 2 2 rfl rfl rfl hs (rfl) (rfl) (by first | decide | omega) (by first | decide | omega) Try.underlying66 (by rfl) sz71 (by decide) (by decide) rfl) rfl rfl (fun _ => by rfl) ?_
        intro st w hs
        refine ⟨trivial, ?_⟩
        refine h_nil (t_alt ?_ t_none)
        refine h_enter rfl (r_call rfl ent31 rfl) rfl ?_
        refine new_use _ _ hs ?_
        intro b1 w hs
        refine ⟨_, rfl, ah_put trivial (by rfl) ?_⟩
        refine h_nil (t_alt ?_ t_none)
        refine h_ex rfl (r_lit valC [_, _] rfl rfl rfl hs Try.underlying64 (by kernel_rfl) sz58 rfl (by decide) (fun _ => rfl)) rfl rfl (fun _ => by rfl) ?_
        intro sc w hs
        refine ⟨trivial, ?_⟩
        refine h_nil (t_take ?_)
        refine hVal rfl (fun w hS => (r_build rfl rfl pl68 zr68 (by rfl))) ?_
        refine h_nil (t_alt ?_ t_none)
        refine h_exS rfl (r_storeA rfl rfl rfl hs (by (repeat (first | exact Cut.head _ _ | apply Cut.tail)); done) in68 sz68 rfl (fun h => by cases h) rfl (by rfl)) rfl rfl ?_
        intro w hs
        refine ⟨trivial, ?_⟩
        refine h_nil (t_done ?_)
        refine d_tail 10 (by kernel_rfl) ?_
        refine s_nil ?_
        refine hKM6 _ _ _ (by rfl) (by rfl) ?_
        exact ⟨b0, b1, bp, _, _, _, rfl, hs.perm⟩
       refine t_alt ?_ t_none
       refine h_ex rfl (r_mk valC (.slice none 0 0) 2 2 rfl rfl rfl hs (rfl) (rfl) (by first | decide | omega) (by first | decide | omega) Try.underlying66 (by rfl) sz71 (by decide) (by decide) rfl) rfl rfl (fun _ => by rfl) ?_
       intro st w hs
       refine ⟨trivial, ?_⟩
       refine h_nil (t_alt ?_ t_none)
       refine h_enter rfl (r_call rfl ent31 rfl) rfl ?_
       refine new_use _ _ hs ?_
       intro b0 w hs
       refine ⟨_, rfl, ah_put trivial (by rfl) ?_⟩
       refine h_nil (t_alt ?_ t_none)
       refine h_enter rfl (r_call rfl ent31 rfl) rfl ?_
       refine new_use _ _ hs ?_
       intro b1 w hs
       refine ⟨_, rfl, ah_put trivial (by rfl) ?_⟩
       refine h_nil (t_alt ?_ t_none)
       refine h_ex rfl (r_lit valC [_, _] rfl rfl rfl hs Try.underlying64 (by kernel_rfl) sz58 rfl (by decide) (fun _ => rfl)) rfl rfl (fun _ => by rfl) ?_
       intro sc w hs
       refine ⟨trivial, ?_⟩
       refine h_nil (t_take ?_)
       refine hVal rfl (fun w hS => (r_build rfl rfl pl68 zr68 (by rfl))) ?_
       refine h_nil (t_alt ?_ t_none)
       refine h_exS rfl (r_storeA rfl rfl rfl hs (by (repeat (first | exact Cut.head _ _ | apply Cut.tail)); done) in68 sz68 rfl (fun h => by cases h) rfl (by rfl)) rfl rfl ?_
       intro w hs
       refine ⟨trivial, ?_⟩
       refine h_nil (t_done ?_)
       refine d_tail 10 (by kernel_rfl) ?_
       refine s_nil ?_
       refine hKM6 _ _ _ (by rfl) (by rfl) ?_
       exact ⟨b0, b1, bp, _, _, _, rfl, hs.perm⟩
      refine t_alt ?_ ?_
      ·
       refine h_ex rfl (r_mk valC (.slice none 0 0) 2 2 rfl rfl rfl hs (rfl) (rfl) (by first | decide | omega) (by first | decide | omega) Try.underlying66 (by rfl) sz71 (by decide) (by decide) rfl) rfl rfl (fun _ => by rfl) ?_
       intro st w hs
       refine ⟨trivial, ?_⟩
       refine h_nil (t_alt ?_ ?_)
       ·
        refine h_enter rfl (r_call rfl ent31 rfl) rfl ?_
        refine new_use _ _ hs ?_
        intro b0 w hs
        refine ⟨_, rfl, ah_put trivial (by rfl) ?_⟩
        refine h_nil (t_alt ?_ ?_)
        ·
         refine h_enter rfl (r_call rfl ent31 rfl) rfl ?_
         refine new_use _ _ hs ?_
         intro b1 w hs
         refine ⟨_, rfl, ah_put trivial (by rfl) ?_⟩
         refine h_nil (t_alt ?_ ?_)
         ·
          refine h_ex rfl (r_lit valC [_, _] rfl rfl rfl hs Try.underlying64 (by kernel_rfl) sz58 rfl (by decide) (fun _ => rfl)) rfl rfl (fun _ => by rfl) ?_
          intro sc w hs
          refine ⟨trivial, ?_⟩
          refine h_nil (t_alt ?_ ?_)
          ·
           refine h_ex rfl (r_mk valC (.slice none 0 0) 2 2 rfl rfl rfl hs (rfl) (rfl) (by first | decide | omega) (by first | decide | omega) Try.underlying65 (by rfl) sz72 (by decide) (by decide) rfl) rfl rfl (fun _ => by rfl) ?_
           intro sw w hs
           refine ⟨trivial, ?_⟩
           refine h_nil (t_take ?_)
           refine hVal rfl (fun w hS => (r_build rfl rfl pl68 zr68 (by rfl))) ?_
           refine h_nil (t_alt ?_ t_none)
           refine h_ex rfl (r_alloc rfl zr68 hs) rfl rfl (fun _ => by rfl) ?_
           intro bp w hs
           refine ⟨trivial, ?_⟩
           refine h_nil (t_alt ?_ t_none)
           refine h_exS rfl (r_storeA rfl rfl rfl hs (by (repeat (first | exact Cut.head _ _ | apply Cut.tail)); done) in68 sz68 rfl (fun h => by cases h) rfl (by rfl)) rfl rfl ?_
           intro w hs
           refine ⟨trivial, ?_⟩
           refine h_nil (t_done ?_)
           refine d_tail 10 (by kernel_rfl) ?_
           refine s_nil ?_
           refine hKM6 _ _ _ (by rfl) (by rfl) ?_
           exact ⟨b0, b1, bp, _, _, _, rfl, hs.perm⟩
          refine t_alt ?_ t_none
          refine h_ex rfl (r_alloc rfl zr68 hs) rfl rfl (fun _ => by rfl) ?_
          intro bp w hs
          refine ⟨trivial, ?_⟩
          refine h_nil (t_alt ?_ t_none)
          refine h_ex rfl (r_mk valC (.slice none 0 0) 2 2 rfl rfl rfl hs (rfl) (rfl) (by first | decide | omega) (by first | decide | omega) Try.underlying65 (by rfl) sz72 (by decide) (by decide) rfl) rfl rfl (fun _ => by rfl) ?_
          intro sw w hs
          refine ⟨trivial, ?_⟩
          refine h_nil (t_take ?_)
          refine hVal rfl (fun w hS => (r_build rfl rfl pl68 zr68 (by rfl))) ?_
          refine h_nil (t_alt ?_ t_none)
          refine h_exS rfl (r_storeA rfl rfl rfl hs (by (repeat (first | exact Cut.head _ _ | apply Cut.tail)); done) in68 sz68 rfl (fun h => by cases h) rfl (by rfl)) rfl rfl ?_
          intro w hs
          refine ⟨trivial, ?_⟩
          refine h_nil (t_done ?_)
          refine d_tail 10 (by kernel_rfl) ?_
          refine s_nil ?_
          refine hKM6 _ _ _ (by rfl) (by rfl) ?_
          exact ⟨b0, b1, bp, _, _, _, rfl, hs.perm⟩
         refine t_alt ?_ ?_
         ·
          refine h_ex rfl (r_mk valC (.slice none 0 0) 2 2 rfl rfl rfl hs (rfl) (rfl) (by first | decide | omega) (by first | decide | omega) Try.underlying65 (by rfl) sz72 (by decide) (by decide) rfl) rfl rfl (fun _ => by rfl) ?_
          intro sw w hs
          refine ⟨trivial, ?_⟩
          refine h_nil (t_alt ?_ ?_)
          ·
           refine h_ex rfl (r_lit valC [_, _] rfl rfl rfl hs Try.underlying64 (by kernel_rfl) sz58 rfl (by decide) (fun _ => rfl)) rfl rfl (fun _ => by rfl) ?_
           intro sc w hs
           refine ⟨trivial, ?_⟩
           refine h_nil (t_take ?_)
           refine hVal rfl (fun w hS => (r_build rfl rfl pl68 zr68 (by rfl))) ?_
           refine h_nil (t_alt ?_ t_none)
           refine h_ex rfl (r_alloc rfl zr68 hs) rfl rfl (fun _ => by rfl) ?_
           intro bp w hs
           refine ⟨trivial, ?_⟩
           refine h_nil (t_alt ?_ t_none)
           refine h_exS rfl (r_storeA rfl rfl rfl hs (by (repeat (first | exact Cut.head _ _ | apply Cut.tail)); done) in68 sz68 rfl (fun h => by cases h) rfl (by rfl)) rfl rfl ?_
           intro w hs
           refine ⟨trivial, ?_⟩
           refine h_nil (t_done ?_)
           refine d_tail 10 (by kernel_rfl) ?_
           refine s_nil ?_
           refine hKM6 _ _ _ (by rfl) (by rfl) ?_
           exact ⟨b0, b1, bp, _, _, _, rfl, hs.perm⟩
          refine t_alt ?_ t_none
          refine h_ex rfl (r_alloc rfl zr68 hs) rfl rfl (fun _ => by rfl) ?_
          intro bp w hs
          refine ⟨trivial, ?_⟩
          refine h_nil (t_alt ?_ t_none)
          refine h_ex rfl (r_lit valC [_, _] rfl rfl rfl hs Try.underlying64 (by kernel_rfl) sz58 rfl (by decide) (fun _ => rfl)) rfl rfl (fun _ => by rfl) ?_
          intro sc w hs
          refine ⟨trivial, ?_⟩
          refine h_nil (t_take ?_)
          refine hVal rfl (fun w hS => (r_build rfl rfl pl68 zr68 (by rfl))) ?_
          refine h_nil (t_alt ?_ t_none)
          refine h_exS rfl (r_storeA rfl rfl rfl hs (by (repeat (first | exact Cut.head _ _ | apply Cut.tail)); done) in68 sz68 rfl (fun h => by cases h) rfl (by rfl)) rfl rfl ?_
          intro w hs
          refine ⟨trivial, ?_⟩
          refine h_nil (t_done ?_)
          refine d_tail 10 (by kernel_rfl) ?_
          refine s_nil ?_
          refine hKM6 _ _ _ (by rfl) (by rfl) ?_
          exact ⟨b0, b1, bp, _, _, _, rfl, hs.perm⟩
         refine t_alt ?_ t_none
         refine h_ex rfl (r_alloc rfl zr68 hs) rfl rfl (fun _ => by rfl) ?_
         intro bp w hs
         refine ⟨trivial, ?_⟩
         refine h_nil (t_alt ?_ ?_)
         ·
          refine h_ex rfl (r_lit valC [_, _] rfl rfl rfl hs Try.underlying64 (by kernel_rfl) sz58 rfl (by decide) (fun _ => rfl)) rfl rfl (fun _ => by rfl) ?_
          intro sc w hs
          refine ⟨trivial, ?_⟩
          refine h_nil (t_alt ?_ t_none)
          refine h_ex rfl (r_mk valC (.slice none 0 0) 2 2 rfl rfl rfl hs (rfl) (rfl) (by first | decide | omega) (by first | decide | omega) Try.underlying65 (by rfl) sz72 (by decide) (by decide) rfl) rfl rfl (fun _ => by rfl) ?_
          intro sw w hs
          refine ⟨trivial, ?_⟩
          refine h_nil (t_take ?_)
          refine hVal rfl (fun w hS => (r_build rfl rfl pl68 zr68 (by rfl))) ?_
          refine h_nil (t_alt ?_ t_none)
          refine h_exS rfl (r_storeA rfl rfl rfl hs (by (repeat (first | exact Cut.head _ _ | apply Cut.tail)); done) in68 sz68 rfl (fun h => by cases h) rfl (by rfl)) rfl rfl ?_
          intro w hs
          refine ⟨trivial, ?_⟩
          refine h_nil (t_done ?_)
          refine d_tail 10 (by kernel_rfl) ?_
          refine s_nil ?_
          refine hKM6 _ _ _ (by rfl) (by rfl) ?_
          exact ⟨b0, b1, bp, _, _, _, rfl, hs.perm⟩
         refine t_alt ?_ t_none
         refine h_ex rfl (r_mk valC (.slice none 0 0) 2 2 rfl rfl rfl hs (rfl) (rfl) (by first | decide | omega) (by first | decide | omega) Try.underlying65 (by rfl) sz72 (by decide) (by decide) rfl) rfl rfl (fun _ => by rfl) ?_
         intro sw w hs
         refine ⟨trivial, ?_⟩
         refine h_nil (t_alt ?_ t_none)
         refine h_ex rfl (r_lit valC [_, _] rfl rfl rfl hs Try.underlying64 (by kernel_rfl) sz58 rfl (by decide) (fun _ => rfl)) rfl rfl (fun _ => by rfl) ?_
         intro sc w hs
         refine ⟨trivial, ?_⟩
         refine h_nil (t_take ?_)
         refine hVal rfl (fun w hS => (r_build rfl rfl pl68 zr68 (by rfl))) ?_
         refine h_nil (t_alt ?_ t_none)
         refine h_exS rfl (r_storeA rfl rfl rfl hs (by (repeat (first | exact Cut.head _ _ | apply Cut.tail)); done) in68 sz68 rfl (fun h => by cases h) rfl (by rfl)) rfl rfl ?_
         intro w hs
         refine ⟨trivial, ?_⟩
         refine h_nil (t_done ?_)
         refine d_tail 10 (by kernel_rfl) ?_
         refine s_nil ?_
         refine hKM6 _ _ _ (by rfl) (by rfl) ?_
         exact ⟨b0, b1, bp, _, _, _, rfl, hs.perm⟩
        refine t_alt ?_ ?_
        ·
         refine h_ex rfl (r_mk valC (.slice none 0 0) 2 2 rfl rfl rfl hs (rfl) (rfl) (by first | decide | omega) (by first | decide | omega) Try.underlying65 (by rfl) sz72 (by decide) (by decide) rfl) rfl rfl (fun _ => by rfl) ?_
         intro sw w hs
         refine ⟨trivial, ?_⟩
         refine h_nil (t_alt ?_ ?_)
         ·
          refine h_enter rfl (r_call rfl ent31 rfl) rfl ?_
          refine new_use _ _ hs ?_
          intro b1 w hs
          refine ⟨_, rfl, ah_put trivial (by rfl) ?_⟩
          refine h_nil (t_alt ?_ ?_)
          ·
           refine h_ex rfl (r_lit valC [_, _] rfl rfl rfl hs Try.underlying64 (by kernel_rfl) sz58 rfl (by decide) (fun _ => rfl)) rfl rfl (fun _ => by rfl) ?_
           intro sc w hs
           refine ⟨trivial, ?_⟩
           refine h_nil (t_take ?_)
           refine hVal rfl (fun w hS => (r_build rfl rfl pl68 zr68 (by rfl))) ?_
           refine h_nil (t_alt ?_ t_none)
           refine h_ex rfl (r_alloc rfl zr68 hs) rfl rfl (fun _ => by rfl) ?_
           intro bp w hs
           refine ⟨trivial, ?_⟩
           refine h_nil (t_alt ?_ t_none)
           refine h_exS rfl (r_storeA rfl rfl rfl hs (by (repeat (first | exact Cut.head _ _ | apply Cut.tail)); done) in68 sz68 rfl (fun h => by cases h) rfl (by rfl)) rfl rfl ?_
           intro w hs
           refine ⟨trivial, ?_⟩
           refine h_nil (t_done ?_)
           refine d_tail 10 (by kernel_rfl) ?_
           refine s_nil ?_
           refine hKM6 _ _ _ (by rfl) (by rfl) ?_
           exact ⟨b0, b1, bp, _, _, _, rfl, hs.perm⟩
          refine t_alt ?_ t_none
          refine h_ex rfl (r_alloc rfl zr68 hs) rfl rfl (fun _ => by rfl) ?_
          intro bp w hs
          refine ⟨trivial, ?_⟩
          refine h_nil (t_alt ?_ t_none)
          refine h_ex rfl (r_lit valC [_, _] rfl rfl rfl hs Try.underlying64 (by kernel_rfl) sz58 rfl (by decide) (fun _ => rfl)) rfl rfl (fun _ => by rfl) ?_
          intro sc w hs
          refine ⟨trivial, ?_⟩
          refine h_nil (t_take ?_)
          refine hVal rfl (fun w hS => (r_build rfl rfl pl68 zr68 (by rfl))) ?_
          refine h_nil (t_alt ?_ t_none)
          refine h_exS rfl (r_storeA rfl rfl rfl hs (by (repeat (first | exact Cut.head _ _ | apply Cut.tail)); done) in68 sz68 rfl (fun h => by cases h) rfl (by rfl)) rfl rfl ?_
          intro w hs
          refine ⟨trivial, ?_⟩
          refine h_nil (t_done ?_)
          refine d_tail 10 (by kernel_rfl) ?_
          refine s_nil ?_
          refine hKM6 _ _ _ (by rfl) (by rfl) ?_
          exact ⟨b0, b1, bp, _, _, _, rfl, hs.perm⟩
         refine t_alt ?_ t_none
         refine h_ex rfl (r_alloc rfl zr68 hs) rfl rfl (fun _ => by rfl) ?_
         intro bp w hs
         refine ⟨trivial, ?_⟩
         refine h_nil (t_alt ?_ t_none)
         refine h_enter rfl (r_call rfl ent31 rfl) rfl ?_
         refine new_use _ _ hs ?_
         intro b1 w hs
         refine ⟨_, rfl, ah_put trivial (by rfl) ?_⟩
         refine h_nil (t_alt ?_ t_none)
         refine h_ex rfl (r_lit valC [_, _] rfl rfl rfl hs Try.underlying64 (by kernel_rfl) sz58 rfl (by decide) (fun _ => rfl)) rfl rfl (fun _ => by rfl) ?_
         intro sc w hs
         refine ⟨trivial, ?_⟩
         refine h_nil (t_take ?_)
         refine hVal rfl (fun w hS => (r_build rfl rfl pl68 zr68 (by rfl))) ?_
         refine h_nil (t_alt ?_ t_none)
         refine h_exS rfl (r_storeA rfl rfl rfl hs (by (repeat (first | exact Cut.head _ _ | apply Cut.tail)); done) in68 sz68 rfl (fun h => by cases h) rfl (by rfl)) rfl rfl ?_
         intro w hs
         refine ⟨trivial, ?_⟩
         refine h_nil (t_done ?_)
         refine d_tail 10 (by kernel_rfl) ?_
         refine s_nil ?_
         refine hKM6 _ _ _ (by rfl) (by rfl) ?_
         exact ⟨b0, b1, bp, _, _, _, rfl, hs.perm⟩
        refine t_alt ?_ t_none
        refine h_ex rfl (r_alloc rfl zr68 hs) rfl rfl (fun _ => by rfl) ?_
        intro bp w hs
        refine ⟨trivial, ?_⟩
        refine h_nil (t_alt ?_ ?_)
        ·
         refine h_enter rfl (r_call rfl ent31 rfl) rfl ?_
         refine new_use _ _ hs ?_
         intro b1 w hs
         refine ⟨_, rfl, ah_put trivial (by rfl) ?_⟩
         refine h_nil (t_alt ?_ ?_)
         ·
          refine h_ex rfl (r_lit valC [_, _] rfl rfl rfl hs Try.underlying64 (by kernel_rfl) sz58 rfl (by decide) (fun _ => rfl)) rfl rfl (fun _ => by rfl) ?_
          intro sc w hs
          refine ⟨trivial, ?_⟩
          refine h_nil (t_alt ?_ t_none)
          refine h_ex rfl (r_mk valC (.slice none 0 0) 2 2 rfl rfl rfl hs (rfl) (rfl) (by first | decide | omega) (by first | decide | omega) Try.underlying65 (by rfl) sz72 (by decide) (by decide) rfl) rfl rfl (fun _ => by rfl) ?_
          intro sw w hs
          refine ⟨trivial, ?_⟩
          refine h_nil (t_take ?_)
          refine hVal rfl (fun w hS => (r_build rfl rfl pl68 zr68 (by rfl))) ?_
          refine h_nil (t_alt ?_ t_none)
          refine h_exS rfl (r_storeA rfl rfl rfl hs (by (repeat (first | exact Cut.head _ _ | apply Cut.tail)); done) in68 sz68 rfl (fun h => by cases h) rfl (by rfl)) rfl rfl ?_
          intro w hs
          refine ⟨trivial, ?_⟩
          refine h_nil (t_done ?_)
          refine d_tail 10 (by kernel_rfl) ?_
          refine s_nil ?_
          refine hKM6 _ _ _ (by rfl) (by rfl) ?_
          exact ⟨b0, b1, bp, _, _, _, rfl, hs.perm⟩
         refine t_alt ?_ t_none
         refine h_ex rfl (r_mk valC (.slice none 0 0) 2 2 rfl rfl rfl hs (rfl) (rfl) (by first | decide | omega) (by first | decide | omega) Try.underlying65 (by rfl) sz72 (by decide) (by decide) rfl) rfl rfl (fun _ => by rfl) ?_
         intro sw w hs
         refine ⟨trivial, ?_⟩
         refine h_nil (t_alt ?_ t_none)
         refine h_ex rfl (r_lit valC [_, _] rfl rfl rfl hs Try.underlying64 (by kernel_rfl) sz58 rfl (by decide) (fun _ => rfl)) rfl rfl (fun _ => by rfl) ?_
         intro sc w hs
         refine ⟨trivial, ?_⟩
         refine h_nil (t_take ?_)
         refine hVal rfl (fun w hS => (r_build rfl rfl pl68 zr68 (by rfl))) ?_
         refine h_nil (t_alt ?_ t_none)
         refine h_exS rfl (r_storeA rfl rfl rfl hs (by (repeat (first | exact Cut.head _ _ | apply Cut.tail)); done) in68 sz68 rfl (fun h => by cases h) rfl (by rfl)) rfl rfl ?_
         intro w hs
         refine ⟨trivial, ?_⟩
         refine h_nil (t_done ?_)
         refine d_tail 10 (by kernel_rfl) ?_
         refine s_nil ?_
         refine hKM6 _ _ _ (by rfl) (by rfl) ?_
         exact ⟨b0, b1, bp, _, _, _, rfl, hs.perm⟩
        refine t_alt ?_ t_none
        refine h_ex rfl (r_mk valC (.slice none 0 0) 2 2 rfl rfl rfl hs (rfl) (rfl) (by first | decide | omega) (by first | decide | omega) Try.underlying65 (by rfl) sz72 (by decide) (by decide) rfl) rfl rfl (fun _ => by rfl) ?_
        intro sw w hs
        refine ⟨trivial, ?_⟩
        refine h_nil (t_alt ?_ t_none)
        refine h_enter rfl (r_call rfl ent31 rfl) rfl ?_
        refine new_use _ _ hs ?_
        intro b1 w hs
        refine ⟨_, rfl, ah_put trivial (by rfl) ?_⟩
        refine h_nil (t_alt ?_ t_none)
        refine h_ex rfl (r_lit valC [_, _] rfl rfl rfl hs Try.underlying64 (by kernel_rfl) sz58 rfl (by decide) (fun _ => rfl)) rfl rfl (fun _ => by rfl) ?_
        intro sc w hs
        refine ⟨trivial, ?_⟩
        refine h_nil (t_take ?_)
        refine hVal rfl (fun w hS => (r_build rfl rfl pl68 zr68 (by rfl))) ?_
        refine h_nil (t_alt ?_ t_none)
        refine h_exS rfl (r_storeA rfl rfl rfl hs (by (repeat (first | exact Cut.head _ _ | apply Cut.tail)); done) in68 sz68 rfl (fun h => by cases h) rfl (by rfl)) rfl rfl ?_
        intro w hs
        refine ⟨trivial, ?_⟩
        refine h_nil (t_done ?_)
        refine d_tail 10 (by kernel_rfl) ?_
        refine s_nil ?_
        refine hKM6 _ _ _ (by rfl) (by rfl) ?_
        exact ⟨b0, b1, bp, _, _, _, rfl, hs.perm⟩
       refine t_alt ?_ ?_
       ·
        refine h_ex rfl (r_mk valC (.slice none 0 0) 2 2 rfl rfl rfl hs (rfl) (rfl) (by first | decide | omega) (by first | decide | omega) Try.underlying65 (by rfl) sz72 (by decide) (by decide) rfl) rfl rfl (fun _ => by rfl) ?_
        intro sw w hs
        refine ⟨trivial, ?_⟩
        refine h_nil (t_alt ?_ ?_)
        ·
         refine h_enter rfl (r_call rfl ent31 rfl) rfl ?_
         refine new_use _ _ hs ?_
         intro b0 w hs
         refine ⟨_, rfl, ah_put trivial (by rfl) ?_⟩
         refine h_nil (t_alt ?_ ?_)
         ·
          refine h_enter rfl (r_call rfl ent31 rfl) rfl ?_
          refine new_use _ _ hs ?_
          intro b1 w hs
          refine ⟨_, rfl, ah_put trivial (by rfl) ?_⟩
          refine h_nil (t_alt ?_ ?_)
          ·
           refine h_ex rfl (r_lit valC [_, _] rfl rfl rfl hs Try.underlying64 (by kernel_rfl) sz58 rfl (by decide) (fun _ => rfl)) rfl rfl (fun _ => by rfl) ?_
           intro sc w hs
           refine ⟨trivial, ?_⟩
           refine h_nil (t_take ?_)
           refine hVal rfl (fun w hS => (r_build rfl rfl pl68 zr68 (by rfl))) ?_
           refine h_nil (t_alt ?_ t_none)
           refine h_ex rfl (r_alloc rfl zr68 hs) rfl rfl (fun _ => by rfl) ?_
           intro bp w hs
           refine ⟨trivial, ?_⟩
           refine h_nil (t_alt ?_ t_none)
           refine h_exS rfl (r_storeA rfl rfl rfl hs (by (repeat (first | exact Cut.head _ _ | apply Cut.tail)); done) in68 sz68 rfl (fun h => by cases h) rfl (by rfl)) rfl rfl ?_
           intro w hs
           refine ⟨trivial, ?_⟩
           refine h_nil (t_done ?_)
           refine d_tail 10 (by kernel_rfl) ?_
           refine s_nil ?_
           refine hKM6 _ _ _ (by rfl) (by rfl) ?_
           exact ⟨b0, b1, bp, _, _, _, rfl, hs.perm⟩
          refine t_alt ?_ t_none
          refine h_ex rfl (r_alloc rfl zr68 hs) rfl rfl (fun _ => by rfl) ?_
          intro bp w hs
          refine ⟨trivial, ?_⟩
          refine h_nil (t_alt ?_ t_none)
          refine h_ex rfl (r_lit valC [_, _] rfl rfl rfl hs Try.underlying64 (by kernel_rfl) sz58 rfl (by decide) (fun _ => rfl)) rfl rfl (fun _ => by rfl) ?_
          intro sc w hs
          refine ⟨trivial, ?_⟩
          refine h_nil (t_take ?_)
          refine hVal rfl (fun w hS => (r_build rfl rfl pl68 zr68 (by rfl))) ?_
          refine h_nil (t_alt ?_ t_none)
          refine h_exS rfl (r_storeA rfl rfl rfl hs (by (repeat (first | exact Cut.head _ _ | apply Cut.tail)); done) in68 sz68 rfl (fun h => by cases h) rfl (by rfl)) rfl rfl ?_
          intro w hs
          refine ⟨trivial, ?_⟩
          refine h_nil (t_done ?_)
          refine d_tail 10 (by kernel_rfl) ?_
          refine s_nil ?_
          refine hKM6 _ _ _ (by rfl) (by rfl) ?_
          exact ⟨b0, b1, bp, _, _, _, rfl, hs.perm⟩
         refine t_alt ?_ t_none
         refine h_ex rfl (r_alloc rfl zr68 hs) rfl rfl (fun _ => by rfl) ?_
         intro bp w hs
         refine ⟨trivial, ?_⟩
         refine h_nil (t_alt ?_ t_none)
         refine h_enter rfl (r_call rfl ent31 rfl) rfl ?_
         refine new_use _ _ hs ?_
         intro b1 w hs
         refine ⟨_, rfl, ah_put trivial (by rfl) ?_⟩
         refine h_nil (t_alt ?_ t_none)
         refine h_ex rfl (r_lit valC [_, _] rfl rfl rfl hs Try.underlying64 (by kernel_rfl) sz58 rfl (by decide) (fun _ => rfl)) rfl rfl (fun _ => by rfl) ?_
         intro sc w hs
         refine ⟨trivial, ?_⟩
         refine h_nil (t_take ?_)
         refine hVal rfl (fun w hS => (r_build rfl rfl pl68 zr68 (by rfl))) ?_
         refine h_nil (t_alt ?_ t_none)
         refine h_exS rfl (r_storeA rfl rfl rfl hs (by (repeat (first | exact Cut.head _ _ | apply Cut.tail)); done) in68 sz68 rfl (fun h => by cases h) rfl (by rfl)) rfl rfl ?_
         intro w hs
         refine ⟨trivial, ?_⟩
         refine h_nil (t_done ?_)
         refine d_tail 10 (by kernel_rfl) ?_
         refine s_nil ?_
         refine hKM6 _ _ _ (by rfl) (by rfl) ?_
         exact ⟨b0, b1, bp, _, _, _, rfl, hs.perm⟩
        refine t_alt ?_ t_none
        refine h_ex rfl (r_alloc rfl zr68 hs) rfl rfl (fun _ => by rfl) ?_
        intro bp w hs
        refine ⟨trivial, ?_⟩
        refine h_nil (t_alt ?_ t_none)
        refine h_enter rfl (r_call rfl ent31 rfl) rfl ?_
        refine new_use _ _ hs ?_
        intro b0 w hs
        refine ⟨_, rfl, ah_put trivial (by rfl) ?_⟩
        refine h_nil (t_alt ?_ t_none)
        refine h_enter rfl (r_call rfl ent31 rfl) rfl ?_
        refine new_use _ _ hs ?_
        intro b1 w hs
        refine ⟨_, rfl, ah_put trivial (by rfl) ?_⟩
        refine h_nil (t_alt ?_ t_none)
        refine h_ex rfl (r_lit valC [_, _] rfl rfl rfl hs Try.underlying64 (by kernel_rfl) sz58 rfl (by decide) (fun _ => rfl)) rfl rfl (fun _ => by rfl) ?_
        intro sc w hs
        refine ⟨trivial, ?_⟩
        refine h_nil (t_take ?_)
        refine hVal rfl (fun w hS => (r_build rfl rfl pl68 zr68 (by rfl))) ?_
        refine h_nil (t_alt ?_ t_none)
        refine h_exS rfl (r_storeA rfl rfl rfl hs (by (repeat (first | exact Cut.head _ _ | apply Cut.tail)); done) in68 sz68 rfl (fun h => by cases h) rfl (by rfl)) rfl rfl ?_
        intro w hs
        refine ⟨trivial, ?_⟩
        refine h_nil (t_done ?_)
        refine d_tail 10 (by kernel_rfl) ?_
        refine s_nil ?_
        refine hKM6 _ _ _ (by rfl) (by rfl) ?_
        exact ⟨b0, b1, bp, _, _, _, rfl, hs.perm⟩
       refine t_alt ?_ t_none
       refine h_ex rfl (r_alloc rfl zr68 hs) rfl rfl (fun _ => by rfl) ?_
       intro bp w hs
       refine ⟨trivial, ?_⟩
       refine h_nil (t_alt ?_ ?_)
       ·
        refine h_enter rfl (r_call rfl ent31 rfl) rfl ?_
        refine new_use _ _ hs ?_
        intro b0 w hs
        refine ⟨_, rfl, ah_put trivial (by rfl) ?_⟩
        refine h_nil (t_alt ?_ ?_)
        ·
         refine h_enter rfl (r_call rfl ent31 rfl) rfl ?_
         refine new_use _ _ hs ?_
         intro b1 w hs
         refine ⟨_, rfl, ah_put trivial (by rfl) ?_⟩
         refine h_nil (t_alt ?_ ?_)
         ·
          refine h_ex rfl (r_lit valC [_, _] rfl rfl rfl hs Try.underlying64 (by kernel_rfl) sz58 rfl (by decide) (fun _ => rfl)) rfl rfl (fun _ => by rfl) ?_
          intro sc w hs
          refine ⟨trivial, ?_⟩
          refine h_nil (t_alt ?_ t_none)
          refine h_ex rfl (r_mk valC (.slice none 0 0) 2 2 rfl rfl rfl hs (rfl) (rfl) (by first | decide | omega) (by first | decide | omega) Try.underlying65 (by rfl) sz72 (by decide) (by decide) rfl) rfl rfl (fun _ => by rfl) ?_
          intro sw w hs
          refine ⟨trivial, ?_⟩
          refine h_nil (t_take ?_)
          refine hVal rfl (fun w hS => (r_build rfl rfl pl68 zr68 (by rfl))) ?_
          refine h_nil (t_alt ?_ t_none)
          refine h_exS rfl (r_storeA rfl rfl rfl hs (by (repeat (first | exact Cut.head _ _ | apply Cut.tail)); done) in68 sz68 rfl (fun h => by cases h) rfl (by rfl)) rfl rfl ?_
          intro w hs
          refine ⟨trivial, ?_⟩
          refine h_nil (t_done ?_)
          refine d_tail 10 (by kernel_rfl) ?_
          refine s_nil ?_
          refine hKM6 _ _ _ (by rfl) (by rfl) ?_
          exact ⟨b0, b1, bp, _, _, _, rfl, hs.perm⟩
         refine t_alt ?_ t_none
         refine h_ex rfl (r_mk valC (.slice none 0 0) 2 2 rfl rfl rfl hs (rfl) (rfl) (by first | decide | omega) (by first | decide | omega) Try.underlying65 (by rfl) sz72 (by decide) (by decide) rfl) rfl rfl (fun _ => by rfl) ?_
         intro sw w hs
         refine ⟨trivial, ?_⟩
         refine h_nil (t_alt ?_ t_none)
         refine h_ex rfl (r_lit valC [_, _] rfl rfl rfl hs Try.underlying64 (by kernel_rfl) sz58 rfl (by decide) (fun _ => rfl)) rfl rfl (fun _ => by rfl) ?_
         intro sc w hs
         refine ⟨trivial, ?_⟩
         refine h_nil (t_take ?_)
         refine hVal rfl (fun w hS => (r_build rfl rfl pl68 zr68 (by rfl))) ?_
         refine h_nil (t_alt ?_ t_none)
         refine h_exS rfl (r_storeA rfl rfl rfl hs (by (repeat (first | exact Cut.head _ _ | apply Cut.tail)); done) in68 sz68 rfl (fun h => by cases h) rfl (by rfl)) rfl rfl ?_
         intro w hs
         refine ⟨trivial, ?_⟩
         refine h_nil (t_done ?_)
         refine d_tail 10 (by kernel_rfl) ?_
         refine s_nil ?_
         refine hKM6 _ _ _ (by rfl) (by rfl) ?_
         exact ⟨b0, b1, bp, _, _, _, rfl, hs.perm⟩
        refine t_alt ?_ t_none
        refine h_ex rfl (r_mk valC (.slice none 0 0) 2 2 rfl rfl rfl hs (rfl) (rfl) (by first | decide | omega) (by first | decide | omega) Try.underlying65 (by rfl) sz72 (by decide) (by decide) rfl) rfl rfl (fun _ => by rfl) ?_
        intro sw w hs
        refine ⟨trivial, ?_⟩
        refine h_nil (t_alt ?_ t_none)
        refine h_enter rfl (r_call rfl ent31 rfl) rfl ?_
        refine new_use _ _ hs ?_
        intro b1 w hs
        refine ⟨_, rfl, ah_put trivial (by rfl) ?_⟩
        refine h_nil (t_alt ?_ t_none)
        refine h_ex rfl (r_lit valC [_, _] rfl rfl rfl hs Try.underlying64 (by kernel_rfl) sz58 rfl (by decide) (fun _ => rfl)) rfl rfl (fun _ => by rfl) ?_
        intro sc w hs
        refine ⟨trivial, ?_⟩
        refine h_nil (t_take ?_)
        refine hVal rfl (fun w hS => (r_build rfl rfl pl68 zr68 (by rfl))) ?_
        refine h_nil (t_alt ?_ t_none)
        refine h_exS rfl (r_storeA rfl rfl rfl hs (by (repeat (first | exact Cut.head _ _ | apply Cut.tail)); done) in68 sz68 rfl (fun h => by cases h) rfl (by rfl)) rfl rfl ?_
        intro w hs
        refine ⟨trivial, ?_⟩
        refine h_nil (t_done ?_)
        refine d_tail 10 (by kernel_rfl) ?_
        refine s_nil ?_
        refine hKM6 _ _ _ (by rfl) (by rfl) ?_
        exact ⟨b0, b1, bp, _, _, _, rfl, hs.perm⟩
       refine t_alt ?_ t_none
       refine h_ex rfl (r_mk valC (.slice none 0 0) 2 2 rfl rfl rfl hs (rfl) (rfl) (by first | decide | omega) (by first | decide | omega) Try.underlying65 (by rfl) sz72 (by decide) (by decide) rfl) rfl rfl (fun _ => by rfl) ?_
       intro sw w hs
       refine ⟨trivial, ?_⟩
       refine h_nil (t_alt ?_ t_none)
       refine h_enter rfl (r_call rfl ent31 rfl) rfl ?_
       refine new_use _ _ hs ?_
       intro b0 w hs
       refine ⟨_, rfl, ah_put trivial (by rfl) ?_⟩
       refine h_nil (t_alt ?_ t_none)
       refine h_enter rfl (r_call rfl ent31 rfl) rfl ?_
       refine new_use _ _ hs ?_
       intro b1 w hs
       refine ⟨_, rfl, ah_put trivial (by rfl) ?_⟩
       refine h_nil (t_alt ?_ t_none)
       refine h_ex rfl (r_lit valC [_, _] rfl rfl rfl hs Try.underlying64 (by kernel_rfl) sz58 rfl (by decide) (fun _ => rfl)) rfl rfl (fun _ => by rfl) ?_
       intro sc w hs
       refine ⟨trivial, ?_⟩
       refine h_nil (t_take ?_)
       refine hVal rfl (fun w hS => (r_build rfl rfl pl68 zr68 (by rfl))) ?_
       refine h_nil (t_alt ?_ t_none)
       refine h_exS rfl (r_storeA rfl rfl rfl hs (by (repeat (first | exact Cut.head _ _ | apply Cut.tail)); done) in68 sz68 rfl (fun h => by cases h) rfl (by rfl)) rfl rfl ?_
       intro w hs
       refine ⟨trivial, ?_⟩
       refine h_nil (t_done ?_)
       refine d_tail 10 (by kernel_rfl) ?_
       refine s_nil ?_
       refine hKM6 _ _ _ (by rfl) (by rfl) ?_
       exact ⟨b0, b1, bp, _, _, _, rfl, hs.perm⟩
      refine t_alt ?_ t_none
      refine h_ex rfl (r_alloc rfl zr68 hs) rfl rfl (fun _ => by rfl) ?_
      intro bp w hs
      refine ⟨trivial, ?_⟩
      refine h_nil (t_alt ?_ ?_)
      ·
       refine h_enter rfl (r_call rfl ent31 rfl) rfl ?_
       refine new_use _ _ hs ?_
       intro b0 w hs
       refine ⟨_, rfl, ah_put trivial (by rfl) ?_⟩
       refine h_nil (t_alt ?_ ?_)
       ·
        refine h_enter rfl (r_call rfl ent31 rfl) rfl ?_
        refine new_use _ _ hs ?_
        intro b1 w hs
        refine ⟨_, rfl, ah_put trivial (by rfl) ?_⟩
        refine h_nil (t_alt ?_ ?_)
        ·
         refine h_ex rfl (r_lit valC [_, _] rfl rfl rfl hs Try.underlying64 (by kernel_rfl) sz58 rfl (by decide) (fun _ => rfl)) rfl rfl (fun _ => by rfl) ?_
         intro sc w hs
         refine ⟨trivial, ?_⟩
         refine h_nil (t_alt ?_ ?_)
         ·
          refine h_ex rfl (r_mk valC (.slice none 0 0) 2 2 rfl rfl rfl hs (rfl) (rfl) (by first | decide | omega) (by first | decide | omega) Try.underlying65 (by rfl) sz72 (by decide) (by decide) rfl) rfl rfl (fun _ => by rfl) ?_
          intro sw w hs
          refine ⟨trivial, ?_⟩
          refine h_nil (t_alt ?_ t_none)
          refine h_ex rfl (r_mk valC (.slice none 0 0) 2 2 rfl rfl rfl hs (rfl) (rfl) (by first | decide | omega) (by first | decide | omega) Try.underlying66 (by rfl) sz71 (by decide) (by decide) rfl) rfl rfl (fun _ => by rfl) ?_
          intro st w hs
          refine ⟨trivial, ?_⟩
          refine h_nil (t_take ?_)
          refine hVal rfl (fun w hS => (r_build rfl rfl pl68 zr68 (by rfl))) ?_
          refine h_nil (t_alt ?_ t_none)
          refine h_exS rfl (r_storeA rfl rfl rfl hs (by (repeat (first | exact Cut.head _ _ | apply Cut.tail)); done) in68 sz68 rfl (fun h => by cases h) rfl (by rfl)) rfl rfl ?_
          intro w hs
          refine ⟨trivial, ?_⟩
          refine h_nil (t_done ?_)
          refine d_tail 10 (by kernel_rfl) ?_
          refine s_nil ?_
          refine hKM6 _ _ _ (by rfl) (by rfl) ?_
          exact ⟨b0, b1, bp, _, _, _, rfl, hs.perm⟩
         refine t_alt ?_ t_none
         refine h_ex rfl (r_mk valC (.slice none 0 0) 2 2 rfl rfl rfl hs (rfl) (rfl) (by first | decide | omega) (by first | decide | omega) Try.underlying66 (by rfl) sz71 (by decide) (by decide) rfl) rfl rfl (fun _ => by rfl) ?_
         intro st w hs
         refine ⟨trivial, ?_⟩
         refine h_nil (t_alt ?_ t_none)
         refine h_ex rfl (r_mk valC (.slice none 0 0) 2 2 rfl rfl rfl hs (rfl) (rfl) (by first | decide | omega) (by first | decide | omega) Try.underlying65 (by rfl) sz72 (by decide) (by decide) rfl) rfl rfl (fun _ => by rfl) ?_
         intro sw w hs
         refine ⟨trivial, ?_⟩
         refine h_nil (t_take ?_)
         refine hVal rfl (fun w hS => (r_build rfl rfl pl68 zr68 (by rfl))) ?_
         refine h_nil (t_alt ?_ t_none)
         refine h_exS rfl (r_storeA rfl rfl rfl hs (by (repeat (first | exact Cut.head _ _ | apply Cut.tail)); done) in68 sz68 rfl (fun h => by cases h) rfl (by rfl)) rfl rfl ?_
         intro w hs
         refine ⟨trivial, ?_⟩
         refine h_nil (t_done ?_)
         refine d_tail 10 (by kernel_rfl) ?_
         refine s_nil ?_
         refine hKM6 _ _ _ (by rfl) (by rfl) ?_
         exact ⟨b0, b1, bp, _, _, _, rfl, hs.perm⟩
        refine t_alt ?_ ?_
        ·
         refine h_ex rfl (r_mk valC (.slice none 0 0) 2 2 rfl rfl rfl hs (rfl) (rfl) (by first | decide | omega) (by first | decide | omega) Try.underlying65 (by rfl) sz72 (by decide) (by decide) rfl) rfl rfl (fun _ => by rfl) ?_
         intro sw w hs
         refine ⟨trivial, ?_⟩
         refine h_nil (t_alt ?_ ?_)
         ·
          refine h_ex rfl (r_lit valC [_, _] rfl rfl rfl hs Try.underlying64 (by kernel_rfl) sz58 rfl (by decide) (fun _ => rfl)) rfl rfl (fun _ => by rfl) ?_
          intro sc w hs
          refine ⟨trivial, ?_⟩
          refine h_nil (t_alt ?_ t_none)
          refine h_ex rfl (r_mk valC (.slice none 0 0) 2 2 rfl rfl rfl hs (rfl) (rfl) (by first | decide | omega) (by first | decide | omega) Try.underlying66 (by rfl) sz71 (by decide) (by decide) rfl) rfl rfl (fun _ => by rfl) ?_
          intro st w hs
          refine ⟨trivial, ?_⟩
          refine h_nil (t_take ?_)
          refine hVal rfl (fun w hS => (r_build rfl rfl pl68 zr68 (by rfl))) ?_
          refine h_nil (t_alt ?_ t_none)
          refine h_exS rfl (r_storeA rfl rfl rfl hs (by (repeat (first | exact Cut.head _ _ | apply Cut.tail)); done) in68 sz68 rfl (fun h => by cases h) rfl (by rfl)) rfl rfl ?_
          intro w hs
          refine ⟨trivial, ?_⟩
          refine h_nil (t_done ?_)
          refine d_tail 10 (by kernel_rfl) ?_
          refine s_nil ?_
          refine hKM6 _ _ _ (by rfl) (by rfl) ?_
          exact ⟨b0, b1, bp, _, _, _, rfl, hs.perm⟩
         refine t_alt ?_ t_none
         refine h_ex rfl (r_mk valC (.slice none 0 0) 2 2 rfl rfl rfl hs (rfl) (rfl) (by first | decide | omega) (by first | decide | omega) Try.underlying66 (by rfl) sz71 (by decide) (by decide) rfl) rfl rfl (fun _ => by rfl) ?_
         intro st w hs
         refine ⟨trivial, ?_⟩
         refine h_nil (t_alt ?_ t_none)
         refine h_ex rfl (r_lit valC [_, _] rfl rfl rfl hs Try.underlying64 (by kernel_rfl) sz58 rfl (by decide) (fun _ => rfl)) rfl rfl (fun _ => by rfl) ?_
         intro sc w hs
         refine ⟨trivial, ?_⟩
         refine h_nil (t_take ?_)
         refine hVal rfl (fun w hS => (r_build rfl rfl pl68 zr68 (by rfl))) ?_
         refine h_nil (t_alt ?_ t_none)
         refine h_exS rfl (r_storeA rfl rfl rfl hs (by (repeat (first | exact Cut.head _ _ | apply Cut.tail)); done) in68 sz68 rfl (fun h => by cases h) rfl (by rfl)) rfl rfl ?_
         intro w hs
         refine ⟨trivial, ?_⟩
         refine h_nil (t_done ?_)
         refine d_tail 10 (by kernel_rfl) ?_
         refine s_nil ?_
         refine hKM6 _ _ _ (by rfl) (by rfl) ?_
         exact ⟨b0, b1, bp, _, _, _, rfl, hs.perm⟩
        refine t_alt ?_ t_none
        refine h_ex rfl (r_mk valC (.slice none 0 0) 2 2 rfl rfl rfl hs (rfl) (rfl) (by first | decide | omega) (by first | decide | omega) Try.underlying66 (by rfl) sz71 (by decide) (by decide) rfl) rfl rfl (fun _ => by rfl) ?_
        intro st w hs
        refine ⟨trivial, ?_⟩
        refine h_nil (t_alt ?_ ?_)
        ·
         refine h_ex rfl (r_lit valC [_, _] rfl rfl rfl hs Try.underlying64 (by kernel_rfl) sz58 rfl (by decide) (fun _ => rfl)) rfl rfl (fun _ => by rfl) ?_
         intro sc w hs
         refine ⟨trivial, ?_⟩
         refine h_nil (t_alt ?_ t_none)
         refine h_ex rfl (r_mk valC (.slice none 0 0) 2 2 rfl rfl rfl hs (rfl) (rfl) (by first | decide | omega) (by first | decide | omega) Try.underlying65 (by rfl) sz72 (by decide) (by decide) rfl) rfl rfl (fun _ => by rfl) ?_
         intro sw w hs
         refine ⟨trivial, ?_⟩
         refine h_nil (t_take ?_)
         refine hVal rfl (fun w hS => (r_build rfl rfl pl68 zr68 (by rfl))) ?_
         refine h_nil (t_alt ?_ t_none)
         refine h_exS rfl (r_storeA rfl rfl rfl hs (by (repeat (first | exact Cut.head _ _ | apply Cut.tail)); done) in68 sz68 rfl (fun h => by cases h) rfl (by rfl)) rfl rfl ?_
         intro w hs
         refine ⟨trivial, ?_⟩
         refine h_nil (t_done ?_)
         refine d_tail 10 (by kernel_rfl) ?_
         refine s_nil ?_
         refine hKM6 _ _ _ (by rfl) (by rfl) ?_
         exact ⟨b0, b1, bp, _, _, _, rfl, hs.perm⟩
        refine t_alt ?_ t_none
        refine h_ex rfl (r_mk valC (.slice none 0 0) 2 2 rfl rfl rfl hs (rfl) (rfl) (by first | decide | omega) (by first | decide | omega) Try.underlying65 (by rfl) sz72 (by decide) (by decide) rfl) rfl rfl (fun _ => by rfl) ?_
        intro sw w hs
        refine ⟨trivial, ?_⟩
        refine h_nil (t_alt ?_ t_none)
        refine h_ex rfl (r_lit valC [_, _] rfl rfl rfl hs Try.underlying64 (by kernel_rfl) sz58 rfl (by decide) (fun _ => rfl)) rfl rfl (fun _ => by rfl) ?_
        intro sc w hs
        refine ⟨trivial, ?_⟩
        refine h_nil (t_take ?_)
        refine hVal rfl (fun w hS => (r_build rfl rfl pl68 zr68 (by rfl))) ?_
        refine h_nil (t_alt ?_ t_none)
        refine h_exS rfl (r_storeA rfl rfl rfl hs (by (repeat (first | exact Cut.head _ _ | apply Cut.tail)); done) in68 sz68 rfl (fun h => by cases h) rfl (by rfl)) rfl rfl ?_
        intro w hs
        refine ⟨trivial, ?_⟩
        refine h_nil (t_done ?_)
        refine d_tail 10 (by kernel_rfl) ?_
        refine s_nil ?_
        refine hKM6 _ _ _ (by rfl) (by rfl) ?_
        exact ⟨b0, b1, bp, _, _, _, rfl, hs.perm⟩
       refine t_alt ?_ ?_
       ·
        refine h_ex rfl (r_mk valC (.slice none 0 0) 2 2 rfl rfl rfl hs (rfl) (rfl) (by first | decide | omega) (by first | decide | omega) Try.underlying65 (by rfl) sz72 (by decide) (by decide) rfl) rfl rfl (fun _ => by rfl) ?_
        intro sw w hs
        refine ⟨trivial, ?_⟩
        refine h_nil (t_alt ?_ ?_)
        ·
         refine h_enter rfl (r_call rfl ent31 rfl) rfl ?_
         refine new_use _ _ hs ?_
         intro b1 w hs
         refine ⟨_, rfl, ah_put trivial (by rfl) ?_⟩
         refine h_nil (t_alt ?_ ?_)
         ·
          refine h_ex rfl (r_lit valC [_, _] rfl rfl rfl hs Try.underlying64 (by kernel_rfl) sz58 rfl (by decide) (fun _ => rfl)) rfl rfl (fun _ => by rfl) ?_
          intro sc w hs
          refine ⟨trivial, ?_⟩
          refine h_nil (t_alt ?_ t_none)
          refine h_ex rfl (r_mk valC (.slice none 0 0) 2 2 rfl rfl rfl hs (rfl) (rfl) (by first | decide | omega) (by first | decide | omega) Try.underlying66 (by rfl) sz71 (by decide) (by decide) rfl) rfl rfl (fun _ => by rfl) ?_
          intro st w hs
          refine ⟨trivial, ?_⟩
          refine h_nil (t_take ?_)
          refine hVal rfl (fun w hS => (r_build rfl rfl pl68 zr68 (by rfl))) ?_
          refine h_nil (t_alt ?_ t_none)
          refine h_exS rfl (r_storeA rfl rfl rfl hs (by (repeat (first | exact Cut.head _ _ | apply Cut.tail)); done) in68 sz68 rfl (fun h => by cases h) rfl (by rfl)) rfl rfl ?_
          intro w hs
          refine ⟨trivial, ?_⟩
          refine h_nil (t_done ?_)
          refine d_tail 10 (by kernel_rfl) ?_
          refine s_nil ?_
          refine hKM6 _ _ _ (by rfl) (by rfl) ?_
          exact ⟨b0, b1, bp, _, _, _, rfl, hs.perm⟩
         refine t_alt ?_ t_none
         refine h_ex rfl (r_mk valC (.slice none 0 0) 2 2 rfl rfl rfl hs (rfl) (rfl) (by first | decide | omega) (by first | decide | omega) Try.underlying66 (by rfl) sz71 (by decide) (by decide) rfl) rfl rfl (fun _ => by rfl) ?_
         intro st w hs
         refine ⟨trivial, ?_⟩
         refine h_nil (t_alt ?_ t_none)
         refine h_ex rfl (r_lit valC [_, _] rfl rfl rfl hs Try.underlying64 (by kernel_rfl) sz58 rfl (by decide) (fun _ => rfl)) rfl rfl (fun _ => by rfl) ?_
         intro sc w hs
         refine ⟨trivial, ?_⟩
         refine h_nil (t_take ?_)
         refine hVal rfl (fun w hS => (r_build rfl rfl pl68 zr68 (by rfl))) ?_
         refine h_nil (t_alt ?_ t_none)
         refine h_exS rfl (r_storeA rfl rfl rfl hs (by (repeat (first | exact Cut.head _ _ | apply Cut.tail)); done) in68 sz68 rfl (fun h => by cases h) rfl (by rfl)) rfl rfl ?_
         intro w hs
         refine ⟨trivial, ?_⟩
         refine h_nil (t_done ?_)
         refine d_tail 10 (by kernel_rfl) ?_
         refine s_nil ?_
         refine hKM6 _ _ _ (by rfl) (by rfl) ?_
         exact ⟨b0, b1, bp, _, _, _, rfl, hs.perm⟩
        refine t_alt ?_ t_none
        refine h_ex rfl (r_mk valC (.slice none 0 0) 2 2 rfl rfl rfl hs (rfl) (rfl) (by first | decide | omega) (by first | decide | omega) Try.underlying66 (by rfl) sz71 (by decide) (by decide) rfl) rfl rfl (fun _ => by rfl) ?_
        intro st w hs
        refine ⟨trivial, ?_⟩
        refine h_nil (t_alt ?_ t_none)
        refine h_enter rfl (r_call rfl ent31 rfl) rfl ?_
        refine new_use _ _ hs ?_
        intro b1 w hs
        refine ⟨_, rfl, ah_put trivial (by rfl) ?_⟩
        refine h_nil (t_alt ?_ t_none)
        refine h_ex rfl (r_lit valC [_, _] rfl rfl rfl hs Try.underlying64 (by kernel_rfl) sz58 rfl (by decide) (fun _ => rfl)) rfl rfl (fun _ => by rfl) ?_
        intro sc w hs
        refine ⟨trivial, ?_⟩
        refine h_nil (t_take ?_)
        refine hVal rfl (fun w hS => (r_build rfl rfl pl68 zr68 (by rfl))) ?_
        refine h_nil (t_alt ?_ t_none)
        refine h_exS rfl (r_storeA rfl rfl rfl hs (by (repeat (first | exact Cut.head _ _ | apply Cut.tail)); done) in68 sz68 rfl (fun h => by cases h) rfl (by rfl)) rfl rfl ?_
        intro w hs
        refine ⟨trivial, ?_⟩
        refine h_nil (t_done ?_)
        refine d_tail 10 (by kernel_rfl) ?_
        refine s_nil ?_
        refine hKM6 _ _ _ (by rfl) (by rfl) ?_
        exact ⟨b0, b1, bp, _, _, _, rfl, hs.perm⟩
       refine t_alt ?_ t_none
       refine h_ex rfl (r_mk valC (.slice none 0 0) 2 2 rfl rfl rfl hs (rfl) (rfl) (by first | decide | omega) (by first | decide | omega) Try.underlying66 (by rfl) sz71 (by decide) (by decide) rfl) rfl rfl (fun _ => by rfl) ?_
       intro st w hs
       refine ⟨trivial, ?_⟩
       refine h_nil (t_alt ?_ ?_)
       ·
        refine h_enter rfl (r_call rfl ent31 rfl) rfl ?_
        refine new_use _ _ hs ?_
        intro b1 w hs
        refine ⟨_, rfl, ah_put trivial (by rfl) ?_⟩
        refine h_nil (t_alt ?_ ?_)
        ·
         refine h_ex rfl (r_lit valC [_, _] rfl rfl rfl hs Try.underlying64 (by kernel_rfl) sz58 rfl (by decide) (fun _ => rfl)) rfl rfl (fun _ => by rfl) ?_
         intro sc w hs
         refine ⟨trivial, ?_⟩
         refine h_nil (t_alt ?_ t_none)
         refine h_ex rfl (r_mk valC (.slice none 0 0) 2 2 rfl rfl rfl hs (rfl) (rfl) (by first | decide | omega) (by first | decide | omega) Try.underlying65 (by rfl) sz72 (by decide) (by decide) rfl) rfl rfl (fun _ => by rfl) ?_
         intro sw w hs
         refine ⟨trivial, ?_⟩
         refine h_nil (t_take ?_)
         refine hVal rfl (fun w hS => (r_build rfl rfl pl68 zr68 (by rfl))) ?_
         refine h_nil (t_alt ?_ t_none)
         refine h_exS rfl (r_storeA rfl rfl rfl hs (by (repeat (first | exact Cut.head _ _ | apply Cut.tail)); done) in68 sz68 rfl (fun h => by cases h) rfl (by rfl)) rfl rfl ?_
         intro w hs
         refine ⟨trivial, ?_⟩
         refine h_nil (t_done ?_)
         refine d_tail 10 (by kernel_rfl) ?_
         refine s_nil ?_
         refine hKM6 _ _ _ (by rfl) (by rfl) ?_
         exact ⟨b0, b1, bp, _, _, _, rfl, hs.perm⟩
        refine t_alt ?_ t_none
        refine h_ex rfl (r_mk valC (.slice none 0 0) 2 2 rfl rfl rfl hs (rfl) (rfl) (by first | decide | omega) (by first | decide | omega) Try.underlying65 (by rfl) sz72 (by decide) (by decide) rfl) rfl rfl (fun _ => by rfl) ?_
        intro sw w hs
        refine ⟨trivial, ?_⟩
        refine h_nil (t_alt ?_ t_none)
        refine h_ex rfl (r_lit valC [_, _] rfl rfl rfl hs Try.underlying64 (by kernel_rfl) sz58 rfl (by decide) (fun _ => rfl)) rfl rfl (fun _ => by rfl) ?_
        intro sc w hs
        refine ⟨trivial, ?_⟩
        refine h_nil (t_take ?_)
        refine hVal rfl (fun w hS => (r_build rfl rfl pl68 zr68 (by rfl))) ?_
        refine h_nil (t_alt ?_ t_none)
        refine h_exS rfl (r_storeA rfl rfl rfl hs (by (repeat (first | exact Cut.head _ _ | apply Cut.tail)); done) in68 sz68 rfl (fun h => by cases h) rfl (by rfl)) rfl rfl ?_
        intro w hs
        refine ⟨trivial, ?_⟩
        refine h_nil (t_done ?_)
        refine d_tail 10 (by kernel_rfl) ?_
        refine s_nil ?_
        refine hKM6 _ _ _ (by rfl) (by rfl) ?_
        exact ⟨b0, b1, bp, _, _, _, rfl, hs.perm⟩
       refine t_alt ?_ t_none
       refine h_ex rfl (r_mk valC (.slice none 0 0) 2 2 rfl rfl rfl hs (rfl) (rfl) (by first | decide | omega) (by first | decide | omega) Try.underlying65 (by rfl) sz72 (by decide) (by decide) rfl) rfl rfl (fun _ => by rfl) ?_
       intro sw w hs
       refine ⟨trivial, ?_⟩
       refine h_nil (t_alt ?_ t_none)
       refine h_enter rfl (r_call rfl ent31 rfl) rfl ?_
       refine new_use _ _ hs ?_
       intro b1 w hs
       refine ⟨_, rfl, ah_put trivial (by rfl) ?_⟩
       refine h_nil (t_alt ?_ t_none)
       refine h_ex rfl (r_lit valC [_, _] rfl rfl rfl hs Try.underlying64 (by kernel_rfl) sz58 rfl (by decide) (fun _ => rfl)) rfl rfl (fun _ => by rfl) ?_
       intro sc w hs
       refine ⟨trivial, ?_⟩
       refine h_nil (t_take ?_)
       refine hVal rfl (fun w hS => (r_build rfl rfl pl68 zr68 (by rfl))) ?_
       refine h_nil (t_alt ?_ t_none)
       refine h_exS rfl (r_storeA rfl rfl rfl hs (by (repeat (first | exact Cut.head _ _ | apply Cut.tail)); done) in68 sz68 rfl (fun h => by cases h) rfl (by rfl)) rfl rfl ?_
       intro w hs
       refine ⟨trivial, ?_⟩
       refine h_nil (t_done ?_)
       refine d_tail 10 (by kernel_rfl) ?_
       refine s_nil ?_
       refine hKM6 _ _ _ (by rfl) (by rfl) ?_
       exact ⟨b0, b1, bp, _, _, _, rfl, hs.perm⟩
      refine t_alt ?_ ?_
      ·
       refine h_ex rfl (r_mk valC (.slice none 0 0) 2 2 rfl rfl rfl hs (rfl) (rfl) (by first | decide | omega) (by first | decide | omega) Try.underlying65 (by rfl) sz72 (by decide) (by decide) rfl) rfl rfl (fun _ => by rfl) ?_
       intro sw w hs
       refine ⟨trivial, ?_⟩
       refine h_nil (t_alt ?_ ?_)
       ·
        refine h_enter rfl (r_call rfl ent31 rfl) rfl ?_
        refine new_use _ _ hs ?_
        intro b0 w hs
        refine ⟨_, rfl, ah_put trivial (by rfl) ?_⟩
        refine h_nil (t_alt ?_ ?_)
        ·
         refine h_enter rfl (r_call rfl ent31 rfl) rfl ?_
         refine new_use _ _ hs ?_
         intro b1 w hs
         refine ⟨_, rfl, ah_put trivial (by rfl) ?_⟩
         refine h_nil (t_alt ?_ ?_)
         ·
          refine h_ex rfl (r_lit valC [_, _] rfl rfl rfl hs Try.underlying64 (by kernel_rfl) sz58 rfl (by decide) (fun _ => rfl)) rfl rfl (fun _ => by rfl) ?_
          intro sc w hs
          refine ⟨trivial, ?_⟩
          refine h_nil (t_alt ?_ t_none)
          refine h_ex rfl (r_mk valC (.slice none 0 0) 2 2 rfl rfl rfl hs (rfl) (rfl) (by first | decide | omega) (by first | decide | omega) Try.underlying66 (by rfl) sz71 (by decide) (by decide) rfl) rfl rfl (fun _ => by rfl) ?_
          intro st w hs
          refine ⟨trivial, ?_⟩
          refine h_nil (t_take ?_)
          refine hVal rfl (fun w hS => (r_build rfl rfl pl68 zr68 (by rfl))) ?_
          refine h_nil (t_alt ?_ t_none)
          refine h_exS rfl (r_storeA rfl rfl rfl hs (by (repeat (first | exact Cut.head _ _ | apply Cut.tail)); done) in68 sz68 rfl (fun h => by cases h) rfl (by rfl)) rfl rfl ?_
          intro w hs
          refine ⟨trivial, ?_⟩
          refine h_nil (t_done ?_)
          refine d_tail 10 (by kernel_rfl) ?_
          refine s_nil ?_
          refine hKM6 _ _ _ (by rfl) (by rfl) ?_
          exact ⟨b0, b1, bp, _, _, _, rfl, hs.perm⟩
         refine t_alt ?_ t_none
         refine h_ex rfl (r_mk valC (.slice none 0 0) 2 2 rfl rfl rfl hs (rfl) (rfl) (by first | decide | omega) (by first | decide | omega) Try.underlying66 (by rfl) sz71 (by decide) (by decide) rfl) rfl rfl (fun _ => by rfl) ?_
         intro st w hs
         refine ⟨trivial, ?_⟩
         refine h_nil (t_alt ?_ t_none)
         refine h_ex rfl (r_lit valC [_, _] rfl rfl rfl hs Try.underlying64 (by kernel_rfl) sz58 rfl (by decide) (fun _ => rfl)) rfl rfl (fun _ => by rfl) ?_
         intro sc w hs
         refine ⟨trivial, ?_⟩
         refine h_nil (t_take ?_)
         refine hVal rfl (fun w hS => (r_build rfl rfl pl68 zr68 (by rfl))) ?_
         refine h_nil (t_alt ?_ t_none)
         refine h_exS rfl (r_storeA rfl rfl rfl hs (by (repeat (first | exact Cut.head _ _ | apply Cut.tail)); done) in68 sz68 rfl (fun h => by cases h) rfl (by rfl)) rfl rfl ?_
         intro w hs
         refine ⟨trivial, ?_⟩
         refine h_nil (t_done ?_)
         refine d_tail 10 (by kernel_rfl) ?_
         refine s_nil ?_
         refine hKM6 _ _ _ (by rfl) (by rfl) ?_
         exact ⟨b0, b1, bp, _, _, _, rfl, hs.perm⟩
        refine t_alt ?_ t_none
        refine h_ex rfl (r_mk valC (.slice none 0 0) 2 2 rfl rfl rfl hs (rfl) (rfl) (by first | decide | omega) (by first | decide | omega) Try.underlying66 (by rfl) sz71 (by decide) (by decide) rfl) rfl rfl (fun _ => by rfl) ?_
        intro st w hs
        refine ⟨trivial, ?_⟩
        refine h_nil (t_alt ?_ t_none)
        refine h_enter rfl (r_call rfl ent31 rfl) rfl ?_
        refine new_use _ _ hs ?_
        intro b1 w hs
        refine ⟨_, rfl, ah_put trivial (by rfl) ?_⟩
        refine h_nil (t_alt ?_ t_none)
        refine h_ex rfl (r_lit valC [_, _] rfl rfl rfl hs Try.underlying64 (by kernel_rfl) sz58 rfl (by decide) (fun _ => rfl)) rfl rfl (fun _ => by rfl) ?_
        intro sc w hs
        refine ⟨trivial, ?_⟩
        refine h_nil (t_take ?_)
        refine hVal rfl (fun w hS => (r_build rfl rfl pl68 zr68 (by rfl))) ?_
        refine h_nil (t_alt ?_ t_none)
        refine h_exS rfl (r_storeA rfl rfl rfl hs (by (repeat (first | exact Cut.head _ _ | apply Cut.tail)); done) in68 sz68 rfl (fun h => by cases h) rfl (by rfl)) rfl rfl ?_
        intro w hs
        refine ⟨trivial, ?_⟩
        refine h_nil (t_done ?_)
        refine d_tail 10 (by kernel_rfl) ?_
        refine s_nil ?_
        refine hKM6 _ _ _ (by rfl) (by rfl) ?_
        exact ⟨b0, b1, bp, _, _, _, rfl, hs.perm⟩
       refine t_alt ?_ t_none
       refine h_ex rfl (r_mk valC (.slice none 0 0) 2 2 rfl rfl rfl hs (rfl) (rfl) (by first | decide | omega) (by first | decide | omega) Try.underlying66 (by rfl) sz71 (by decide) (by decide) rfl) rfl rfl (fun _ => by rfl) ?_
       intro st w hs
       refine ⟨trivial, ?_⟩
       refine h_nil (t_alt ?_ t_none)
       refine h_enter rfl (r_call rfl ent31 rfl) rfl ?_
       refine new_use _ _ hs ?_
       intro b0 w hs
       refine ⟨_, rfl, ah_put trivial (by rfl) ?_⟩
       refine h_nil (t_alt ?_ t_none)
       refine h_enter rfl (r_call rfl ent31 rfl) rfl ?_
       refine new_use _ _ hs ?_
       intro b1 w hs
       refine ⟨_, rfl, ah_put trivial (by rfl) ?_⟩
       refine h_nil (t_alt ?_ t_none)
       refine h_ex rfl (r_lit valC [_, _] rfl rfl rfl hs Try.underlying64 (by kernel_rfl) sz58 rfl (by decide) (fun _ => rfl)) rfl rfl (fun _ => by rfl) ?_
       intro sc w hs
       refine ⟨trivial, ?_⟩
       refine h_nil (t_take ?_)
       refine hVal rfl (fun w hS => (r_build rfl rfl pl68 zr68 (by rfl))) ?_
       refine h_nil (t_alt ?_ t_none)
       refine h_exS rfl (r_storeA rfl rfl rfl hs (by (repeat (first | exact Cut.head _ _ | apply Cut.tail)); done) in68 sz68 rfl (fun h => by cases h) rfl (by rfl)) rfl rfl ?_
       intro w hs
       refine ⟨trivial, ?_⟩
       refine h_nil (t_done ?_)
       refine d_tail 10 (by kernel_rfl) ?_
       refine s_nil ?_
       refine hKM6 _ _ _ (by rfl) (by rfl) ?_
       exact ⟨b0, b1, bp, _, _, _, rfl, hs.perm⟩
      refine t_alt ?_ t_none
      refine h_ex rfl (r_mk valC (.slice none 0 0) 2 2 rfl rfl rfl hs (rfl) (rfl) (by first | decide | omega) (by first | decide | omega) Try.underlying66 (by rfl) sz71 (by decide) (by decide) rfl) rfl rfl (fun _ => by rfl) ?_
      intro st w hs
      refine ⟨trivial, ?_⟩
      refine h_nil (t_alt ?_ ?_)
      ·
       refine h_enter rfl (r_call rfl ent31 rfl) rfl ?_
       refine new_use _ _ hs ?_
       intro b0 w hs
       refine ⟨_, rfl, ah_put trivial (by rfl) ?_⟩
       refine h_nil (t_alt ?_ ?_)
       ·
        refine h_enter rfl (r_call rfl ent31 rfl) rfl ?_
        refine new_use _ _ hs ?_
        intro b1 w hs
        refine ⟨_, rfl, ah_put trivial (by rfl) ?_⟩
        refine h_nil (t_alt ?_ ?_)
        ·
         refine h_ex rfl (r_lit valC [_, _] rfl rfl rfl hs Try.underlying64 (by kernel_rfl) sz58 rfl (by decide) (fun _ => rfl)) rfl rfl (fun _ => by rfl) ?_
         intro sc w hs
         refine ⟨trivial, ?_⟩
         refine h_nil (t_alt ?_ t_none)
         refine h_ex rfl (r_mk valC (.slice none 0 0) 2 2 rfl rfl rfl hs (rfl) (rfl) (by first | decide | omega) (by first | decide | omega) Try.underlying65 (by rfl) sz72 (by decide) (by decide) rfl) rfl rfl (fun _ => by rfl) ?_
         intro sw w hs
         refine ⟨trivial, ?_⟩
         refine h_nil (t_take ?_)
         refine hVal rfl (fun w hS => (r_build rfl rfl pl68 zr68 (by rfl))) ?_
         refine h_nil (t_alt ?_ t_none)
         refine h_exS rfl (r_storeA rfl rfl rfl hs (by (repeat (first | exact Cut.head _ _ | apply Cut.tail)); done) in68 sz68 rfl (fun h => by cases h) rfl (by rfl)) rfl rfl ?_
         intro w hs
         refine ⟨trivial, ?_⟩
         refine h_nil (t_done ?_)
         refine d_tail 10 (by kernel_rfl) ?_
         refine s_nil ?_
         refine hKM6 _ _ _ (by rfl) (by rfl) ?_
         exact ⟨b0, b1, bp, _, _, _, rfl, hs.perm⟩
        refine t_alt ?_ t_none
        refine h_ex rfl (r_mk valC (.slice none 0 0) 2 2 rfl rfl rfl hs (rfl) (rfl) (by first | decide | omega) (by first | decide | omega) Try.underlying65 (by rfl) sz72 (by decide) (by decide) rfl) rfl rfl (fun _ => by rfl) ?_
        intro sw w hs
        refine ⟨trivial, ?_⟩
        refine h_nil (t_alt ?_ t_none)
        refine h_ex rfl (r_lit valC [_, _] rfl rfl rfl hs Try.underlying64 (by kernel_rfl) sz58 rfl (by decide) (fun _ => rfl)) rfl rfl (fun _ => by rfl) ?_
        intro sc w hs
        refine ⟨trivial, ?_⟩
        refine h_nil (t_take ?_)
        refine hVal rfl (fun w hS => (r_build rfl rfl pl68 zr68 (by rfl))) ?_
        refine h_nil (t_alt ?_ t_none)
        refine h_exS rfl (r_storeA rfl rfl rfl hs (by (repeat (first | exact Cut.head _ _ | apply Cut.tail)); done) in68 sz68 rfl (fun h => by cases h) rfl (by rfl)) rfl rfl ?_
        intro w hs
        refine ⟨trivial, ?_⟩
        refine h_nil (t_done ?_)
        refine d_tail 10 (by kernel_rfl) ?_
        refine s_nil ?_
        refine hKM6 _ _ _ (by rfl) (by rfl) ?_
        exact ⟨b0, b1, bp, _, _, _, rfl, hs.perm⟩
       refine t_alt ?_ t_none
       refine h_ex rfl (r_mk valC (.slice none 0 0) 2 2 rfl rfl rfl hs (rfl) (rfl) (by first | decide | omega) (by first | decide | omega) Try.underlying65 (by rfl) sz72 (by decide) (by decide) rfl) rfl rfl (fun _ => by rfl) ?_
       intro sw w hs
       refine ⟨trivial, ?_⟩
       refine h_nil (t_alt ?_ t_none)
       refine h_enter rfl (r_call rfl ent31 rfl) rfl ?_
       refine new_use _ _ hs ?_
       intro b1 w hs
       refine ⟨_, rfl, ah_put trivial (by rfl) ?_⟩
       refine h_nil (t_alt ?_ t_none)
       refine h_ex rfl (r_lit valC [_, _] rfl rfl rfl hs Try.underlying64 (by kernel_rfl) sz58 rfl (by decide) (fun _ => rfl)) rfl rfl (fun _ => by rfl) ?_
       intro sc w hs
       refine ⟨trivial, ?_⟩
       refine h_nil (t_take ?_)
       refine hVal rfl (fun w hS => (r_build rfl rfl pl68 zr68 (by rfl))) ?_
       refine h_nil (t_alt ?_ t_none)
       refine h_exS rfl (r_storeA rfl rfl rfl hs (by (repeat (first | exact Cut.head _ _ | apply Cut.tail)); done) in68 sz68 rfl (fun h => by cases h) rfl (by rfl)) rfl rfl ?_
       intro w hs
       refine ⟨trivial, ?_⟩
       refine h_nil (t_done ?_)
       refine d_tail 10 (by kernel_rfl) ?_
       refine s_nil ?_
       refine hKM6 _ _ _ (by rfl) (by rfl) ?_
       exact ⟨b0, b1, bp, _, _, _, rfl, hs.perm⟩
      refine t_alt ?_ t_none
      refine h_ex rfl (r_mk valC (.slice none 0 0) 2 2 rfl rfl rfl hs (rfl) (rfl) (by first | decide | omega) (by first | decide | omega) Try.underlying65 (by rfl) sz72 (by decide) (by decide) rfl) rfl rfl (fun _ => by rfl) ?_
      intro sw w hs
      refine ⟨trivial, ?_⟩
      refine h_nil (t_alt ?_ t_none)
      refine h_enter rfl (r_call rfl ent31 rfl) rfl ?_
      refine new_use _ _ hs ?_
      intro b0 w hs
      refine ⟨_, rfl, ah_put trivial (by rfl) ?_⟩
      refine h_nil (t_alt ?_ t_none)
      refine h_enter rfl (r_call rfl ent31 rfl) rfl ?_
      refine new_use _ _ hs ?_
      intro b1 w hs
      refine ⟨_, rfl, ah_put trivial (by rfl) ?_⟩
      refine h_nil (t_alt ?_ t_none)
      refine h_ex rfl (r_lit valC [_, _] rfl rfl rfl hs Try.underlying64 (by kernel_rfl) sz58 rfl (by decide) (fun _ => rfl)) rfl rfl (fun _ => by rfl) ?_
      intro sc w hs
      refine ⟨trivial, ?_⟩
      refine h_nil (t_take ?_)
      refine hVal rfl (fun w hS => (r_build rfl rfl pl68 zr68 (by rfl))) ?_
      refine h_nil (t_alt ?_ t_none)
      refine h_exS rfl (r_storeA rfl rfl rfl hs (by (repeat (first | exact Cut.head _ _ | apply Cut.tail)); done) in68 sz68 rfl (fun h => by cases h) rfl (by rfl)) rfl rfl ?_
      intro w hs
      refine ⟨trivial, ?_⟩
      refine h_nil (t_done ?_)
      refine d_tail 10 (by kernel_rfl) ?_
      refine s_nil ?_
      refine hKM6 _ _ _ (by rfl) (by rfl) ?_
      exact ⟨b0, b1, bp, _, _, _, rfl, hs.perm⟩
     clear hs
     rintro xs w ⟨b0, b1, bp, cs, ws, ts, hxs, hs⟩
     obtain ⟨D7, hD7⟩ : ∃ D, D = xAt xs := ⟨_, rfl⟩
     rw [← hD7] at hxs
     clear hD7
     subst hxs
     refine ⟨_, rfl, ?_⟩
     refine wp_seq_k (fun K8 hK8 => ?_)
     refine wp_seq_k (fun K9 hK9 => ?_)
     refine c_region ?_
     refine sVal (r_field rfl rfl of68_0) ?_
     refine sVal (r_load rfl rfl (ag64 _) hs.own (by rfl)) ?_
     refine s_exQ (r_idx (f := valC) rfl rfl rfl hs.rd (rfl) (by first | assumption | rfl) Try.underlying64 in58 sz58) rfl rfl (fun _ => by rfl) ?_
     intro ad11 he10
     refine sVal (r_loadEl rfl rfl hs.rd he10 (by first | assumption | rfl) (fun _ => rfl) (ag58 _) (by rfl)) ?_
     refine s_bool (r_cmpP rfl rfl rfl (by kernel_rfl) rfl) rfl rfl (fun _ => by rfl) ?_
     intro c12 hc12
     refine sVal (r_move rfl rfl) ?_
     cases c12
     case false =>
      replace hc12 := Eq.symm hc12
      try dsimp only at hc12
      first
      | (exfalso; first | omega | (cases hc12; done))
      | (
        refine sVal (r_field rfl rfl of68_0) ?_
        refine sVal (r_load rfl rfl (ag64 _) hs.own (by rfl)) ?_
        refine s_exQ (r_idx (f := valC) rfl rfl rfl hs.rd (rfl) (by first | assumption | rfl) Try.underlying64 in58 sz58) rfl rfl (fun _ => by rfl) ?_
        intro ad14 he13
        refine sVal (r_loadEl rfl rfl hs.rd he13 (by first | assumption | rfl) (fun _ => rfl) (ag58 _) (by rfl)) ?_
        refine s_bool (r_cmpP rfl rfl rfl (by kernel_rfl) rfl) rfl rfl (fun _ => by rfl) ?_
        intro c15 hc15
        refine sVal (r_pickF rfl rfl rfl) ?_
        refine s_nil ?_
        refine hK9 _ _ ?_
        cases c15
        case false =>
         replace hc15 := Eq.symm hc15
         try dsimp only at hc15
         first
         | (exfalso; first | omega | (cases hc15; done))
         | (
           refine c_condF rfl ?_
           refine wp_skip ?_
           refine hK8 _ _ ?_
           refine wp_seq_k (fun K16 hK16 => ?_)
           refine wp_seq_k (fun K17 hK17 => ?_)
           refine c_region ?_
           refine sVal (r_assign rfl rfl) ?_
           refine s_nil ?_
           refine hK17 _ _ ?_
           refine wp_block ?_
           refine c_loop (4 :: 6 :: 7 :: 8 :: 9 :: 10 :: 11 :: 12 :: 35 :: 36 :: 37 :: 38 :: 39 :: 40 :: 41 :: 42 :: 43 :: 44 :: 45 :: 46 :: 47 :: 48 :: 49 :: 50 :: 51 :: 52 :: 53 :: 54 :: 55 :: 56 :: 57 :: 58 :: 59 :: 60 :: 61 :: 62 :: 63 :: 64 :: 65 :: 66 :: 67 :: 68 :: 69 :: 70 :: 71 :: 72 :: 73 :: 74 :: 75 :: 76 :: 77 :: 78 :: 79 :: 80 :: 81 :: 82 :: 83 :: 84 :: 85 :: 86 :: 87 :: 88 :: 89 :: 90 :: 91 :: 92 :: 93 :: 94 :: 95 :: 96 :: 97 :: 98 :: 99 :: 100 :: 101 :: 102 :: 103 :: 104 :: 105 :: 106 :: 107 :: 108 :: 109 :: 110 :: 111 :: 112 :: 113 :: 114 :: 115 :: 116 :: 117 :: 118 :: 119 :: 120 :: 121 :: 122 :: 123 :: 124 :: 125 :: 126 :: 127 :: 128 :: 129 :: 130 :: 131 :: 132 :: 133 :: 134 :: 135 :: 136 :: 137 :: 138 :: 139 :: []) (fun xs w => ∃ (k : Nat) (x x' y y' : Value) (P : Pr), xs = (xAt xs 0 :: .int .i64 (k : Int) :: xAt xs 2 :: xAt xs 3 :: xAt xs 4 :: xAt xs 5 :: xAt xs 6 :: xAt xs 7 :: xAt xs 8 :: xAt xs 9 :: xAt xs 10 :: xAt xs 11 :: xAt xs 12 :: xAt xs 13 :: xAt xs 14 :: xAt xs 15 :: xAt xs 16 :: xAt xs 17 :: xAt xs 18 :: xAt xs 19 :: xAt xs 20 :: xAt xs 21 :: xAt xs 22 :: xAt xs 23 :: xAt xs 24 :: xAt xs 25 :: xAt xs 26 :: xAt xs 27 :: xAt xs 28 :: xAt xs 29 :: xAt xs 30 :: xAt xs 31 :: xAt xs 32 :: xAt xs 33 :: xAt xs 34 :: xAt xs 35 :: xAt xs 36 :: xAt xs 37 :: xAt xs 38 :: xAt xs 39 :: xAt xs 40 :: xAt xs 41 :: xAt xs 42 :: xAt xs 43 :: xAt xs 44 :: xAt xs 45 :: xAt xs 46 :: xAt xs 47 :: xAt xs 48 :: xAt xs 49 :: xAt xs 50 :: xAt xs 51 :: xAt xs 52 :: xAt xs 53 :: xAt xs 54 :: xAt xs 55 :: xAt xs 56 :: xAt xs 57 :: xAt xs 58 :: xAt xs 59 :: xAt xs 60 :: xAt xs 61 :: xAt xs 62 :: xAt xs 63 :: xAt xs 64 :: xAt xs 65 :: xAt xs 66 :: xAt xs 67 :: xAt xs 68 :: xAt xs 69 :: xAt xs 70 :: xAt xs 71 :: xAt xs 72 :: xAt xs 73 :: xAt xs 74 :: xAt xs 75 :: xAt xs 76 :: xAt xs 77 :: xAt xs 78 :: xAt xs 79 :: xAt xs 80 :: xAt xs 81 :: xAt xs 82 :: xAt xs 83 :: xAt xs 84 :: xAt xs 85 :: xAt xs 86 :: xAt xs 87 :: xAt xs 88 :: xAt xs 89 :: xAt xs 90 :: xAt xs 91 :: xAt xs 92 :: xAt xs 93 :: xAt xs 94 :: xAt xs 95 :: xAt xs 96 :: xAt xs 97 :: xAt xs 98 :: xAt xs 99 :: xAt xs 100 :: xAt xs 101 :: xAt xs 102 :: xAt xs 103 :: xAt xs 104 :: xAt xs 105 :: xAt xs 106 :: xAt xs 107 :: xAt xs 108 :: xAt xs 109 :: xAt xs 110 :: xAt xs 111 :: xAt xs 112 :: []) ∧ k ≤ 8 ∧ (∃ a b q, q ∈ QS ∧ Rel a b P q) ∧ (P.t0.length ≤ 4000 * k ∧ P.t1.length ≤ 4000 * k) ∧ Sat E (R * rL 1 intC (.slice pf first.length kf) first * rL 1 booC (.slice pa ans.length ka) ans * own bp (.cells [cs, ws, ts].toArray 68 (0, 0)) * pv 0 b0 b1 cs ws ts x x' y y' P) w) (fun xs _ => 8 - (intOf (xAt xs 1)).toNat) rfl (by rfl) ?_ ?_
           · (replace hs := hs.letL (L := ([.pointer (some ⟨b0, 0, none⟩), .pointer (some ⟨b1, 0, none⟩)] : List Value)) (by (repeat (first | exact Cut.head _ _ | apply Cut.tail)); done); replace hs := (hs.mkNilL 85 8 unC).letL (L := ([] : List Un)) (by (repeat (first | exact Cut.head _ _ | apply Cut.tail)); done); replace hs := hs.dupL (L := ([] : List Un)) (v := .slice none 0 0) (by (repeat (first | exact Cut.head _ _ | apply Cut.tail)); done); replace hs := (hs.mkNilL 93 5 sigC).letL (L := ([] : List Sig)) (by (repeat (first | exact Cut.head _ _ | apply Cut.tail)); done); replace hs := hs.dupL (L := ([] : List Sig)) (v := .slice none 0 0) (by (repeat (first | exact Cut.head _ _ | apply Cut.tail)); done); exact ⟨0, .slice none 0 0, .slice none 0 0, .slice none 0 0, .slice none 0 0, ⟨Cn.new 3 5, Cn.new 3 6, [], [], [], []⟩, rfl, by omega, ⟨0, 0, start_rel⟩, ⟨Nat.zero_le _, Nat.zero_le _⟩, pv_close (i := 0) ⟨Cn.new 3 5, Cn.new 3 6, [], [], [], []⟩ hs (by (repeat (first | apply Cut.pair | exact Cut.head _ _ | apply Cut.tail)); done) (by repeat (first | exact Keeps.refl _ | apply Keeps.tail | apply Keeps.drop))⟩)
           clear hs
           rintro xs w ⟨k, x, x', y, y', P, hxs, hk8, ⟨a, b, q, hq, hrel⟩, hl, hs⟩
           obtain ⟨D18, hD18⟩ : ∃ D, D = xAt xs := ⟨_, rfl⟩
           rw [← hD18] at hxs
           clear hD18
           subst hxs
           refine ⟨_, rfl, fun KL19 hKL19 => ?_⟩
           refine wp_seq_k (fun K20 hK20 => ?_)
           refine wp_seq_k (fun K21 hK21 => ?_)
           refine c_region ?_
           refine sVal (r_move rfl rfl) ?_
           refine sVal (r_move rfl rfl) ?_
           refine sVal (r_len rfl rfl Try.underlying22) ?_
           refine s_bool (r_cmp rfl rfl rfl rfl) rfl rfl (fun _ => by rfl) ?_
           intro c22 hc22
           refine sVal (r_move rfl rfl) ?_
           cases c22
           case false =>
            replace hc22 := decF' hc22
            try dsimp only at hc22
            first
            | (exfalso; first | omega | (cases hc22; done))
            | (
              refine @s_pass _ _ _ _ _ _ _ _ 40 (by rfl) (want_no rfl rfl rfl rfl) (by rfl) ?_
              refine @s_pass _ _ _ _ _ _ _ _ 41 (by rfl) (want_no rfl rfl rfl rfl) (by rfl) ?_
              refine sVal (r_pickF rfl rfl rfl) ?_
              refine s_nil ?_
              refine hK21 _ _ ?_
              refine c_condF rfl ?_
              refine wp_exit ?_
              refine hK16 _ _ ?_
              refine wp_seq_k (fun K23 hK23 => ?_)
              refine c_region ?_
              refine s_enter (r_call rfl ent37 rfl) rfl ?_
              refine refOf_use _ hs ?_
              intro w hs
              refine ⟨_, rfl, a_put (by rfl) ?_⟩
              refine s_bool (r_cmp rfl rfl rfl rfl) rfl rfl (fun _ => by rfl) ?_
              intro c24 hc24
              refine sVal (r_assign rfl rfl) ?_
              refine s_nil ?_
              refine hK23 _ _ ?_
              refine wp_ret ?_
              refine f_ret (rs := [.tmp 4]) rfl (.tmp rfl .nil) rfl ?_
              subst c24
              exact hk _ (fin0 hs (by repeat (first | exact Keeps.refl _ | apply Keeps.tail | apply Keeps.drop))))
           case true =>
            replace hc22 := decT' hc22
            try dsimp only at hc22
            first
            | (exfalso; first | omega | (cases hc22; done))
            | (
              refine sVal (r_move rfl rfl) ?_
              refine s_bool (r_cmp rfl rfl rfl rfl) rfl rfl (fun _ => by rfl) ?_
              intro c25 hc25
              refine sVal (r_pickT rfl rfl rfl) ?_
              refine s_nil ?_
              refine hK21 _ _ ?_
              cases c25
              case false =>
               replace hc25 := decF' hc25
               try dsimp only at hc25
               first
               | (exfalso; first | omega | (cases hc25; done))
               | (
                 refine c_condF rfl ?_
                 refine wp_exit ?_
                 refine hK16 _ _ ?_
                 refine wp_seq_k (fun K26 hK26 => ?_)
                 refine c_region ?_
                 refine s_enter (r_call rfl ent37 rfl) rfl ?_
                 refine refOf_use _ hs ?_
                 intro w hs
                 refine ⟨_, rfl, a_put (by rfl) ?_⟩
                 refine s_bool (r_cmp rfl rfl rfl rfl) rfl rfl (fun _ => by rfl) ?_
                 intro c27 hc27
                 refine sVal (r_assign rfl rfl) ?_
                 refine s_nil ?_
                 refine hK26 _ _ ?_
                 refine wp_ret ?_
                 refine f_ret (rs := [.tmp 4]) rfl (.tmp rfl .nil) rfl ?_
                 subst c27
                 exact hk _ (fin0 hs (by repeat (first | exact Keeps.refl _ | apply Keeps.tail | apply Keeps.drop))))
              case true =>
               replace hc25 := decT' hc25
               try dsimp only at hc25
               first
               | (exfalso; first | omega | (cases hc25; done))
               | (
                 refine c_condT rfl ?_
                 refine wp_skip ?_
                 refine hK20 _ _ ?_
                 refine wp_seq_k (fun K28 hK28 => ?_)
                 refine wp_block ?_
                 refine wp_seq_k (fun K29 hK29 => ?_)
                 refine wp_seq_k (fun K30 hK30 => ?_)
                 refine c_region ?_
                 obtain ⟨x0, hx⟩ : ∃ x0, first[k]? = some x0 := ⟨_, List.getElem?_eq_getElem (by omega)⟩
                 obtain ⟨wn, m, hwn, hw, hm⟩ := wEx (shrI x0 2)
                 refine sVal (r_move rfl rfl) ?_
                 refine s_nil ?_
                 refine hK30 _ _ ?_
                 refine wp_block ?_
                 refine c_loop (7 :: 8 :: 9 :: 10 :: 45 :: 46 :: 47 :: 48 :: 49 :: 50 :: 51 :: 52 :: 53 :: 54 :: 55 :: 56 :: 57 :: 58 :: 59 :: 60 :: 61 :: 62 :: 63 :: 64 :: 65 :: 66 :: 67 :: 68 :: 69 :: 70 :: 71 :: 72 :: 73 :: 74 :: 75 :: 76 :: 77 :: 78 :: 79 :: 80 :: 81 :: 82 :: 83 :: 84 :: 85 :: 86 :: 87 :: 88 :: 89 :: 90 :: 91 :: 92 :: []) (fun xs w => ∃ (i : Nat) (f0 f1 : Bool) (x x' y y' : Value), xs = (xAt xs 0 :: xAt xs 1 :: xAt xs 2 :: xAt xs 3 :: .int .i64 (i : Int) :: xAt xs 5 :: xAt xs 6 :: xAt xs 7 :: xAt xs 8 :: xAt xs 9 :: xAt xs 10 :: xAt xs 11 :: xAt xs 12 :: xAt xs 13 :: xAt xs 14 :: xAt xs 15 :: xAt xs 16 :: xAt xs 17 :: xAt xs 18 :: xAt xs 19 :: xAt xs 20 :: xAt xs 21 :: xAt xs 22 :: xAt xs 23 :: xAt xs 24 :: xAt xs 25 :: xAt xs 26 :: xAt xs 27 :: xAt xs 28 :: xAt xs 29 :: xAt xs 30 :: xAt xs 31 :: xAt xs 32 :: xAt xs 33 :: xAt xs 34 :: xAt xs 35 :: xAt xs 36 :: xAt xs 37 :: xAt xs 38 :: xAt xs 39 :: xAt xs 40 :: xAt xs 41 :: xAt xs 42 :: xAt xs 43 :: xAt xs 44 :: xAt xs 45 :: xAt xs 46 :: xAt xs 47 :: xAt xs 48 :: xAt xs 49 :: xAt xs 50 :: xAt xs 51 :: []) ∧ i ≤ 2 ∧ (i = 0 → f0 = false) ∧ (i ≤ 1 → f1 = false) ∧ Sat E (R * rL 1 intC (.slice pf first.length kf) first * rL 1 booC (.slice pa ans.length ka) ans * own bp (.cells [cs, ws, ts].toArray 68 (0, 0)) * pv 0 b0 b1 cs ws ts x x' y y' (P.first f0 f1 wn)) w) (fun xs _ => 2 - (intOf (xAt xs 4)).toNat) rfl (by rfl) ?_ ?_
                 · exact ⟨0, false, false, x, x', y, y', rfl, by omega, fun _ => rfl, fun _ => rfl, by rw [first_none]; exact hs⟩
                 clear hs
                 rintro xs w ⟨i, f0, f1, x, x', y, y', hxs, hi2, hf0, hf1, hs⟩
                 obtain ⟨D31, hD31⟩ : ∃ D, D = xAt xs := ⟨_, rfl⟩
                 rw [← hD31] at hxs
                 clear hD31
                 subst hxs
                 refine ⟨_, rfl, fun KL32 hKL32 => ?_⟩
                 refine wp_seq_k (fun K33 hK33 => ?_)
                 refine c_region ?_
                 refine s_bool (r_cmp rfl rfl rfl rfl) rfl rfl (fun _ => by rfl) ?_
                 intro c34 hc34
                 refine s_nil ?_
                 refine hK33 _ _ ?_
                 refine wp_seq_k (fun K35 hK35 => ?_)
                 cases c34
                 case false =>
                  replace hc34 := decF' hc34
                  try dsimp only at hc34
                  first
                  | (exfalso; first | omega | (cases hc34; done))
                  | (
                    refine c_condF rfl ?_
                    refine wp_exit ?_
                    refine hK29 _ _ ?_
                    refine wp_seq_k (fun K36 hK36 => ?_)
                    refine wp_seq_k (fun K37 hK37 => ?_)
                    refine c_region ?_
                    refine sVal (r_loadA rfl rfl (ag68 _) hs.own in68 sz68 (by rfl)) ?_
                    refine sVal (r_move rfl rfl) ?_
                    refine s_enter (r_call rfl ent35 rfl) rfl ?_
                    have hround := round_ok (gOf ans) (gOf_late ans) hq hrel f0 f1 wn hwn
                    have hft := first_len P f0 f1 wn
                    refine hear_use (P.first f0 f1 wn) hround.2 ⟨by omega, by omega⟩ (hs.dupL (L := ans) (v := .slice pa ans.length ka) (by (repeat (first | exact Cut.head _ _ | apply Cut.tail)); done)) (by (repeat (first | apply Cut.pair | exact Cut.head _ _ | apply Cut.tail)); done) ?_
                    intro x x' y y' w hs
                    obtain ⟨a', b', q', hq', hrel'⟩ := hround.1
                    obtain ⟨w0n, w1n, hst, hk0, hk1⟩ := quiet_ends hq' hrel'
                    have ev : ((turns (gOf ans) 60 (P.first f0 f1 wn)).w0.length + (turns (gOf ans) 60 (P.first f0 f1 wn)).w1.length == 0) = true := by rw [w0n, w1n]; rfl
                    rw [ev]
                    have hlen := turns_len hround.2 60
                    clear hround ev
                    generalize turns (gOf ans) 60 (P.first f0 f1 wn) = V at *
                    replace hs := pv_open hs
                    refine ⟨_, rfl, a_bool (fun _ => by rfl) ?_⟩
                    intro c38 hc38
                    cases c38
                    case false =>
                     replace hc38 := Eq.symm hc38
                     try dsimp only at hc38
                     first
                     | (exfalso; first | omega | (cases hc38; done))
                     | (
                       refine sVal (r_notF rfl rfl) ?_
                       refine s_nil ?_
                       refine hK37 _ _ ?_
                       refine c_condT rfl ?_
                       refine wp_seq_k (fun K39 hK39 => ?_)
                       refine c_region ?_
                       refine sVal (r_assign rfl rfl) ?_
                       refine s_nil ?_
                       refine hK39 _ _ ?_
                       refine wp_ret ?_
                       refine f_ret (rs := [.tmp 4]) rfl (.tmp rfl .nil) rfl ?_
                       exact hk _ (fin0 hs (by repeat (first | exact Keeps.refl _ | apply Keeps.tail | apply Keeps.drop))))
                    case true =>
                     replace hc38 := Eq.symm hc38
                     try dsimp only at hc38
                     first
                     | (exfalso; first | omega | (cases hc38; done))
                     | (
                       refine sVal (r_notT rfl rfl) ?_
                       refine s_nil ?_
                       refine hK37 _ _ ?_
                       refine c_condF rfl ?_
                       refine wp_skip ?_
                       refine hK36 _ _ ?_
                       refine c_meet (11 :: 12 :: 97 :: 98 :: 99 :: 100 :: 101 :: 102 :: 103 :: 104 :: 105 :: 106 :: []) (fun xs w => ∃ (ba bb : Nat), xs = (.pointer (some ⟨ba, 0, none⟩) :: .pointer (some ⟨bb, 0, none⟩) :: xAt xs 2 :: xAt xs 3 :: xAt xs 4 :: xAt xs 5 :: xAt xs 6 :: xAt xs 7 :: xAt xs 8 :: xAt xs 9 :: xAt xs 10 :: xAt xs 11 :: []) ∧ Sat E (R * rL 1 intC (.slice pf first.length kf) first * rL 1 booC (.slice pa ans.length ka) ans * own bp (.cells [cs, ws, ts].toArray 68 (0, 0)) * own ba (.cells (vaC V.c0).toArray 80 (0, 0)) * own bb (.cells (vaC V.c1).toArray 80 (0, 0)) * pv 0 b0 b1 cs ws ts x x' y y' V) w) ?_ ?_
                       ·
                        intro KM40 hKM40
                        replace hs := hs.drew
                        refine d_start (by kernel_rfl) ?_
                        refine d_pre [0, 5] (g := 12) (by kernel_rfl) (fun _ _ d _ _ h => by cases d <;> exact h) ?_
                        refine pVal rfl (fun w => (r_field rfl rfl of68_0)) ?_
                        refine pVal rfl (fun w => (r_field rfl rfl of68_0)) ?_
                        refine p_nil ?_
                        refine d_tree 14 (.take 1 (.take 2 (.take 3 (.take 6 (.take 7 (.take 8 (.alt 4 (.alt 9 (.alt 10 (.alt 11 (.alt 12 (.alt 13 .done .none) .none) .none) (.alt 11 (.alt 10 (.alt 12 (.alt 13 .done .none) .none) .none) .none)) (.alt 10 (.alt 9 (.alt 11 (.alt 12 (.alt 13 .done .none) .none) .none) (.alt 11 (.alt 9 (.alt 12 (.alt 13 .done .none) .none) .none) .none)) (.alt 11 (.alt 9 (.alt 10 (.alt 12 (.alt 13 .done .none) .none) .none) (.alt 10 (.alt 9 (.alt 12 (.alt 13 .done .none) .none) .none) .none)) .none))) (.alt 10 (.alt 4 (.alt 9 (.alt 11 (.alt 12 (.alt 13 .done .none) .none) .none) (.alt 11 (.alt 9 (.alt 12 (.alt 13 .done .none) .none) .none) .none)) (.alt 11 (.alt 4 (.alt 9 (.alt 12 (.alt 13 .done .none) .none) .none) .none) .none)) (.alt 11 (.alt 4 (.alt 9 (.alt 10 (.alt 12 (.alt 13 .done .none) .none) .none) (.alt 10 (.alt 9 (.alt 12 (.alt 13 .done .none) .none) .none) .none)) (.alt 10 (.alt 4 (.alt 9 (.alt 12 (.alt 13 .done .none) .none) .none) .none) .none)) .none))))))))) (Holds _ (emp * own bp (.cells [cs, ws, ts].toArray 68 (0, 0)) * rL 1 valC cs (two 0 (.pointer (some ⟨b0, 0, none⟩)) (.pointer (some ⟨b1, 0, none⟩))))) (g := 0) (by kernel_rfl) (fun _ _ d _ _ h => by cases d <;> exact h) (Holds.of hs (by (repeat (first | apply Cut.pair | exact Cut.nothing _ | exact Cut.head _ _ | apply Cut.tail)); done)) ?_
                        refine t_take ?_
                        refine hVal rfl (fun w hS => (r_load rfl rfl (ag64 _) hS.own (by rfl))) ?_
                        refine h_nil (t_take ?_)
                        refine h_exQ rfl (r_idx (f := valC) rfl rfl rfl hs.rd (rfl) (two_at (i := 0) (by omega)) Try.underlying64 in58 sz58) rfl rfl (fun _ => by rfl) ?_
                        intro ad42 he41
                        refine h_nil (t_take ?_)
                        refine hVal rfl (fun w hS => (r_loadEl rfl rfl hS.rd he41 (two_at (i := 0) (by omega)) (fun _ => rfl) (ag58 _) (by rfl))) ?_
                        refine h_nil (t_take ?_)
                        refine hVal rfl (fun w hS => (r_load rfl rfl (ag64 _) hS.own (by rfl))) ?_
                        refine h_nil (t_take ?_)
                        refine h_exQ rfl (r_idx (f := valC) rfl rfl rfl hs.rd (rfl) (two_at' (i := 0) (by omega)) Try.underlying64 in58 sz58) rfl rfl (fun _ => by rfl) ?_
                        intro ad44 he43
                        refine h_nil (t_take ?_)
                        refine hVal rfl (fun w hS => (r_loadEl rfl rfl hS.rd he43 (two_at' (i := 0) (by omega)) (fun _ => rfl) (ag58 _) (by rfl))) ?_
                        refine h_nil (t_alt ?_ ?_)
                        ·
                         refine h_enter rfl (r_call rfl ent36 rfl) rfl ?_
                         refine vars_use hs (by (repeat (first | exact Cut.head _ _ | apply Cut.tail)); done) ?_
                         intro w hs
                         refine ⟨_, rfl, ah_put (Holds.of hs (by (repeat (first | apply Cut.pair | exact Cut.nothing _ | exact Cut.head _ _ | apply Cut.tail)); done)) (by rfl) ?_⟩
                         refine h_nil (t_alt ?_ ?_)
                         ·
                          refine h_enter rfl (r_call rfl ent36 rfl) rfl ?_
                          refine vars_use hs (by (repeat (first | exact Cut.head _ _ | apply Cut.tail)); done) ?_
                          intro w hs
                          refine ⟨_, rfl, ah_put (Holds.of hs (by (repeat (first | apply Cut.pair | exact Cut.nothing _ | exact Cut.head _ _ | apply Cut.tail)); done)) (by rfl) ?_⟩
                          refine h_nil (t_alt ?_ ?_)
                          ·
                           refine h_ex rfl (r_alloc rfl zr80 hs) rfl rfl (fun _ => by rfl) ?_
                           intro ba w hs
                           refine ⟨(Holds.of hs (by (repeat (first | apply Cut.pair | exact Cut.nothing _ | exact Cut.head _ _ | apply Cut.tail)); done)), ?_⟩
                           refine h_nil (t_alt ?_ t_none)
                           refine h_ex rfl (r_alloc rfl zr80 hs) rfl rfl (fun _ => by rfl) ?_
                           intro bb w hs
                           refine ⟨(Holds.of hs (by (repeat (first | apply Cut.pair | exact Cut.nothing _ | exact Cut.head _ _ | apply Cut.tail)); done)), ?_⟩
                           refine h_nil (t_alt ?_ t_none)
                           refine h_exS rfl (r_storeA rfl rfl rfl hs (by (repeat (first | exact Cut.head _ _ | apply Cut.tail)); done) in80 sz80 rfl (fun h => by cases h) rfl (by rfl)) rfl rfl ?_
                           intro w hs
                           refine ⟨(Holds.of hs (by (repeat (first | apply Cut.pair | exact Cut.nothing _ | exact Cut.head _ _ | apply Cut.tail)); done)), ?_⟩
                           refine h_nil (t_alt ?_ t_none)
                           refine h_exS rfl (r_storeA rfl rfl rfl hs (by (repeat (first | exact Cut.head _ _ | apply Cut.tail)); done) in80 sz80 rfl (fun h => by cases h) rfl (by rfl)) rfl rfl ?_
                           intro w hs
                           refine ⟨(Holds.of hs (by (repeat (first | apply Cut.pair | exact Cut.nothing _ | exact Cut.head _ _ | apply Cut.tail)); done)), ?_⟩
                           refine h_nil (t_done ?_)
                           refine d_tail 14 (by kernel_rfl) ?_
                           refine s_nil ?_
                           refine hKM40 _ _ _ (by rfl) (by rfl) ?_
                           exact ⟨_, _, rfl, (pv_close V hs (by (repeat (first | apply Cut.pair | exact Cut.head _ _ | apply Cut.tail)); done) (Keeps.refl _)).perm⟩
                          refine t_alt ?_ t_none
                          refine h_ex rfl (r_alloc rfl zr80 hs) rfl rfl (fun _ => by rfl) ?_
                          intro bb w hs
                          refine ⟨(Holds.of hs (by (repeat (first | apply Cut.pair | exact Cut.nothing _ | exact Cut.head _ _ | apply Cut.tail)); done)), ?_⟩
                          refine h_nil (t_alt ?_ t_none)
                          refine h_ex rfl (r_alloc rfl zr80 hs) rfl rfl (fun _ => by rfl) ?_
                          intro ba w hs
                          refine ⟨(Holds.of hs (by (repeat (first | apply Cut.pair | exact Cut.nothing _ | exact Cut.head _ _ | apply Cut.tail)); done)), ?_⟩
                          refine h_nil (t_alt ?_ t_none)
                          refine h_exS rfl (r_storeA rfl rfl rfl hs (by (repeat (first | exact Cut.head _ _ | apply Cut.tail)); done) in80 sz80 rfl (fun h => by cases h) rfl (by rfl)) rfl rfl ?_
                          intro w hs
                          refine ⟨(Holds.of hs (by (repeat (first | apply Cut.pair | exact Cut.nothing _ | exact Cut.head _ _ | apply Cut.tail)); done)), ?_⟩
                          refine h_nil (t_alt ?_ t_none)
                          refine h_exS rfl (r_storeA rfl rfl rfl hs (by (repeat (first | exact Cut.head _ _ | apply Cut.tail)); done) in80 sz80 rfl (fun h => by cases h) rfl (by rfl)) rfl rfl ?_
                          intro w hs
                          refine ⟨(Holds.of hs (by (repeat (first | apply Cut.pair | exact Cut.nothing _ | exact Cut.head _ _ | apply Cut.tail)); done)), ?_⟩
                          refine h_nil (t_done ?_)
                          refine d_tail 14 (by kernel_rfl) ?_
                          refine s_nil ?_
                          refine hKM40 _ _ _ (by rfl) (by rfl) ?_
                          exact ⟨_, _, rfl, (pv_close V hs (by (repeat (first | apply Cut.pair | exact Cut.head _ _ | apply Cut.tail)); done) (Keeps.refl _)).perm⟩
                         refine t_alt ?_ ?_
                         ·
                          refine h_ex rfl (r_alloc rfl zr80 hs) rfl rfl (fun _ => by rfl) ?_
                          intro ba w hs
                          refine ⟨(Holds.of hs (by (repeat (first | apply Cut.pair | exact Cut.nothing _ | exact Cut.head _ _ | apply Cut.tail)); done)), ?_⟩
                          refine h_nil (t_alt ?_ ?_)
                          ·
                           refine h_enter rfl (r_call rfl ent36 rfl) rfl ?_
                           refine vars_use hs (by (repeat (first | exact Cut.head _ _ | apply Cut.tail)); done) ?_
                           intro w hs
                           refine ⟨_, rfl, ah_put (Holds.of hs (by (repeat (first | apply Cut.pair | exact Cut.nothing _ | exact Cut.head _ _ | apply Cut.tail)); done)) (by rfl) ?_⟩
                           refine h_nil (t_alt ?_ t_none)
                           refine h_ex rfl (r_alloc rfl zr80 hs) rfl rfl (fun _ => by rfl) ?_
                           intro bb w hs
                           refine ⟨(Holds.of hs (by (repeat (first | apply Cut.pair | exact Cut.nothing _ | exact Cut.head _ _ | apply Cut.tail)); done)), ?_⟩
                           refine h_nil (t_alt ?_ t_none)
                           refine h_exS rfl (r_storeA rfl rfl rfl hs (by (repeat (first | exact Cut.head _ _ | apply Cut.tail)); done) in80 sz80 rfl (fun h => by cases h) rfl (by rfl)) rfl rfl ?_
                           intro w hs
                           refine ⟨(Holds.of hs (by (repeat (first | apply Cut.pair | exact Cut.nothing _ | exact Cut.head _ _ | apply Cut.tail)); done)), ?_⟩
                           refine h_nil (t_alt ?_ t_none)
                           refine h_exS rfl (r_storeA rfl rfl rfl hs (by (repeat (first | exact Cut.head _ _ | apply Cut.tail)); done) in80 sz80 rfl (fun h => by cases h) rfl (by rfl)) rfl rfl ?_
                           intro w hs
                           refine ⟨(Holds.of hs (by (repeat (first | apply Cut.pair | exact Cut.nothing _ | exact Cut.head _ _ | apply Cut.tail)); done)), ?_⟩
                           refine h_nil (t_done ?_)
                           refine d_tail 14 (by kernel_rfl) ?_
                           refine s_nil ?_
                           refine hKM40 _ _ _ (by rfl) (by rfl) ?_
                           exact ⟨_, _, rfl, (pv_close V hs (by (repeat (first | apply Cut.pair | exact Cut.head _ _ | apply Cut.tail)); done) (Keeps.refl _)).perm⟩
                          refine t_alt ?_ t_none
                          refine h_ex rfl (r_alloc rfl zr80 hs) rfl rfl (fun _ => by rfl) ?_
                          intro bb w hs
                          refine ⟨(Holds.of hs (by (repeat (first | apply Cut.pair | exact Cut.nothing _ | exact Cut.head _ _ | apply Cut.tail)); done)), ?_⟩
                          refine h_nil (t_alt ?_ t_none)
                          refine h_enter rfl (r_call rfl ent36 rfl) rfl ?_
                          refine vars_use hs (by (repeat (first | exact Cut.head _ _ | apply Cut.tail)); done) ?_
                          intro w hs
                          refine ⟨_, rfl, ah_put (Holds.of hs (by (repeat (first | apply Cut.pair | exact Cut.nothing _ | exact Cut.head _ _ | apply Cut.tail)); done)) (by rfl) ?_⟩
                          refine h_nil (t_alt ?_ t_none)
                          refine h_exS rfl (r_storeA rfl rfl rfl hs (by (repeat (first | exact Cut.head _ _ | apply Cut.tail)); done) in80 sz80 rfl (fun h => by cases h) rfl (by rfl)) rfl rfl ?_
                          intro w hs
                          refine ⟨(Holds.of hs (by (repeat (first | apply Cut.pair | exact Cut.nothing _ | exact Cut.head _ _ | apply Cut.tail)); done)), ?_⟩
                          refine h_nil (t_alt ?_ t_none)
                          refine h_exS rfl (r_storeA rfl rfl rfl hs (by (repeat (first | exact Cut.head _ _ | apply Cut.tail)); done) in80 sz80 rfl (fun h => by cases h) rfl (by rfl)) rfl rfl ?_
                          intro w hs
                          refine ⟨(Holds.of hs (by (repeat (first | apply Cut.pair | exact Cut.nothing _ | exact Cut.head _ _ | apply Cut.tail)); done)), ?_⟩
                          refine h_nil (t_done ?_)
                          refine d_tail 14 (by kernel_rfl) ?_
                          refine s_nil ?_
                          refine hKM40 _ _ _ (by rfl) (by rfl) ?_
                          exact ⟨_, _, rfl, (pv_close V hs (by (repeat (first | apply Cut.pair | exact Cut.head _ _ | apply Cut.tail)); done) (Keeps.refl _)).perm⟩
                         refine t_alt ?_ t_none
                         refine h_ex rfl (r_alloc rfl zr80 hs) rfl rfl (fun _ => by rfl) ?_
                         intro bb w hs
                         refine ⟨(Holds.of hs (by (repeat (first | apply Cut.pair | exact Cut.nothing _ | exact Cut.head _ _ | apply Cut.tail)); done)), ?_⟩
                         refine h_nil (t_alt ?_ ?_)
                         ·
                          refine h_enter rfl (r_call rfl ent36 rfl) rfl ?_
                          refine vars_use hs (by (repeat (first | exact Cut.head _ _ | apply Cut.tail)); done) ?_
                          intro w hs
                          refine ⟨_, rfl, ah_put (Holds.of hs (by (repeat (first | apply Cut.pair | exact Cut.nothing _ | exact Cut.head _ _ | apply Cut.tail)); done)) (by rfl) ?_⟩
                          refine h_nil (t_alt ?_ t_none)
                          refine h_ex rfl (r_alloc rfl zr80 hs) rfl rfl (fun _ => by rfl) ?_
                          intro ba w hs
                          refine ⟨(Holds.of hs (by (repeat (first | apply Cut.pair | exact Cut.nothing _ | exact Cut.head _ _ | apply Cut.tail)); done)), ?_⟩
                          refine h_nil (t_alt ?_ t_none)
                          refine h_exS rfl (r_storeA rfl rfl rfl hs (by (repeat (first | exact Cut.head _ _ | apply Cut.tail)); done) in80 sz80 rfl (fun h => by cases h) rfl (by rfl)) rfl rfl ?_
                          intro w hs
                          refine ⟨(Holds.of hs (by (repeat (first | apply Cut.pair | exact Cut.nothing _ | exact Cut.head _ _ | apply Cut.tail)); done)), ?_⟩
                          refine h_nil (t_alt ?_ t_none)
                          refine h_exS rfl (r_storeA rfl rfl rfl hs (by (repeat (first | exact Cut.head _ _ | apply Cut.tail)); done) in80 sz80 rfl (fun h => by cases h) rfl (by rfl)) rfl rfl ?_
                          intro w hs
                          refine ⟨(Holds.of hs (by (repeat (first | apply Cut.pair | exact Cut.nothing _ | exact Cut.head _ _ | apply Cut.tail)); done)), ?_⟩
                          refine h_nil (t_done ?_)
                          refine d_tail 14 (by kernel_rfl) ?_
                          refine s_nil ?_
                          refine hKM40 _ _ _ (by rfl) (by rfl) ?_
                          exact ⟨_, _, rfl, (pv_close V hs (by (repeat (first | apply Cut.pair | exact Cut.head _ _ | apply Cut.tail)); done) (Keeps.refl _)).perm⟩
                         refine t_alt ?_ t_none
                         refine h_ex rfl (r_alloc rfl zr80 hs) rfl rfl (fun _ => by rfl) ?_
                         intro ba w hs
                         refine ⟨(Holds.of hs (by (repeat (first | apply Cut.pair | exact Cut.nothing _ | exact Cut.head _ _ | apply Cut.tail)); done)), ?_⟩
                         refine h_nil (t_alt ?_ t_none)
                         refine h_enter rfl (r_call rfl ent36 rfl) rfl ?_
                         refine vars_use hs (by (repeat (first | exact Cut.head _ _ | apply Cut.tail)); done) ?_
                         intro w hs
                         refine ⟨_, rfl, ah_put (Holds.of hs (by (repeat (first | apply Cut.pair | exact Cut.nothing _ | exact Cut.head _ _ | apply Cut.tail)); done)) (by rfl) ?_⟩
                         refine h_nil (t_alt ?_ t_none)
                         refine h_exS rfl (r_storeA rfl rfl rfl hs (by (repeat (first | exact Cut.head _ _ | apply Cut.tail)); done) in80 sz80 rfl (fun h => by cases h) rfl (by rfl)) rfl rfl ?_
                         intro w hs
                         refine ⟨(Holds.of hs (by (repeat (first | apply Cut.pair | exact Cut.nothing _ | exact Cut.head _ _ | apply Cut.tail)); done)), ?_⟩
                         refine h_nil (t_alt ?_ t_none)
                         refine h_exS rfl (r_storeA rfl rfl rfl hs (by (repeat (first | exact Cut.head _ _ | apply Cut.tail)); done) in80 sz80 rfl (fun h => by cases h) rfl (by rfl)) rfl rfl ?_
                         intro w hs
                         refine ⟨(Holds.of hs (by (repeat (first | apply Cut.pair | exact Cut.nothing _ | exact Cut.head _ _ | apply Cut.tail)); done)), ?_⟩
                         refine h_nil (t_done ?_)
                         refine d_tail 14 (by kernel_rfl) ?_
                         refine s_nil ?_
                         refine hKM40 _ _ _ (by rfl) (by rfl) ?_
                         exact ⟨_, _, rfl, (pv_close V hs (by (repeat (first | apply Cut.pair | exact Cut.head _ _ | apply Cut.tail)); done) (Keeps.refl _)).perm⟩
                        refine t_alt ?_ ?_
                        ·
                         refine h_ex rfl (r_alloc rfl zr80 hs) rfl rfl (fun _ => by rfl) ?_
                         intro ba w hs
                         refine ⟨(Holds.of hs (by (repeat (first | apply Cut.pair | exact Cut.nothing _ | exact Cut.head _ _ | apply Cut.tail)); done)), ?_⟩
                         refine h_nil (t_alt ?_ ?_)
                         ·
                          refine h_enter rfl (r_call rfl ent36 rfl) rfl ?_
                          refine vars_use hs (by (repeat (first | exact Cut.head _ _ | apply Cut.tail)); done) ?_
                          intro w hs
                          refine ⟨_, rfl, ah_put (Holds.of hs (by (repeat (first | apply Cut.pair | exact Cut.nothing _ | exact Cut.head _ _ | apply Cut.tail)); done)) (by rfl) ?_⟩
                          refine h_nil (t_alt ?_ ?_)
                          ·
                           refine h_enter rfl (r_call rfl ent36 rfl) rfl ?_
                           refine vars_use hs (by (repeat (first | exact Cut.head _ _ | apply Cut.tail)); done) ?_
                           intro w hs
                           refine ⟨_, rfl, ah_put (Holds.of hs (by (repeat (first | apply Cut.pair | exact Cut.nothing _ | exact Cut.head _ _ | apply Cut.tail)); done)) (by rfl) ?_⟩
                           refine h_nil (t_alt ?_ t_none)
                           refine h_ex rfl (r_alloc rfl zr80 hs) rfl rfl (fun _ => by rfl) ?_
                           intro bb w hs
                           refine ⟨(Holds.of hs (by (repeat (first | apply Cut.pair | exact Cut.nothing _ | exact Cut.head _ _ | apply Cut.tail)); done)), ?_⟩
                           refine h_nil (t_alt ?_ t_none)
                           refine h_exS rfl (r_storeA rfl rfl rfl hs (by (repeat (first | exact Cut.head _ _ | apply Cut.tail)); done) in80 sz80 rfl (fun h => by cases h) rfl (by rfl)) rfl rfl ?_
                           intro w hs
                           refine ⟨(Holds.of hs (by (repeat (first | apply Cut.pair | exact Cut.nothing _ | exact Cut.head _ _ | apply Cut.tail)); done)), ?_⟩
                           refine h_nil (t_alt ?_ t_none)
                           refine h_exS rfl (r_storeA rfl rfl rfl hs (by (repeat (first | exact Cut.head _ _ | apply Cut.tail)); done) in80 sz80 rfl (fun h => by cases h) rfl (by rfl)) rfl rfl ?_
                           intro w hs
                           refine ⟨(Holds.of hs (by (repeat (first | apply Cut.pair | exact Cut.nothing _ | exact Cut.head _ _ | apply Cut.tail)); done)), ?_⟩
                           refine h_nil (t_done ?_)
                           refine d_tail 14 (by kernel_rfl) ?_
                           refine s_nil ?_
                           refine hKM40 _ _ _ (by rfl) (by rfl) ?_
                           exact ⟨_, _, rfl, (pv_close V hs (by (repeat (first | apply Cut.pair | exact Cut.head _ _ | apply Cut.tail)); done) (Keeps.refl _)).perm⟩
                          refine t_alt ?_ t_none
                          refine h_ex rfl (r_alloc rfl zr80 hs) rfl rfl (fun _ => by rfl) ?_
                          intro bb w hs
                          refine ⟨(Holds.of hs (by (repeat (first | apply Cut.pair | exact Cut.nothing _ | exact Cut.head _ _ | apply Cut.tail)); done)), ?_⟩
                          refine h_nil (t_alt ?_ t_none)
                          refine h_enter rfl (r_call rfl ent36 rfl) rfl ?_
                          refine vars_use hs (by (repeat (first | exact Cut.head _ _ | apply Cut.tail)); done) ?_
                          intro w hs
                          refine ⟨_, rfl, ah_put (Holds.of hs (by (repeat (first | apply Cut.pair | exact Cut.nothing _ | exact Cut.head _ _ | apply Cut.tail)); done)) (by rfl) ?_⟩
                          refine h_nil (t_alt ?_ t_none)
                          refine h_exS rfl (r_storeA rfl rfl rfl hs (by (repeat (first | exact Cut.head _ _ | apply Cut.tail)); done) in80 sz80 rfl (fun h => by cases h) rfl (by rfl)) rfl rfl ?_
                          intro w hs
                          refine ⟨(Holds.of hs (by (repeat (first | apply Cut.pair | exact Cut.nothing _ | exact Cut.head _ _ | apply Cut.tail)); done)), ?_⟩
                          refine h_nil (t_alt ?_ t_none)
                          refine h_exS rfl (r_storeA rfl rfl rfl hs (by (repeat (first | exact Cut.head _ _ | apply Cut.tail)); done) in80 sz80 rfl (fun h => by cases h) rfl (by rfl)) rfl rfl ?_
                          intro w hs
                          refine ⟨(Holds.of hs (by (repeat (first | apply Cut.pair | exact Cut.nothing _ | exact Cut.head _ _ | apply Cut.tail)); done)), ?_⟩
                          refine h_nil (t_done ?_)
                          refine d_tail 14 (by kernel_rfl) ?_
                          refine s_nil ?_
                          refine hKM40 _ _ _ (by rfl) (by rfl) ?_
                          exact ⟨_, _, rfl, (pv_close V hs (by (repeat (first | apply Cut.pair | exact Cut.head _ _ | apply Cut.tail)); done) (Keeps.refl _)).perm⟩
                         refine t_alt ?_ t_none
                         refine h_ex rfl (r_alloc rfl zr80 hs) rfl rfl (fun _ => by rfl) ?_
                         intro bb w hs
                         refine ⟨(Holds.of hs (by (repeat (first | apply Cut.pair | exact Cut.nothing _ | exact Cut.head _ _ | apply Cut.tail)); done)), ?_⟩
                         refine h_nil (t_alt ?_ t_none)
                         refine h_enter rfl (r_call rfl ent36 rfl) rfl ?_
                         refine vars_use hs (by (repeat (first | exact Cut.head _ _ | apply Cut.tail)); done) ?_
                         intro w hs
                         refine ⟨_, rfl, ah_put (Holds.of hs (by (repeat (first | apply Cut.pair | exact Cut.nothing _ | exact Cut.head _ _ | apply Cut.tail)); done)) (by rfl) ?_⟩
                         refine h_nil (t_alt ?_ t_none)
                         refine h_enter rfl (r_call rfl ent36 rfl) rfl ?_
                         refine vars_use hs (by (repeat (first | exact Cut.head _ _ | apply Cut.tail)); done) ?_
                         intro w hs
                         refine ⟨_, rfl, ah_put (Holds.of hs (by (repeat (first | apply Cut.pair | exact Cut.nothing _ | exact Cut.head _ _ | apply Cut.tail)); done)) (by rfl) ?_⟩
                         refine h_nil (t_alt ?_ t_none)
                         refine h_exS rfl (r_storeA rfl rfl rfl hs (by (repeat (first | exact Cut.head _ _ | apply Cut.tail)); done) in80 sz80 rfl (fun h => by cases h) rfl (by rfl)) rfl rfl ?_
                         intro w hs
                         refine ⟨(Holds.of hs (by (repeat (first | apply Cut.pair | exact Cut.nothing _ | exact Cut.head _ _ | apply Cut.tail)); done)), ?_⟩
                         refine h_nil (t_alt ?_ t_none)
                         refine h_exS rfl (r_storeA rfl rfl rfl hs (by (repeat (first | exact Cut.head _ _ | apply Cut.tail)); done) in80 sz80 rfl (fun h => by cases h) rfl (by rfl)) rfl rfl ?_
                         intro w hs
                         refine ⟨(Holds.of hs (by (repeat (first | apply Cut.pair | exact Cut.nothing _ | exact Cut.head _ _ | apply Cut.tail)); done)), ?_⟩
                         refine h_nil (t_done ?_)
                         refine d_tail 14 (by kernel_rfl) ?_
                         refine s_nil ?_
                         refine hKM40 _ _ _ (by rfl) (by rfl) ?_
                         exact ⟨_, _, rfl, (pv_close V hs (by (repeat (first | apply Cut.pair | exact Cut.head _ _ | apply Cut.tail)); done) (Keeps.refl _)).perm⟩
                        refine t_alt ?_ t_none
                        refine h_ex rfl (r_alloc rfl zr80 hs) rfl rfl (fun _ => by rfl) ?_
                        intro bb w hs
                        refine ⟨(Holds.of hs (by (repeat (first | apply Cut.pair | exact Cut.nothing _ | exact Cut.head _ _ | apply Cut.tail)); done)), ?_⟩
                        refine h_nil (t_alt ?_ ?_)
                        ·
                         refine h_enter rfl (r_call rfl ent36 rfl) rfl ?_
                         refine vars_use hs (by (repeat (first | exact Cut.head _ _ | apply Cut.tail)); done) ?_
                         intro w hs
                         refine ⟨_, rfl, ah_put (Holds.of hs (by (repeat (first | apply Cut.pair | exact Cut.nothing _ | exact Cut.head _ _ | apply Cut.tail)); done)) (by rfl) ?_⟩
                         refine h_nil (t_alt ?_ ?_)
                         ·
                          refine h_enter rfl (r_call rfl ent36 rfl) rfl ?_
                          refine vars_use hs (by (repeat (first | exact Cut.head _ _ | apply Cut.tail)); done) ?_
                          intro w hs
                          refine ⟨_, rfl, ah_put (Holds.of hs (by (repeat (first | apply Cut.pair | exact Cut.nothing _ | exact Cut.head _ _ | apply Cut.tail)); done)) (by rfl) ?_⟩
                          refine h_nil (t_alt ?_ t_none)
                          refine h_ex rfl (r_alloc rfl zr80 hs) rfl rfl (fun _ => by rfl) ?_
                          intro ba w hs
                          refine ⟨(Holds.of hs (by (repeat (first | apply Cut.pair | exact Cut.nothing _ | exact Cut.head _ _ | apply Cut.tail)); done)), ?_⟩
                          refine h_nil (t_alt ?_ t_none)
                          refine h_exS rfl (r_storeA rfl rfl rfl hs (by (repeat (first | exact Cut.head _ _ | apply Cut.tail)); done) in80 sz80 rfl (fun h => by cases h) rfl (by rfl)) rfl rfl ?_
                          intro w hs
                          refine ⟨(Holds.of hs (by (repeat (first | apply Cut.pair | exact Cut.nothing _ | exact Cut.head _ _ | apply Cut.tail)); done)), ?_⟩
                          refine h_nil (t_alt ?_ t_none)
                          refine h_exS rfl (r_storeA rfl rfl rfl hs (by (repeat (first | exact Cut.head _ _ | apply Cut.tail)); done) in80 sz80 rfl (fun h => by cases h) rfl (by rfl)) rfl rfl ?_
                          intro w hs
                          refine ⟨(Holds.of hs (by (repeat (first | apply Cut.pair | exact Cut.nothing _ | exact Cut.head _ _ | apply Cut.tail)); done)), ?_⟩
                          refine h_nil (t_done ?_)
                          refine d_tail 14 (by kernel_rfl) ?_
                          refine s_nil ?_
                          refine hKM40 _ _ _ (by rfl) (by rfl) ?_
                          exact ⟨_, _, rfl, (pv_close V hs (by (repeat (first | apply Cut.pair | exact Cut.head _ _ | apply Cut.tail)); done) (Keeps.refl _)).perm⟩
                         refine t_alt ?_ t_none
                         refine h_ex rfl (r_alloc rfl zr80 hs) rfl rfl (fun _ => by rfl) ?_
                         intro ba w hs
                         refine ⟨(Holds.of hs (by (repeat (first | apply Cut.pair | exact Cut.nothing _ | exact Cut.head _ _ | apply Cut.tail)); done)), ?_⟩
                         refine h_nil (t_alt ?_ t_none)
                         refine h_enter rfl (r_call rfl ent36 rfl) rfl ?_
                         refine vars_use hs (by (repeat (first | exact Cut.head _ _ | apply Cut.tail)); done) ?_
                         intro w hs
                         refine ⟨_, rfl, ah_put (Holds.of hs (by (repeat (first | apply Cut.pair | exact Cut.nothing _ | exact Cut.head _ _ | apply Cut.tail)); done)) (by rfl) ?_⟩
                         refine h_nil (t_alt ?_ t_none)
                         refine h_exS rfl (r_storeA rfl rfl rfl hs (by (repeat (first | exact Cut.head _ _ | apply Cut.tail)); done) in80 sz80 rfl (fun h => by cases h) rfl (by rfl)) rfl rfl ?_
                         intro w hs
                         refine ⟨(Holds.of hs (by (repeat (first | apply Cut.pair | exact Cut.nothing _ | exact Cut.head _ _ | apply Cut.tail)); done)), ?_⟩
                         refine h_nil (t_alt ?_ t_none)
                         refine h_exS rfl (r_storeA rfl rfl rfl hs (by (repeat (first | exact Cut.head _ _ | apply Cut.tail)); done) in80 sz80 rfl (fun h => by cases h) rfl (by rfl)) rfl rfl ?_
                         intro w hs
                         refine ⟨(Holds.of hs (by (repeat (first | apply Cut.pair | exact Cut.nothing _ | exact Cut.head _ _ | apply Cut.tail)); done)), ?_⟩
                         refine h_nil (t_done ?_)
                         refine d_tail 14 (by kernel_rfl) ?_
                         refine s_nil ?_
                         refine hKM40 _ _ _ (by rfl) (by rfl) ?_
                         exact ⟨_, _, rfl, (pv_close V hs (by (repeat (first | apply Cut.pair | exact Cut.head _ _ | apply Cut.tail)); done) (Keeps.refl _)).perm⟩
                        refine t_alt ?_ t_none
                        refine h_ex rfl (r_alloc rfl zr80 hs) rfl rfl (fun _ => by rfl) ?_
                        intro ba w hs
                        refine ⟨(Holds.of hs (by (repeat (first | apply Cut.pair | exact Cut.nothing _ | exact Cut.head _ _ | apply Cut.tail)); done)), ?_⟩
                        refine h_nil (t_alt ?_ t_none)
                        refine h_enter rfl (r_call rfl ent36 rfl) rfl ?_
                        refine vars_use hs (by (repeat (first | exact Cut.head _ _ | apply Cut.tail)); done) ?_
                        intro w hs
                        refine ⟨_, rfl, ah_put (Holds.of hs (by (repeat (first | apply Cut.pair | exact Cut.nothing _ | exact Cut.head _ _ | apply Cut.tail)); done)) (by rfl) ?_⟩
                        refine h_nil (t_alt ?_ t_none)
                        refine h_enter rfl (r_call rfl ent36 rfl) rfl ?_
                        refine vars_use hs (by (repeat (first | exact Cut.head _ _ | apply Cut.tail)); done) ?_
                        intro w hs
                        refine ⟨_, rfl, ah_put (Holds.of hs (by (repeat (first | apply Cut.pair | exact Cut.nothing _ | exact Cut.head _ _ | apply Cut.tail)); done)) (by rfl) ?_⟩
                        refine h_nil (t_alt ?_ t_none)
                        refine h_exS rfl (r_storeA rfl rfl rfl hs (by (repeat (first | exact Cut.head _ _ | apply Cut.tail)); done) in80 sz80 rfl (fun h => by cases h) rfl (by rfl)) rfl rfl ?_
                        intro w hs
                        refine ⟨(Holds.of hs (by (repeat (first | apply Cut.pair | exact Cut.nothing _ | exact Cut.head _ _ | apply Cut.tail)); done)), ?_⟩
                        refine h_nil (t_alt ?_ t_none)
                        refine h_exS rfl (r_storeA rfl rfl rfl hs (by (repeat (first | exact Cut.head _ _ | apply Cut.tail)); done) in80 sz80 rfl (fun h => by cases h) rfl (by rfl)) rfl rfl ?_
                        intro w hs
                        refine ⟨(Holds.of hs (by (repeat (first | apply Cut.pair | exact Cut.nothing _ | exact Cut.head _ _ | apply Cut.tail)); done)), ?_⟩
                        refine h_nil (t_done ?_)
                        refine d_tail 14 (by kernel_rfl) ?_
                        refine s_nil ?_
                        refine hKM40 _ _ _ (by rfl) (by rfl) ?_
                        exact ⟨_, _, rfl, (pv_close V hs (by (repeat (first | apply Cut.pair | exact Cut.head _ _ | apply Cut.tail)); done) (Keeps.refl _)).perm⟩
                       clear hs
                       rintro xs w ⟨ba, bb, hxs, hs⟩
                       obtain ⟨D45, hD45⟩ : ∃ D, D = xAt xs := ⟨_, rfl⟩
                       rw [← hD45] at hxs
                       clear hD45
                       subst hxs
                       refine ⟨_, rfl, ?_⟩
                       refine wp_seq_k (fun K46 hK46 => ?_)
                       refine wp_seq_k (fun K47 hK47 => ?_)
                       refine c_region ?_
                       refine sVal (r_field rfl rfl of80_0) ?_
                       refine sVal (r_load rfl rfl (ag3 _) hs.own (by rfl)) ?_
                       refine s_bool (r_cmp rfl rfl rfl rfl) rfl rfl (fun _ => by rfl) ?_
                       intro c48 hc48
                       refine sVal (r_move rfl rfl) ?_
                       cases c48
                       case false =>
                        replace hc48 := eqF hc48
                        try dsimp only at hc48
                        first
                        | (exfalso; first | omega | (cases hc48; done))
                        | (
                          refine @s_pass _ _ _ _ _ _ _ _ 111 (by rfl) (want_no rfl rfl rfl rfl) (by rfl) ?_
                          refine @s_pass _ _ _ _ _ _ _ _ 112 (by rfl) (want_no rfl rfl rfl rfl) (by rfl) ?_
                          refine @s_pass _ _ _ _ _ _ _ _ 113 (by rfl) (want_no rfl rfl rfl rfl) (by rfl) ?_
                          refine sVal (r_pickF rfl rfl rfl) ?_
                          refine sVal (r_notF rfl rfl) ?_
                          refine sVal (r_move rfl rfl) ?_
                          refine sVal (r_field rfl rfl of80_0) ?_
                          refine sVal (r_load rfl rfl (ag3 _) hs.own (by rfl)) ?_
                          refine s_bool (r_cmp rfl rfl rfl rfl) rfl rfl (fun _ => by rfl) ?_
                          intro c49 hc49
                          refine sVal (r_move rfl rfl) ?_
                          cases c49
                          case false =>
                           replace hc49 := eqF hc49
                           try dsimp only at hc49
                           first
                           | (exfalso; first | omega | (cases hc49; done))
                           | (
                             refine @s_pass _ _ _ _ _ _ _ _ 121 (by rfl) (want_no rfl rfl rfl rfl) (by rfl) ?_
                             refine @s_pass _ _ _ _ _ _ _ _ 122 (by rfl) (want_no rfl rfl rfl rfl) (by rfl) ?_
                             refine @s_pass _ _ _ _ _ _ _ _ 123 (by rfl) (want_no rfl rfl rfl rfl) (by rfl) ?_
                             refine sVal (r_pickF rfl rfl rfl) ?_
                             refine sVal (r_notF rfl rfl) ?_
                             refine sVal (r_pickT rfl rfl rfl) ?_
                             refine s_nil ?_
                             refine hK47 _ _ ?_
                             refine c_condT rfl ?_
                             refine wp_seq_k (fun K50 hK50 => ?_)
                             refine c_region ?_
                             refine sVal (r_assign rfl rfl) ?_
                             refine s_nil ?_
                             refine hK50 _ _ ?_
                             refine wp_ret ?_
                             refine f_ret (rs := [.tmp 4]) rfl (.tmp rfl .nil) rfl ?_
                             exact hk _ (fin0 hs (by repeat (first | exact Keeps.refl _ | apply Keeps.tail | apply Keeps.drop))))
                          case true =>
                           replace hc49 := eqT hc49
                           try dsimp only at hc49
                           first
                           | (exfalso; first | omega | (cases hc49; done))
                           | (
                             refine sVal (r_field rfl rfl of80_0) ?_
                             refine sVal (r_load rfl rfl (ag3 _) hs.own (by rfl)) ?_
                             refine s_bool (r_cmp rfl rfl rfl rfl) rfl rfl (fun _ => by rfl) ?_
                             intro c51 hc51
                             refine sVal (r_pickT rfl rfl rfl) ?_
                             cases c51
                             case false =>
                              replace hc51 := eqF hc51
                              try dsimp only at hc51
                              first
                              | (exfalso; first | omega | (cases hc51; done))
                              | (
                                refine sVal (r_notF rfl rfl) ?_
                                refine sVal (r_pickT rfl rfl rfl) ?_
                                refine s_nil ?_
                                refine hK47 _ _ ?_
                                refine c_condT rfl ?_
                                refine wp_seq_k (fun K52 hK52 => ?_)
                                refine c_region ?_
                                refine sVal (r_assign rfl rfl) ?_
                                refine s_nil ?_
                                refine hK52 _ _ ?_
                                refine wp_ret ?_
                                refine f_ret (rs := [.tmp 4]) rfl (.tmp rfl .nil) rfl ?_
                                exact hk _ (fin0 hs (by repeat (first | exact Keeps.refl _ | apply Keeps.tail | apply Keeps.drop))))
                             case true =>
                              replace hc51 := eqT hc51
                              try dsimp only at hc51
                              first
                              | (exfalso; first | omega | (cases hc51; done))
                              | (
                                refine sVal (r_notT rfl rfl) ?_
                                refine sVal (r_pickT rfl rfl rfl) ?_
                                refine s_nil ?_
                                refine hK47 _ _ ?_
                                refine c_condF rfl ?_
                                refine wp_skip ?_
                                refine hK46 _ _ ?_
                                refine wp_seq_k (fun K53 hK53 => ?_)
                                refine c_region ?_
                                refine sVal (r_field rfl rfl of80_0) ?_
                                refine sVal (r_load rfl rfl (ag3 _) hs.own (by rfl)) ?_
                                refine s_bool (r_cmp rfl rfl rfl rfl) rfl rfl (fun _ => by rfl) ?_
                                intro c54 hc54
                                refine sVal (r_move rfl rfl) ?_
                                cases c54
                                case false =>
                                 replace hc54 := eqF hc54
                                 try dsimp only at hc54
                                 first
                                 | (exfalso; first | omega | (cases hc54; done))
                                 | (
                                   refine @s_pass _ _ _ _ _ _ _ _ 131 (by rfl) (want_no rfl rfl rfl rfl) (by rfl) ?_
                                   refine @s_pass _ _ _ _ _ _ _ _ 132 (by rfl) (want_no rfl rfl rfl rfl) (by rfl) ?_
                                   refine @s_pass _ _ _ _ _ _ _ _ 133 (by rfl) (want_no rfl rfl rfl rfl) (by rfl) ?_
                                   refine @s_pass _ _ _ _ _ _ _ _ 134 (by rfl) (want_no rfl rfl rfl rfl) (by rfl) ?_
                                   refine @s_pass _ _ _ _ _ _ _ _ 135 (by rfl) (want_ud rfl rfl rfl) (by rfl) ?_
                                   refine @s_pass _ _ _ _ _ _ _ _ 136 (by rfl) (want_ud rfl rfl rfl) (by rfl) ?_
                                   refine @s_pass _ _ _ _ _ _ _ _ 137 (by rfl) (want_ud rfl rfl rfl) (by rfl) ?_
                                   refine @s_pass _ _ _ _ _ _ _ _ 138 (by rfl) (want_no rfl rfl rfl rfl) (by rfl) ?_
                                   refine sVal (r_pickF rfl rfl rfl) ?_
                                   refine s_nil ?_
                                   refine hK53 _ _ ?_
                                   refine c_condF rfl ?_
                                   refine wp_skip ?_
                                   refine hK28 _ _ ?_
                                   refine c_region ?_
                                   refine sVal (r_move rfl rfl) ?_
                                   refine sVal (r_ari rfl rfl rfl rfl (by first | exact wrapI (by omega) | rfl)) ?_
                                   refine sVal (r_assign rfl rfl) ?_
                                   refine s_nil ?_
                                   refine hKL19 _ _ _ (by rfl) (by rfl) ?_ ?_
                                   · exact ⟨k + 1, x, x', y, y', V, rfl, by omega, ⟨a', b', q', hq', hrel'⟩, ⟨by omega, by omega⟩, fin1 hs (by (repeat (first | exact Cut.head _ _ | apply Cut.tail)); done) (by repeat (first | exact Keeps.refl _ | apply Keeps.tail | apply Keeps.drop))⟩
                                   · (show _ < _; simp [intOf, xAt]; omega))
                                case true =>
                                 replace hc54 := eqT hc54
                                 try dsimp only at hc54
                                 first
                                 | (exfalso; first | omega | (cases hc54; done))
                                 | (
                                   refine sVal (r_field rfl rfl of80_4) ?_
                                   refine sVal (r_load rfl rfl (ag61 _) hs.own (by rfl)) ?_
                                   refine s_bool (r_cmp rfl rfl rfl rfl) rfl rfl (fun _ => by rfl) ?_
                                   intro c55 hc55
                                   refine sVal (r_move rfl rfl) ?_
                                   cases c55
                                   case false =>
                                    replace hc55 := neF hc55
                                    try dsimp only at hc55
                                    first
                                    | (exfalso; first | omega | (cases hc55; done))
                                    | (
                                      refine sVal (r_field rfl rfl of80_4) ?_
                                      refine sVal (r_load rfl rfl (ag61 _) hs.own (by rfl)) ?_
                                      refine s_bool (r_cmp rfl rfl rfl rfl) rfl rfl (fun _ => by rfl) ?_
                                      intro c56 hc56
                                      refine sVal (r_pickF rfl rfl rfl) ?_
                                      refine sVal (r_pickT rfl rfl rfl) ?_
                                      refine s_nil ?_
                                      refine hK53 _ _ ?_
                                      cases c56
                                      case false =>
                                       replace hc56 := neF hc56
                                       try dsimp only at hc56
                                       first
                                       | (exfalso; first | omega | (cases hc56; done))
                                       | (
                                         refine c_condF rfl ?_
                                         refine wp_skip ?_
                                         refine hK28 _ _ ?_
                                         refine c_region ?_
                                         refine sVal (r_move rfl rfl) ?_
                                         refine sVal (r_ari rfl rfl rfl rfl (by first | exact wrapI (by omega) | rfl)) ?_
                                         refine sVal (r_assign rfl rfl) ?_
                                         refine s_nil ?_
                                         refine hKL19 _ _ _ (by rfl) (by rfl) ?_ ?_
                                         · exact ⟨k + 1, x, x', y, y', V, rfl, by omega, ⟨a', b', q', hq', hrel'⟩, ⟨by omega, by omega⟩, fin1 hs (by (repeat (first | exact Cut.head _ _ | apply Cut.tail)); done) (by repeat (first | exact Keeps.refl _ | apply Keeps.tail | apply Keeps.drop))⟩
                                         · (show _ < _; simp [intOf, xAt]; omega))
                                      case true =>
                                       replace hc56 := neT hc56
                                       try dsimp only at hc56
                                       first
                                       | (exfalso; first | omega | (cases hc56; done))
                                       | (
                                         refine c_condT rfl ?_
                                         refine wp_seq_k (fun K57 hK57 => ?_)
                                         refine c_region ?_
                                         refine sVal (r_assign rfl rfl) ?_
                                         refine s_nil ?_
                                         refine hK57 _ _ ?_
                                         refine wp_ret ?_
                                         refine f_ret (rs := [.tmp 4]) rfl (.tmp rfl .nil) rfl ?_
                                         exact hk _ (fin0 hs (by repeat (first | exact Keeps.refl _ | apply Keeps.tail | apply Keeps.drop)))))
                                   case true =>
                                    replace hc55 := neT hc55
                                    try dsimp only at hc55
                                    first
                                    | (exfalso; first | omega | (cases hc55; done))
                                    | (
                                      refine @s_pass _ _ _ _ _ _ _ _ 135 (by rfl) (want_no rfl rfl rfl rfl) (by rfl) ?_
                                      refine @s_pass _ _ _ _ _ _ _ _ 136 (by rfl) (want_no rfl rfl rfl rfl) (by rfl) ?_
                                      refine @s_pass _ _ _ _ _ _ _ _ 137 (by rfl) (want_no rfl rfl rfl rfl) (by rfl) ?_
                                      refine sVal (r_pickT rfl rfl rfl) ?_
                                      refine sVal (r_pickT rfl rfl rfl) ?_
                                      refine s_nil ?_
                                      refine hK53 _ _ ?_
                                      refine c_condT rfl ?_
                                      refine wp_seq_k (fun K58 hK58 => ?_)
                                      refine c_region ?_
                                      refine sVal (r_assign rfl rfl) ?_
                                      refine s_nil ?_
                                      refine hK58 _ _ ?_
                                      refine wp_ret ?_
                                      refine f_ret (rs := [.tmp 4]) rfl (.tmp rfl .nil) rfl ?_
                                      exact hk _ (fin0 hs (by repeat (first | exact Keeps.refl _ | apply Keeps.tail | apply Keeps.drop))))))))
                       case true =>
                        replace hc48 := eqT hc48
                        try dsimp only at hc48
                        first
                        | (exfalso; first | omega | (cases hc48; done))
                        | (
                          refine sVal (r_field rfl rfl of80_0) ?_
                          refine sVal (r_load rfl rfl (ag3 _) hs.own (by rfl)) ?_
                          refine s_bool (r_cmp rfl rfl rfl rfl) rfl rfl (fun _ => by rfl) ?_
                          intro c59 hc59
                          refine sVal (r_pickT rfl rfl rfl) ?_
                          cases c59
                          case false =>
                           replace hc59 := eqF hc59
                           try dsimp only at hc59
                           first
                           | (exfalso; first | omega | (cases hc59; done))
                           | (
                             refine sVal (r_notF rfl rfl) ?_
                             refine sVal (r_move rfl rfl) ?_
                             refine sVal (r_field rfl rfl of80_0) ?_
                             refine sVal (r_load rfl rfl (ag3 _) hs.own (by rfl)) ?_
                             refine s_bool (r_cmp rfl rfl rfl rfl) rfl rfl (fun _ => by rfl) ?_
                             intro c60 hc60
                             refine sVal (r_move rfl rfl) ?_
                             cases c60
                             case false =>
                              replace hc60 := eqF hc60
                              try dsimp only at hc60
                              first
                              | (exfalso; first | omega | (cases hc60; done))
                              | (
                                refine @s_pass _ _ _ _ _ _ _ _ 121 (by rfl) (want_no rfl rfl rfl rfl) (by rfl) ?_
                                refine @s_pass _ _ _ _ _ _ _ _ 122 (by rfl) (want_no rfl rfl rfl rfl) (by rfl) ?_
                                refine @s_pass _ _ _ _ _ _ _ _ 123 (by rfl) (want_no rfl rfl rfl rfl) (by rfl) ?_
                                refine sVal (r_pickF rfl rfl rfl) ?_
                                refine sVal (r_notF rfl rfl) ?_
                                refine sVal (r_pickT rfl rfl rfl) ?_
                                refine s_nil ?_
                                refine hK47 _ _ ?_
                                refine c_condT rfl ?_
                                refine wp_seq_k (fun K61 hK61 => ?_)
                                refine c_region ?_
                                refine sVal (r_assign rfl rfl) ?_
                                refine s_nil ?_
                                refine hK61 _ _ ?_
                                refine wp_ret ?_
                                refine f_ret (rs := [.tmp 4]) rfl (.tmp rfl .nil) rfl ?_
                                exact hk _ (fin0 hs (by repeat (first | exact Keeps.refl _ | apply Keeps.tail | apply Keeps.drop))))
                             case true =>
                              replace hc60 := eqT hc60
                              try dsimp only at hc60
                              first
                              | (exfalso; first | omega | (cases hc60; done))
                              | (
                                refine sVal (r_field rfl rfl of80_0) ?_
                                refine sVal (r_load rfl rfl (ag3 _) hs.own (by rfl)) ?_
                                refine s_bool (r_cmp rfl rfl rfl rfl) rfl rfl (fun _ => by rfl) ?_
                                intro c62 hc62
                                refine sVal (r_pickT rfl rfl rfl) ?_
                                cases c62
                                case false =>
                                 replace hc62 := eqF hc62
                                 try dsimp only at hc62
                                 first
                                 | (exfalso; first | omega | (cases hc62; done))
                                 | (
                                   refine sVal (r_notF rfl rfl) ?_
                                   refine sVal (r_pickT rfl rfl rfl) ?_
                                   refine s_nil ?_
                                   refine hK47 _ _ ?_
                                   refine c_condT rfl ?_
                                   refine wp_seq_k (fun K63 hK63 => ?_)
                                   refine c_region ?_
                                   refine sVal (r_assign rfl rfl) ?_
                                   refine s_nil ?_
                                   refine hK63 _ _ ?_
                                   refine wp_ret ?_
                                   refine f_ret (rs := [.tmp 4]) rfl (.tmp rfl .nil) rfl ?_
                                   exact hk _ (fin0 hs (by repeat (first | exact Keeps.refl _ | apply Keeps.tail | apply Keeps.drop))))
                                case true =>
                                 replace hc62 := eqT hc62
                                 try dsimp only at hc62
                                 first
                                 | (exfalso; first | omega | (cases hc62; done))
                                 | (
                                   refine sVal (r_notT rfl rfl) ?_
                                   refine sVal (r_pickT rfl rfl rfl) ?_
                                   refine s_nil ?_
                                   refine hK47 _ _ ?_
                                   refine c_condF rfl ?_
                                   refine wp_skip ?_
                                   refine hK46 _ _ ?_
                                   refine wp_seq_k (fun K64 hK64 => ?_)
                                   refine c_region ?_
                                   refine sVal (r_field rfl rfl of80_0) ?_
                                   refine sVal (r_load rfl rfl (ag3 _) hs.own (by rfl)) ?_
                                   refine s_bool (r_cmp rfl rfl rfl rfl) rfl rfl (fun _ => by rfl) ?_
                                   intro c65 hc65
                                   refine sVal (r_move rfl rfl) ?_
                                   cases c65
                                   case false =>
                                    replace hc65 := eqF hc65
                                    try dsimp only at hc65
                                    first
                                    | (exfalso; first | omega | (cases hc65; done))
                                    | (
                                      refine @s_pass _ _ _ _ _ _ _ _ 131 (by rfl) (want_no rfl rfl rfl rfl) (by rfl) ?_
                                      refine @s_pass _ _ _ _ _ _ _ _ 132 (by rfl) (want_no rfl rfl rfl rfl) (by rfl) ?_
                                      refine @s_pass _ _ _ _ _ _ _ _ 133 (by rfl) (want_no rfl rfl rfl rfl) (by rfl) ?_
                                      refine @s_pass _ _ _ _ _ _ _ _ 134 (by rfl) (want_no rfl rfl rfl rfl) (by rfl) ?_
                                      refine @s_pass _ _ _ _ _ _ _ _ 135 (by rfl) (want_ud rfl rfl rfl) (by rfl) ?_
                                      refine @s_pass _ _ _ _ _ _ _ _ 136 (by rfl) (want_ud rfl rfl rfl) (by rfl) ?_
                                      refine @s_pass _ _ _ _ _ _ _ _ 137 (by rfl) (want_ud rfl rfl rfl) (by rfl) ?_
                                      refine @s_pass _ _ _ _ _ _ _ _ 138 (by rfl) (want_no rfl rfl rfl rfl) (by rfl) ?_
                                      refine sVal (r_pickF rfl rfl rfl) ?_
                                      refine s_nil ?_
                                      refine hK64 _ _ ?_
                                      refine c_condF rfl ?_
                                      refine wp_skip ?_
                                      refine hK28 _ _ ?_
                                      refine c_region ?_
                                      refine sVal (r_move rfl rfl) ?_
                                      refine sVal (r_ari rfl rfl rfl rfl (by first | exact wrapI (by omega) | rfl)) ?_
                                      refine sVal (r_assign rfl rfl) ?_
                                      refine s_nil ?_
                                      refine hKL19 _ _ _ (by rfl) (by rfl) ?_ ?_
                                      · exact ⟨k + 1, x, x', y, y', V, rfl, by omega, ⟨a', b', q', hq', hrel'⟩, ⟨by omega, by omega⟩, fin1 hs (by (repeat (first | exact Cut.head _ _ | apply Cut.tail)); done) (by repeat (first | exact Keeps.refl _ | apply Keeps.tail | apply Keeps.drop))⟩
                                      · (show _ < _; simp [intOf, xAt]; omega))
                                   case true =>
                                    replace hc65 := eqT hc65
                                    try dsimp only at hc65
                                    first
                                    | (exfalso; first | omega | (cases hc65; done))
                                    | (
                                      refine sVal (r_field rfl rfl of80_4) ?_
                                      refine sVal (r_load rfl rfl (ag61 _) hs.own (by rfl)) ?_
                                      refine s_bool (r_cmp rfl rfl rfl rfl) rfl rfl (fun _ => by rfl) ?_
                                      intro c66 hc66
                                      refine sVal (r_move rfl rfl) ?_
                                      cases c66
                                      case false =>
                                       replace hc66 := neF hc66
                                       try dsimp only at hc66
                                       first
                                       | (exfalso; first | omega | (cases hc66; done))
                                       | (
                                         refine sVal (r_field rfl rfl of80_4) ?_
                                         refine sVal (r_load rfl rfl (ag61 _) hs.own (by rfl)) ?_
                                         refine s_bool (r_cmp rfl rfl rfl rfl) rfl rfl (fun _ => by rfl) ?_
                                         intro c67 hc67
                                         refine sVal (r_pickF rfl rfl rfl) ?_
                                         refine sVal (r_pickT rfl rfl rfl) ?_
                                         refine s_nil ?_
                                         refine hK64 _ _ ?_
                                         cases c67
                                         case false =>
                                          replace hc67 := neF hc67
                                          try dsimp only at hc67
                                          first
                                          | (exfalso; first | omega | (cases hc67; done))
                                          | (
                                            refine c_condF rfl ?_
                                            refine wp_skip ?_
                                            refine hK28 _ _ ?_
                                            refine c_region ?_
                                            refine sVal (r_move rfl rfl) ?_
                                            refine sVal (r_ari rfl rfl rfl rfl (by first | exact wrapI (by omega) | rfl)) ?_
                                            refine sVal (r_assign rfl rfl) ?_
                                            refine s_nil ?_
                                            refine hKL19 _ _ _ (by rfl) (by rfl) ?_ ?_
                                            · exact ⟨k + 1, x, x', y, y', V, rfl, by omega, ⟨a', b', q', hq', hrel'⟩, ⟨by omega, by omega⟩, fin1 hs (by (repeat (first | exact Cut.head _ _ | apply Cut.tail)); done) (by repeat (first | exact Keeps.refl _ | apply Keeps.tail | apply Keeps.drop))⟩
                                            · (show _ < _; simp [intOf, xAt]; omega))
                                         case true =>
                                          replace hc67 := neT hc67
                                          try dsimp only at hc67
                                          first
                                          | (exfalso; first | omega | (cases hc67; done))
                                          | (
                                            refine c_condT rfl ?_
                                            refine wp_seq_k (fun K68 hK68 => ?_)
                                            refine c_region ?_
                                            refine sVal (r_assign rfl rfl) ?_
                                            refine s_nil ?_
                                            refine hK68 _ _ ?_
                                            refine wp_ret ?_
                                            refine f_ret (rs := [.tmp 4]) rfl (.tmp rfl .nil) rfl ?_
                                            exact hk _ (fin0 hs (by repeat (first | exact Keeps.refl _ | apply Keeps.tail | apply Keeps.drop)))))
                                      case true =>
                                       replace hc66 := neT hc66
                                       try dsimp only at hc66
                                       first
                                       | (exfalso; first | omega | (cases hc66; done))
                                       | (
                                         refine @s_pass _ _ _ _ _ _ _ _ 135 (by rfl) (want_no rfl rfl rfl rfl) (by rfl) ?_
                                         refine @s_pass _ _ _ _ _ _ _ _ 136 (by rfl) (want_no rfl rfl rfl rfl) (by rfl) ?_
                                         refine @s_pass _ _ _ _ _ _ _ _ 137 (by rfl) (want_no rfl rfl rfl rfl) (by rfl) ?_
                                         refine sVal (r_pickT rfl rfl rfl) ?_
                                         refine sVal (r_pickT rfl rfl rfl) ?_
                                         refine s_nil ?_
                                         refine hK64 _ _ ?_
                                         refine c_condT rfl ?_
                                         refine wp_seq_k (fun K69 hK69 => ?_)
                                         refine c_region ?_
                                         refine sVal (r_assign rfl rfl) ?_
                                         refine s_nil ?_
                                         refine hK69 _ _ ?_
                                         refine wp_ret ?_
                                         refine f_ret (rs := [.tmp 4]) rfl (.tmp rfl .nil) rfl ?_
                                         exact hk _ (fin0 hs (by repeat (first | exact Keeps.refl _ | apply Keeps.tail | apply Keeps.drop))))))))
                          case true =>
                           replace hc59 := eqT hc59
                           try dsimp only at hc59
                           first
                           | (exfalso; first | omega | (cases hc59; done))
                           | (
                             refine sVal (r_notT rfl rfl) ?_
                             refine sVal (r_move rfl rfl) ?_
                             refine @s_pass _ _ _ _ _ _ _ _ 117 (by rfl) (want_no rfl rfl rfl rfl) (by rfl) ?_
                             refine @s_pass _ _ _ _ _ _ _ _ 118 (by rfl) (want_no rfl rfl rfl rfl) (by rfl) ?_
                             refine @s_pass _ _ _ _ _ _ _ _ 119 (by rfl) (want_no rfl rfl rfl rfl) (by rfl) ?_
                             refine @s_pass _ _ _ _ _ _ _ _ 120 (by rfl) (want_no rfl rfl rfl rfl) (by rfl) ?_
                             refine @s_pass _ _ _ _ _ _ _ _ 121 (by rfl) (want_ud rfl rfl rfl) (by rfl) ?_
                             refine @s_pass _ _ _ _ _ _ _ _ 122 (by rfl) (want_ud rfl rfl rfl) (by rfl) ?_
                             refine @s_pass _ _ _ _ _ _ _ _ 123 (by rfl) (want_ud rfl rfl rfl) (by rfl) ?_
                             refine @s_pass _ _ _ _ _ _ _ _ 124 (by rfl) (want_no rfl rfl rfl rfl) (by rfl) ?_
                             refine @s_pass _ _ _ _ _ _ _ _ 125 (by rfl) (want_no rfl rfl rfl rfl) (by rfl) ?_
                             refine sVal (r_pickF rfl rfl rfl) ?_
                             refine s_nil ?_
                             refine hK47 _ _ ?_
                             refine c_condF rfl ?_
                             refine wp_skip ?_
                             refine hK46 _ _ ?_
                             refine wp_seq_k (fun K70 hK70 => ?_)
                             refine c_region ?_
                             refine sVal (r_field rfl rfl of80_0) ?_
                             refine sVal (r_load rfl rfl (ag3 _) hs.own (by rfl)) ?_
                             refine s_bool (r_cmp rfl rfl rfl rfl) rfl rfl (fun _ => by rfl) ?_
                             intro c71 hc71
                             refine sVal (r_move rfl rfl) ?_
                             cases c71
                             case false =>
                              replace hc71 := eqF hc71
                              try dsimp only at hc71
                              first
                              | (exfalso; first | omega | (cases hc71; done))
                              | (
                                refine @s_pass _ _ _ _ _ _ _ _ 131 (by rfl) (want_no rfl rfl rfl rfl) (by rfl) ?_
                                refine @s_pass _ _ _ _ _ _ _ _ 132 (by rfl) (want_no rfl rfl rfl rfl) (by rfl) ?_
                                refine @s_pass _ _ _ _ _ _ _ _ 133 (by rfl) (want_no rfl rfl rfl rfl) (by rfl) ?_
                                refine @s_pass _ _ _ _ _ _ _ _ 134 (by rfl) (want_no rfl rfl rfl rfl) (by rfl) ?_
                                refine @s_pass _ _ _ _ _ _ _ _ 135 (by rfl) (want_ud rfl rfl rfl) (by rfl) ?_
                                refine @s_pass _ _ _ _ _ _ _ _ 136 (by rfl) (want_ud rfl rfl rfl) (by rfl) ?_
                                refine @s_pass _ _ _ _ _ _ _ _ 137 (by rfl) (want_ud rfl rfl rfl) (by rfl) ?_
                                refine @s_pass _ _ _ _ _ _ _ _ 138 (by rfl) (want_no rfl rfl rfl rfl) (by rfl) ?_
                                refine sVal (r_pickF rfl rfl rfl) ?_
                                refine s_nil ?_
                                refine hK70 _ _ ?_
                                refine c_condF rfl ?_
                                refine wp_skip ?_
                                refine hK28 _ _ ?_
                                refine c_region ?_
                                refine sVal (r_move rfl rfl) ?_
                                refine sVal (r_ari rfl rfl rfl rfl (by first | exact wrapI (by omega) | rfl)) ?_
                                refine sVal (r_assign rfl rfl) ?_
                                refine s_nil ?_
                                refine hKL19 _ _ _ (by rfl) (by rfl) ?_ ?_
                                · exact ⟨k + 1, x, x', y, y', V, rfl, by omega, ⟨a', b', q', hq', hrel'⟩, ⟨by omega, by omega⟩, fin1 hs (by (repeat (first | exact Cut.head _ _ | apply Cut.tail)); done) (by repeat (first | exact Keeps.refl _ | apply Keeps.tail | apply Keeps.drop))⟩
                                · (show _ < _; simp [intOf, xAt]; omega))
                             case true =>
                              replace hc71 := eqT hc71
                              try dsimp only at hc71
                              first
                              | (exfalso; first | omega | (cases hc71; done))
                              | (
                                refine sVal (r_field rfl rfl of80_4) ?_
                                refine sVal (r_load rfl rfl (ag61 _) hs.own (by rfl)) ?_
                                refine s_bool (r_cmp rfl rfl rfl rfl) rfl rfl (fun _ => by rfl) ?_
                                intro c72 hc72
                                refine sVal (r_move rfl rfl) ?_
                                cases c72
                                case false =>
                                 replace hc72 := neF hc72
                                 try dsimp only at hc72
                                 first
                                 | (exfalso; first | omega | (cases hc72; done))
                                 | (
                                   refine sVal (r_field rfl rfl of80_4) ?_
                                   refine sVal (r_load rfl rfl (ag61 _) hs.own (by rfl)) ?_
                                   refine s_bool (r_cmp rfl rfl rfl rfl) rfl rfl (fun _ => by rfl) ?_
                                   intro c73 hc73
                                   refine sVal (r_pickF rfl rfl rfl) ?_
                                   refine sVal (r_pickT rfl rfl rfl) ?_
                                   refine s_nil ?_
                                   refine hK70 _ _ ?_
                                   cases c73
                                   case false =>
                                    replace hc73 := neF hc73
                                    try dsimp only at hc73
                                    first
                                    | (exfalso; first | omega | (cases hc73; done))
                                    | (
                                      refine c_condF rfl ?_
                                      refine wp_skip ?_
                                      refine hK28 _ _ ?_
                                      refine c_region ?_
                                      refine sVal (r_move rfl rfl) ?_
                                      refine sVal (r_ari rfl rfl rfl rfl (by first | exact wrapI (by omega) | rfl)) ?_
                                      refine sVal (r_assign rfl rfl) ?_
                                      refine s_nil ?_
                                      refine hKL19 _ _ _ (by rfl) (by rfl) ?_ ?_
                                      · exact ⟨k + 1, x, x', y, y', V, rfl, by omega, ⟨a', b', q', hq', hrel'⟩, ⟨by omega, by omega⟩, fin1 hs (by (repeat (first | exact Cut.head _ _ | apply Cut.tail)); done) (by repeat (first | exact Keeps.refl _ | apply Keeps.tail | apply Keeps.drop))⟩
                                      · (show _ < _; simp [intOf, xAt]; omega))
                                   case true =>
                                    replace hc73 := neT hc73
                                    try dsimp only at hc73
                                    first
                                    | (exfalso; first | omega | (cases hc73; done))
                                    | (
                                      refine c_condT rfl ?_
                                      refine wp_seq_k (fun K74 hK74 => ?_)
                                      refine c_region ?_
                                      refine sVal (r_assign rfl rfl) ?_
                                      refine s_nil ?_
                                      refine hK74 _ _ ?_
                                      refine wp_ret ?_
                                      refine f_ret (rs := [.tmp 4]) rfl (.tmp rfl .nil) rfl ?_
                                      exact hk _ (fin0 hs (by repeat (first | exact Keeps.refl _ | apply Keeps.tail | apply Keeps.drop)))))
                                case true =>
                                 replace hc72 := neT hc72
                                 try dsimp only at hc72
                                 first
                                 | (exfalso; first | omega | (cases hc72; done))
                                 | (
                                   refine @s_pass _ _ _ _ _ _ _ _ 135 (by rfl) (want_no rfl rfl rfl rfl) (by rfl) ?_
                                   refine @s_pass _ _ _ _ _ _ _ _ 136 (by rfl) (want_no rfl rfl rfl rfl) (by rfl) ?_
                                   refine @s_pass _ _ _ _ _ _ _ _ 137 (by rfl) (want_no rfl rfl rfl rfl) (by rfl) ?_
                                   refine sVal (r_pickT rfl rfl rfl) ?_
                                   refine sVal (r_pickT rfl rfl rfl) ?_
                                   refine s_nil ?_
                                   refine hK70 _ _ ?_
                                   refine c_condT rfl ?_
                                   refine wp_seq_k (fun K75 hK75 => ?_)
                                   refine c_region ?_
                                   refine sVal (r_assign rfl rfl) ?_
                                   refine s_nil ?_
                                   refine hK75 _ _ ?_
                                   refine wp_ret ?_
                                   refine f_ret (rs := [.tmp 4]) rfl (.tmp rfl .nil) rfl ?_
                                   exact hk _ (fin0 hs (by repeat (first | exact Keeps.refl _ | apply Keeps.tail | apply Keeps.drop)))))))))
                 case true =>
                  replace hc34 := decT' hc34
                  try dsimp only at hc34
                  first
                  | (exfalso; first | omega | (cases hc34; done))
                  | (
                    refine c_condT rfl ?_
                    refine wp_skip ?_
                    refine hK35 _ _ ?_
                    refine wp_seq_k (fun K76 hK76 => ?_)
                    refine wp_block ?_
                    refine wp_seq_k (fun K77 hK77 => ?_)
                    refine c_region ?_
                    obtain ⟨i2, b, b', z, z', u, u', hi, hin, hs, back⟩ := pv_view i hs
                    obtain rfl : i2 = i := by omega
                    have hround := round_ok (gOf ans) (gOf_late ans) hq hrel f0 f1 wn hwn
                    have hV0 : Small (P.first f0 f1 wn) := by have := hround.2 0; rwa [turns_zero] at this
                    have hV := half_sm hV0 i2
                    have hft := first_len P f0 f1 wn
                    have hVt := half_t (V := P.first f0 f1 wn) (m := 60000) (by omega) (by omega) i2
                    obtain ⟨f0', f1', e, hf0', hf1'⟩ := first_next (P := P) (w := wn) hi hf0 hf1
                    have eh := half_half i2 (P.first f0 f1 wn)
                    generalize half i2 (P.first f0 f1 wn) = V at hs hV hVt e eh
                    replace hs := pv_open hs
                    refine sVal (r_move rfl rfl) ?_
                    refine sVal (r_assign rfl rfl) ?_
                    refine s_nil ?_
                    refine hK77 _ _ ?_
                    refine wp_seq_k (fun K78 hK78 => ?_)
                    refine c_region ?_
                    refine sVal (r_move rfl rfl) ?_
                    refine sVal (r_move rfl rfl) ?_
                    refine s_exQ (r_idx (f := intC) rfl rfl rfl hs.rd (rfl) (hx) Try.underlying22 in3 sz3) rfl rfl (fun _ => by rfl) ?_
                    intro ad80 he79
                    refine sVal (r_loadEl rfl rfl hs.rd he79 (hx) (fun _ => rfl) (ag3 _) (by rfl)) ?_
                    refine sVal (r_move rfl rfl) ?_
                    refine sVal (r_shr rfl rfl rfl (by first | omega | decide) (rfl : _ = shrI x0 _)) ?_
                    refine sVal (r_bits rfl (by simp) rfl rfl (mask1 _)) ?_
                    refine s_bool (r_cmp rfl rfl rfl rfl) rfl rfl (fun _ => by rfl) ?_
                    intro c81 hc81
                    refine s_nil ?_
                    refine hK78 _ _ ?_
                    cases c81
                    case false =>
                     replace hc81 := eqF hc81
                     try dsimp only at hc81
                     first
                     | (exfalso; first | omega | (cases hc81; done))
                     | (
                       refine c_condF rfl ?_
                       refine wp_skip ?_
                       refine hK76 _ _ ?_
                       refine c_region ?_
                       refine sVal (r_ari rfl rfl rfl rfl (by first | exact wrapI (by omega) | rfl)) ?_
                       refine sVal (r_move rfl rfl) ?_
                       refine s_nil ?_
                       refine hKL32 _ _ _ (by rfl) (by rfl) ?_ ?_
                       · (first | (rw [act_fail (by assumption)] at e; obtain ⟨x, x', y, y', hs⟩ := back (pv_close (V.give (V.c0.fail 81)) hs (by (repeat (first | apply Cut.pair | exact Cut.head _ _ | apply Cut.tail)); done) (Keeps.refl _)); rw [e] at hs; exact ⟨i2 + 1, f0', f1', x, x', y, y', rfl, by omega, hf0', hf1', fin1 hs (by (repeat (first | exact Cut.head _ _ | apply Cut.tail)); done) (by repeat (first | exact Keeps.refl _ | apply Keeps.tail | apply Keeps.drop))⟩) | (rw [act_ask (by assumption), ask_err (by assumption)] at e; rw [request_err (by assumption)] at hs; obtain ⟨x, x', y, y', hs⟩ := back (pv_close V hs (by (repeat (first | apply Cut.pair | exact Cut.head _ _ | apply Cut.tail)); done) (Keeps.refl _)); rw [e] at hs; exact ⟨i2 + 1, f0', f1', x, x', y, y', rfl, by omega, hf0', hf1', fin1 hs (by (repeat (first | exact Cut.head _ _ | apply Cut.tail)); done) (by repeat (first | exact Keeps.refl _ | apply Keeps.tail | apply Keeps.drop))⟩) | (rw [act_ask (by assumption)] at e; obtain ⟨x, x', y, y', hs⟩ := back (pv_close (V.ask wn) hs (by (repeat (first | apply Cut.pair | exact Cut.head _ _ | apply Cut.tail)); done) (Keeps.refl _)); rw [e] at hs; exact ⟨i2 + 1, f0', f1', x, x', y, y', rfl, by omega, hf0', hf1', fin1 hs (by (repeat (first | exact Cut.head _ _ | apply Cut.tail)); done) (by repeat (first | exact Keeps.refl _ | apply Keeps.tail | apply Keeps.drop))⟩) | (obtain ⟨x, x', y, y', hs⟩ := back (pv_close V hs (by (repeat (first | apply Cut.pair | exact Cut.head _ _ | apply Cut.tail)); done) (Keeps.refl _)); rw [eh] at hs; exact ⟨i2 + 1, f0, f1, x, x', y, y', rfl, by omega, fun h => by omega, fun _ => hf1 (by omega), fin1 hs (by (repeat (first | exact Cut.head _ _ | apply Cut.tail)); done) (by repeat (first | exact Keeps.refl _ | apply Keeps.tail | apply Keeps.drop))⟩))
                       · (show _ < _; simp [intOf, xAt]; omega))
                    case true =>
                     replace hc81 := eqT hc81
                     try dsimp only at hc81
                     first
                     | (exfalso; first | omega | (cases hc81; done))
                     | (
                       refine c_condT rfl ?_
                       refine wp_seq_k (fun K82 hK82 => ?_)
                       refine c_region ?_
                       refine s_ex (r_lit intC [1, 4, 3, 0] rfl rfl rfl hs Try.underlying22 (by kernel_rfl) sz3 rfl (by decide) (fun _ => rfl)) rfl rfl (fun _ => by rfl) ?_
                       intro b83 w hs
                       refine sVal (r_move rfl rfl) ?_
                       refine sVal (r_move rfl rfl) ?_
                       refine s_exQ (r_idx (f := intC) rfl rfl rfl hs.rd (rfl) (hx) Try.underlying22 in3 sz3) rfl rfl (fun _ => by rfl) ?_
                       intro ad85 he84
                       refine sVal (r_loadEl rfl rfl hs.rd he84 (hx) (fun _ => rfl) (ag3 _) (by rfl)) ?_
                       refine sVal (r_shr rfl rfl rfl (by first | omega | decide) (rfl : _ = shrI x0 2)) ?_
                       refine sVal (r_bits rfl (by simp) rfl rfl (mask3 _)) ?_
                       refine s_exQ (r_idx (f := intC) rfl rfl rfl hs.rd (hm) (hw) Try.underlying22 in3 sz3) rfl rfl (fun _ => by rfl) ?_
                       intro ad87 he86
                       refine sVal (r_loadEl rfl rfl hs.rd he86 (hw) (fun _ => rfl) (ag3 _) (by rfl)) ?_
                       refine sVal (r_assign rfl rfl) ?_
                       refine s_nil ?_
                       refine hK82 _ _ ?_
                       refine wp_seq_k (fun K88 hK88 => ?_)
                       refine c_region ?_
                       refine sVal (r_move rfl rfl) ?_
                       refine s_bool (r_cmp rfl rfl rfl rfl) rfl rfl (fun _ => by rfl) ?_
                       intro c89 hc89
                       refine s_nil ?_
                       refine hK88 _ _ ?_
                       cases c89
                       case false =>
                        replace hc89 := eqF hc89
                        try dsimp only at hc89
                        first
                        | (exfalso; first | omega | (cases hc89; done))
                        | (
                          refine c_condF rfl ?_
                          refine wp_seq_k (fun K90 hK90 => ?_)
                          refine c_region ?_
                          refine sVal (r_field rfl rfl of68_0) ?_
                          refine sVal (r_load rfl rfl (ag64 _) hs.own (by rfl)) ?_
                          refine sVal (r_move rfl rfl) ?_
                          refine s_exQ (r_idx (f := valC) rfl rfl rfl hs.rd (rfl) (two_at hi) Try.underlying64 in58 sz58) rfl rfl (fun _ => by rfl) ?_
                          intro ad92 he91
                          refine sVal (r_loadEl rfl rfl hs.rd he91 (two_at hi) (fun _ => rfl) (ag58 _) (by rfl)) ?_
                          refine sVal (r_move rfl rfl) ?_
                          refine s_enter (r_call rfl ent34 rfl) rfl ?_
                          refine request_use _ noS hV.k0 hs (by (repeat (first | exact Cut.head _ _ | apply Cut.tail)); done) ?_
                          intro g1 w hs
                          replace hs := rest_open hs
                          refine ⟨_, rfl, a_put (by rfl) ?_⟩
                          refine sVal (r_move rfl rfl) ?_
                          refine sVal (r_extract rfl rfl (by rfl)) ?_
                          refine sVal (r_extract rfl rfl (by rfl)) ?_
                          refine s_ex (r_alloc rfl zr74 hs) rfl rfl (fun _ => by rfl) ?_
                          intro b93 w hs
                          refine s_exS (r_storeA rfl rfl rfl hs (by (repeat (first | exact Cut.head _ _ | apply Cut.tail)); done) in74 sz74 rfl (fun h => by cases h) rfl (by rfl)) rfl rfl ?_
                          intro w hs
                          refine sVal (r_assign rfl rfl) ?_
                          refine s_nil ?_
                          refine hK90 _ _ ?_
                          refine wp_seq_k (fun K94 hK94 => ?_)
                          refine c_region ?_
                          refine sVal (r_move rfl rfl) ?_
                          refine s_bool (r_cmp rfl rfl rfl rfl) rfl rfl (fun _ => by rfl) ?_
                          intro c95 hc95
                          refine s_nil ?_
                          refine hK94 _ _ ?_
                          cases c95
                          case false =>
                           replace hc95 := eqF hc95
                           try dsimp only at hc95
                           first
                           | (exfalso; first | omega | (cases hc95; done))
                           | (
                             refine c_condF rfl ?_
                             refine wp_skip ?_
                             refine hK76 _ _ ?_
                             refine c_region ?_
                             refine sVal (r_ari rfl rfl rfl rfl (by first | exact wrapI (by omega) | rfl)) ?_
                             refine sVal (r_move rfl rfl) ?_
                             refine s_nil ?_
                             refine hKL32 _ _ _ (by rfl) (by rfl) ?_ ?_
                             · (first | (rw [act_fail (by assumption)] at e; obtain ⟨x, x', y, y', hs⟩ := back (pv_close (V.give (V.c0.fail 81)) hs (by (repeat (first | apply Cut.pair | exact Cut.head _ _ | apply Cut.tail)); done) (Keeps.refl _)); rw [e] at hs; exact ⟨i2 + 1, f0', f1', x, x', y, y', rfl, by omega, hf0', hf1', fin1 hs (by (repeat (first | exact Cut.head _ _ | apply Cut.tail)); done) (by repeat (first | exact Keeps.refl _ | apply Keeps.tail | apply Keeps.drop))⟩) | (rw [act_ask (by assumption), ask_err (by assumption)] at e; rw [request_err (by assumption)] at hs; obtain ⟨x, x', y, y', hs⟩ := back (pv_close V hs (by (repeat (first | apply Cut.pair | exact Cut.head _ _ | apply Cut.tail)); done) (Keeps.refl _)); rw [e] at hs; exact ⟨i2 + 1, f0', f1', x, x', y, y', rfl, by omega, hf0', hf1', fin1 hs (by (repeat (first | exact Cut.head _ _ | apply Cut.tail)); done) (by repeat (first | exact Keeps.refl _ | apply Keeps.tail | apply Keeps.drop))⟩) | (rw [act_ask (by assumption)] at e; obtain ⟨x, x', y, y', hs⟩ := back (pv_close (V.ask wn) hs (by (repeat (first | apply Cut.pair | exact Cut.head _ _ | apply Cut.tail)); done) (Keeps.refl _)); rw [e] at hs; exact ⟨i2 + 1, f0', f1', x, x', y, y', rfl, by omega, hf0', hf1', fin1 hs (by (repeat (first | exact Cut.head _ _ | apply Cut.tail)); done) (by repeat (first | exact Keeps.refl _ | apply Keeps.tail | apply Keeps.drop))⟩) | (obtain ⟨x, x', y, y', hs⟩ := back (pv_close V hs (by (repeat (first | apply Cut.pair | exact Cut.head _ _ | apply Cut.tail)); done) (Keeps.refl _)); rw [eh] at hs; exact ⟨i2 + 1, f0, f1, x, x', y, y', rfl, by omega, fun h => by omega, fun _ => hf1 (by omega), fin1 hs (by (repeat (first | exact Cut.head _ _ | apply Cut.tail)); done) (by repeat (first | exact Keeps.refl _ | apply Keeps.tail | apply Keeps.drop))⟩))
                             · (show _ < _; simp [intOf, xAt]; omega))
                          case true =>
                           replace hc95 := eqT hc95
                           try dsimp only at hc95
                           first
                           | (exfalso; first | omega | (cases hc95; done))
                           | (
                             refine c_condT rfl ?_
                             refine c_region ?_
                             refine sVal (r_loadA rfl rfl (ag68 _) hs.own in68 sz68 (by rfl)) ?_
                             refine sVal (r_move rfl rfl) ?_
                             refine sVal (r_loadA rfl rfl (ag74 _) hs.own in74 sz74 (by rfl)) ?_
                             refine s_enter (r_call rfl ent32 rfl) rfl ?_
                             refine give_use (g := g1) (x1 := z') (y0 := u) (w1 := V.w1) (t0 := V.t0) (Cn.request V.c0 wn noS).r hi (Nat.le_trans (Nat.add_le_add_left (req_units _ _) _) (by have := hV.l1; omega)) (Nat.le_trans (Nat.add_le_add_left (req_sigs _ _) _) (by omega)) hs (by (repeat (first | apply Cut.pair | exact Cut.head _ _ | apply Cut.tail)); done) ?_
                             intro z3 u3 w hs
                             simp only [← star_assoc] at hs
                             refine ⟨_, rfl, a_put (by rfl) ?_⟩
                             refine s_nil ?_
                             refine hK76 _ _ ?_
                             refine c_region ?_
                             refine sVal (r_ari rfl rfl rfl rfl (by first | exact wrapI (by omega) | rfl)) ?_
                             refine sVal (r_move rfl rfl) ?_
                             refine s_nil ?_
                             refine hKL32 _ _ _ (by rfl) (by rfl) ?_ ?_
                             · (first | (rw [act_fail (by assumption)] at e; obtain ⟨x, x', y, y', hs⟩ := back (pv_close (V.give (V.c0.fail 81)) hs (by (repeat (first | apply Cut.pair | exact Cut.head _ _ | apply Cut.tail)); done) (Keeps.refl _)); rw [e] at hs; exact ⟨i2 + 1, f0', f1', x, x', y, y', rfl, by omega, hf0', hf1', fin1 hs (by (repeat (first | exact Cut.head _ _ | apply Cut.tail)); done) (by repeat (first | exact Keeps.refl _ | apply Keeps.tail | apply Keeps.drop))⟩) | (rw [act_ask (by assumption), ask_err (by assumption)] at e; rw [request_err (by assumption)] at hs; obtain ⟨x, x', y, y', hs⟩ := back (pv_close V hs (by (repeat (first | apply Cut.pair | exact Cut.head _ _ | apply Cut.tail)); done) (Keeps.refl _)); rw [e] at hs; exact ⟨i2 + 1, f0', f1', x, x', y, y', rfl, by omega, hf0', hf1', fin1 hs (by (repeat (first | exact Cut.head _ _ | apply Cut.tail)); done) (by repeat (first | exact Keeps.refl _ | apply Keeps.tail | apply Keeps.drop))⟩) | (rw [act_ask (by assumption)] at e; obtain ⟨x, x', y, y', hs⟩ := back (pv_close (V.ask wn) hs (by (repeat (first | apply Cut.pair | exact Cut.head _ _ | apply Cut.tail)); done) (Keeps.refl _)); rw [e] at hs; exact ⟨i2 + 1, f0', f1', x, x', y, y', rfl, by omega, hf0', hf1', fin1 hs (by (repeat (first | exact Cut.head _ _ | apply Cut.tail)); done) (by repeat (first | exact Keeps.refl _ | apply Keeps.tail | apply Keeps.drop))⟩) | (obtain ⟨x, x', y, y', hs⟩ := back (pv_close V hs (by (repeat (first | apply Cut.pair | exact Cut.head _ _ | apply Cut.tail)); done) (Keeps.refl _)); rw [eh] at hs; exact ⟨i2 + 1, f0, f1, x, x', y, y', rfl, by omega, fun h => by omega, fun _ => hf1 (by omega), fin1 hs (by (repeat (first | exact Cut.head _ _ | apply Cut.tail)); done) (by repeat (first | exact Keeps.refl _ | apply Keeps.tail | apply Keeps.drop))⟩))
                             · (show _ < _; simp [intOf, xAt]; omega)))
                       case true =>
                        replace hc89 := eqT hc89
                        try dsimp only at hc89
                        first
                        | (exfalso; first | omega | (cases hc89; done))
                        | (
                          refine c_condT rfl ?_
                          replace hs := hs.drew
                          refine d_start (by kernel_rfl) ?_
                          refine d_pre [1, 2, 4] (g := 6) (by kernel_rfl) (fun _ _ d _ _ h => by cases d <;> exact h) ?_
                          refine pVal rfl (fun w => (r_move rfl rfl)) ?_
                          refine pVal rfl (fun w => (r_field rfl rfl of68_0)) ?_
                          refine pVal rfl (fun w => (r_move rfl rfl)) ?_
                          refine p_nil ?_
                          refine d_head 8 [(0, true), (3, true), (5, true), (6, true), (7, false)] (Holds _ (emp * own bp (.cells [cs, ws, ts].toArray 68 (0, 0)) * rL 1 valC cs (two i2 (.pointer (some ⟨b, 0, none⟩)) (.pointer (some ⟨b', 0, none⟩))))) (g := 1) (by kernel_rfl) (fun _ _ d _ _ h => by cases d <;> exact h) (Holds.of hs (by (repeat (first | apply Cut.pair | exact Cut.nothing _ | exact Cut.head _ _ | apply Cut.tail)); done)) ?_
                          refine hVal rfl (fun w hS => (r_loadA rfl rfl (ag68 _) hS.own in68 sz68 (by rfl))) ?_
                          refine hVal rfl (fun w hS => (r_load rfl rfl (ag64 _) hS.own (by rfl))) ?_
                          refine h_exQ rfl (r_idx (f := valC) rfl rfl rfl hs.rd (rfl) (two_at hi) Try.underlying64 in58 sz58) rfl rfl (fun _ => by rfl) ?_
                          intro ad97 he96
                          refine hVal rfl (fun w hS => (r_loadEl rfl rfl hS.rd he96 (two_at hi) (fun _ => rfl) (ag58 _) (by rfl))) ?_
                          refine h_enter rfl (r_call rfl ent33 rfl) rfl ?_
                          refine fail_use 81 hV.k0 hs (by (repeat (first | exact Cut.head _ _ | apply Cut.tail)); done) ?_
                          intro g1 w hs
                          replace hs := rest_open hs
                          refine ⟨_, rfl, ah_put (Holds.of hs (by (repeat (first | apply Cut.pair | exact Cut.nothing _ | exact Cut.head _ _ | apply Cut.tail)); done)) (by rfl) ?_⟩
                          refine h_nil ?_
                          refine d_tail 8 (by kernel_rfl) ?_
                          refine s_enter (r_call rfl ent32 rfl) rfl ?_
                          refine give_use (g := g1) (x1 := z') (y0 := u) (w1 := V.w1) (t0 := V.t0) (Cn.fail V.c0 81).r hi (Nat.le_trans (Nat.add_le_add_left (fail_units _ _) _) (by have := hV.l1; omega)) (Nat.le_trans (Nat.add_le_add_left (fail_sigs _ _) _) (by omega)) hs (by (repeat (first | apply Cut.pair | exact Cut.head _ _ | apply Cut.tail)); done) ?_
                          intro z3 u3 w hs
                          simp only [← star_assoc] at hs
                          refine ⟨_, rfl, a_put (by rfl) ?_⟩
                          refine s_nil ?_
                          refine hK76 _ _ ?_
                          refine c_region ?_
                          refine sVal (r_ari rfl rfl rfl rfl (by first | exact wrapI (by omega) | rfl)) ?_
                          refine sVal (r_move rfl rfl) ?_
                          refine s_nil ?_
                          refine hKL32 _ _ _ (by rfl) (by rfl) ?_ ?_
                          · (first | (rw [act_fail (by assumption)] at e; obtain ⟨x, x', y, y', hs⟩ := back (pv_close (V.give (V.c0.fail 81)) hs (by (repeat (first | apply Cut.pair | exact Cut.head _ _ | apply Cut.tail)); done) (Keeps.refl _)); rw [e] at hs; exact ⟨i2 + 1, f0', f1', x, x', y, y', rfl, by omega, hf0', hf1', fin1 hs (by (repeat (first | exact Cut.head _ _ | apply Cut.tail)); done) (by repeat (first | exact Keeps.refl _ | apply Keeps.tail | apply Keeps.drop))⟩) | (rw [act_ask (by assumption), ask_err (by assumption)] at e; rw [request_err (by assumption)] at hs; obtain ⟨x, x', y, y', hs⟩ := back (pv_close V hs (by (repeat (first | apply Cut.pair | exact Cut.head _ _ | apply Cut.tail)); done) (Keeps.refl _)); rw [e] at hs; exact ⟨i2 + 1, f0', f1', x, x', y, y', rfl, by omega, hf0', hf1', fin1 hs (by (repeat (first | exact Cut.head _ _ | apply Cut.tail)); done) (by repeat (first | exact Keeps.refl _ | apply Keeps.tail | apply Keeps.drop))⟩) | (rw [act_ask (by assumption)] at e; obtain ⟨x, x', y, y', hs⟩ := back (pv_close (V.ask wn) hs (by (repeat (first | apply Cut.pair | exact Cut.head _ _ | apply Cut.tail)); done) (Keeps.refl _)); rw [e] at hs; exact ⟨i2 + 1, f0', f1', x, x', y, y', rfl, by omega, hf0', hf1', fin1 hs (by (repeat (first | exact Cut.head _ _ | apply Cut.tail)); done) (by repeat (first | exact Keeps.refl _ | apply Keeps.tail | apply Keeps.drop))⟩) | (obtain ⟨x, x', y, y', hs⟩ := back (pv_close V hs (by (repeat (first | apply Cut.pair | exact Cut.head _ _ | apply Cut.tail)); done) (Keeps.refl _)); rw [eh] at hs; exact ⟨i2 + 1, f0, f1, x, x', y, y', rfl, by omega, fun h => by omega, fun _ => hf1 (by omega), fin1 hs (by (repeat (first | exact Cut.head _ _ | apply Cut.tail)); done) (by repeat (first | exact Keeps.refl _ | apply Keeps.tail | apply Keeps.drop))⟩))
                          · (show _ < _; simp [intOf, xAt]; omega)))))))
        case true =>
         replace hc15 := Eq.symm hc15
         try dsimp only at hc15
         first
         | (exfalso; first | omega | (cases hc15; done))
         | (
           refine c_condT rfl ?_
           refine wp_seq_k (fun K98 hK98 => ?_)
           refine c_region ?_
           refine sVal (r_assign rfl rfl) ?_
           refine s_nil ?_
           refine hK98 _ _ ?_
           refine wp_ret ?_
           refine f_ret (rs := [.tmp 4]) rfl (.tmp rfl .nil) rfl ?_
           exact hk _ (fin0 hs (by repeat (first | exact Keeps.refl _ | apply Keeps.tail | apply Keeps.drop)))))
     case true =>
      replace hc12 := Eq.symm hc12
      try dsimp only at hc12
      first
      | (exfalso; first | omega | (cases hc12; done))
      | (
        refine @s_pass _ _ _ _ _ _ _ _ 29 (by rfl) (want_no rfl rfl rfl rfl) (by rfl) ?_
        refine @s_pass _ _ _ _ _ _ _ _ 30 (by rfl) (want_no rfl rfl rfl rfl) (by rfl) ?_
        refine @s_pass _ _ _ _ _ _ _ _ 31 (by rfl) (want_no rfl rfl rfl rfl) (by rfl) ?_
        refine @s_pass _ _ _ _ _ _ _ _ 32 (by rfl) (want_no rfl rfl rfl rfl) (by rfl) ?_
        refine @s_pass _ _ _ _ _ _ _ _ 33 (by rfl) (want_no rfl rfl rfl rfl) (by rfl) ?_
        refine sVal (r_pickT rfl rfl rfl) ?_
        refine s_nil ?_
        refine hK9 _ _ ?_
        refine c_condT rfl ?_
        refine wp_seq_k (fun K99 hK99 => ?_)
        refine c_region ?_
        refine sVal (r_assign rfl rfl) ?_
        refine s_nil ?_
        refine hK99 _ _ ?_
        refine wp_ret ?_
        refine f_ret (rs := [.tmp 4]) rfl (.tmp rfl .nil) rfl ?_
        exact hk _ (fin0 hs (by repeat (first | exact Keeps.refl _ | apply Keeps.tail | apply Keeps.drop)))))
end
end Go.Proofs.Ytoeaamohchpjdaa
