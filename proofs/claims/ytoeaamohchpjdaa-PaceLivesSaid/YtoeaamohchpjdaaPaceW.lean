/-
  Pace: New, Check, Safe; the document's pace: contracts.
-/
import Derived.Test.YtoeaamohchpjdaaPacePlain
import Derived.Test.YtoeaamohchpjdaaEnt
namespace Go.Proofs.Ytoeaamohchpjdaa
open Go Go.RowKit
set_option linter.unusedVariables false
set_option linter.unusedSimpArgs false
set_option maxRecDepth 100000

/-- May ticks be? -/
def chk5 (T : List Int) : Bool := T.all (fun n => decide (1 ≤ n ∧ n ≤ 1048576)) && (decide (T.getD 1 0 < T.getD 3 0) && decide (T.getD 2 0 < T.getD 3 0))
theorem ixInt {L : List Int} {j : Nat} {n : Int} (h : L[j]? = some n) : (L.map (Value.int .i64))[j]? = some (.int .i64 n) := by rw [List.getElem?_map, h]; rfl
theorem chk5_bad {T : List Int} {j : Nat} {n : Int} (h : T[j]? = some n) (hn : n < 1 ∨ 1048576 < n) : chk5 T = false := by
  unfold chk5
  rw [Bool.and_eq_false_iff]; left
  rw [List.all_eq_false]
  exact ⟨n, List.mem_of_getElem? h, by simp; omega⟩
theorem chk5_late {T : List Int} (h : ¬ T.getD 1 0 < T.getD 3 0 ∨ ¬ T.getD 2 0 < T.getD 3 0) : chk5 T = false := by
  unfold chk5
  rw [Bool.and_eq_false_iff]; right
  rw [Bool.and_eq_false_iff, decide_eq_false_iff_not, decide_eq_false_iff_not]
  exact h
theorem chk5_ok {T : List Int} (h : ∀ (j : Nat) n, T[j]? = some n → 1 ≤ n ∧ n ≤ 1048576) (h1 : T.getD 1 0 < T.getD 3 0) (h2 : T.getD 2 0 < T.getD 3 0) : chk5 T = true := by
  unfold chk5
  rw [Bool.and_eq_true, Bool.and_eq_true, List.all_eq_true]
  refine ⟨fun n hn => ?_, by simpa using h1, by simpa using h2⟩
  obtain ⟨j, hj⟩ := List.getElem?_of_mem hn
  simpa using h j n hj
theorem chk5_iff {T : List Int} (hl : T.length = 5) : chk5 T = true ↔ Ticks T := by
  constructor
  · intro h
    unfold chk5 at h
    simp only [Bool.and_eq_true, List.all_eq_true, decide_eq_true_eq] at h
    exact ⟨hl, h.1, h.2.1, h.2.2⟩
  · rintro ⟨_, h1, h2, h3⟩
    exact chk5_ok (fun j n hj => h1 n (List.mem_of_getElem? hj)) h2 h3
theorem safe_true {l : List Int} (h : leftL l 3 = 0 ∨ (0 < leftL l 1 ∧ leftL l 1 < leftL l 3) ∨ (0 < leftL l 2 ∧ leftL l 2 < leftL l 3)) : safeB l = true := by
  unfold safeB
  simp only [Bool.or_eq_true, Bool.and_eq_true, decide_eq_true_eq, beq_iff_eq]
  omega
theorem safe_false {l : List Int} (h0 : ¬ leftL l 3 = 0) (h1 : ¬ (0 < leftL l 1 ∧ leftL l 1 < leftL l 3)) (h2 : ¬ (0 < leftL l 2 ∧ leftL l 2 < leftL l 3)) : safeB l = false := by
  rw [← Bool.not_eq_true]
  unfold safeB
  simp only [Bool.or_eq_true, Bool.and_eq_true, decide_eq_true_eq, beq_iff_eq]
  omega
theorem two12 {j : Nat} (h : j < 2) : ∃ t, ([1, 2] : List Int)[j]? = some t ∧ ((j = 0 ∧ t = 1) ∨ (j = 1 ∧ t = 2)) := by
  have : j = 0 ∨ j = 1 := by omega
  rcases this with rfl | rfl
  · exact ⟨1, rfl, .inl ⟨rfl, rfl⟩⟩
  · exact ⟨2, rfl, .inr ⟨rfl, rfl⟩⟩
attribute [local irreducible] own fix oL rL osl rsl fact some' wpList wpHi wpPre wpAny wpHT After AfterH

section
variable {E : World} {H R : HP} {w : World} {Q : Ending → World → Prop}
theorem check15_use (a b c d e : Int) (hs : Sat E H w) (hk : ∀ w', Sat E H w' → Q (.returned (.int .i64 (if chk5 [a, b, c, d, e] = true then 0 else 1))) w') :
    Calls Try.prog 42 #[.agg #[.int .i64 a, .int .i64 b, .int .i64 c, .int .i64 d, .int .i64 e]] w Q := by
  refine f_enter Try.func42 rfl rfl ?_
  show Code.wp _ _ _ (Fr _) _
  refine wp_seq_k (fun K1 hK1 => ?_)
  refine c_region ?_
  refine s_ex (r_box rfl rfl rfl hs) rfl rfl (fun _ => by rfl) ?_
  intro bc w hs
  refine sVal (r_assign rfl rfl) ?_
  refine s_nil ?_
  refine hK1 _ _ ?_
  refine wp_seq_k (fun K2 hK2 => ?_)
  refine wp_seq_k (fun K3 hK3 => ?_)
  refine c_region ?_
  refine sVal (r_field rfl rfl of30_0) ?_
  refine sVal (r_load rfl rfl (ag3 _) hs.own (by rfl)) ?_
  refine sVal (r_field rfl rfl of30_1) ?_
  refine sVal (r_load rfl rfl (ag3 _) hs.own (by rfl)) ?_
  refine sVal (r_field rfl rfl of30_2) ?_
  refine sVal (r_load rfl rfl (ag3 _) hs.own (by rfl)) ?_
  refine sVal (r_field rfl rfl of30_3) ?_
  refine sVal (r_load rfl rfl (ag3 _) hs.own (by rfl)) ?_
  refine sVal (r_field rfl rfl of30_4) ?_
  refine sVal (r_load rfl rfl (ag3 _) hs.own (by rfl)) ?_
  refine sVal (r_buildA (n := 5) rfl rfl Try.underlying33 in3 sz3 zr33 (by rfl)) ?_
  refine sVal (r_move rfl rfl) ?_
  refine s_nil ?_
  refine hK3 _ _ ?_
  refine wp_block ?_
  refine c_loop (2 :: 4 :: 16 :: 17 :: 18 :: 19 :: 20 :: 21 :: 22 :: 23 :: 24 :: 25 :: []) (fun xs w => ∃ (j : Nat), xs = (xAt xs 0 :: xAt xs 1 :: .int .i64 (j : Int) :: xAt xs 3 :: xAt xs 4 :: xAt xs 5 :: xAt xs 6 :: xAt xs 7 :: xAt xs 8 :: xAt xs 9 :: xAt xs 10 :: xAt xs 11 :: []) ∧ (j ≤ 5 ∧ ∀ (i : Nat) n, i < j → [a, b, c, d, e][i]? = some n → 1 ≤ n ∧ n ≤ 1048576) ∧ Sat E (H * own bc (.cells #[.int .i64 a, .int .i64 b, .int .i64 c, .int .i64 d, .int .i64 e] 30 (0, 0))) w) (fun xs _ => 5 - (intOf (xAt xs 2)).toNat) rfl (by rfl) ?_ ?_
  · exact ⟨0, rfl, ⟨by omega, fun i n hi => by omega⟩, hs⟩
  clear hs
  rintro xs w ⟨j, hxs, ⟨hj, hall⟩, hs⟩
  obtain ⟨D4, hD4⟩ : ∃ D, D = xAt xs := ⟨_, rfl⟩
  rw [← hD4] at hxs
  clear hD4
  subst hxs
  refine ⟨_, rfl, fun KL5 hKL5 => ?_⟩
  refine wp_seq_k (fun K6 hK6 => ?_)
  refine c_region ?_
  refine s_bool (r_cmp rfl rfl rfl rfl) rfl rfl (fun _ => by rfl) ?_
  intro c7 hc7
  refine s_nil ?_
  refine hK6 _ _ ?_
  refine wp_seq_k (fun K8 hK8 => ?_)
  cases c7
  case false =>
   replace hc7 := decF' hc7
   try dsimp only [List.length_cons, List.length_nil] at hc7
   first
   | (exfalso; first | omega | (cases hc7; done))
   | (
     refine c_condF rfl ?_
     refine wp_exit ?_
     refine hK2 _ _ ?_
     refine wp_seq_k (fun K9 hK9 => ?_)
     refine wp_seq_k (fun K10 hK10 => ?_)
     refine c_region ?_
     refine sVal (r_field rfl rfl of30_1) ?_
     refine sVal (r_load rfl rfl (ag3 _) hs.own (by rfl)) ?_
     refine sVal (r_field rfl rfl of30_3) ?_
     refine sVal (r_load rfl rfl (ag3 _) hs.own (by rfl)) ?_
     refine s_bool (r_cmp rfl rfl rfl rfl) rfl rfl (fun _ => by rfl) ?_
     intro c11 hc11
     refine sVal (r_move rfl rfl) ?_
     cases c11
     case false =>
      replace hc11 := geF hc11
      try dsimp only [List.length_cons, List.length_nil] at hc11
      first
      | (exfalso; first | omega | (cases hc11; done))
      | (
        refine sVal (r_field rfl rfl of30_2) ?_
        refine sVal (r_load rfl rfl (ag3 _) hs.own (by rfl)) ?_
        refine sVal (r_field rfl rfl of30_3) ?_
        refine sVal (r_load rfl rfl (ag3 _) hs.own (by rfl)) ?_
        refine s_bool (r_cmp rfl rfl rfl rfl) rfl rfl (fun _ => by rfl) ?_
        intro c12 hc12
        refine sVal (r_pickF rfl rfl rfl) ?_
        refine s_nil ?_
        refine hK10 _ _ ?_
        cases c12
        case false =>
         replace hc12 := geF hc12
         try dsimp only [List.length_cons, List.length_nil] at hc12
         first
         | (exfalso; first | omega | (cases hc12; done))
         | (
           refine c_condF rfl ?_
           refine wp_skip ?_
           refine hK9 _ _ ?_
           refine wp_seq_k (fun K13 hK13 => ?_)
           refine c_region ?_
           refine sVal (r_assign rfl rfl) ?_
           refine s_nil ?_
           refine hK13 _ _ ?_
           refine wp_ret ?_
           refine f_ret (rs := [.tmp 2]) rfl (.tmp rfl .nil) rfl ?_
           first | (rw [chk5_bad hn (by omega)] at hk; exact hk _ (fin0 hs (by repeat (first | exact Keeps.refl _ | apply Keeps.tail | apply Keeps.drop)))) | (rw [chk5_late (T := [a, b, c, d, e]) (by show ¬ b < d ∨ ¬ c < d; omega)] at hk; exact hk _ (fin0 hs (by repeat (first | exact Keeps.refl _ | apply Keeps.tail | apply Keeps.drop)))) | (rw [chk5_ok (T := [a, b, c, d, e]) (fun i n hi => hall i n (by have := (List.getElem?_eq_some_iff.1 hi).1; simp at this; omega) hi) (by show b < d; omega) (by show c < d; omega)] at hk; exact hk _ (fin0 hs (by repeat (first | exact Keeps.refl _ | apply Keeps.tail | apply Keeps.drop)))))
        case true =>
         replace hc12 := geT hc12
         try dsimp only [List.length_cons, List.length_nil] at hc12
         first
         | (exfalso; first | omega | (cases hc12; done))
         | (
           refine c_condT rfl ?_
           refine wp_seq_k (fun K14 hK14 => ?_)
           refine c_region ?_
           refine sVal (r_assign rfl rfl) ?_
           refine s_nil ?_
           refine hK14 _ _ ?_
           refine wp_ret ?_
           refine f_ret (rs := [.tmp 2]) rfl (.tmp rfl .nil) rfl ?_
           first | (rw [chk5_bad hn (by omega)] at hk; exact hk _ (fin0 hs (by repeat (first | exact Keeps.refl _ | apply Keeps.tail | apply Keeps.drop)))) | (rw [chk5_late (T := [a, b, c, d, e]) (by show ¬ b < d ∨ ¬ c < d; omega)] at hk; exact hk _ (fin0 hs (by repeat (first | exact Keeps.refl _ | apply Keeps.tail | apply Keeps.drop)))) | (rw [chk5_ok (T := [a, b, c, d, e]) (fun i n hi => hall i n (by have := (List.getElem?_eq_some_iff.1 hi).1; simp at this; omega) hi) (by show b < d; omega) (by show c < d; omega)] at hk; exact hk _ (fin0 hs (by repeat (first | exact Keeps.refl _ | apply Keeps.tail | apply Keeps.drop))))))
     case true =>
      replace hc11 := geT hc11
      try dsimp only [List.length_cons, List.length_nil] at hc11
      first
      | (exfalso; first | omega | (cases hc11; done))
      | (
        refine @s_pass _ _ _ _ _ _ _ _ 32 (by rfl) (want_no rfl rfl rfl rfl) (by rfl) ?_
        refine @s_pass _ _ _ _ _ _ _ _ 33 (by rfl) (want_no rfl rfl rfl rfl) (by rfl) ?_
        refine @s_pass _ _ _ _ _ _ _ _ 34 (by rfl) (want_no rfl rfl rfl rfl) (by rfl) ?_
        refine @s_pass _ _ _ _ _ _ _ _ 35 (by rfl) (want_no rfl rfl rfl rfl) (by rfl) ?_
        refine @s_pass _ _ _ _ _ _ _ _ 36 (by rfl) (want_no rfl rfl rfl rfl) (by rfl) ?_
        refine sVal (r_pickT rfl rfl rfl) ?_
        refine s_nil ?_
        refine hK10 _ _ ?_
        refine c_condT rfl ?_
        refine wp_seq_k (fun K15 hK15 => ?_)
        refine c_region ?_
        refine sVal (r_assign rfl rfl) ?_
        refine s_nil ?_
        refine hK15 _ _ ?_
        refine wp_ret ?_
        refine f_ret (rs := [.tmp 2]) rfl (.tmp rfl .nil) rfl ?_
        first | (rw [chk5_bad hn (by omega)] at hk; exact hk _ (fin0 hs (by repeat (first | exact Keeps.refl _ | apply Keeps.tail | apply Keeps.drop)))) | (rw [chk5_late (T := [a, b, c, d, e]) (by show ¬ b < d ∨ ¬ c < d; omega)] at hk; exact hk _ (fin0 hs (by repeat (first | exact Keeps.refl _ | apply Keeps.tail | apply Keeps.drop)))) | (rw [chk5_ok (T := [a, b, c, d, e]) (fun i n hi => hall i n (by have := (List.getElem?_eq_some_iff.1 hi).1; simp at this; omega) hi) (by show b < d; omega) (by show c < d; omega)] at hk; exact hk _ (fin0 hs (by repeat (first | exact Keeps.refl _ | apply Keeps.tail | apply Keeps.drop))))))
  case true =>
   replace hc7 := decT' hc7
   try dsimp only [List.length_cons, List.length_nil] at hc7
   first
   | (exfalso; first | omega | (cases hc7; done))
   | (
     refine c_condT rfl ?_
     refine wp_skip ?_
     refine hK8 _ _ ?_
     refine wp_seq_k (fun K16 hK16 => ?_)
     refine wp_block ?_
     refine wp_seq_k (fun K17 hK17 => ?_)
     refine c_region ?_
     obtain ⟨n, hn⟩ : ∃ n, [a, b, c, d, e][j]? = some n := ⟨_, List.getElem?_eq_getElem (by show j < 5; omega)⟩
     refine sVal (r_ixA rfl rfl rfl Try.underlying33 (rfl) (by omega) (ag3 _) in3 sz3 (ixInt (L := [a, b, c, d, e]) hn)) ?_
     refine sVal (r_assign rfl rfl) ?_
     refine s_nil ?_
     refine hK17 _ _ ?_
     refine wp_seq_k (fun K18 hK18 => ?_)
     refine c_region ?_
     refine sVal (r_move rfl rfl) ?_
     refine s_bool (r_cmp rfl rfl rfl rfl) rfl rfl (fun _ => by rfl) ?_
     intro c19 hc19
     refine sVal (r_move rfl rfl) ?_
     cases c19
     case false =>
      replace hc19 := decF' hc19
      try dsimp only [List.length_cons, List.length_nil] at hc19
      first
      | (exfalso; first | omega | (cases hc19; done))
      | (
        refine sVal (r_move rfl rfl) ?_
        refine s_bool (r_cmp rfl rfl rfl rfl) rfl rfl (fun _ => by rfl) ?_
        intro c20 hc20
        refine sVal (r_pickF rfl rfl rfl) ?_
        refine s_nil ?_
        refine hK18 _ _ ?_
        cases c20
        case false =>
         replace hc20 := gtF hc20
         try dsimp only [List.length_cons, List.length_nil] at hc20
         first
         | (exfalso; first | omega | (cases hc20; done))
         | (
           refine c_condF rfl ?_
           refine wp_skip ?_
           refine hK16 _ _ ?_
           refine c_region ?_
           refine sVal (r_ari rfl rfl rfl rfl (by first | exact wrapI (by omega) | rfl)) ?_
           refine sVal (r_move rfl rfl) ?_
           refine s_nil ?_
           refine hKL5 _ _ _ (by rfl) (by rfl) ?_ ?_
           · exact ⟨j + 1, rfl, ⟨by omega, fun i m hi hm => by rcases Nat.lt_or_ge i j with h | h; exact hall i m h hm; (obtain rfl : i = j := by omega); rw [hn] at hm; cases hm; omega⟩, hs⟩
           · (show _ < _; simp [intOf, xAt]; omega))
        case true =>
         replace hc20 := gtT hc20
         try dsimp only [List.length_cons, List.length_nil] at hc20
         first
         | (exfalso; first | omega | (cases hc20; done))
         | (
           refine c_condT rfl ?_
           refine wp_seq_k (fun K21 hK21 => ?_)
           refine c_region ?_
           refine sVal (r_assign rfl rfl) ?_
           refine s_nil ?_
           refine hK21 _ _ ?_
           refine wp_ret ?_
           refine f_ret (rs := [.tmp 2]) rfl (.tmp rfl .nil) rfl ?_
           first | (rw [chk5_bad hn (by omega)] at hk; exact hk _ (fin0 hs (by repeat (first | exact Keeps.refl _ | apply Keeps.tail | apply Keeps.drop)))) | (rw [chk5_late (T := [a, b, c, d, e]) (by show ¬ b < d ∨ ¬ c < d; omega)] at hk; exact hk _ (fin0 hs (by repeat (first | exact Keeps.refl _ | apply Keeps.tail | apply Keeps.drop)))) | (rw [chk5_ok (T := [a, b, c, d, e]) (fun i n hi => hall i n (by have := (List.getElem?_eq_some_iff.1 hi).1; simp at this; omega) hi) (by show b < d; omega) (by show c < d; omega)] at hk; exact hk _ (fin0 hs (by repeat (first | exact Keeps.refl _ | apply Keeps.tail | apply Keeps.drop))))))
     case true =>
      replace hc19 := decT' hc19
      try dsimp only [List.length_cons, List.length_nil] at hc19
      first
      | (exfalso; first | omega | (cases hc19; done))
      | (
        refine @s_pass _ _ _ _ _ _ _ _ 22 (by rfl) (want_no rfl rfl rfl rfl) (by rfl) ?_
        refine @s_pass _ _ _ _ _ _ _ _ 23 (by rfl) (want_no rfl rfl rfl rfl) (by rfl) ?_
        refine sVal (r_pickT rfl rfl rfl) ?_
        refine s_nil ?_
        refine hK18 _ _ ?_
        refine c_condT rfl ?_
        refine wp_seq_k (fun K22 hK22 => ?_)
        refine c_region ?_
        refine sVal (r_assign rfl rfl) ?_
        refine s_nil ?_
        refine hK22 _ _ ?_
        refine wp_ret ?_
        refine f_ret (rs := [.tmp 2]) rfl (.tmp rfl .nil) rfl ?_
        first | (rw [chk5_bad hn (by omega)] at hk; exact hk _ (fin0 hs (by repeat (first | exact Keeps.refl _ | apply Keeps.tail | apply Keeps.drop)))) | (rw [chk5_late (T := [a, b, c, d, e]) (by show ¬ b < d ∨ ¬ c < d; omega)] at hk; exact hk _ (fin0 hs (by repeat (first | exact Keeps.refl _ | apply Keeps.tail | apply Keeps.drop)))) | (rw [chk5_ok (T := [a, b, c, d, e]) (fun i n hi => hall i n (by have := (List.getElem?_eq_some_iff.1 hi).1; simp at this; omega) hi) (by show b < d; omega) (by show c < d; omega)] at hk; exact hk _ (fin0 hs (by repeat (first | exact Keeps.refl _ | apply Keeps.tail | apply Keeps.drop))))))
theorem pnew_use (a b c d e : Int) (hc : chk5 [a, b, c, d, e] = true) (hs : Sat E H w) (hk : ∀ g w', Sat E (H * own g (.cells (pk zeroL [a, b, c, d, e]) 37 (0, 0))) w' → Q (.returned (.tuple #[.pointer (some ⟨g, 0, none⟩), .int .i64 0])) w') :
    Calls Try.prog 13 #[.agg #[.int .i64 a, .int .i64 b, .int .i64 c, .int .i64 d, .int .i64 e]] w Q := by
  refine f_enter Try.func13 rfl rfl ?_
  show Code.wp _ _ _ (Fr _) _
  refine wp_seq_k (fun K1 hK1 => ?_)
  refine c_region ?_
  refine s_ex (r_box rfl rfl rfl hs) rfl rfl (fun _ => by rfl) ?_
  intro b2 w hs
  refine sVal (r_assign rfl rfl) ?_
  refine sVal (r_assign rfl rfl) ?_
  refine s_nil ?_
  refine hK1 _ _ ?_
  refine wp_seq_k (fun K3 hK3 => ?_)
  refine wp_seq_k (fun K4 hK4 => ?_)
  refine c_region ?_
  refine sVal (r_loadA rfl rfl (ag30 _) hs.own in30 sz30 (by rfl)) ?_
  refine s_enter (r_call rfl ent42 rfl) rfl ?_
  refine check15_use _ _ _ _ _ hs ?_
  intro w hs
  rw [if_pos hc]
  refine ⟨_, rfl, a_put (by rfl) ?_⟩
  refine sVal (r_assign rfl rfl) ?_
  refine s_nil ?_
  refine hK4 _ _ ?_
  refine wp_seq_k (fun K5 hK5 => ?_)
  refine c_region ?_
  refine sVal (r_move rfl rfl) ?_
  refine s_bool (r_cmp rfl rfl rfl rfl) rfl rfl (fun _ => by rfl) ?_
  intro c6 hc6
  refine s_nil ?_
  refine hK5 _ _ ?_
  cases c6
  case false =>
   replace hc6 := neF hc6
   try dsimp only [List.length_cons, List.length_nil] at hc6
   first
   | (exfalso; first | omega | (cases hc6; done))
   | (
     refine c_condF rfl ?_
     refine wp_skip ?_
     refine hK3 _ _ ?_
     refine wp_seq_k (fun K7 hK7 => ?_)
     refine c_region ?_
     refine sVal (r_loadA rfl rfl (ag30 _) hs.own in30 sz30 (by rfl)) ?_
     refine sVal (r_build rfl rfl pl37 zr37 (by rfl)) ?_
     refine s_ex (r_box rfl rfl rfl hs) rfl rfl (fun _ => by rfl) ?_
     intro g w hs
     refine sVal (r_assign rfl rfl) ?_
     refine sVal (r_assign rfl rfl) ?_
     refine s_nil ?_
     refine hK7 _ _ ?_
     refine wp_ret ?_
     refine f_ret (rs := [.tmp 2, .tmp 3]) rfl (.tmp rfl (.tmp rfl .nil)) rfl ?_
     exact hk g _ (fin1 hs (by (repeat (first | exact Cut.head _ _ | apply Cut.tail)); done) (by repeat (first | exact Keeps.refl _ | apply Keeps.tail | apply Keeps.drop))))
  case true =>
   replace hc6 := neT hc6
   try dsimp only [List.length_cons, List.length_nil] at hc6
   first
   | (exfalso; first | omega | (cases hc6; done))
   | (
     refine c_condT rfl ?_
     refine wp_seq_k (fun K8 hK8 => ?_)
     refine c_region ?_
     refine sVal (r_move rfl rfl) ?_
     refine sVal (r_assign rfl rfl) ?_
     refine sVal (r_assign rfl rfl) ?_
     refine s_nil ?_
     refine hK8 _ _ ?_
     refine wp_ret ?_
     refine f_ret (rs := [.tmp 2, .tmp 3]) rfl (.tmp rfl (.tmp rfl .nil)) rfl ?_
     exact hk g _ (fin1 hs (by (repeat (first | exact Cut.head _ _ | apply Cut.tail)); done) (by repeat (first | exact Keeps.refl _ | apply Keeps.tail | apply Keeps.drop))))
theorem pnewNo_use (a b c d e : Int) (hc : chk5 [a, b, c, d, e] = false) (hs : Sat E H w) (hk : ∀ w', Sat E H w' → Q (.returned (.tuple #[.pointer none, .int .i64 1])) w') :
    Calls Try.prog 13 #[.agg #[.int .i64 a, .int .i64 b, .int .i64 c, .int .i64 d, .int .i64 e]] w Q := by
  refine f_enter Try.func13 rfl rfl ?_
  show Code.wp _ _ _ (Fr _) _
  refine wp_seq_k (fun K1 hK1 => ?_)
  refine c_region ?_
  refine s_ex (r_box rfl rfl rfl hs) rfl rfl (fun _ => by rfl) ?_
  intro b2 w hs
  refine sVal (r_assign rfl rfl) ?_
  refine sVal (r_assign rfl rfl) ?_
  refine s_nil ?_
  refine hK1 _ _ ?_
  refine wp_seq_k (fun K3 hK3 => ?_)
  refine wp_seq_k (fun K4 hK4 => ?_)
  refine c_region ?_
  refine sVal (r_loadA rfl rfl (ag30 _) hs.own in30 sz30 (by rfl)) ?_
  refine s_enter (r_call rfl ent42 rfl) rfl ?_
  refine check15_use _ _ _ _ _ hs ?_
  intro w hs
  rw [if_neg (by rw [hc]; decide)]
  refine ⟨_, rfl, a_put (by rfl) ?_⟩
  refine sVal (r_assign rfl rfl) ?_
  refine s_nil ?_
  refine hK4 _ _ ?_
  refine wp_seq_k (fun K5 hK5 => ?_)
  refine c_region ?_
  refine sVal (r_move rfl rfl) ?_
  refine s_bool (r_cmp rfl rfl rfl rfl) rfl rfl (fun _ => by rfl) ?_
  intro c6 hc6
  refine s_nil ?_
  refine hK5 _ _ ?_
  cases c6
  case false =>
   replace hc6 := neF hc6
   try dsimp only [List.length_cons, List.length_nil] at hc6
   first
   | (exfalso; first | omega | (cases hc6; done))
   | (
     refine c_condF rfl ?_
     refine wp_skip ?_
     refine hK3 _ _ ?_
     refine wp_seq_k (fun K7 hK7 => ?_)
     refine c_region ?_
     refine sVal (r_loadA rfl rfl (ag30 _) hs.own in30 sz30 (by rfl)) ?_
     refine sVal (r_build rfl rfl pl37 zr37 (by rfl)) ?_
     refine s_ex (r_box rfl rfl rfl hs) rfl rfl (fun _ => by rfl) ?_
     intro g w hs
     refine sVal (r_assign rfl rfl) ?_
     refine sVal (r_assign rfl rfl) ?_
     refine s_nil ?_
     refine hK7 _ _ ?_
     refine wp_ret ?_
     refine f_ret (rs := [.tmp 2, .tmp 3]) rfl (.tmp rfl (.tmp rfl .nil)) rfl ?_
     exact hk _ (fin0 hs (by repeat (first | exact Keeps.refl _ | apply Keeps.tail | apply Keeps.drop))))
  case true =>
   replace hc6 := neT hc6
   try dsimp only [List.length_cons, List.length_nil] at hc6
   first
   | (exfalso; first | omega | (cases hc6; done))
   | (
     refine c_condT rfl ?_
     refine wp_seq_k (fun K8 hK8 => ?_)
     refine c_region ?_
     refine sVal (r_move rfl rfl) ?_
     refine sVal (r_assign rfl rfl) ?_
     refine sVal (r_assign rfl rfl) ?_
     refine s_nil ?_
     refine hK8 _ _ ?_
     refine wp_ret ?_
     refine f_ret (rs := [.tmp 2, .tmp 3]) rfl (.tmp rfl (.tmp rfl .nil)) rfl ?_
     exact hk _ (fin0 hs (by repeat (first | exact Keeps.refl _ | apply Keeps.tail | apply Keeps.drop))))
theorem psafe_use {g : Nat} {l T : List Int} (hl : l.length = 5) (hs : Sat E H w) (cu : Cut H (own g (.cells (pk l T) 37 (0, 0))) R) (hk : ∀ w', Sat E (R * own g (.cells (pk l T) 37 (0, 0))) w' → Q (.returned (.bool (safeB l))) w') :
    Calls Try.prog 18 #[.pointer (some ⟨g, 0, none⟩)] w Q := by
  replace hs := hs.cut cu
  refine f_enter Try.func18 rfl rfl ?_
  show Code.wp _ _ _ (Fr _) _
  refine wp_seq_k (fun K1 hK1 => ?_)
  refine c_region ?_
  refine sVal (r_assign rfl rfl) ?_
  refine s_nil ?_
  refine hK1 _ _ ?_
  refine wp_seq_k (fun K2 hK2 => ?_)
  refine c_region ?_
  refine sVal (r_move rfl rfl) ?_
  refine sVal (r_nil rfl rfl) ?_
  refine sVal (r_field rfl rfl of37_0) ?_
  refine s_enter (r_call rfl ent21 rfl) rfl ?_
  refine (left_spec _ _ _ _ _ hl).use hs (by (repeat (first | exact Cut.head _ _ | apply Cut.tail)); done) ?_
  intro w hs
  refine ⟨_, rfl, a_put (by rfl) ?_⟩
  refine sVal (r_assign rfl rfl) ?_
  refine s_nil ?_
  refine hK2 _ _ ?_
  refine wp_seq_k (fun K3 hK3 => ?_)
  refine wp_seq_k (fun K4 hK4 => ?_)
  refine c_region ?_
  refine sVal (r_move rfl rfl) ?_
  refine s_bool (r_cmp rfl rfl rfl rfl) rfl rfl (fun _ => by rfl) ?_
  intro c5 hc5
  refine s_nil ?_
  refine hK4 _ _ ?_
  cases c5
  case false =>
   replace hc5 := eqF hc5
   try dsimp only [List.length_cons, List.length_nil] at hc5
   first
   | (exfalso; first | omega | (cases hc5; done))
   | (
     refine c_condF rfl ?_
     refine wp_skip ?_
     refine hK3 _ _ ?_
     refine wp_seq_k (fun K6 hK6 => ?_)
     refine wp_seq_k (fun K7 hK7 => ?_)
     refine c_region ?_
     refine sVal (r_buildA (n := 2) rfl rfl Try.underlying99 in3 sz3 zr99 (by rfl)) ?_
     refine sVal (r_move rfl rfl) ?_
     refine s_nil ?_
     refine hK7 _ _ ?_
     refine wp_block ?_
     refine c_loop (2 :: 5 :: 13 :: 14 :: 15 :: 16 :: 17 :: 18 :: 19 :: 20 :: 21 :: 22 :: 23 :: 24 :: 25 :: 26 :: 27 :: 28 :: 29 :: 30 :: []) (fun xs w => ∃ (j : Nat), xs = (xAt xs 0 :: xAt xs 1 :: .int .i64 (j : Int) :: xAt xs 3 :: xAt xs 4 :: xAt xs 5 :: xAt xs 6 :: xAt xs 7 :: xAt xs 8 :: xAt xs 9 :: xAt xs 10 :: xAt xs 11 :: xAt xs 12 :: xAt xs 13 :: xAt xs 14 :: xAt xs 15 :: xAt xs 16 :: xAt xs 17 :: xAt xs 18 :: xAt xs 19 :: []) ∧ (j ≤ 2 ∧ (j = 0 ∨ ¬ (0 < leftL l 1 ∧ leftL l 1 < leftL l 3)) ∧ (j ≤ 1 ∨ ¬ (0 < leftL l 2 ∧ leftL l 2 < leftL l 3))) ∧ Sat E (R * own g (.cells (pk l T) 37 (0, 0))) w) (fun xs _ => 2 - (intOf (xAt xs 2)).toNat) rfl (by rfl) ?_ ?_
     · exact ⟨0, rfl, ⟨by omega, by omega, by omega⟩, hs⟩
     clear hs
     rintro xs w ⟨j, hxs, ⟨hj, h1, h2⟩, hs⟩
     obtain ⟨D8, hD8⟩ : ∃ D, D = xAt xs := ⟨_, rfl⟩
     rw [← hD8] at hxs
     clear hD8
     subst hxs
     refine ⟨_, rfl, fun KL9 hKL9 => ?_⟩
     refine wp_seq_k (fun K10 hK10 => ?_)
     refine c_region ?_
     refine s_bool (r_cmp rfl rfl rfl rfl) rfl rfl (fun _ => by rfl) ?_
     intro c11 hc11
     refine s_nil ?_
     refine hK10 _ _ ?_
     refine wp_seq_k (fun K12 hK12 => ?_)
     cases c11
     case false =>
      replace hc11 := decF' hc11
      try dsimp only [List.length_cons, List.length_nil] at hc11
      first
      | (exfalso; first | omega | (cases hc11; done))
      | (
        refine c_condF rfl ?_
        refine wp_exit ?_
        refine hK6 _ _ ?_
        refine wp_seq_k (fun K13 hK13 => ?_)
        refine c_region ?_
        refine sVal (r_assign rfl rfl) ?_
        refine s_nil ?_
        refine hK13 _ _ ?_
        refine wp_ret ?_
        refine f_ret (rs := [.tmp 2]) rfl (.tmp rfl .nil) rfl ?_
        first | (rw [safe_true (.inl (by omega))] at hk; exact hk _ hs) | (rw [safe_true (by rcases htj with ⟨rfl, rfl⟩ | ⟨rfl, rfl⟩ <;> omega)] at hk; exact hk _ hs) | (rw [safe_false (by omega) (by omega) (by omega)] at hk; exact hk _ hs))
     case true =>
      replace hc11 := decT' hc11
      try dsimp only [List.length_cons, List.length_nil] at hc11
      first
      | (exfalso; first | omega | (cases hc11; done))
      | (
        refine c_condT rfl ?_
        refine wp_skip ?_
        refine hK12 _ _ ?_
        refine wp_seq_k (fun K14 hK14 => ?_)
        refine wp_block ?_
        refine wp_seq_k (fun K15 hK15 => ?_)
        refine c_region ?_
        obtain ⟨t, ht, htj⟩ := two12 (j := j) (by omega)
        refine sVal (r_ixA rfl rfl rfl Try.underlying99 (rfl) (by omega) (ag3 _) in3 sz3 (ixInt (L := [1, 2]) ht)) ?_
        refine sVal (r_assign rfl rfl) ?_
        refine s_nil ?_
        refine hK15 _ _ ?_
        refine wp_seq_k (fun K16 hK16 => ?_)
        refine c_region ?_
        refine sVal (r_move rfl rfl) ?_
        refine sVal (r_nil rfl rfl) ?_
        refine sVal (r_field rfl rfl of37_0) ?_
        refine sVal (r_move rfl rfl) ?_
        refine s_enter (r_call rfl ent17 rfl) rfl ?_
        refine (runs_spec _ _ _ _ _ hl).use hs (by (repeat (first | exact Cut.head _ _ | apply Cut.tail)); done) ?_
        intro w hs
        refine ⟨_, rfl, a_bool (fun _ => by rfl) ?_⟩
        intro c17 hc17
        refine sVal (r_move rfl rfl) ?_
        cases c17
        case false =>
         replace hc17 := Eq.symm hc17
         try (with_reducible first | replace hc17 := of_decide_eq_true hc17 | replace hc17 := of_decide_eq_false hc17)
         try dsimp only [List.length_cons, List.length_nil] at hc17
         first
         | (exfalso; first | omega | (cases hc17; done) | (subst hc17; contradiction))
         | (
           refine @s_pass _ _ _ _ _ _ _ _ 22 (by rfl) (want_no rfl rfl rfl rfl) (by rfl) ?_
           refine @s_pass _ _ _ _ _ _ _ _ 23 (by rfl) (want_no rfl rfl rfl rfl) (by rfl) ?_
           refine @s_pass _ _ _ _ _ _ _ _ 24 (by rfl) (want_no rfl rfl rfl rfl) (by rfl) ?_
           refine @s_pass _ _ _ _ _ _ _ _ 25 (by rfl) (want_no rfl rfl rfl rfl) (by rfl) ?_
           refine @s_pass _ _ _ _ _ _ _ _ 26 (by rfl) (want_no rfl rfl rfl rfl) (by rfl) ?_
           refine @s_pass _ _ _ _ _ _ _ _ 27 (by rfl) (want_no rfl rfl rfl rfl) (by rfl) ?_
           refine @s_pass _ _ _ _ _ _ _ _ 28 (by rfl) (want_no rfl rfl rfl rfl) (by rfl) ?_
           refine sVal (r_pickF rfl rfl rfl) ?_
           refine s_nil ?_
           refine hK16 _ _ ?_
           refine c_condF rfl ?_
           refine wp_skip ?_
           refine hK14 _ _ ?_
           refine c_region ?_
           refine sVal (r_ari rfl rfl rfl rfl (by first | exact wrapI (by omega) | rfl)) ?_
           refine sVal (r_move rfl rfl) ?_
           refine s_nil ?_
           refine hKL9 _ _ _ (by rfl) (by rfl) ?_ ?_
           · exact ⟨j + 1, rfl, ⟨by omega, by rcases htj with ⟨rfl, rfl⟩ | ⟨rfl, rfl⟩ <;> omega, by rcases htj with ⟨rfl, rfl⟩ | ⟨rfl, rfl⟩ <;> omega⟩, hs⟩
           · (show _ < _; simp [intOf, xAt]; omega))
        case true =>
         replace hc17 := Eq.symm hc17
         try (with_reducible first | replace hc17 := of_decide_eq_true hc17 | replace hc17 := of_decide_eq_false hc17)
         try dsimp only [List.length_cons, List.length_nil] at hc17
         first
         | (exfalso; first | omega | (cases hc17; done) | (subst hc17; contradiction))
         | (
           refine sVal (r_move rfl rfl) ?_
           refine sVal (r_nil rfl rfl) ?_
           refine sVal (r_field rfl rfl of37_0) ?_
           refine sVal (r_move rfl rfl) ?_
           refine s_enter (r_call rfl ent21 rfl) rfl ?_
           refine (left_spec _ _ _ _ _ hl).use hs (by (repeat (first | exact Cut.head _ _ | apply Cut.tail)); done) ?_
           intro w hs
           refine ⟨_, rfl, a_put (by rfl) ?_⟩
           refine sVal (r_move rfl rfl) ?_
           refine s_bool (r_cmp rfl rfl rfl rfl) rfl rfl (fun _ => by rfl) ?_
           intro c18 hc18
           refine sVal (r_pickT rfl rfl rfl) ?_
           refine s_nil ?_
           refine hK16 _ _ ?_
           cases c18
           case false =>
            replace hc18 := decF' hc18
            try dsimp only [List.length_cons, List.length_nil] at hc18
            first
            | (exfalso; first | omega | (cases hc18; done))
            | (
              refine c_condF rfl ?_
              refine wp_skip ?_
              refine hK14 _ _ ?_
              refine c_region ?_
              refine sVal (r_ari rfl rfl rfl rfl (by first | exact wrapI (by omega) | rfl)) ?_
              refine sVal (r_move rfl rfl) ?_
              refine s_nil ?_
              refine hKL9 _ _ _ (by rfl) (by rfl) ?_ ?_
              · exact ⟨j + 1, rfl, ⟨by omega, by rcases htj with ⟨rfl, rfl⟩ | ⟨rfl, rfl⟩ <;> omega, by rcases htj with ⟨rfl, rfl⟩ | ⟨rfl, rfl⟩ <;> omega⟩, hs⟩
              · (show _ < _; simp [intOf, xAt]; omega))
           case true =>
            replace hc18 := decT' hc18
            try dsimp only [List.length_cons, List.length_nil] at hc18
            first
            | (exfalso; first | omega | (cases hc18; done))
            | (
              refine c_condT rfl ?_
              refine wp_seq_k (fun K19 hK19 => ?_)
              refine c_region ?_
              refine sVal (r_assign rfl rfl) ?_
              refine s_nil ?_
              refine hK19 _ _ ?_
              refine wp_ret ?_
              refine f_ret (rs := [.tmp 2]) rfl (.tmp rfl .nil) rfl ?_
              first | (rw [safe_true (.inl (by omega))] at hk; exact hk _ hs) | (rw [safe_true (by rcases htj with ⟨rfl, rfl⟩ | ⟨rfl, rfl⟩ <;> omega)] at hk; exact hk _ hs) | (rw [safe_false (by omega) (by omega) (by omega)] at hk; exact hk _ hs)))))
  case true =>
   replace hc5 := eqT hc5
   try dsimp only [List.length_cons, List.length_nil] at hc5
   first
   | (exfalso; first | omega | (cases hc5; done))
   | (
     refine c_condT rfl ?_
     refine wp_seq_k (fun K20 hK20 => ?_)
     refine c_region ?_
     refine sVal (r_assign rfl rfl) ?_
     refine s_nil ?_
     refine hK20 _ _ ?_
     refine wp_ret ?_
     refine f_ret (rs := [.tmp 2]) rfl (.tmp rfl .nil) rfl ?_
     first | (rw [safe_true (.inl (by omega))] at hk; exact hk _ hs) | (rw [safe_true (by rcases htj with ⟨rfl, rfl⟩ | ⟨rfl, rfl⟩ <;> omega)] at hk; exact hk _ hs) | (rw [safe_false (by omega) (by omega) (by omega)] at hk; exact hk _ hs))
end
end Go.Proofs.Ytoeaamohchpjdaa
