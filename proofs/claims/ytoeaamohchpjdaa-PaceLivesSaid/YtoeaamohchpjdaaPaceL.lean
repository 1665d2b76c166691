/-
  Pace: what the law's own functions do; PaceFresh; PaceBusy.
-/
import Derived.Test.YtoeaamohchpjdaaPaceW
namespace Go.Proofs.Ytoeaamohchpjdaa
open Go Go.RowKit
set_option linter.unusedVariables false
set_option linter.unusedSimpArgs false
set_option maxRecDepth 100000

theorem flat_int : ∀ L : List Int, L.flatMap intC = L.map (Value.int .i64)
  | [] => rfl
  | x :: L => by rw [List.flatMap_cons, flat_int L]; rfl
/-- A pace in memory. -/
def pkP (g : Nat) (l T : List Int) : HP := own g (.cells (pk l T) 37 (0, 0))
section
variable {E : World} {H R : HP} {w : World} {Q : Ending → World → Prop} {g : Nat} {l T : List Int}
theorem pbegin_use (hl : l.length = 5) (hT : T.length = 5) (hs : Sat E H w) (c : Cut H (pkP g l T) R) (hk : ∀ w', Sat E (R * pkP g (beginL l T) T) w' → Q (.returned (.tuple #[])) w') : Calls Try.prog 15 #[.pointer (some ⟨g, 0, none⟩)] w Q := (begin_spec g l T hl hT).use hs c hk
theorem pend_use (hl : l.length = 5) (hs : Sat E H w) (c : Cut H (pkP g l T) R) (hk : ∀ w', Sat E (R * pkP g (endL l) T) w' → Q (.returned (.tuple #[])) w') : Calls Try.prog 43 #[.pointer (some ⟨g, 0, none⟩)] w Q := (end_spec g l _ _ hl).use hs c hk
theorem pagain_use (hl : l.length = 5) (hT : T.length = 5) (hs : Sat E H w) (c : Cut H (pkP g l T) R) (hk : ∀ w', Sat E (R * pkP g (startT l T 0) T) w' → Q (.returned (.tuple #[])) w') : Calls Try.prog 49 #[.pointer (some ⟨g, 0, none⟩)] w Q := (again_spec g l T hl hT).use hs c hk
theorem penough_use (hl : l.length = 5) (hs : Sat E H w) (c : Cut H (pkP g l T) R) (hk : ∀ w', Sat E (R * pkP g (stopL l 0) T) w' → Q (.returned (.tuple #[])) w') : Calls Try.prog 51 #[.pointer (some ⟨g, 0, none⟩)] w Q := (enough_spec g l _ _ hl).use hs c hk
theorem pbusy_use (hl : l.length = 5) (hT : T.length = 5) (hs : Sat E H w) (c : Cut H (pkP g l T) R) (hk : ∀ w', Sat E (R * pkP g (busyL l T) T) w' → Q (.returned (.tuple #[])) w') : Calls Try.prog 22 #[.pointer (some ⟨g, 0, none⟩)] w Q := (busy_spec g l T hl hT).use hs c hk
theorem ppolled_use (i : Bool) (hl : l.length = 5) (hT : T.length = 5) (hs : Sat E H w) (c : Cut H (pkP g l T) R) (hk : ∀ w', Sat E (R * pkP g (polledL l T i) T) w' → Q (.returned (.tuple #[])) w') : Calls Try.prog 19 #[.pointer (some ⟨g, 0, none⟩), .bool i] w Q := (polled_spec g l T i hl hT).use hs c hk
theorem panswered_use (i : Bool) (hl : l.length = 5) (hT : T.length = 5) (hs : Sat E H w) (c : Cut H (pkP g l T) R) (hk : ∀ w', Sat E (R * pkP g (answeredL l T i) T) w' → Q (.returned (.tuple #[])) w') : Calls Try.prog 20 #[.pointer (some ⟨g, 0, none⟩), .bool i] w Q := (answered_spec g l T i hl hT).use hs c hk
theorem pclone_use (hl : l.length = 5) (hT : T.length = 5) (hs : Sat E H w) (c : Cut H (pkP g l T) R) (hk : ∀ g' w', Sat E (R * pkP g l T * pkP g' l T) w' → Q (.returned (.pointer (some ⟨g', 0, none⟩))) w') : Calls Try.prog 23 #[.pointer (some ⟨g, 0, none⟩)] w Q := by
  refine (clone_spec g l T hl hT).use hs c ?_
  intro v w' h
  obtain ⟨g', h⟩ := h.getSome
  simp only [← star_assoc] at h
  obtain ⟨h2, rfl⟩ := h.getFact
  exact hk g' w' h2
theorem pleft_use (t : Int) (hl : l.length = 5) (hs : Sat E H w) (c : Cut H (pkP g l T) R) (hk : ∀ w', Sat E H w' → Q (.returned (.int .i64 (leftL l t))) w') : Calls Try.prog 21 #[.pointer (some ⟨g, 0, none⟩), .int .i64 t] w Q := (left_spec g l _ _ t hl).use hs c (fun w' h => hk w' (h.eq c.eq.symm))
theorem pruns_use (t : Int) (hl : l.length = 5) (hs : Sat E H w) (c : Cut H (pkP g l T) R) (hk : ∀ w', Sat E H w' → Q (.returned (.bool (decide (0 < leftL l t)))) w') : Calls Try.prog 17 #[.pointer (some ⟨g, 0, none⟩), .int .i64 t] w Q := (runs_spec g l _ _ t hl).use hs c (fun w' h => hk w' (h.eq c.eq.symm))
theorem psafeH_use (hl : l.length = 5) (hs : Sat E H w) (c : Cut H (pkP g l T) R) (hk : ∀ w', Sat E H w' → Q (.returned (.bool (safeB l))) w') : Calls Try.prog 18 #[.pointer (some ⟨g, 0, none⟩)] w Q := psafe_use (T := T) hl hs c (fun w' h => hk w' (h.eq c.eq.symm))
theorem pasks_use (p : Value) (t : Int) (hs : Sat E H w) (hk : ∀ w', Sat E H w' → Q (.returned (.bool (asksB t))) w') : Calls Try.prog 29 #[p, .int .i64 t] w Q := (asks_spec p t).use hs (Cut.nothing _) (fun w' h => hk w' (h.eq (star_emp _)))
theorem ptick_use (hb : Bank l) (hs : Sat E H w) (c : Cut H (pkP g l T) R) (hk : ∀ p k w', Sat E (R * pkP g (tickL l) T * oL 3 1 intC (.slice p (overL l).length k) (overL l)) w' → Q (.returned (.slice p (overL l).length k)) w') :
    Calls Try.prog 16 #[.pointer (some ⟨g, 0, none⟩)] w Q := by
  refine (tick_spec g l _ _ hb.len hb.all).use hs c ?_
  intro v w' h
  have h2 : Sat E (R * pkP g (tickL l) T * oL 3 1 intC v (overL l)) w' := h.eq (by unfold oL; rw [flat_int, star_assoc]; rfl)
  obtain ⟨p, k, rfl⟩ := (h2.oReads (Cut.head _ _)).header
  exact hk p k w' h2
theorem pnewP_use {a b c d e : Int} (hc : Ticks [a, b, c, d, e]) (hs : Sat E H w) (hk : ∀ g w', Sat E (H * pkP g zeroL [a, b, c, d, e]) w' → Q (.returned (.tuple #[.pointer (some ⟨g, 0, none⟩), .int .i64 0])) w') :
    Calls Try.prog 13 #[.agg #[.int .i64 a, .int .i64 b, .int .i64 c, .int .i64 d, .int .i64 e]] w Q := pnew_use a b c d e ((chk5_iff rfl).2 hc) hs hk
end
theorem over_len {l : List Int} (hl : l.length = 5) : (overL l).length ≤ 5 := by have := overFrom_length l 0; unfold overL; omega
theorem live_len {l : List Int} (h : Live l) : l.length = 5 := h.bank.len
theorem zero_len : zeroL.length = 5 := rfl
theorem right_ok {T : List Int} (hT : T.length = 5) (h : ∀ n ∈ T, 1 ≤ n ∧ n ≤ 40) : ∃ a b c d e, T = [a, b, c, d, e] ∧ (1 ≤ a ∧ a ≤ 40) ∧ (1 ≤ b ∧ b ≤ 40) ∧ (1 ≤ c ∧ c ≤ 40) ∧ (1 ≤ d ∧ d ≤ 40) ∧ (1 ≤ e ∧ e ≤ 40) := by
  match T, hT with
  | [a, b, c, d, e], _ => exact ⟨a, b, c, d, e, rfl, h a (by simp), h b (by simp), h c (by simp), h d (by simp), h e (by simp)⟩
theorem ticks_five {a b c d e : Int} (ha : 1 ≤ a ∧ a ≤ 41) (hb : 1 ≤ b ∧ b ≤ 41) (hc : 1 ≤ c ∧ c ≤ 41) (hd : 1 ≤ d ∧ d ≤ 41) (he : 1 ≤ e ∧ e ≤ 41) (h1 : b < d) (h2 : c < d) : Ticks [a, b, c, d, e] :=
  ⟨rfl, by intro n hn; simp at hn; omega, h1, h2⟩
theorem set_in {T : List Int} {j : Nat} {n : Int} (h : ∀ n ∈ T, 1 ≤ n ∧ n ≤ 40) (hn : 1 ≤ n ∧ n ≤ 40) : ∀ m ∈ T.set j n, 1 ≤ m ∧ m ≤ 40 := fun m hm => by
  rcases List.mem_or_eq_of_mem_set hm with hm | rfl
  · exact h m hm
  · exact hn
theorem aw_over : overL (freshL [3, 2, 5, 9, 4] 1) = [1] := by decide
theorem aw_rest : answeredL (polledL (freshL [3, 2, 5, 9, 4] (1 + 1)) [3, 2, 5, 9, 4] true) [3, 2, 5, 9, 4] true = [0, 0, 0, 0, 4] := by decide
theorem polled_len {l T : List Int} {i : Bool} (h : l.length = 5) : (polledL l T i).length = 5 := watchL_len _ _ (startT_len _ _ _ (stopsL_len _ _ h))
theorem rest_left4 (T : List Int) (i : Int) : leftL (restL T i) 4 = max 0 (T.getD 4 0 - i) := rfl
theorem rest_left3 (T : List Int) (i : Int) : leftL (restL T i) 3 = 0 := rfl
theorem busy_still {T : List Int} {b d : Int} : busyL [0, b, 0, d, 0] T = [0, b, 0, d, 0] := by simp [busyL]
theorem busy_safe {b d : Int} (h : b < d) (hb : 1 ≤ b) : safeB [0, b, 0, d, 0] = true := safe_true (.inr (.inl ⟨by show 0 < b; omega, h⟩))
attribute [local irreducible] pkP tickL overL own fix oL rL osl rsl fact some' wpList wpHi wpPre wpAny wpHT After AfterH

section
variable {E : World} {H R : HP} {w : World} {Q : Ending → World → Prop}
theorem awake15_use (hs : Sat E H w) (hk : ∀ w', Sat E H w' → Q (.returned (.bool true)) w') : Calls Try.prog 11 #[] w Q := by
  have hT : Ticks [3, 2, 5, 9, 4] := ticks_five (by omega) (by omega) (by omega) (by omega) (by omega) (by omega) (by omega)
  have e0 := fresh_zero hT
  have e1 := fresh_tick hT 0 (by omega)
  have e2 := fresh_tick hT 1 (by omega)
  refine f_enter Try.func11 rfl rfl ?_
  show Code.wp _ _ _ (Fr _) _
  refine wp_seq_k (fun K1 hK1 => ?_)
  refine c_region ?_
  refine sVal (r_assign rfl rfl) ?_
  refine s_nil ?_
  refine hK1 _ _ ?_
  refine wp_seq_k (fun K2 hK2 => ?_)
  refine c_region ?_
  refine sVal (r_build rfl rfl pl30 zr30 (by rfl)) ?_
  refine s_enter (r_call rfl ent13 rfl) rfl ?_
  refine pnewP_use hT hs ?_
  intro g w hs
  refine ⟨_, rfl, a_put (by rfl) ?_⟩
  refine sVal (r_move rfl rfl) ?_
  refine sVal (r_extract rfl rfl (by rfl)) ?_
  refine sVal (r_extract rfl rfl (by rfl)) ?_
  refine sVal (r_assign rfl rfl) ?_
  refine sVal (r_assign rfl rfl) ?_
  refine s_nil ?_
  refine hK2 _ _ ?_
  refine wp_seq_k (fun K3 hK3 => ?_)
  refine wp_seq_k (fun K4 hK4 => ?_)
  refine c_region ?_
  refine sVal (r_move rfl rfl) ?_
  refine s_bool (r_cmpP rfl rfl rfl (by kernel_rfl) rfl) rfl rfl (fun _ => by rfl) ?_
  intro c5 hc5
  refine sVal (r_move rfl rfl) ?_
  cases c5
  case false =>
   replace hc5 := Eq.symm hc5
   try dsimp only [List.length_cons, List.length_nil] at hc5
   first
   | (exfalso; first | omega | (cases hc5; done))
   | (
     refine sVal (r_move rfl rfl) ?_
     refine s_bool (r_cmp rfl rfl rfl rfl) rfl rfl (fun _ => by rfl) ?_
     intro c6 hc6
     refine sVal (r_pickF rfl rfl rfl) ?_
     refine s_nil ?_
     refine hK4 _ _ ?_
     cases c6
     case false =>
      replace hc6 := neF hc6
      try dsimp only [List.length_cons, List.length_nil] at hc6
      first
      | (exfalso; first | omega | (cases hc6; done))
      | (
        refine c_condF rfl ?_
        refine wp_skip ?_
        refine hK3 _ _ ?_
        refine wp_seq_k (fun K7 hK7 => ?_)
        refine c_region ?_
        refine sVal (r_move rfl rfl) ?_
        refine s_enter (r_call rfl ent15 rfl) rfl ?_
        refine pbegin_use rfl rfl hs (by (repeat (first | exact Cut.head _ _ | apply Cut.tail)); done) ?_
        intro w hs
        rw [e0] at hs
        refine ⟨_, rfl, a_put (by rfl) ?_⟩
        refine s_nil ?_
        refine hK7 _ _ ?_
        refine wp_seq_k (fun K8 hK8 => ?_)
        refine c_region ?_
        refine sVal (r_move rfl rfl) ?_
        refine sVal (r_nil rfl rfl) ?_
        refine sVal (r_field rfl rfl of37_0) ?_
        refine s_enter (r_call rfl ent16 rfl) rfl ?_
        refine ptick_use (fresh_bank hT 0 (by omega)) hs (by (repeat (first | exact Cut.head _ _ | apply Cut.tail)); done) ?_
        intro p1 k1 w hs
        rw [e1] at hs
        refine ⟨_, rfl, a_put (by rfl) ?_⟩
        refine s_nil ?_
        refine hK8 _ _ ?_
        refine wp_seq_k (fun K9 hK9 => ?_)
        refine c_region ?_
        refine sVal (r_move rfl rfl) ?_
        refine sVal (r_nil rfl rfl) ?_
        refine sVal (r_field rfl rfl of37_0) ?_
        refine s_enter (r_call rfl ent16 rfl) rfl ?_
        refine ptick_use (fresh_bank hT 1 (by omega)) hs (by (repeat (first | exact Cut.head _ _ | apply Cut.tail)); done) ?_
        intro p2 k2 w hs
        rw [e2, aw_over] at hs
        rw [aw_over]
        refine ⟨_, rfl, a_put (by rfl) ?_⟩
        refine sVal (r_assign rfl rfl) ?_
        refine s_nil ?_
        refine hK9 _ _ ?_
        refine wp_seq_k (fun K10 hK10 => ?_)
        refine c_region ?_
        refine sVal (r_move rfl rfl) ?_
        refine s_enter (r_call rfl ent19 rfl) rfl ?_
        refine ppolled_use _ rfl rfl hs (by (repeat (first | exact Cut.head _ _ | apply Cut.tail)); done) ?_
        intro w hs
        refine ⟨_, rfl, a_put (by rfl) ?_⟩
        refine s_nil ?_
        refine hK10 _ _ ?_
        refine wp_seq_k (fun K11 hK11 => ?_)
        refine c_region ?_
        refine sVal (r_move rfl rfl) ?_
        refine s_enter (r_call rfl ent20 rfl) rfl ?_
        refine panswered_use _ rfl rfl hs (by (repeat (first | exact Cut.head _ _ | apply Cut.tail)); done) ?_
        intro w hs
        rw [aw_rest] at hs
        refine ⟨_, rfl, a_put (by rfl) ?_⟩
        refine s_nil ?_
        refine hK11 _ _ ?_
        refine wp_seq_k (fun K12 hK12 => ?_)
        refine c_region ?_
        refine sVal (r_move rfl rfl) ?_
        refine sVal (r_len rfl rfl Try.underlying22) ?_
        refine s_bool (r_cmp rfl rfl rfl rfl) rfl rfl (fun _ => by rfl) ?_
        intro c13 hc13
        refine sVal (r_move rfl rfl) ?_
        cases c13
        case false =>
         replace hc13 := eqF hc13
         try dsimp only [List.length_cons, List.length_nil] at hc13
         first
         | (exfalso; first | omega | (cases hc13; done))
         | (
           refine @s_pass _ _ _ _ _ _ _ _ 33 (by rfl) (want_no rfl rfl rfl rfl) (by rfl) ?_
           refine @s_pass _ _ _ _ _ _ _ _ 34 (by rfl) (want_no rfl rfl rfl rfl) (by rfl) ?_
           refine @s_pass _ _ _ _ _ _ _ _ 35 (by rfl) (want_no rfl rfl rfl rfl) (by rfl) ?_
           refine @s_pass _ _ _ _ _ _ _ _ 36 (by rfl) (want_no rfl rfl rfl rfl) (by rfl) ?_
           refine sVal (r_pickF rfl rfl rfl) ?_
           refine sVal (r_move rfl rfl) ?_
           refine @s_pass _ _ _ _ _ _ _ _ 39 (by rfl) (want_no rfl rfl rfl rfl) (by rfl) ?_
           refine @s_pass _ _ _ _ _ _ _ _ 40 (by rfl) (want_no rfl rfl rfl rfl) (by rfl) ?_
           refine @s_pass _ _ _ _ _ _ _ _ 41 (by rfl) (want_no rfl rfl rfl rfl) (by rfl) ?_
           refine @s_pass _ _ _ _ _ _ _ _ 42 (by rfl) (want_no rfl rfl rfl rfl) (by rfl) ?_
           refine @s_pass _ _ _ _ _ _ _ _ 43 (by rfl) (want_no rfl rfl rfl rfl) (by rfl) ?_
           refine sVal (r_pickF rfl rfl rfl) ?_
           refine sVal (r_move rfl rfl) ?_
           refine @s_pass _ _ _ _ _ _ _ _ 46 (by rfl) (want_no rfl rfl rfl rfl) (by rfl) ?_
           refine @s_pass _ _ _ _ _ _ _ _ 47 (by rfl) (want_no rfl rfl rfl rfl) (by rfl) ?_
           refine @s_pass _ _ _ _ _ _ _ _ 48 (by rfl) (want_no rfl rfl rfl rfl) (by rfl) ?_
           refine @s_pass _ _ _ _ _ _ _ _ 49 (by rfl) (want_no rfl rfl rfl rfl) (by rfl) ?_
           refine @s_pass _ _ _ _ _ _ _ _ 50 (by rfl) (want_no rfl rfl rfl rfl) (by rfl) ?_
           refine sVal (r_pickF rfl rfl rfl) ?_
           refine sVal (r_move rfl rfl) ?_
           refine @s_pass _ _ _ _ _ _ _ _ 53 (by rfl) (want_no rfl rfl rfl rfl) (by rfl) ?_
           refine @s_pass _ _ _ _ _ _ _ _ 54 (by rfl) (want_no rfl rfl rfl rfl) (by rfl) ?_
           refine sVal (r_pickF rfl rfl rfl) ?_
           refine sVal (r_move rfl rfl) ?_
           refine @s_pass _ _ _ _ _ _ _ _ 57 (by rfl) (want_no rfl rfl rfl rfl) (by rfl) ?_
           refine @s_pass _ _ _ _ _ _ _ _ 58 (by rfl) (want_no rfl rfl rfl rfl) (by rfl) ?_
           refine sVal (r_pickF rfl rfl rfl) ?_
           refine sVal (r_assign rfl rfl) ?_
           refine s_nil ?_
           refine hK12 _ _ ?_
           refine wp_ret ?_
           refine f_ret (rs := [.tmp 0]) rfl (.tmp rfl .nil) rfl ?_
           exact hk _ (fin0 hs (by repeat (first | exact Keeps.refl _ | apply Keeps.tail | apply Keeps.drop))))
        case true =>
         replace hc13 := eqT hc13
         try dsimp only [List.length_cons, List.length_nil] at hc13
         first
         | (exfalso; first | omega | (cases hc13; done))
         | (
           refine sVal (r_move rfl rfl) ?_
           refine s_exQ (r_idx (f := intC) rfl rfl rfl hs.rd (rfl) (by first | assumption | rfl) Try.underlying22 in3 sz3) rfl rfl (fun _ => by rfl) ?_
           intro ad15 he14
           refine sVal (r_loadEl rfl rfl hs.rd he14 (by first | assumption | rfl) (fun _ => rfl) (ag3 _) (by rfl)) ?_
           refine s_bool (r_cmp rfl rfl rfl rfl) rfl rfl (fun _ => by rfl) ?_
           intro c16 hc16
           refine sVal (r_pickT rfl rfl rfl) ?_
           refine sVal (r_move rfl rfl) ?_
           cases c16
           case false =>
            replace hc16 := eqF hc16
            try dsimp only [List.length_cons, List.length_nil] at hc16
            first
            | (exfalso; first | omega | (cases hc16; done))
            | (
              refine @s_pass _ _ _ _ _ _ _ _ 39 (by rfl) (want_no rfl rfl rfl rfl) (by rfl) ?_
              refine @s_pass _ _ _ _ _ _ _ _ 40 (by rfl) (want_no rfl rfl rfl rfl) (by rfl) ?_
              refine @s_pass _ _ _ _ _ _ _ _ 41 (by rfl) (want_no rfl rfl rfl rfl) (by rfl) ?_
              refine @s_pass _ _ _ _ _ _ _ _ 42 (by rfl) (want_no rfl rfl rfl rfl) (by rfl) ?_
              refine @s_pass _ _ _ _ _ _ _ _ 43 (by rfl) (want_no rfl rfl rfl rfl) (by rfl) ?_
              refine sVal (r_pickF rfl rfl rfl) ?_
              refine sVal (r_move rfl rfl) ?_
              refine @s_pass _ _ _ _ _ _ _ _ 46 (by rfl) (want_no rfl rfl rfl rfl) (by rfl) ?_
              refine @s_pass _ _ _ _ _ _ _ _ 47 (by rfl) (want_no rfl rfl rfl rfl) (by rfl) ?_
              refine @s_pass _ _ _ _ _ _ _ _ 48 (by rfl) (want_no rfl rfl rfl rfl) (by rfl) ?_
              refine @s_pass _ _ _ _ _ _ _ _ 49 (by rfl) (want_no rfl rfl rfl rfl) (by rfl) ?_
              refine @s_pass _ _ _ _ _ _ _ _ 50 (by rfl) (want_no rfl rfl rfl rfl) (by rfl) ?_
              refine sVal (r_pickF rfl rfl rfl) ?_
              refine sVal (r_move rfl rfl) ?_
              refine @s_pass _ _ _ _ _ _ _ _ 53 (by rfl) (want_no rfl rfl rfl rfl) (by rfl) ?_
              refine @s_pass _ _ _ _ _ _ _ _ 54 (by rfl) (want_no rfl rfl rfl rfl) (by rfl) ?_
              refine sVal (r_pickF rfl rfl rfl) ?_
              refine sVal (r_move rfl rfl) ?_
              refine @s_pass _ _ _ _ _ _ _ _ 57 (by rfl) (want_no rfl rfl rfl rfl) (by rfl) ?_
              refine @s_pass _ _ _ _ _ _ _ _ 58 (by rfl) (want_no rfl rfl rfl rfl) (by rfl) ?_
              refine sVal (r_pickF rfl rfl rfl) ?_
              refine sVal (r_assign rfl rfl) ?_
              refine s_nil ?_
              refine hK12 _ _ ?_
              refine wp_ret ?_
              refine f_ret (rs := [.tmp 0]) rfl (.tmp rfl .nil) rfl ?_
              exact hk _ (fin0 hs (by repeat (first | exact Keeps.refl _ | apply Keeps.tail | apply Keeps.drop))))
           case true =>
            replace hc16 := eqT hc16
            try dsimp only [List.length_cons, List.length_nil] at hc16
            first
            | (exfalso; first | omega | (cases hc16; done))
            | (
              refine sVal (r_move rfl rfl) ?_
              refine sVal (r_nil rfl rfl) ?_
              refine sVal (r_field rfl rfl of37_0) ?_
              refine s_enter (r_call rfl ent21 rfl) rfl ?_
              refine pleft_use _ rfl hs (by (repeat (first | exact Cut.head _ _ | apply Cut.tail)); done) ?_
              intro w hs
              rw [lf4]
              refine ⟨_, rfl, a_put (by rfl) ?_⟩
              refine s_bool (r_cmp rfl rfl rfl rfl) rfl rfl (fun _ => by rfl) ?_
              intro c17 hc17
              refine sVal (r_pickT rfl rfl rfl) ?_
              refine sVal (r_move rfl rfl) ?_
              cases c17
              case false =>
               replace hc17 := eqF hc17
               try dsimp only [List.length_cons, List.length_nil] at hc17
               first
               | (exfalso; first | omega | (cases hc17; done))
               | (
                 refine @s_pass _ _ _ _ _ _ _ _ 46 (by rfl) (want_no rfl rfl rfl rfl) (by rfl) ?_
                 refine @s_pass _ _ _ _ _ _ _ _ 47 (by rfl) (want_no rfl rfl rfl rfl) (by rfl) ?_
                 refine @s_pass _ _ _ _ _ _ _ _ 48 (by rfl) (want_no rfl rfl rfl rfl) (by rfl) ?_
                 refine @s_pass _ _ _ _ _ _ _ _ 49 (by rfl) (want_no rfl rfl rfl rfl) (by rfl) ?_
                 refine @s_pass _ _ _ _ _ _ _ _ 50 (by rfl) (want_no rfl rfl rfl rfl) (by rfl) ?_
                 refine sVal (r_pickF rfl rfl rfl) ?_
                 refine sVal (r_move rfl rfl) ?_
                 refine @s_pass _ _ _ _ _ _ _ _ 53 (by rfl) (want_no rfl rfl rfl rfl) (by rfl) ?_
                 refine @s_pass _ _ _ _ _ _ _ _ 54 (by rfl) (want_no rfl rfl rfl rfl) (by rfl) ?_
                 refine sVal (r_pickF rfl rfl rfl) ?_
                 refine sVal (r_move rfl rfl) ?_
                 refine @s_pass _ _ _ _ _ _ _ _ 57 (by rfl) (want_no rfl rfl rfl rfl) (by rfl) ?_
                 refine @s_pass _ _ _ _ _ _ _ _ 58 (by rfl) (want_no rfl rfl rfl rfl) (by rfl) ?_
                 refine sVal (r_pickF rfl rfl rfl) ?_
                 refine sVal (r_assign rfl rfl) ?_
                 refine s_nil ?_
                 refine hK12 _ _ ?_
                 refine wp_ret ?_
                 refine f_ret (rs := [.tmp 0]) rfl (.tmp rfl .nil) rfl ?_
                 exact hk _ (fin0 hs (by repeat (first | exact Keeps.refl _ | apply Keeps.tail | apply Keeps.drop))))
              case true =>
               replace hc17 := eqT hc17
               try dsimp only [List.length_cons, List.length_nil] at hc17
               first
               | (exfalso; first | omega | (cases hc17; done))
               | (
                 refine sVal (r_move rfl rfl) ?_
                 refine sVal (r_nil rfl rfl) ?_
                 refine sVal (r_field rfl rfl of37_0) ?_
                 refine s_enter (r_call rfl ent17 rfl) rfl ?_
                 refine pruns_use _ rfl hs (by (repeat (first | exact Cut.head _ _ | apply Cut.tail)); done) ?_
                 intro w hs
                 rw [lf3]
                 refine ⟨_, rfl, a_bool (fun _ => by rfl) ?_⟩
                 intro c18 hc18
                 cases c18
                 case false =>
                  replace hc18 := Eq.symm hc18
                  try (with_reducible first | replace hc18 := of_decide_eq_true hc18 | replace hc18 := of_decide_eq_false hc18)
                  try dsimp only [List.length_cons, List.length_nil] at hc18
                  first
                  | (exfalso; first | omega | (cases hc18; done) | (subst hc18; contradiction))
                  | (
                    refine sVal (r_notF rfl rfl) ?_
                    refine sVal (r_pickT rfl rfl rfl) ?_
                    refine sVal (r_move rfl rfl) ?_
                    refine sVal (r_move rfl rfl) ?_
                    refine s_enter (r_call rfl ent29 rfl) rfl ?_
                    refine pasks_use _ _ hs ?_
                    intro w hs
                    rw [show asksB 4 = true from rfl]
                    refine ⟨_, rfl, a_bool (fun _ => by rfl) ?_⟩
                    intro c19 hc19
                    refine sVal (r_pickT rfl rfl rfl) ?_
                    refine sVal (r_move rfl rfl) ?_
                    cases c19
                    case false =>
                     replace hc19 := Eq.symm hc19
                     try (with_reducible first | replace hc19 := of_decide_eq_true hc19 | replace hc19 := of_decide_eq_false hc19)
                     try dsimp only [List.length_cons, List.length_nil] at hc19
                     first
                     | (exfalso; first | omega | (cases hc19; done) | (subst hc19; contradiction))
                     | (
                       refine @s_pass _ _ _ _ _ _ _ _ 57 (by rfl) (want_no rfl rfl rfl rfl) (by rfl) ?_
                       refine @s_pass _ _ _ _ _ _ _ _ 58 (by rfl) (want_no rfl rfl rfl rfl) (by rfl) ?_
                       refine sVal (r_pickF rfl rfl rfl) ?_
                       refine sVal (r_assign rfl rfl) ?_
                       refine s_nil ?_
                       refine hK12 _ _ ?_
                       refine wp_ret ?_
                       refine f_ret (rs := [.tmp 0]) rfl (.tmp rfl .nil) rfl ?_
                       exact hk _ (fin0 hs (by repeat (first | exact Keeps.refl _ | apply Keeps.tail | apply Keeps.drop))))
                    case true =>
                     replace hc19 := Eq.symm hc19
                     try (with_reducible first | replace hc19 := of_decide_eq_true hc19 | replace hc19 := of_decide_eq_false hc19)
                     try dsimp only [List.length_cons, List.length_nil] at hc19
                     first
                     | (exfalso; first | omega | (cases hc19; done) | (subst hc19; contradiction))
                     | (
                       refine sVal (r_move rfl rfl) ?_
                       refine s_enter (r_call rfl ent18 rfl) rfl ?_
                       refine psafeH_use rfl hs (by (repeat (first | exact Cut.head _ _ | apply Cut.tail)); done) ?_
                       intro w hs
                       rw [show safeB [0, 0, 0, 0, 4] = true by decide]
                       refine ⟨_, rfl, a_bool (fun _ => by rfl) ?_⟩
                       intro c20 hc20
                       refine sVal (r_pickT rfl rfl rfl) ?_
                       refine sVal (r_assign rfl rfl) ?_
                       refine s_nil ?_
                       refine hK12 _ _ ?_
                       refine wp_ret ?_
                       refine f_ret (rs := [.tmp 0]) rfl (.tmp rfl .nil) rfl ?_
                       subst c20
                       exact hk _ (fin0 hs (by repeat (first | exact Keeps.refl _ | apply Keeps.tail | apply Keeps.drop)))))
                 case true =>
                  replace hc18 := Eq.symm hc18
                  try (with_reducible first | replace hc18 := of_decide_eq_true hc18 | replace hc18 := of_decide_eq_false hc18)
                  try dsimp only [List.length_cons, List.length_nil] at hc18
                  first
                  | (exfalso; first | omega | (cases hc18; done) | (subst hc18; contradiction))
                  | (
                    refine sVal (r_notT rfl rfl) ?_
                    refine sVal (r_pickT rfl rfl rfl) ?_
                    refine sVal (r_move rfl rfl) ?_
                    refine @s_pass _ _ _ _ _ _ _ _ 53 (by rfl) (want_no rfl rfl rfl rfl) (by rfl) ?_
                    refine @s_pass _ _ _ _ _ _ _ _ 54 (by rfl) (want_no rfl rfl rfl rfl) (by rfl) ?_
                    refine sVal (r_pickF rfl rfl rfl) ?_
                    refine sVal (r_move rfl rfl) ?_
                    refine @s_pass _ _ _ _ _ _ _ _ 57 (by rfl) (want_no rfl rfl rfl rfl) (by rfl) ?_
                    refine @s_pass _ _ _ _ _ _ _ _ 58 (by rfl) (want_no rfl rfl rfl rfl) (by rfl) ?_
                    refine sVal (r_pickF rfl rfl rfl) ?_
                    refine sVal (r_assign rfl rfl) ?_
                    refine s_nil ?_
                    refine hK12 _ _ ?_
                    refine wp_ret ?_
                    refine f_ret (rs := [.tmp 0]) rfl (.tmp rfl .nil) rfl ?_
                    exact hk _ (fin0 hs (by repeat (first | exact Keeps.refl _ | apply Keeps.tail | apply Keeps.drop))))))))
     case true =>
      replace hc6 := neT hc6
      try dsimp only [List.length_cons, List.length_nil] at hc6
      first
      | (exfalso; first | omega | (cases hc6; done))
      | (
        refine c_condT rfl ?_
        refine wp_seq_k (fun K21 hK21 => ?_)
        refine c_region ?_
        refine sVal (r_assign rfl rfl) ?_
        refine s_nil ?_
        refine hK21 _ _ ?_
        refine wp_ret ?_
        refine f_ret (rs := [.tmp 0]) rfl (.tmp rfl .nil) rfl ?_
        exact hk _ (fin0 hs (by repeat (first | exact Keeps.refl _ | apply Keeps.tail | apply Keeps.drop)))))
  case true =>
   replace hc5 := Eq.symm hc5
   try dsimp only [List.length_cons, List.length_nil] at hc5
   first
   | (exfalso; first | omega | (cases hc5; done))
   | (
     refine @s_pass _ _ _ _ _ _ _ _ 12 (by rfl) (want_no rfl rfl rfl rfl) (by rfl) ?_
     refine @s_pass _ _ _ _ _ _ _ _ 13 (by rfl) (want_no rfl rfl rfl rfl) (by rfl) ?_
     refine sVal (r_pickT rfl rfl rfl) ?_
     refine s_nil ?_
     refine hK4 _ _ ?_
     refine c_condT rfl ?_
     refine wp_seq_k (fun K22 hK22 => ?_)
     refine c_region ?_
     refine sVal (r_assign rfl rfl) ?_
     refine s_nil ?_
     refine hK22 _ _ ?_
     refine wp_ret ?_
     refine f_ret (rs := [.tmp 0]) rfl (.tmp rfl .nil) rfl ?_
     exact hk _ (fin0 hs (by repeat (first | exact Keeps.refl _ | apply Keeps.tail | apply Keeps.drop))))
theorem right_use {p : Option Addr} {k : Nat} {L : List Int} (hs : Sat E H w) (c : Cut H (rL 1 intC (.slice p L.length k) L) R) (hk : ∀ a b c d e q k' w', Ticks [a, b, c, d, e] → Sat E (H * rL 1 intC (.slice q 5 k') [a, b, c, d, e]) w' → Q (.returned (.slice q 5 k')) w') :
    Calls Try.prog 12 #[.slice p L.length k] w Q := by
  replace hs := hs.cut c
  replace hk : ∀ a b c d e q k' w', Ticks [a, b, c, d, e] → Sat E (R * rL 1 intC (.slice p L.length k) L * rL 1 intC (.slice q 5 k') [a, b, c, d, e]) w' → Q (.returned (.slice q 5 k')) w' := fun a b c' d e q k' w' h h' => hk a b c' d e q k' w' h (h'.eq (by rw [c.eq]))
  refine f_enter Try.func12 rfl rfl ?_
  show Code.wp _ _ _ (Fr _) _
  refine wp_seq_k (fun K1 hK1 => ?_)
  refine c_region ?_
  refine sVal (r_assign rfl rfl) ?_
  refine s_nil ?_
  refine hK1 _ _ ?_
  refine wp_seq_k (fun K2 hK2 => ?_)
  refine c_region ?_
  refine s_ex (r_lit intC [3, 2, 5, 9, 4] rfl rfl rfl hs Try.underlying22 (by kernel_rfl) sz3 rfl (by decide) (fun _ => rfl)) rfl rfl (fun _ => by rfl) ?_
  intro bo w hs
  refine sVal (r_assign rfl rfl) ?_
  refine s_nil ?_
  refine hK2 _ _ ?_
  refine wp_seq_k (fun K3 hK3 => ?_)
  refine wp_seq_k (fun K4 hK4 => ?_)
  refine c_region ?_
  refine sVal (r_assign rfl rfl) ?_
  refine s_nil ?_
  refine hK4 _ _ ?_
  refine wp_block ?_
  refine c_loop (4 :: 6 :: 7 :: 8 :: 9 :: 10 :: 11 :: 12 :: 13 :: 14 :: 15 :: 16 :: 17 :: 18 :: 19 :: 20 :: 21 :: 22 :: 23 :: 24 :: []) (fun xs w => ∃ (j : Nat) (T : List Int), xs = (.int .i64 (j : Int) :: xAt xs 1 :: xAt xs 2 :: xAt xs 3 :: xAt xs 4 :: xAt xs 5 :: xAt xs 6 :: xAt xs 7 :: xAt xs 8 :: xAt xs 9 :: xAt xs 10 :: xAt xs 11 :: xAt xs 12 :: xAt xs 13 :: xAt xs 14 :: xAt xs 15 :: xAt xs 16 :: xAt xs 17 :: xAt xs 18 :: xAt xs 19 :: []) ∧ j ≤ 5 ∧ T.length = 5 ∧ (∀ n ∈ T, 1 ≤ n ∧ n ≤ 40) ∧ Sat E (R * rL 1 intC (.slice p L.length k) L * oL 3 1 intC (.slice (some ⟨bo, 0, none⟩) 5 5) T) w) (fun xs _ => 5 - (intOf (xAt xs 0)).toNat) rfl (by rfl) ?_ ?_
  · exact ⟨0, [3, 2, 5, 9, 4], rfl, by omega, rfl, by decide, hs⟩
  clear hs
  rintro xs w ⟨j, T, hxs, hj, hT, hall, hs⟩
  obtain ⟨D5, hD5⟩ : ∃ D, D = xAt xs := ⟨_, rfl⟩
  rw [← hD5] at hxs
  clear hD5
  subst hxs
  refine ⟨_, rfl, fun KL6 hKL6 => ?_⟩
  refine wp_seq_k (fun K7 hK7 => ?_)
  refine wp_seq_k (fun K8 hK8 => ?_)
  refine c_region ?_
  refine sVal (r_move rfl rfl) ?_
  refine sVal (r_move rfl rfl) ?_
  refine sVal (r_len rfl rfl Try.underlying22) ?_
  refine s_bool (r_cmp rfl rfl rfl rfl) rfl rfl (fun _ => by rfl) ?_
  intro c9 hc9
  refine sVal (r_move rfl rfl) ?_
  cases c9
  case false =>
   replace hc9 := decF' hc9
   try dsimp only [List.length_cons, List.length_nil] at hc9
   first
   | (exfalso; first | omega | (cases hc9; done))
   | (
     refine @s_pass _ _ _ _ _ _ _ _ 11 (by rfl) (want_no rfl rfl rfl rfl) (by rfl) ?_
     refine @s_pass _ _ _ _ _ _ _ _ 12 (by rfl) (want_no rfl rfl rfl rfl) (by rfl) ?_
     refine sVal (r_pickF rfl rfl rfl) ?_
     refine s_nil ?_
     refine hK8 _ _ ?_
     refine c_condF rfl ?_
     refine wp_exit ?_
     refine hK3 _ _ ?_
     refine wp_seq_k (fun K10 hK10 => ?_)
     replace hs := hs.drew
     refine d_start (by kernel_rfl) ?_
     refine d_pre [0, 1, 2, 4, 5, 8, 9] (g := 8) (by kernel_rfl) (fun _ _ d _ _ h => by cases d <;> exact h) ?_
     obtain ⟨a, b, c, d, e, rfl, ha, hb, hc, hd, he⟩ := right_ok hT hall
     refine pVal rfl (fun w => (r_move rfl rfl)) ?_
     refine pVal rfl (fun w => (r_move rfl rfl)) ?_
     refine p_exQ rfl (r_idx (f := intC) rfl rfl rfl hs.rd (rfl) (rfl) Try.underlying22 in3 sz3) rfl rfl (fun _ => by rfl) ?_
     intro ad12 he11
     refine pVal rfl (fun w => (r_move rfl rfl)) ?_
     refine p_exQ rfl (r_idx (f := intC) rfl rfl rfl hs.rd (rfl) (rfl) Try.underlying22 in3 sz3) rfl rfl (fun _ => by rfl) ?_
     intro ad14 he13
     refine pVal rfl (fun w => (r_move rfl rfl)) ?_
     refine p_exQ rfl (r_idx (f := intC) rfl rfl rfl hs.rd (rfl) (by first | assumption | rfl) Try.underlying22 in3 sz3) rfl rfl (fun _ => by rfl) ?_
     intro ad16 he15
     refine p_nil ?_
     refine d_head 12 [(3, true), (6, true), (7, true), (10, true), (11, true)] (Holds _ _) (g := 3) (by kernel_rfl) (fun _ _ d _ _ h => by cases d <;> exact h) (Holds.self hs) ?_
     refine hVal rfl (fun w hS => (r_loadEl rfl rfl hS.rd he11 (by first | assumption | rfl) (fun _ => rfl) (ag3 _) (by rfl))) ?_
     refine hVal rfl (fun w hS => (r_loadEl rfl rfl hS.rd he13 (by first | assumption | rfl) (fun _ => rfl) (ag3 _) (by rfl))) ?_
     refine hVal rfl (fun w hS => (r_ari rfl rfl rfl rfl (by first | exact wrapI (by omega) | rfl))) ?_
     refine hVal rfl (fun w hS => (r_loadEl rfl rfl hS.rd he15 (by first | assumption | rfl) (fun _ => rfl) (ag3 _) (by rfl))) ?_
     refine hVal rfl (fun w hS => (r_ari rfl rfl rfl rfl (by first | exact wrapI (by omega) | rfl))) ?_
     refine h_nil ?_
     refine d_tail 12 (by kernel_rfl) ?_
     refine sVal (r_max3 rfl rfl rfl rfl) ?_
     refine s_exQ (r_idx (f := intC) rfl rfl rfl hs.rd (rfl) (by first | assumption | rfl) Try.underlying22 in3 sz3) rfl rfl (fun _ => by rfl) ?_
     intro ad18 he17
     refine s_exS (r_storeEl (f := intC) rfl rfl rfl hs (by (repeat (first | exact Cut.head _ _ | apply Cut.tail)); done) he17 (by simp) (fun _ => rfl) rfl rfl in3 sz3) rfl rfl ?_
     intro w hs
     refine s_nil ?_
     refine hK10 _ _ ?_
     refine wp_seq_k (fun K19 hK19 => ?_)
     refine c_region ?_
     refine sVal (r_move rfl rfl) ?_
     refine sVal (r_assign rfl rfl) ?_
     refine s_nil ?_
     refine hK19 _ _ ?_
     refine wp_ret ?_
     refine f_ret (rs := [.tmp 2]) rfl (.tmp rfl .nil) rfl ?_
     exact hk a b c (max (max d (b + 1)) (c + 1)) e _ _ _ (ticks_five (by omega) (by omega) (by omega) (by omega) (by omega) (by omega) (by omega)) (fin1 (hs.letL (L := [a, b, c, max (max d (b + 1)) (c + 1), e]) (by (repeat (first | exact Cut.head _ _ | apply Cut.tail)); done)) (by (repeat (first | exact Cut.head _ _ | apply Cut.tail)); done) (by repeat (first | exact Keeps.refl _ | apply Keeps.tail | apply Keeps.drop))))
  case true =>
   replace hc9 := decT' hc9
   try dsimp only [List.length_cons, List.length_nil] at hc9
   first
   | (exfalso; first | omega | (cases hc9; done))
   | (
     refine sVal (r_move rfl rfl) ?_
     refine s_bool (r_cmp rfl rfl rfl rfl) rfl rfl (fun _ => by rfl) ?_
     intro c20 hc20
     refine sVal (r_pickT rfl rfl rfl) ?_
     refine s_nil ?_
     refine hK8 _ _ ?_
     cases c20
     case false =>
      replace hc20 := decF' hc20
      try dsimp only [List.length_cons, List.length_nil] at hc20
      first
      | (exfalso; first | omega | (cases hc20; done))
      | (
        refine c_condF rfl ?_
        refine wp_exit ?_
        refine hK3 _ _ ?_
        refine wp_seq_k (fun K21 hK21 => ?_)
        replace hs := hs.drew
        refine d_start (by kernel_rfl) ?_
        refine d_pre [0, 1, 2, 4, 5, 8, 9] (g := 8) (by kernel_rfl) (fun _ _ d _ _ h => by cases d <;> exact h) ?_
        obtain ⟨a, b, c, d, e, rfl, ha, hb, hc, hd, he⟩ := right_ok hT hall
        refine pVal rfl (fun w => (r_move rfl rfl)) ?_
        refine pVal rfl (fun w => (r_move rfl rfl)) ?_
        refine p_exQ rfl (r_idx (f := intC) rfl rfl rfl hs.rd (rfl) (rfl) Try.underlying22 in3 sz3) rfl rfl (fun _ => by rfl) ?_
        intro ad23 he22
        refine pVal rfl (fun w => (r_move rfl rfl)) ?_
        refine p_exQ rfl (r_idx (f := intC) rfl rfl rfl hs.rd (rfl) (rfl) Try.underlying22 in3 sz3) rfl rfl (fun _ => by rfl) ?_
        intro ad25 he24
        refine pVal rfl (fun w => (r_move rfl rfl)) ?_
        refine p_exQ rfl (r_idx (f := intC) rfl rfl rfl hs.rd (rfl) (by first | assumption | rfl) Try.underlying22 in3 sz3) rfl rfl (fun _ => by rfl) ?_
        intro ad27 he26
        refine p_nil ?_
        refine d_head 12 [(3, true), (6, true), (7, true), (10, true), (11, true)] (Holds _ _) (g := 3) (by kernel_rfl) (fun _ _ d _ _ h => by cases d <;> exact h) (Holds.self hs) ?_
        refine hVal rfl (fun w hS => (r_loadEl rfl rfl hS.rd he22 (by first | assumption | rfl) (fun _ => rfl) (ag3 _) (by rfl))) ?_
        refine hVal rfl (fun w hS => (r_loadEl rfl rfl hS.rd he24 (by first | assumption | rfl) (fun _ => rfl) (ag3 _) (by rfl))) ?_
        refine hVal rfl (fun w hS => (r_ari rfl rfl rfl rfl (by first | exact wrapI (by omega) | rfl))) ?_
        refine hVal rfl (fun w hS => (r_loadEl rfl rfl hS.rd he26 (by first | assumption | rfl) (fun _ => rfl) (ag3 _) (by rfl))) ?_
        refine hVal rfl (fun w hS => (r_ari rfl rfl rfl rfl (by first | exact wrapI (by omega) | rfl))) ?_
        refine h_nil ?_
        refine d_tail 12 (by kernel_rfl) ?_
        refine sVal (r_max3 rfl rfl rfl rfl) ?_
        refine s_exQ (r_idx (f := intC) rfl rfl rfl hs.rd (rfl) (by first | assumption | rfl) Try.underlying22 in3 sz3) rfl rfl (fun _ => by rfl) ?_
        intro ad29 he28
        refine s_exS (r_storeEl (f := intC) rfl rfl rfl hs (by (repeat (first | exact Cut.head _ _ | apply Cut.tail)); done) he28 (by simp) (fun _ => rfl) rfl rfl in3 sz3) rfl rfl ?_
        intro w hs
        refine s_nil ?_
        refine hK21 _ _ ?_
        refine wp_seq_k (fun K30 hK30 => ?_)
        refine c_region ?_
        refine sVal (r_move rfl rfl) ?_
        refine sVal (r_assign rfl rfl) ?_
        refine s_nil ?_
        refine hK30 _ _ ?_
        refine wp_ret ?_
        refine f_ret (rs := [.tmp 2]) rfl (.tmp rfl .nil) rfl ?_
        exact hk a b c (max (max d (b + 1)) (c + 1)) e _ _ _ (ticks_five (by omega) (by omega) (by omega) (by omega) (by omega) (by omega) (by omega)) (fin1 (hs.letL (L := [a, b, c, max (max d (b + 1)) (c + 1), e]) (by (repeat (first | exact Cut.head _ _ | apply Cut.tail)); done)) (by (repeat (first | exact Cut.head _ _ | apply Cut.tail)); done) (by repeat (first | exact Keeps.refl _ | apply Keeps.tail | apply Keeps.drop))))
     case true =>
      replace hc20 := decT' hc20
      try dsimp only [List.length_cons, List.length_nil] at hc20
      first
      | (exfalso; first | omega | (cases hc20; done))
      | (
        refine c_condT rfl ?_
        refine wp_skip ?_
        refine hK7 _ _ ?_
        refine wp_seq_k (fun K31 hK31 => ?_)
        refine wp_block ?_
        refine c_region ?_
        refine sVal (r_move rfl rfl) ?_
        refine sVal (r_move rfl rfl) ?_
        refine sVal (r_move rfl rfl) ?_
        refine sVal (r_move rfl rfl) ?_
        obtain ⟨n, hn⟩ : ∃ n, L[j]? = some n := ⟨_, List.getElem?_eq_getElem (by omega)⟩
        obtain ⟨u, hu⟩ : ∃ u, T[j]? = some u := ⟨_, List.getElem?_eq_getElem (by omega)⟩
        have hlt : j < T.length := by omega
        refine s_exQ (r_idx (f := intC) rfl rfl rfl hs.rd (rfl) (hn) Try.underlying22 in3 sz3) rfl rfl (fun _ => by rfl) ?_
        intro ad33 he32
        refine sVal (r_loadEl rfl rfl hs.rd he32 (hn) (fun _ => rfl) (ag3 _) (by rfl)) ?_
        refine sVal (r_min rfl rfl rfl) ?_
        refine sVal (r_max rfl rfl rfl) ?_
        refine s_exQ (r_idx (f := intC) rfl rfl rfl hs.rd (rfl) (hu) Try.underlying22 in3 sz3) rfl rfl (fun _ => by rfl) ?_
        intro ad35 he34
        refine s_exS (r_storeEl (f := intC) rfl rfl rfl hs (by (repeat (first | exact Cut.head _ _ | apply Cut.tail)); done) he34 (by first | assumption | simp) (fun _ => rfl) rfl rfl in3 sz3) rfl rfl ?_
        intro w hs
        refine s_nil ?_
        refine hK31 _ _ ?_
        refine c_region ?_
        refine sVal (r_move rfl rfl) ?_
        refine sVal (r_ari rfl rfl rfl rfl (by first | exact wrapI (by omega) | rfl)) ?_
        refine sVal (r_assign rfl rfl) ?_
        refine s_nil ?_
        refine hKL6 _ _ _ (by rfl) (by rfl) ?_ ?_
        · exact ⟨j + 1, T.set j (max 1 (min n 40)), rfl, by omega, by rw [List.length_set]; exact hT, set_in hall (by omega), hs⟩
        · (show _ < _; simp [intOf, xAt]; omega)))
theorem own15_use {p : Option Addr} {k : Nat} {a b c d e : Int} (hs : Sat E H w) (cu : Cut H (rL 1 intC (.slice p 5 k) [a, b, c, d, e]) R) (hk : ∀ w', Sat E H w' → Q (.returned (.agg #[.int .i64 a, .int .i64 b, .int .i64 c, .int .i64 d, .int .i64 e])) w') :
    Calls Try.prog 14 #[.slice p 5 k] w Q := by
  replace hs := hs.cut cu
  replace hk : ∀ w', Sat E (R * rL 1 intC (.slice p 5 k) [a, b, c, d, e]) w' → Q (.returned (.agg #[.int .i64 a, .int .i64 b, .int .i64 c, .int .i64 d, .int .i64 e])) w' := fun w' h => hk w' (h.eq (by rw [cu.eq]))
  refine f_enter Try.func14 rfl rfl ?_
  show Code.wp _ _ _ (Fr _) _
  refine wp_seq_k (fun K1 hK1 => ?_)
  refine c_region ?_
  refine s_ex (r_alloc rfl zr30 hs) rfl rfl (fun _ => by rfl) ?_
  intro b2 w hs
  refine s_nil ?_
  refine hK1 _ _ ?_
  refine wp_seq_k (fun K3 hK3 => ?_)
  replace hs := hs.drew
  refine d_start (by kernel_rfl) ?_
  refine d_pre [0, 1, 3, 4, 6, 7, 9, 10, 12, 13] (g := 7) (by kernel_rfl) (fun _ _ d _ _ h => by cases d <;> exact h) ?_
  refine pVal rfl (fun w => (r_move rfl rfl)) ?_
  refine p_exQ rfl (r_idx (f := intC) rfl rfl rfl hs.rd (rfl) (rfl) Try.underlying22 in3 sz3) rfl rfl (fun _ => by rfl) ?_
  intro ad5 he4
  refine pVal rfl (fun w => (r_move rfl rfl)) ?_
  refine p_exQ rfl (r_idx (f := intC) rfl rfl rfl hs.rd (rfl) (rfl) Try.underlying22 in3 sz3) rfl rfl (fun _ => by rfl) ?_
  intro ad7 he6
  refine pVal rfl (fun w => (r_move rfl rfl)) ?_
  refine p_exQ rfl (r_idx (f := intC) rfl rfl rfl hs.rd (rfl) (rfl) Try.underlying22 in3 sz3) rfl rfl (fun _ => by rfl) ?_
  intro ad9 he8
  refine pVal rfl (fun w => (r_move rfl rfl)) ?_
  refine p_exQ rfl (r_idx (f := intC) rfl rfl rfl hs.rd (rfl) (rfl) Try.underlying22 in3 sz3) rfl rfl (fun _ => by rfl) ?_
  intro ad11 he10
  refine pVal rfl (fun w => (r_move rfl rfl)) ?_
  refine p_exQ rfl (r_idx (f := intC) rfl rfl rfl hs.rd (rfl) (rfl) Try.underlying22 in3 sz3) rfl rfl (fun _ => by rfl) ?_
  intro ad13 he12
  refine p_nil ?_
  refine d_head 15 [(2, true), (5, true), (8, true), (11, true), (14, true)] (Holds _ _) (g := 2) (by kernel_rfl) (fun _ _ d _ _ h => by cases d <;> exact h) (Holds.self hs) ?_
  refine hVal rfl (fun w hS => (r_loadEl rfl rfl hS.rd he4 (by first | assumption | rfl) (fun _ => rfl) (ag3 _) (by rfl))) ?_
  refine hVal rfl (fun w hS => (r_loadEl rfl rfl hS.rd he6 (by first | assumption | rfl) (fun _ => rfl) (ag3 _) (by rfl))) ?_
  refine hVal rfl (fun w hS => (r_loadEl rfl rfl hS.rd he8 (by first | assumption | rfl) (fun _ => rfl) (ag3 _) (by rfl))) ?_
  refine hVal rfl (fun w hS => (r_loadEl rfl rfl hS.rd he10 (by first | assumption | rfl) (fun _ => rfl) (ag3 _) (by rfl))) ?_
  refine hVal rfl (fun w hS => (r_loadEl rfl rfl hS.rd he12 (by first | assumption | rfl) (fun _ => rfl) (ag3 _) (by rfl))) ?_
  refine h_nil ?_
  refine d_tail 15 (by kernel_rfl) ?_
  refine sVal (r_build rfl rfl pl30 zr30 (by rfl)) ?_
  refine s_exS (r_storeA rfl rfl rfl hs (by (repeat (first | exact Cut.head _ _ | apply Cut.tail)); done) in30 sz30 rfl (fun h => by cases h) rfl (by rfl)) rfl rfl ?_
  intro w hs
  refine s_nil ?_
  refine hK3 _ _ ?_
  refine wp_ret ?_
  refine f_ret (rs := [.cell 2 30]) rfl (.cell rfl (run_loadL hs.own (ag30 _) in30 sz30 (by rfl)) .nil) rfl ?_
  exact hk _ (fin0 hs (by repeat (first | exact Keeps.refl _ | apply Keeps.tail | apply Keeps.drop)))
theorem paceFresh_use {p : Option Addr} {k : Nat} {L : List Int} (hs : Sat E H w) (cu : Cut H (rL 1 intC (.slice p L.length k) L) R) (hk : ∀ w', Sat E H w' → Q (.returned (.bool true)) w') :
    Calls Try.prog 3 #[.slice p L.length k] w Q := by
  replace hs := hs.cut cu
  replace hk : ∀ w', Sat E (R * rL 1 intC (.slice p L.length k) L) w' → Q (.returned (.bool true)) w' := fun w' h => hk w' (h.eq (by rw [cu.eq]))
  refine f_enter Try.func3 rfl rfl ?_
  show Code.wp _ _ _ (Fr _) _
  refine wp_seq_k (fun K1 hK1 => ?_)
  refine c_region ?_
  refine sVal (r_assign rfl rfl) ?_
  refine s_nil ?_
  refine hK1 _ _ ?_
  refine wp_seq_k (fun K2 hK2 => ?_)
  refine wp_seq_k (fun K3 hK3 => ?_)
  refine c_region ?_
  refine s_enter (r_call rfl ent11 rfl) rfl ?_
  refine awake15_use hs ?_
  intro w hs
  refine ⟨_, rfl, a_bool (fun _ => by rfl) ?_⟩
  intro c4 hc4
  cases c4
  case false =>
   replace hc4 := Eq.symm hc4
   try (with_reducible first | replace hc4 := of_decide_eq_true hc4 | replace hc4 := of_decide_eq_false hc4)
   try dsimp only [List.length_cons, List.length_nil] at hc4
   first
   | (exfalso; first | omega | (cases hc4; done) | (subst hc4; contradiction))
   | (
     refine sVal (r_notF rfl rfl) ?_
     refine s_nil ?_
     refine hK3 _ _ ?_
     refine c_condT rfl ?_
     refine wp_seq_k (fun K5 hK5 => ?_)
     refine c_region ?_
     refine sVal (r_assign rfl rfl) ?_
     refine s_nil ?_
     refine hK5 _ _ ?_
     refine wp_ret ?_
     refine f_ret (rs := [.tmp 2]) rfl (.tmp rfl .nil) rfl ?_
     first | exact hk _ (fin0 hs (by repeat (first | exact Keeps.refl _ | apply Keeps.tail | apply Keeps.drop))) | (rw [show ((((overL (freshL [a, b, c, d, e] i)).length : Nat) : Int) == 0) = true by rw [hov]; rfl]; exact hk _ (fin0 hs (by repeat (first | exact Keeps.refl _ | apply Keeps.tail | apply Keeps.drop)))))
  case true =>
   replace hc4 := Eq.symm hc4
   try (with_reducible first | replace hc4 := of_decide_eq_true hc4 | replace hc4 := of_decide_eq_false hc4)
   try dsimp only [List.length_cons, List.length_nil] at hc4
   first
   | (exfalso; first | omega | (cases hc4; done) | (subst hc4; contradiction))
   | (
     refine sVal (r_notT rfl rfl) ?_
     refine s_nil ?_
     refine hK3 _ _ ?_
     refine c_condF rfl ?_
     refine wp_skip ?_
     refine hK2 _ _ ?_
     refine wp_seq_k (fun K6 hK6 => ?_)
     refine c_region ?_
     refine sVal (r_move rfl rfl) ?_
     refine s_enter (r_call rfl ent12 rfl) rfl ?_
     refine right_use hs (by (repeat (first | exact Cut.head _ _ | apply Cut.tail)); done) ?_
     intro a b c d e q kq w hT hs
     have hf := hT.five
     refine ⟨_, rfl, a_put (by rfl) ?_⟩
     refine sVal (r_assign rfl rfl) ?_
     refine s_nil ?_
     refine hK6 _ _ ?_
     refine wp_seq_k (fun K7 hK7 => ?_)
     refine c_region ?_
     refine sVal (r_move rfl rfl) ?_
     refine s_enter (r_call rfl ent14 rfl) rfl ?_
     refine own15_use hs (by (repeat (first | exact Cut.head _ _ | apply Cut.tail)); done) ?_
     intro w hs
     refine ⟨_, rfl, a_put (by rfl) ?_⟩
     refine s_enter (r_call rfl ent13 rfl) rfl ?_
     refine pnewP_use hT hs ?_
     intro g w hs
     refine ⟨_, rfl, a_put (by rfl) ?_⟩
     refine sVal (r_move rfl rfl) ?_
     refine sVal (r_extract rfl rfl (by rfl)) ?_
     refine sVal (r_extract rfl rfl (by rfl)) ?_
     refine sVal (r_assign rfl rfl) ?_
     refine sVal (r_assign rfl rfl) ?_
     refine s_nil ?_
     refine hK7 _ _ ?_
     refine wp_seq_k (fun K8 hK8 => ?_)
     refine wp_seq_k (fun K9 hK9 => ?_)
     refine c_region ?_
     refine sVal (r_move rfl rfl) ?_
     refine s_bool (r_cmpP rfl rfl rfl (by kernel_rfl) rfl) rfl rfl (fun _ => by rfl) ?_
     intro c10 hc10
     refine sVal (r_move rfl rfl) ?_
     cases c10
     case false =>
      replace hc10 := Eq.symm hc10
      try dsimp only [List.length_cons, List.length_nil] at hc10
      first
      | (exfalso; first | omega | (cases hc10; done))
      | (
        refine sVal (r_move rfl rfl) ?_
        refine s_bool (r_cmp rfl rfl rfl rfl) rfl rfl (fun _ => by rfl) ?_
        intro c11 hc11
        refine sVal (r_pickF rfl rfl rfl) ?_
        refine s_nil ?_
        refine hK9 _ _ ?_
        cases c11
        case false =>
         replace hc11 := neF hc11
         try dsimp only [List.length_cons, List.length_nil] at hc11
         first
         | (exfalso; first | omega | (cases hc11; done))
         | (
           refine c_condF rfl ?_
           refine wp_skip ?_
           refine hK8 _ _ ?_
           refine wp_seq_k (fun K12 hK12 => ?_)
           refine c_region ?_
           obtain ⟨_, _, _, _, _, e5, ha, hb, hc, hd, he, h13, h23⟩ := hf
           cases e5
           refine sVal (r_move rfl rfl) ?_
           refine s_enter (r_call rfl ent15 rfl) rfl ?_
           refine pbegin_use rfl rfl hs (by (repeat (first | exact Cut.head _ _ | apply Cut.tail)); done) ?_
           intro w hs
           rw [fresh_zero hT] at hs
           refine ⟨_, rfl, a_put (by rfl) ?_⟩
           refine s_nil ?_
           refine hK12 _ _ ?_
           refine wp_seq_k (fun K13 hK13 => ?_)
           refine wp_seq_k (fun K14 hK14 => ?_)
           refine c_region ?_
           refine sVal (r_assign rfl rfl) ?_
           refine s_nil ?_
           refine hK14 _ _ ?_
           refine wp_block ?_
           refine c_loop (2 :: 5 :: 7 :: 26 :: 27 :: 28 :: 29 :: 30 :: 31 :: 32 :: 33 :: 34 :: 35 :: 36 :: 37 :: 38 :: 39 :: 40 :: 41 :: 42 :: 43 :: 44 :: 45 :: 46 :: 47 :: 48 :: 49 :: 50 :: 51 :: 52 :: 53 :: 54 :: 55 :: 56 :: 57 :: 58 :: 59 :: 60 :: 61 :: 62 :: 63 :: 64 :: 65 :: 66 :: 67 :: 68 :: 69 :: 70 :: 71 :: 72 :: 73 :: 74 :: 75 :: 76 :: 77 :: 78 :: 79 :: 80 :: 81 :: 82 :: 83 :: 84 :: 85 :: 86 :: 87 :: 88 :: 89 :: 90 :: 91 :: 92 :: []) (fun xs w => ∃ (i : Int), xs = (xAt xs 0 :: .int .i64 (i + 1) :: xAt xs 2 :: xAt xs 3 :: xAt xs 4 :: xAt xs 5 :: xAt xs 6 :: xAt xs 7 :: xAt xs 8 :: xAt xs 9 :: xAt xs 10 :: xAt xs 11 :: xAt xs 12 :: xAt xs 13 :: xAt xs 14 :: xAt xs 15 :: xAt xs 16 :: xAt xs 17 :: xAt xs 18 :: xAt xs 19 :: xAt xs 20 :: xAt xs 21 :: xAt xs 22 :: xAt xs 23 :: xAt xs 24 :: xAt xs 25 :: xAt xs 26 :: xAt xs 27 :: xAt xs 28 :: xAt xs 29 :: xAt xs 30 :: xAt xs 31 :: xAt xs 32 :: xAt xs 33 :: xAt xs 34 :: xAt xs 35 :: xAt xs 36 :: xAt xs 37 :: xAt xs 38 :: xAt xs 39 :: xAt xs 40 :: xAt xs 41 :: xAt xs 42 :: xAt xs 43 :: xAt xs 44 :: xAt xs 45 :: xAt xs 46 :: xAt xs 47 :: xAt xs 48 :: xAt xs 49 :: xAt xs 50 :: xAt xs 51 :: xAt xs 52 :: xAt xs 53 :: xAt xs 54 :: xAt xs 55 :: xAt xs 56 :: xAt xs 57 :: xAt xs 58 :: xAt xs 59 :: xAt xs 60 :: xAt xs 61 :: xAt xs 62 :: xAt xs 63 :: xAt xs 64 :: xAt xs 65 :: xAt xs 66 :: xAt xs 67 :: xAt xs 68 :: xAt xs 69 :: []) ∧ (0 ≤ i ∧ i ≤ d) ∧ Sat E (R * rL 1 intC (.slice p L.length k) L * rL 1 intC (.slice q 5 kq) [a, b, c, d, e] * pkP g (freshL [a, b, c, d, e] i) [a, b, c, d, e]) w) (fun xs _ => (d + 2).toNat - (intOf (xAt xs 1)).toNat) rfl (by rfl) ?_ ?_
           · exact ⟨0, rfl, by omega, hs⟩
           clear hs
           rintro xs w ⟨i, hxs, hi, hs⟩
           obtain ⟨D15, hD15⟩ : ∃ D, D = xAt xs := ⟨_, rfl⟩
           rw [← hD15] at hxs
           clear hD15
           subst hxs
           refine ⟨_, rfl, fun KL16 hKL16 => ?_⟩
           refine wp_seq_k (fun K17 hK17 => ?_)
           refine wp_seq_k (fun K18 hK18 => ?_)
           refine c_region ?_
           refine sVal (r_move rfl rfl) ?_
           refine sVal (r_move rfl rfl) ?_
           refine s_exQ (r_idx (f := intC) rfl rfl rfl hs.rd (rfl) (rfl) Try.underlying22 in3 sz3) rfl rfl (fun _ => by rfl) ?_
           intro ad20 he19
           refine sVal (r_loadEl rfl rfl hs.rd he19 (by first | assumption | rfl) (fun _ => rfl) (ag3 _) (by rfl)) ?_
           refine s_bool (r_cmp rfl rfl rfl rfl) rfl rfl (fun _ => by rfl) ?_
           intro c21 hc21
           refine s_nil ?_
           refine hK18 _ _ ?_
           cases c21
           case false =>
            replace hc21 := decF' hc21
            try dsimp only [List.length_cons, List.length_nil] at hc21
            first
            | (exfalso; first | omega | (cases hc21; done))
            | (
              refine c_condF rfl ?_
              refine wp_exit ?_
              refine hK13 _ _ ?_
              refine wp_seq_k (fun K22 hK22 => ?_)
              refine c_region ?_
              refine sVal (r_move rfl rfl) ?_
              refine s_enter (r_call rfl ent18 rfl) rfl ?_
              refine psafeH_use rfl hs (by (repeat (first | exact Cut.head _ _ | apply Cut.tail)); done) ?_
              intro w hs
              rw [fresh_safe i (by show d ≤ i; omega)]
              refine ⟨_, rfl, a_bool (fun _ => by rfl) ?_⟩
              intro c23 hc23
              refine sVal (r_move rfl rfl) ?_
              cases c23
              case false =>
               replace hc23 := Eq.symm hc23
               try (with_reducible first | replace hc23 := of_decide_eq_true hc23 | replace hc23 := of_decide_eq_false hc23)
               try dsimp only [List.length_cons, List.length_nil] at hc23
               first
               | (exfalso; first | omega | (cases hc23; done) | (subst hc23; contradiction))
               | (
                 refine @s_pass _ _ _ _ _ _ _ _ 96 (by rfl) (want_no rfl rfl rfl rfl) (by rfl) ?_
                 refine @s_pass _ _ _ _ _ _ _ _ 97 (by rfl) (want_no rfl rfl rfl rfl) (by rfl) ?_
                 refine @s_pass _ _ _ _ _ _ _ _ 98 (by rfl) (want_no rfl rfl rfl rfl) (by rfl) ?_
                 refine @s_pass _ _ _ _ _ _ _ _ 99 (by rfl) (want_no rfl rfl rfl rfl) (by rfl) ?_
                 refine @s_pass _ _ _ _ _ _ _ _ 100 (by rfl) (want_no rfl rfl rfl rfl) (by rfl) ?_
                 refine @s_pass _ _ _ _ _ _ _ _ 101 (by rfl) (want_no rfl rfl rfl rfl) (by rfl) ?_
                 refine sVal (r_pickF rfl rfl rfl) ?_
                 refine sVal (r_assign rfl rfl) ?_
                 refine s_nil ?_
                 refine hK22 _ _ ?_
                 refine wp_ret ?_
                 refine f_ret (rs := [.tmp 2]) rfl (.tmp rfl .nil) rfl ?_
                 first | exact hk _ (fin0 hs (by repeat (first | exact Keeps.refl _ | apply Keeps.tail | apply Keeps.drop))) | (rw [show ((((overL (freshL [a, b, c, d, e] i)).length : Nat) : Int) == 0) = true by rw [hov]; rfl]; exact hk _ (fin0 hs (by repeat (first | exact Keeps.refl _ | apply Keeps.tail | apply Keeps.drop)))))
              case true =>
               replace hc23 := Eq.symm hc23
               try (with_reducible first | replace hc23 := of_decide_eq_true hc23 | replace hc23 := of_decide_eq_false hc23)
               try dsimp only [List.length_cons, List.length_nil] at hc23
               first
               | (exfalso; first | omega | (cases hc23; done) | (subst hc23; contradiction))
               | (
                 refine sVal (r_move rfl rfl) ?_
                 refine sVal (r_nil rfl rfl) ?_
                 refine sVal (r_field rfl rfl of37_0) ?_
                 refine s_enter (r_call rfl ent16 rfl) rfl ?_
                 refine ptick_use (fresh_bank hT i (by omega)) hs (by (repeat (first | exact Cut.head _ _ | apply Cut.tail)); done) ?_
                 intro pv kv w hs
                 have hov := congrArg List.length (fresh_none i (by show d ≤ i; omega) hT (by omega))
                 refine ⟨_, rfl, a_put (by rfl) ?_⟩
                 refine sVal (r_len rfl rfl Try.underlying22) ?_
                 refine s_bool (r_cmp rfl rfl rfl rfl) rfl rfl (fun _ => by rfl) ?_
                 intro c24 hc24
                 refine sVal (r_pickT rfl rfl rfl) ?_
                 refine sVal (r_assign rfl rfl) ?_
                 refine s_nil ?_
                 refine hK22 _ _ ?_
                 refine wp_ret ?_
                 refine f_ret (rs := [.tmp 2]) rfl (.tmp rfl .nil) rfl ?_
                 subst c24
                 first | exact hk _ (fin0 hs (by repeat (first | exact Keeps.refl _ | apply Keeps.tail | apply Keeps.drop))) | (rw [show ((((overL (freshL [a, b, c, d, e] i)).length : Nat) : Int) == 0) = true by rw [hov]; rfl]; exact hk _ (fin0 hs (by repeat (first | exact Keeps.refl _ | apply Keeps.tail | apply Keeps.drop))))))
           case true =>
            replace hc21 := decT' hc21
            try dsimp only [List.length_cons, List.length_nil] at hc21
            first
            | (exfalso; first | omega | (cases hc21; done))
            | (
              refine c_condT rfl ?_
              refine wp_skip ?_
              refine hK17 _ _ ?_
              refine wp_seq_k (fun K25 hK25 => ?_)
              refine wp_block ?_
              refine wp_seq_k (fun K26 hK26 => ?_)
              refine wp_seq_k (fun K27 hK27 => ?_)
              refine c_region ?_
              refine sVal (r_move rfl rfl) ?_
              refine sVal (r_nil rfl rfl) ?_
              refine sVal (r_field rfl rfl of37_0) ?_
              refine s_enter (r_call rfl ent16 rfl) rfl ?_
              refine ptick_use (fresh_bank hT i (by omega)) hs (by (repeat (first | exact Cut.head _ _ | apply Cut.tail)); done) ?_
              intro pv kv w hs
              rw [fresh_tick hT i (by omega)] at hs
              refine ⟨_, rfl, a_put (by rfl) ?_⟩
              refine sVal (r_len rfl rfl Try.underlying22) ?_
              refine sVal (r_move rfl rfl) ?_
              refine s_nil ?_
              refine hK27 _ _ ?_
              refine wp_block ?_
              refine c_loop (2 :: 7 :: 38 :: 39 :: 40 :: 41 :: 42 :: 43 :: 44 :: 45 :: 46 :: 47 :: 48 :: 49 :: 50 :: 51 :: 52 :: 53 :: 54 :: 55 :: 56 :: 57 :: 58 :: 59 :: 60 :: 61 :: 62 :: 63 :: 64 :: 65 :: 66 :: 67 :: 68 :: 69 :: 70 :: []) (fun xs w => ∃ (j : Nat), xs = (xAt xs 0 :: xAt xs 1 :: .int .i64 (j : Int) :: xAt xs 3 :: xAt xs 4 :: xAt xs 5 :: xAt xs 6 :: xAt xs 7 :: xAt xs 8 :: xAt xs 9 :: xAt xs 10 :: xAt xs 11 :: xAt xs 12 :: xAt xs 13 :: xAt xs 14 :: xAt xs 15 :: xAt xs 16 :: xAt xs 17 :: xAt xs 18 :: xAt xs 19 :: xAt xs 20 :: xAt xs 21 :: xAt xs 22 :: xAt xs 23 :: xAt xs 24 :: xAt xs 25 :: xAt xs 26 :: xAt xs 27 :: xAt xs 28 :: xAt xs 29 :: xAt xs 30 :: xAt xs 31 :: xAt xs 32 :: xAt xs 33 :: xAt xs 34 :: []) ∧ j ≤ (overL (freshL [a, b, c, d, e] i)).length ∧ Sat E (R * rL 1 intC (.slice p L.length k) L * rL 1 intC (.slice q 5 kq) [a, b, c, d, e] * pkP g (freshL [a, b, c, d, e] (i + 1)) [a, b, c, d, e] * oL 3 1 intC (.slice pv (overL (freshL [a, b, c, d, e] i)).length kv) (overL (freshL [a, b, c, d, e] i))) w) (fun xs _ => (overL (freshL [a, b, c, d, e] i)).length - (intOf (xAt xs 2)).toNat) rfl (by rfl) ?_ ?_
              · exact ⟨0, rfl, by omega, hs⟩
              clear hs
              rintro xs w ⟨j, hxs, hj, hs⟩
              obtain ⟨D28, hD28⟩ : ∃ D, D = xAt xs := ⟨_, rfl⟩
              rw [← hD28] at hxs
              clear hD28
              subst hxs
              refine ⟨_, rfl, fun KL29 hKL29 => ?_⟩
              refine wp_seq_k (fun K30 hK30 => ?_)
              refine c_region ?_
              refine s_bool (r_cmp rfl rfl rfl rfl) rfl rfl (fun _ => by rfl) ?_
              intro c31 hc31
              refine s_nil ?_
              refine hK30 _ _ ?_
              refine wp_seq_k (fun K32 hK32 => ?_)
              cases c31
              case false =>
               replace hc31 := decF' hc31
               try dsimp only [List.length_cons, List.length_nil] at hc31
               first
               | (exfalso; first | omega | (cases hc31; done))
               | (
                 refine c_condF rfl ?_
                 refine wp_exit ?_
                 refine hK26 _ _ ?_
                 refine wp_seq_k (fun K33 hK33 => ?_)
                 replace hs := hs.drew
                 refine d_start (by kernel_rfl) ?_
                 refine d_pre [0, 1, 2, 4, 5, 6] (g := 16) (by kernel_rfl) (fun _ _ d _ _ h => by cases d <;> exact h) ?_
                 have hl1 : leftL (freshL [a, b, c, d, e] (i + 1)) 1 = max 0 (b - (i + 1)) := rfl
                 have hl3 : leftL (freshL [a, b, c, d, e] (i + 1)) 3 = max 0 (d - (i + 1)) := rfl
                 refine pVal rfl (fun w => (r_move rfl rfl)) ?_
                 refine pVal rfl (fun w => (r_nil rfl rfl)) ?_
                 refine pVal rfl (fun w => (r_field rfl rfl of37_0)) ?_
                 refine pVal rfl (fun w => (r_move rfl rfl)) ?_
                 refine pVal rfl (fun w => (r_move rfl rfl)) ?_
                 refine p_exQ rfl (r_idx (f := intC) rfl rfl rfl hs.rd (rfl) (rfl) Try.underlying22 in3 sz3) rfl rfl (fun _ => by rfl) ?_
                 intro ad35 he34
                 refine p_nil ?_
                 refine d_head 20 [(7, true), (8, true), (3, false), (9, true), (10, true), (11, true), (12, true), (13, true), (15, true), (16, true), (17, true), (18, true), (19, true), (14, false)] (Holds _ _) (g := 2) (by kernel_rfl) (fun _ _ d _ _ h => by cases d <;> exact h) (Holds.self hs) ?_
                 refine hVal rfl (fun w hS => (r_loadEl rfl rfl hS.rd he34 (by first | assumption | rfl) (fun _ => rfl) (ag3 _) (by rfl))) ?_
                 refine h_bool rfl rfl rfl (fun w hS => (r_cmp rfl rfl rfl rfl)) (fun _ => by rfl) ?_
                 intro c36 hc36
                 refine h_enter rfl (r_call rfl ent17 rfl) rfl ?_
                 refine pruns_use _ rfl hs (by (repeat (first | exact Cut.head _ _ | apply Cut.tail)); done) ?_
                 intro w hs
                 refine ⟨_, rfl, ah_bool (Holds.mono (Holds.self hs) (by repeat (first | exact Keeps.refl _ | apply Keeps.tail | apply Keeps.drop))) (fun _ => by rfl) ?_⟩
                 intro c37 hc37
                 cases c37
                 case false =>
                  replace hc37 := Eq.symm hc37
                  try (with_reducible first | replace hc37 := of_decide_eq_true hc37 | replace hc37 := of_decide_eq_false hc37)
                  try dsimp only [List.length_cons, List.length_nil] at hc37
                  first
                  | (exfalso; first | omega | (cases hc37; done) | (subst hc37; contradiction))
                  | (
                    cases c36
                    case false =>
                     replace hc36 := decF' hc36
                     try dsimp only [List.length_cons, List.length_nil] at hc36
                     first
                     | (exfalso; first | omega | (cases hc36; done))
                     | (
                       refine hVal rfl (fun w hS => (r_cmpB rfl rfl rfl Try.underlying4 rfl)) ?_
                       refine hVal rfl (fun w hS => (r_move rfl rfl)) ?_
                       refine hVal rfl (fun w hS => (r_move rfl rfl)) ?_
                       refine hVal rfl (fun w hS => (r_nil rfl rfl)) ?_
                       refine hVal rfl (fun w hS => (r_field rfl rfl of37_0)) ?_
                       refine hVal rfl (fun w hS => (r_move rfl rfl)) ?_
                       refine hVal rfl (fun w hS => (r_move rfl rfl)) ?_
                       refine h_exQ rfl (r_idx (f := intC) rfl rfl rfl hs.rd (rfl) (rfl) Try.underlying22 in3 sz3) rfl rfl (fun _ => by rfl) ?_
                       intro ad39 he38
                       refine hVal rfl (fun w hS => (r_loadEl rfl rfl hS.rd he38 (by first | assumption | rfl) (fun _ => rfl) (ag3 _) (by rfl))) ?_
                       refine h_bool rfl rfl rfl (fun w hS => (r_cmp rfl rfl rfl rfl)) (fun _ => by rfl) ?_
                       intro c40 hc40
                       refine h_enter rfl (r_call rfl ent17 rfl) rfl ?_
                       refine pruns_use _ rfl hs (by (repeat (first | exact Cut.head _ _ | apply Cut.tail)); done) ?_
                       intro w hs
                       refine ⟨_, rfl, ah_bool (Holds.mono (Holds.self hs) (by repeat (first | exact Keeps.refl _ | apply Keeps.tail | apply Keeps.drop))) (fun _ => by rfl) ?_⟩
                       intro c41 hc41
                       refine h_nil ?_
                       refine d_tail 20 (by kernel_rfl) ?_
                       cases c41
                       case false =>
                        replace hc41 := Eq.symm hc41
                        try (with_reducible first | replace hc41 := of_decide_eq_true hc41 | replace hc41 := of_decide_eq_false hc41)
                        try dsimp only [List.length_cons, List.length_nil] at hc41
                        first
                        | (exfalso; first | omega | (cases hc41; done) | (subst hc41; contradiction))
                        | (
                          cases c40
                          case false =>
                           replace hc40 := decF' hc40
                           try dsimp only [List.length_cons, List.length_nil] at hc40
                           first
                           | (exfalso; first | omega | (cases hc40; done))
                           | (
                             refine sVal (r_cmpB rfl rfl rfl Try.underlying4 rfl) ?_
                             refine sVal (r_pickF rfl rfl rfl) ?_
                             refine s_nil ?_
                             refine hK33 _ _ ?_
                             refine c_condF rfl ?_
                             refine wp_skip ?_
                             refine hK25 _ _ ?_
                             refine c_region ?_
                             refine sVal (r_move rfl rfl) ?_
                             refine sVal (r_ari rfl rfl rfl rfl (by first | exact wrapI (by omega) | rfl)) ?_
                             refine sVal (r_assign rfl rfl) ?_
                             refine s_nil ?_
                             refine hKL16 _ _ _ (by rfl) (by rfl) ?_ ?_
                             · exact ⟨i + 1, rfl, by omega, fin1 hs (by (repeat (first | exact Cut.head _ _ | apply Cut.tail)); done) (by repeat (first | exact Keeps.refl _ | apply Keeps.tail | apply Keeps.drop))⟩
                             · (show (d + 2).toNat - (i + 1 + 1).toNat < (d + 2).toNat - (i + 1).toNat; omega))
                          case true =>
                           replace hc40 := decT' hc40
                           try dsimp only [List.length_cons, List.length_nil] at hc40
                           first
                           | (exfalso; first | omega | (cases hc40; done))
                           | (
                             refine sVal (r_cmpB rfl rfl rfl Try.underlying4 rfl) ?_
                             refine sVal (r_pickF rfl rfl rfl) ?_
                             refine s_nil ?_
                             refine hK33 _ _ ?_
                             refine c_condT rfl ?_
                             refine wp_seq_k (fun K42 hK42 => ?_)
                             refine c_region ?_
                             refine sVal (r_assign rfl rfl) ?_
                             refine s_nil ?_
                             refine hK42 _ _ ?_
                             refine wp_ret ?_
                             refine f_ret (rs := [.tmp 2]) rfl (.tmp rfl .nil) rfl ?_
                             first | exact hk _ (fin0 hs (by repeat (first | exact Keeps.refl _ | apply Keeps.tail | apply Keeps.drop))) | (rw [show ((((overL (freshL [a, b, c, d, e] i)).length : Nat) : Int) == 0) = true by rw [hov]; rfl]; exact hk _ (fin0 hs (by repeat (first | exact Keeps.refl _ | apply Keeps.tail | apply Keeps.drop))))))
                       case true =>
                        replace hc41 := Eq.symm hc41
                        try (with_reducible first | replace hc41 := of_decide_eq_true hc41 | replace hc41 := of_decide_eq_false hc41)
                        try dsimp only [List.length_cons, List.length_nil] at hc41
                        first
                        | (exfalso; first | omega | (cases hc41; done) | (subst hc41; contradiction))
                        | (
                          cases c40
                          case false =>
                           replace hc40 := decF' hc40
                           try dsimp only [List.length_cons, List.length_nil] at hc40
                           first
                           | (exfalso; first | omega | (cases hc40; done))
                           | (
                             refine sVal (r_cmpB rfl rfl rfl Try.underlying4 rfl) ?_
                             refine sVal (r_pickF rfl rfl rfl) ?_
                             refine s_nil ?_
                             refine hK33 _ _ ?_
                             refine c_condT rfl ?_
                             refine wp_seq_k (fun K43 hK43 => ?_)
                             refine c_region ?_
                             refine sVal (r_assign rfl rfl) ?_
                             refine s_nil ?_
                             refine hK43 _ _ ?_
                             refine wp_ret ?_
                             refine f_ret (rs := [.tmp 2]) rfl (.tmp rfl .nil) rfl ?_
                             first | exact hk _ (fin0 hs (by repeat (first | exact Keeps.refl _ | apply Keeps.tail | apply Keeps.drop))) | (rw [show ((((overL (freshL [a, b, c, d, e] i)).length : Nat) : Int) == 0) = true by rw [hov]; rfl]; exact hk _ (fin0 hs (by repeat (first | exact Keeps.refl _ | apply Keeps.tail | apply Keeps.drop)))))
                          case true =>
                           replace hc40 := decT' hc40
                           try dsimp only [List.length_cons, List.length_nil] at hc40
                           first
                           | (exfalso; first | omega | (cases hc40; done))
                           | (
                             refine sVal (r_cmpB rfl rfl rfl Try.underlying4 rfl) ?_
                             refine sVal (r_pickF rfl rfl rfl) ?_
                             refine s_nil ?_
                             refine hK33 _ _ ?_
                             refine c_condF rfl ?_
                             refine wp_skip ?_
                             refine hK25 _ _ ?_
                             refine c_region ?_
                             refine sVal (r_move rfl rfl) ?_
                             refine sVal (r_ari rfl rfl rfl rfl (by first | exact wrapI (by omega) | rfl)) ?_
                             refine sVal (r_assign rfl rfl) ?_
                             refine s_nil ?_
                             refine hKL16 _ _ _ (by rfl) (by rfl) ?_ ?_
                             · exact ⟨i + 1, rfl, by omega, fin1 hs (by (repeat (first | exact Cut.head _ _ | apply Cut.tail)); done) (by repeat (first | exact Keeps.refl _ | apply Keeps.tail | apply Keeps.drop))⟩
                             · (show (d + 2).toNat - (i + 1 + 1).toNat < (d + 2).toNat - (i + 1).toNat; omega))))
                    case true =>
                     replace hc36 := decT' hc36
                     try dsimp only [List.length_cons, List.length_nil] at hc36
                     first
                     | (exfalso; first | omega | (cases hc36; done))
                     | (
                       refine hVal rfl (fun w hS => (r_cmpB rfl rfl rfl Try.underlying4 rfl)) ?_
                       refine hVal rfl (fun w hS => (r_move rfl rfl)) ?_
                       refine h_pass (d := 82) (by rfl) (by rfl) (want_no rfl rfl rfl rfl) (by rfl) ?_
                       refine h_pass (d := 83) (by rfl) (by rfl) (want_no rfl rfl rfl rfl) (by rfl) ?_
                       refine h_pass (d := 84) (by rfl) (by rfl) (want_no rfl rfl rfl rfl) (by rfl) ?_
                       refine h_pass (d := 86) (by rfl) (by rfl) (want_no rfl rfl rfl rfl) (by rfl) ?_
                       refine h_pass (d := 87) (by rfl) (by rfl) (want_no rfl rfl rfl rfl) (by rfl) ?_
                       refine h_pass (d := 88) (by rfl) (by rfl) (want_no rfl rfl rfl rfl) (by rfl) ?_
                       refine h_pass (d := 89) (by rfl) (by rfl) (want_no rfl rfl rfl rfl) (by rfl) ?_
                       refine h_pass (d := 90) (by rfl) (by rfl) (want_no rfl rfl rfl rfl) (by rfl) ?_
                       refine h_passE (d := 85) (by rfl) (by rfl) (want_no rfl rfl rfl rfl) (by assumption) (by rfl) ?_
                       refine h_nil ?_
                       refine d_tail 20 (by kernel_rfl) ?_
                       refine @s_pass _ _ _ _ _ _ _ _ 91 (by rfl) (want_no rfl rfl rfl rfl) (by rfl) ?_
                       refine sVal (r_pickT rfl rfl rfl) ?_
                       refine s_nil ?_
                       refine hK33 _ _ ?_
                       refine c_condT rfl ?_
                       refine wp_seq_k (fun K44 hK44 => ?_)
                       refine c_region ?_
                       refine sVal (r_assign rfl rfl) ?_
                       refine s_nil ?_
                       refine hK44 _ _ ?_
                       refine wp_ret ?_
                       refine f_ret (rs := [.tmp 2]) rfl (.tmp rfl .nil) rfl ?_
                       first | exact hk _ (fin0 hs (by repeat (first | exact Keeps.refl _ | apply Keeps.tail | apply Keeps.drop))) | (rw [show ((((overL (freshL [a, b, c, d, e] i)).length : Nat) : Int) == 0) = true by rw [hov]; rfl]; exact hk _ (fin0 hs (by repeat (first | exact Keeps.refl _ | apply Keeps.tail | apply Keeps.drop))))))
                 case true =>
                  replace hc37 := Eq.symm hc37
                  try (with_reducible first | replace hc37 := of_decide_eq_true hc37 | replace hc37 := of_decide_eq_false hc37)
                  try dsimp only [List.length_cons, List.length_nil] at hc37
                  first
                  | (exfalso; first | omega | (cases hc37; done) | (subst hc37; contradiction))
                  | (
                    cases c36
                    case false =>
                     replace hc36 := decF' hc36
                     try dsimp only [List.length_cons, List.length_nil] at hc36
                     first
                     | (exfalso; first | omega | (cases hc36; done))
                     | (
                       refine hVal rfl (fun w hS => (r_cmpB rfl rfl rfl Try.underlying4 rfl)) ?_
                       refine hVal rfl (fun w hS => (r_move rfl rfl)) ?_
                       refine h_pass (d := 82) (by rfl) (by rfl) (want_no rfl rfl rfl rfl) (by rfl) ?_
                       refine h_pass (d := 83) (by rfl) (by rfl) (want_no rfl rfl rfl rfl) (by rfl) ?_
                       refine h_pass (d := 84) (by rfl) (by rfl) (want_no rfl rfl rfl rfl) (by rfl) ?_
                       refine h_pass (d := 86) (by rfl) (by rfl) (want_no rfl rfl rfl rfl) (by rfl) ?_
                       refine h_pass (d := 87) (by rfl) (by rfl) (want_no rfl rfl rfl rfl) (by rfl) ?_
                       refine h_pass (d := 88) (by rfl) (by rfl) (want_no rfl rfl rfl rfl) (by rfl) ?_
                       refine h_pass (d := 89) (by rfl) (by rfl) (want_no rfl rfl rfl rfl) (by rfl) ?_
                       refine h_pass (d := 90) (by rfl) (by rfl) (want_no rfl rfl rfl rfl) (by rfl) ?_
                       refine h_passE (d := 85) (by rfl) (by rfl) (want_no rfl rfl rfl rfl) (by assumption) (by rfl) ?_
                       refine h_nil ?_
                       refine d_tail 20 (by kernel_rfl) ?_
                       refine @s_pass _ _ _ _ _ _ _ _ 91 (by rfl) (want_no rfl rfl rfl rfl) (by rfl) ?_
                       refine sVal (r_pickT rfl rfl rfl) ?_
                       refine s_nil ?_
                       refine hK33 _ _ ?_
                       refine c_condT rfl ?_
                       refine wp_seq_k (fun K45 hK45 => ?_)
                       refine c_region ?_
                       refine sVal (r_assign rfl rfl) ?_
                       refine s_nil ?_
                       refine hK45 _ _ ?_
                       refine wp_ret ?_
                       refine f_ret (rs := [.tmp 2]) rfl (.tmp rfl .nil) rfl ?_
                       first | exact hk _ (fin0 hs (by repeat (first | exact Keeps.refl _ | apply Keeps.tail | apply Keeps.drop))) | (rw [show ((((overL (freshL [a, b, c, d, e] i)).length : Nat) : Int) == 0) = true by rw [hov]; rfl]; exact hk _ (fin0 hs (by repeat (first | exact Keeps.refl _ | apply Keeps.tail | apply Keeps.drop)))))
                    case true =>
                     replace hc36 := decT' hc36
                     try dsimp only [List.length_cons, List.length_nil] at hc36
                     first
                     | (exfalso; first | omega | (cases hc36; done))
                     | (
                       refine hVal rfl (fun w hS => (r_cmpB rfl rfl rfl Try.underlying4 rfl)) ?_
                       refine hVal rfl (fun w hS => (r_move rfl rfl)) ?_
                       refine hVal rfl (fun w hS => (r_move rfl rfl)) ?_
                       refine hVal rfl (fun w hS => (r_nil rfl rfl)) ?_
                       refine hVal rfl (fun w hS => (r_field rfl rfl of37_0)) ?_
                       refine hVal rfl (fun w hS => (r_move rfl rfl)) ?_
                       refine hVal rfl (fun w hS => (r_move rfl rfl)) ?_
                       refine h_exQ rfl (r_idx (f := intC) rfl rfl rfl hs.rd (rfl) (rfl) Try.underlying22 in3 sz3) rfl rfl (fun _ => by rfl) ?_
                       intro ad47 he46
                       refine hVal rfl (fun w hS => (r_loadEl rfl rfl hS.rd he46 (by first | assumption | rfl) (fun _ => rfl) (ag3 _) (by rfl))) ?_
                       refine h_bool rfl rfl rfl (fun w hS => (r_cmp rfl rfl rfl rfl)) (fun _ => by rfl) ?_
                       intro c48 hc48
                       refine h_enter rfl (r_call rfl ent17 rfl) rfl ?_
                       refine pruns_use _ rfl hs (by (repeat (first | exact Cut.head _ _ | apply Cut.tail)); done) ?_
                       intro w hs
                       refine ⟨_, rfl, ah_bool (Holds.mono (Holds.self hs) (by repeat (first | exact Keeps.refl _ | apply Keeps.tail | apply Keeps.drop))) (fun _ => by rfl) ?_⟩
                       intro c49 hc49
                       refine h_nil ?_
                       refine d_tail 20 (by kernel_rfl) ?_
                       cases c49
                       case false =>
                        replace hc49 := Eq.symm hc49
                        try (with_reducible first | replace hc49 := of_decide_eq_true hc49 | replace hc49 := of_decide_eq_false hc49)
                        try dsimp only [List.length_cons, List.length_nil] at hc49
                        first
                        | (exfalso; first | omega | (cases hc49; done) | (subst hc49; contradiction))
                        | (
                          cases c48
                          case false =>
                           replace hc48 := decF' hc48
                           try dsimp only [List.length_cons, List.length_nil] at hc48
                           first
                           | (exfalso; first | omega | (cases hc48; done))
                           | (
                             refine sVal (r_cmpB rfl rfl rfl Try.underlying4 rfl) ?_
                             refine sVal (r_pickF rfl rfl rfl) ?_
                             refine s_nil ?_
                             refine hK33 _ _ ?_
                             refine c_condF rfl ?_
                             refine wp_skip ?_
                             refine hK25 _ _ ?_
                             refine c_region ?_
                             refine sVal (r_move rfl rfl) ?_
                             refine sVal (r_ari rfl rfl rfl rfl (by first | exact wrapI (by omega) | rfl)) ?_
                             refine sVal (r_assign rfl rfl) ?_
                             refine s_nil ?_
                             refine hKL16 _ _ _ (by rfl) (by rfl) ?_ ?_
                             · exact ⟨i + 1, rfl, by omega, fin1 hs (by (repeat (first | exact Cut.head _ _ | apply Cut.tail)); done) (by repeat (first | exact Keeps.refl _ | apply Keeps.tail | apply Keeps.drop))⟩
                             · (show (d + 2).toNat - (i + 1 + 1).toNat < (d + 2).toNat - (i + 1).toNat; omega))
                          case true =>
                           replace hc48 := decT' hc48
                           try dsimp only [List.length_cons, List.length_nil] at hc48
                           first
                           | (exfalso; first | omega | (cases hc48; done))
                           | (
                             refine sVal (r_cmpB rfl rfl rfl Try.underlying4 rfl) ?_
                             refine sVal (r_pickF rfl rfl rfl) ?_
                             refine s_nil ?_
                             refine hK33 _ _ ?_
                             refine c_condT rfl ?_
                             refine wp_seq_k (fun K50 hK50 => ?_)
                             refine c_region ?_
                             refine sVal (r_assign rfl rfl) ?_
                             refine s_nil ?_
                             refine hK50 _ _ ?_
                             refine wp_ret ?_
                             refine f_ret (rs := [.tmp 2]) rfl (.tmp rfl .nil) rfl ?_
                             first | exact hk _ (fin0 hs (by repeat (first | exact Keeps.refl _ | apply Keeps.tail | apply Keeps.drop))) | (rw [show ((((overL (freshL [a, b, c, d, e] i)).length : Nat) : Int) == 0) = true by rw [hov]; rfl]; exact hk _ (fin0 hs (by repeat (first | exact Keeps.refl _ | apply Keeps.tail | apply Keeps.drop))))))
                       case true =>
                        replace hc49 := Eq.symm hc49
                        try (with_reducible first | replace hc49 := of_decide_eq_true hc49 | replace hc49 := of_decide_eq_false hc49)
                        try dsimp only [List.length_cons, List.length_nil] at hc49
                        first
                        | (exfalso; first | omega | (cases hc49; done) | (subst hc49; contradiction))
                        | (
                          cases c48
                          case false =>
                           replace hc48 := decF' hc48
                           try dsimp only [List.length_cons, List.length_nil] at hc48
                           first
                           | (exfalso; first | omega | (cases hc48; done))
                           | (
                             refine sVal (r_cmpB rfl rfl rfl Try.underlying4 rfl) ?_
                             refine sVal (r_pickF rfl rfl rfl) ?_
                             refine s_nil ?_
                             refine hK33 _ _ ?_
                             refine c_condT rfl ?_
                             refine wp_seq_k (fun K51 hK51 => ?_)
                             refine c_region ?_
                             refine sVal (r_assign rfl rfl) ?_
                             refine s_nil ?_
                             refine hK51 _ _ ?_
                             refine wp_ret ?_
                             refine f_ret (rs := [.tmp 2]) rfl (.tmp rfl .nil) rfl ?_
                             first | exact hk _ (fin0 hs (by repeat (first | exact Keeps.refl _ | apply Keeps.tail | apply Keeps.drop))) | (rw [show ((((overL (freshL [a, b, c, d, e] i)).length : Nat) : Int) == 0) = true by rw [hov]; rfl]; exact hk _ (fin0 hs (by repeat (first | exact Keeps.refl _ | apply Keeps.tail | apply Keeps.drop)))))
                          case true =>
                           replace hc48 := decT' hc48
                           try dsimp only [List.length_cons, List.length_nil] at hc48
                           first
                           | (exfalso; first | omega | (cases hc48; done))
                           | (
                             refine sVal (r_cmpB rfl rfl rfl Try.underlying4 rfl) ?_
                             refine sVal (r_pickF rfl rfl rfl) ?_
                             refine s_nil ?_
                             refine hK33 _ _ ?_
                             refine c_condF rfl ?_
                             refine wp_skip ?_
                             refine hK25 _ _ ?_
                             refine c_region ?_
                             refine sVal (r_move rfl rfl) ?_
                             refine sVal (r_ari rfl rfl rfl rfl (by first | exact wrapI (by omega) | rfl)) ?_
                             refine sVal (r_assign rfl rfl) ?_
                             refine s_nil ?_
                             refine hKL16 _ _ _ (by rfl) (by rfl) ?_ ?_
                             · exact ⟨i + 1, rfl, by omega, fin1 hs (by (repeat (first | exact Cut.head _ _ | apply Cut.tail)); done) (by repeat (first | exact Keeps.refl _ | apply Keeps.tail | apply Keeps.drop))⟩
                             · (show (d + 2).toNat - (i + 1 + 1).toNat < (d + 2).toNat - (i + 1).toNat; omega))))))
              case true =>
               replace hc31 := decT' hc31
               try dsimp only [List.length_cons, List.length_nil] at hc31
               first
               | (exfalso; first | omega | (cases hc31; done))
               | (
                 refine c_condT rfl ?_
                 refine wp_skip ?_
                 refine hK32 _ _ ?_
                 refine wp_seq_k (fun K52 hK52 => ?_)
                 refine wp_block ?_
                 refine wp_seq_k (fun K53 hK53 => ?_)
                 refine c_region ?_
                 have hjl := over_len (l := freshL [a, b, c, d, e] i) rfl
                 obtain ⟨t, ht⟩ : ∃ t, (overL (freshL [a, b, c, d, e] i))[j]? = some t := ⟨_, List.getElem?_eq_getElem (by omega)⟩
                 have htm := fresh_over hT i (by omega) (List.mem_of_getElem? ht)
                 replace htm : (t = 1 ∧ i + 1 = b) ∨ (t = 3 ∧ i + 1 = d) := htm
                 refine s_exQ (r_idx (f := intC) rfl rfl rfl hs.rd (rfl) (ht) Try.underlying22 in3 sz3) rfl rfl (fun _ => by rfl) ?_
                 intro ad55 he54
                 refine sVal (r_loadEl rfl rfl hs.rd he54 (ht) (fun _ => rfl) (ag3 _) (by rfl)) ?_
                 refine sVal (r_assign rfl rfl) ?_
                 refine s_nil ?_
                 refine hK53 _ _ ?_
                 refine wp_seq_k (fun K56 hK56 => ?_)
                 refine c_region ?_
                 refine sVal (r_move rfl rfl) ?_
                 refine s_bool (r_cmp rfl rfl rfl rfl) rfl rfl (fun _ => by rfl) ?_
                 intro c57 hc57
                 refine sVal (r_move rfl rfl) ?_
                 cases c57
                 case false =>
                  replace hc57 := eqF hc57
                  try dsimp only [List.length_cons, List.length_nil] at hc57
                  first
                  | (exfalso; first | omega | (cases hc57; done))
                  | (
                    refine @s_pass _ _ _ _ _ _ _ _ 45 (by rfl) (want_no rfl rfl rfl rfl) (by rfl) ?_
                    refine @s_pass _ _ _ _ _ _ _ _ 46 (by rfl) (want_no rfl rfl rfl rfl) (by rfl) ?_
                    refine @s_pass _ _ _ _ _ _ _ _ 47 (by rfl) (want_no rfl rfl rfl rfl) (by rfl) ?_
                    refine @s_pass _ _ _ _ _ _ _ _ 48 (by rfl) (want_no rfl rfl rfl rfl) (by rfl) ?_
                    refine @s_pass _ _ _ _ _ _ _ _ 49 (by rfl) (want_no rfl rfl rfl rfl) (by rfl) ?_
                    refine sVal (r_pickF rfl rfl rfl) ?_
                    refine sVal (r_move rfl rfl) ?_
                    refine sVal (r_move rfl rfl) ?_
                    refine s_bool (r_cmp rfl rfl rfl rfl) rfl rfl (fun _ => by rfl) ?_
                    intro c58 hc58
                    refine sVal (r_move rfl rfl) ?_
                    cases c58
                    case false =>
                     replace hc58 := eqF hc58
                     try dsimp only [List.length_cons, List.length_nil] at hc58
                     first
                     | (exfalso; first | omega | (cases hc58; done))
                     | (
                       refine @s_pass _ _ _ _ _ _ _ _ 55 (by rfl) (want_no rfl rfl rfl rfl) (by rfl) ?_
                       refine @s_pass _ _ _ _ _ _ _ _ 56 (by rfl) (want_no rfl rfl rfl rfl) (by rfl) ?_
                       refine @s_pass _ _ _ _ _ _ _ _ 57 (by rfl) (want_no rfl rfl rfl rfl) (by rfl) ?_
                       refine @s_pass _ _ _ _ _ _ _ _ 58 (by rfl) (want_no rfl rfl rfl rfl) (by rfl) ?_
                       refine @s_pass _ _ _ _ _ _ _ _ 59 (by rfl) (want_no rfl rfl rfl rfl) (by rfl) ?_
                       refine sVal (r_pickF rfl rfl rfl) ?_
                       refine sVal (r_pickF rfl rfl rfl) ?_
                       refine sVal (r_move rfl rfl) ?_
                       refine sVal (r_move rfl rfl) ?_
                       refine s_bool (r_cmp rfl rfl rfl rfl) rfl rfl (fun _ => by rfl) ?_
                       intro c59 hc59
                       refine sVal (r_move rfl rfl) ?_
                       cases c59
                       case false =>
                        replace hc59 := neF hc59
                        try dsimp only [List.length_cons, List.length_nil] at hc59
                        first
                        | (exfalso; first | omega | (cases hc59; done))
                        | (
                          refine @s_pass _ _ _ _ _ _ _ _ 66 (by rfl) (want_no rfl rfl rfl rfl) (by rfl) ?_
                          refine @s_pass _ _ _ _ _ _ _ _ 67 (by rfl) (want_no rfl rfl rfl rfl) (by rfl) ?_
                          refine sVal (r_pickF rfl rfl rfl) ?_
                          refine sVal (r_pickF rfl rfl rfl) ?_
                          refine s_nil ?_
                          refine hK56 _ _ ?_
                          refine c_condF rfl ?_
                          refine wp_skip ?_
                          refine hK52 _ _ ?_
                          refine c_region ?_
                          refine sVal (r_ari rfl rfl rfl rfl (by first | exact wrapI (by omega) | rfl)) ?_
                          refine sVal (r_move rfl rfl) ?_
                          refine s_nil ?_
                          refine hKL29 _ _ _ (by rfl) (by rfl) ?_ ?_
                          · exact ⟨j + 1, rfl, by omega, hs⟩
                          · (show _ < _; simp [intOf, xAt]; omega))
                       case true =>
                        replace hc59 := neT hc59
                        try dsimp only [List.length_cons, List.length_nil] at hc59
                        first
                        | (exfalso; first | omega | (cases hc59; done))
                        | (
                          refine sVal (r_move rfl rfl) ?_
                          refine s_bool (r_cmp rfl rfl rfl rfl) rfl rfl (fun _ => by rfl) ?_
                          intro c60 hc60
                          refine sVal (r_pickT rfl rfl rfl) ?_
                          refine sVal (r_pickF rfl rfl rfl) ?_
                          refine s_nil ?_
                          refine hK56 _ _ ?_
                          cases c60
                          case false =>
                           replace hc60 := neF hc60
                           try dsimp only [List.length_cons, List.length_nil] at hc60
                           first
                           | (exfalso; first | omega | (cases hc60; done))
                           | (
                             refine c_condF rfl ?_
                             refine wp_skip ?_
                             refine hK52 _ _ ?_
                             refine c_region ?_
                             refine sVal (r_ari rfl rfl rfl rfl (by first | exact wrapI (by omega) | rfl)) ?_
                             refine sVal (r_move rfl rfl) ?_
                             refine s_nil ?_
                             refine hKL29 _ _ _ (by rfl) (by rfl) ?_ ?_
                             · exact ⟨j + 1, rfl, by omega, hs⟩
                             · (show _ < _; simp [intOf, xAt]; omega))
                          case true =>
                           replace hc60 := neT hc60
                           try dsimp only [List.length_cons, List.length_nil] at hc60
                           first
                           | (exfalso; first | omega | (cases hc60; done))
                           | (
                             refine c_condT rfl ?_
                             refine wp_seq_k (fun K61 hK61 => ?_)
                             refine c_region ?_
                             refine sVal (r_assign rfl rfl) ?_
                             refine s_nil ?_
                             refine hK61 _ _ ?_
                             refine wp_ret ?_
                             refine f_ret (rs := [.tmp 2]) rfl (.tmp rfl .nil) rfl ?_
                             first | exact hk _ (fin0 hs (by repeat (first | exact Keeps.refl _ | apply Keeps.tail | apply Keeps.drop))) | (rw [show ((((overL (freshL [a, b, c, d, e] i)).length : Nat) : Int) == 0) = true by rw [hov]; rfl]; exact hk _ (fin0 hs (by repeat (first | exact Keeps.refl _ | apply Keeps.tail | apply Keeps.drop)))))))
                    case true =>
                     replace hc58 := eqT hc58
                     try dsimp only [List.length_cons, List.length_nil] at hc58
                     first
                     | (exfalso; first | omega | (cases hc58; done))
                     | (
                       refine sVal (r_move rfl rfl) ?_
                       refine sVal (r_move rfl rfl) ?_
                       refine s_exQ (r_idx (f := intC) rfl rfl rfl hs.rd (rfl) (rfl) Try.underlying22 in3 sz3) rfl rfl (fun _ => by rfl) ?_
                       intro ad63 he62
                       refine sVal (r_loadEl rfl rfl hs.rd he62 (by first | assumption | rfl) (fun _ => rfl) (ag3 _) (by rfl)) ?_
                       refine s_bool (r_cmp rfl rfl rfl rfl) rfl rfl (fun _ => by rfl) ?_
                       intro c64 hc64
                       refine sVal (r_pickT rfl rfl rfl) ?_
                       refine sVal (r_pickF rfl rfl rfl) ?_
                       refine sVal (r_move rfl rfl) ?_
                       cases c64
                       case false =>
                        replace hc64 := neF hc64
                        try dsimp only [List.length_cons, List.length_nil] at hc64
                        first
                        | (exfalso; first | omega | (cases hc64; done))
                        | (
                          refine sVal (r_move rfl rfl) ?_
                          refine s_bool (r_cmp rfl rfl rfl rfl) rfl rfl (fun _ => by rfl) ?_
                          intro c65 hc65
                          refine sVal (r_move rfl rfl) ?_
                          cases c65
                          case false =>
                           replace hc65 := neF hc65
                           try dsimp only [List.length_cons, List.length_nil] at hc65
                           first
                           | (exfalso; first | omega | (cases hc65; done))
                           | (
                             refine @s_pass _ _ _ _ _ _ _ _ 66 (by rfl) (want_no rfl rfl rfl rfl) (by rfl) ?_
                             refine @s_pass _ _ _ _ _ _ _ _ 67 (by rfl) (want_no rfl rfl rfl rfl) (by rfl) ?_
                             refine sVal (r_pickF rfl rfl rfl) ?_
                             refine sVal (r_pickF rfl rfl rfl) ?_
                             refine s_nil ?_
                             refine hK56 _ _ ?_
                             refine c_condF rfl ?_
                             refine wp_skip ?_
                             refine hK52 _ _ ?_
                             refine c_region ?_
                             refine sVal (r_ari rfl rfl rfl rfl (by first | exact wrapI (by omega) | rfl)) ?_
                             refine sVal (r_move rfl rfl) ?_
                             refine s_nil ?_
                             refine hKL29 _ _ _ (by rfl) (by rfl) ?_ ?_
                             · exact ⟨j + 1, rfl, by omega, hs⟩
                             · (show _ < _; simp [intOf, xAt]; omega))
                          case true =>
                           replace hc65 := neT hc65
                           try dsimp only [List.length_cons, List.length_nil] at hc65
                           first
                           | (exfalso; first | omega | (cases hc65; done))
                           | (
                             refine sVal (r_move rfl rfl) ?_
                             refine s_bool (r_cmp rfl rfl rfl rfl) rfl rfl (fun _ => by rfl) ?_
                             intro c66 hc66
                             refine sVal (r_pickT rfl rfl rfl) ?_
                             refine sVal (r_pickF rfl rfl rfl) ?_
                             refine s_nil ?_
                             refine hK56 _ _ ?_
                             cases c66
                             case false =>
                              replace hc66 := neF hc66
                              try dsimp only [List.length_cons, List.length_nil] at hc66
                              first
                              | (exfalso; first | omega | (cases hc66; done))
                              | (
                                refine c_condF rfl ?_
                                refine wp_skip ?_
                                refine hK52 _ _ ?_
                                refine c_region ?_
                                refine sVal (r_ari rfl rfl rfl rfl (by first | exact wrapI (by omega) | rfl)) ?_
                                refine sVal (r_move rfl rfl) ?_
                                refine s_nil ?_
                                refine hKL29 _ _ _ (by rfl) (by rfl) ?_ ?_
                                · exact ⟨j + 1, rfl, by omega, hs⟩
                                · (show _ < _; simp [intOf, xAt]; omega))
                             case true =>
                              replace hc66 := neT hc66
                              try dsimp only [List.length_cons, List.length_nil] at hc66
                              first
                              | (exfalso; first | omega | (cases hc66; done))
                              | (
                                refine c_condT rfl ?_
                                refine wp_seq_k (fun K67 hK67 => ?_)
                                refine c_region ?_
                                refine sVal (r_assign rfl rfl) ?_
                                refine s_nil ?_
                                refine hK67 _ _ ?_
                                refine wp_ret ?_
                                refine f_ret (rs := [.tmp 2]) rfl (.tmp rfl .nil) rfl ?_
                                first | exact hk _ (fin0 hs (by repeat (first | exact Keeps.refl _ | apply Keeps.tail | apply Keeps.drop))) | (rw [show ((((overL (freshL [a, b, c, d, e] i)).length : Nat) : Int) == 0) = true by rw [hov]; rfl]; exact hk _ (fin0 hs (by repeat (first | exact Keeps.refl _ | apply Keeps.tail | apply Keeps.drop)))))))
                       case true =>
                        replace hc64 := neT hc64
                        try dsimp only [List.length_cons, List.length_nil] at hc64
                        first
                        | (exfalso; first | omega | (cases hc64; done))
                        | (
                          refine @s_pass _ _ _ _ _ _ _ _ 63 (by rfl) (want_no rfl rfl rfl rfl) (by rfl) ?_
                          refine @s_pass _ _ _ _ _ _ _ _ 64 (by rfl) (want_no rfl rfl rfl rfl) (by rfl) ?_
                          refine @s_pass _ _ _ _ _ _ _ _ 65 (by rfl) (want_no rfl rfl rfl rfl) (by rfl) ?_
                          refine @s_pass _ _ _ _ _ _ _ _ 66 (by rfl) (want_ud rfl rfl rfl) (by rfl) ?_
                          refine @s_pass _ _ _ _ _ _ _ _ 67 (by rfl) (want_ud rfl rfl rfl) (by rfl) ?_
                          refine @s_pass _ _ _ _ _ _ _ _ 68 (by rfl) (want_no rfl rfl rfl rfl) (by rfl) ?_
                          refine sVal (r_pickT rfl rfl rfl) ?_
                          refine s_nil ?_
                          refine hK56 _ _ ?_
                          refine c_condT rfl ?_
                          refine wp_seq_k (fun K68 hK68 => ?_)
                          refine c_region ?_
                          refine sVal (r_assign rfl rfl) ?_
                          refine s_nil ?_
                          refine hK68 _ _ ?_
                          refine wp_ret ?_
                          refine f_ret (rs := [.tmp 2]) rfl (.tmp rfl .nil) rfl ?_
                          first | exact hk _ (fin0 hs (by repeat (first | exact Keeps.refl _ | apply Keeps.tail | apply Keeps.drop))) | (rw [show ((((overL (freshL [a, b, c, d, e] i)).length : Nat) : Int) == 0) = true by rw [hov]; rfl]; exact hk _ (fin0 hs (by repeat (first | exact Keeps.refl _ | apply Keeps.tail | apply Keeps.drop)))))))
                 case true =>
                  replace hc57 := eqT hc57
                  try dsimp only [List.length_cons, List.length_nil] at hc57
                  first
                  | (exfalso; first | omega | (cases hc57; done))
                  | (
                    refine sVal (r_move rfl rfl) ?_
                    refine sVal (r_move rfl rfl) ?_
                    refine s_exQ (r_idx (f := intC) rfl rfl rfl hs.rd (rfl) (rfl) Try.underlying22 in3 sz3) rfl rfl (fun _ => by rfl) ?_
                    intro ad70 he69
                    refine sVal (r_loadEl rfl rfl hs.rd he69 (by first | assumption | rfl) (fun _ => rfl) (ag3 _) (by rfl)) ?_
                    refine s_bool (r_cmp rfl rfl rfl rfl) rfl rfl (fun _ => by rfl) ?_
                    intro c71 hc71
                    refine sVal (r_pickT rfl rfl rfl) ?_
                    refine sVal (r_move rfl rfl) ?_
                    cases c71
                    case false =>
                     replace hc71 := neF hc71
                     try dsimp only [List.length_cons, List.length_nil] at hc71
                     first
                     | (exfalso; first | omega | (cases hc71; done))
                     | (
                       refine sVal (r_move rfl rfl) ?_
                       refine s_bool (r_cmp rfl rfl rfl rfl) rfl rfl (fun _ => by rfl) ?_
                       intro c72 hc72
                       refine sVal (r_move rfl rfl) ?_
                       cases c72
                       case false =>
                        replace hc72 := eqF hc72
                        try dsimp only [List.length_cons, List.length_nil] at hc72
                        first
                        | (exfalso; first | omega | (cases hc72; done))
                        | (
                          refine @s_pass _ _ _ _ _ _ _ _ 55 (by rfl) (want_no rfl rfl rfl rfl) (by rfl) ?_
                          refine @s_pass _ _ _ _ _ _ _ _ 56 (by rfl) (want_no rfl rfl rfl rfl) (by rfl) ?_
                          refine @s_pass _ _ _ _ _ _ _ _ 57 (by rfl) (want_no rfl rfl rfl rfl) (by rfl) ?_
                          refine @s_pass _ _ _ _ _ _ _ _ 58 (by rfl) (want_no rfl rfl rfl rfl) (by rfl) ?_
                          refine @s_pass _ _ _ _ _ _ _ _ 59 (by rfl) (want_no rfl rfl rfl rfl) (by rfl) ?_
                          refine sVal (r_pickF rfl rfl rfl) ?_
                          refine sVal (r_pickF rfl rfl rfl) ?_
                          refine sVal (r_move rfl rfl) ?_
                          refine sVal (r_move rfl rfl) ?_
                          refine s_bool (r_cmp rfl rfl rfl rfl) rfl rfl (fun _ => by rfl) ?_
                          intro c73 hc73
                          refine sVal (r_move rfl rfl) ?_
                          cases c73
                          case false =>
                           replace hc73 := neF hc73
                           try dsimp only [List.length_cons, List.length_nil] at hc73
                           first
                           | (exfalso; first | omega | (cases hc73; done))
                           | (
                             refine @s_pass _ _ _ _ _ _ _ _ 66 (by rfl) (want_no rfl rfl rfl rfl) (by rfl) ?_
                             refine @s_pass _ _ _ _ _ _ _ _ 67 (by rfl) (want_no rfl rfl rfl rfl) (by rfl) ?_
                             refine sVal (r_pickF rfl rfl rfl) ?_
                             refine sVal (r_pickF rfl rfl rfl) ?_
                             refine s_nil ?_
                             refine hK56 _ _ ?_
                             refine c_condF rfl ?_
                             refine wp_skip ?_
                             refine hK52 _ _ ?_
                             refine c_region ?_
                             refine sVal (r_ari rfl rfl rfl rfl (by first | exact wrapI (by omega) | rfl)) ?_
                             refine sVal (r_move rfl rfl) ?_
                             refine s_nil ?_
                             refine hKL29 _ _ _ (by rfl) (by rfl) ?_ ?_
                             · exact ⟨j + 1, rfl, by omega, hs⟩
                             · (show _ < _; simp [intOf, xAt]; omega))
                          case true =>
                           replace hc73 := neT hc73
                           try dsimp only [List.length_cons, List.length_nil] at hc73
                           first
                           | (exfalso; first | omega | (cases hc73; done))
                           | (
                             refine sVal (r_move rfl rfl) ?_
                             refine s_bool (r_cmp rfl rfl rfl rfl) rfl rfl (fun _ => by rfl) ?_
                             intro c74 hc74
                             refine sVal (r_pickT rfl rfl rfl) ?_
                             refine sVal (r_pickF rfl rfl rfl) ?_
                             refine s_nil ?_
                             refine hK56 _ _ ?_
                             cases c74
                             case false =>
                              replace hc74 := neF hc74
                              try dsimp only [List.length_cons, List.length_nil] at hc74
                              first
                              | (exfalso; first | omega | (cases hc74; done))
                              | (
                                refine c_condF rfl ?_
                                refine wp_skip ?_
                                refine hK52 _ _ ?_
                                refine c_region ?_
                                refine sVal (r_ari rfl rfl rfl rfl (by first | exact wrapI (by omega) | rfl)) ?_
                                refine sVal (r_move rfl rfl) ?_
                                refine s_nil ?_
                                refine hKL29 _ _ _ (by rfl) (by rfl) ?_ ?_
                                · exact ⟨j + 1, rfl, by omega, hs⟩
                                · (show _ < _; simp [intOf, xAt]; omega))
                             case true =>
                              replace hc74 := neT hc74
                              try dsimp only [List.length_cons, List.length_nil] at hc74
                              first
                              | (exfalso; first | omega | (cases hc74; done))
                              | (
                                refine c_condT rfl ?_
                                refine wp_seq_k (fun K75 hK75 => ?_)
                                refine c_region ?_
                                refine sVal (r_assign rfl rfl) ?_
                                refine s_nil ?_
                                refine hK75 _ _ ?_
                                refine wp_ret ?_
                                refine f_ret (rs := [.tmp 2]) rfl (.tmp rfl .nil) rfl ?_
                                first | exact hk _ (fin0 hs (by repeat (first | exact Keeps.refl _ | apply Keeps.tail | apply Keeps.drop))) | (rw [show ((((overL (freshL [a, b, c, d, e] i)).length : Nat) : Int) == 0) = true by rw [hov]; rfl]; exact hk _ (fin0 hs (by repeat (first | exact Keeps.refl _ | apply Keeps.tail | apply Keeps.drop)))))))
                       case true =>
                        replace hc72 := eqT hc72
                        try dsimp only [List.length_cons, List.length_nil] at hc72
                        first
                        | (exfalso; first | omega | (cases hc72; done))
                        | (
                          refine sVal (r_move rfl rfl) ?_
                          refine sVal (r_move rfl rfl) ?_
                          refine s_exQ (r_idx (f := intC) rfl rfl rfl hs.rd (rfl) (rfl) Try.underlying22 in3 sz3) rfl rfl (fun _ => by rfl) ?_
                          intro ad77 he76
                          refine sVal (r_loadEl rfl rfl hs.rd he76 (by first | assumption | rfl) (fun _ => rfl) (ag3 _) (by rfl)) ?_
                          refine s_bool (r_cmp rfl rfl rfl rfl) rfl rfl (fun _ => by rfl) ?_
                          intro c78 hc78
                          refine sVal (r_pickT rfl rfl rfl) ?_
                          refine sVal (r_pickF rfl rfl rfl) ?_
                          refine sVal (r_move rfl rfl) ?_
                          cases c78
                          case false =>
                           replace hc78 := neF hc78
                           try dsimp only [List.length_cons, List.length_nil] at hc78
                           first
                           | (exfalso; first | omega | (cases hc78; done))
                           | (
                             refine sVal (r_move rfl rfl) ?_
                             refine s_bool (r_cmp rfl rfl rfl rfl) rfl rfl (fun _ => by rfl) ?_
                             intro c79 hc79
                             refine sVal (r_move rfl rfl) ?_
                             cases c79
                             case false =>
                              replace hc79 := neF hc79
                              try dsimp only [List.length_cons, List.length_nil] at hc79
                              first
                              | (exfalso; first | omega | (cases hc79; done))
                              | (
                                refine @s_pass _ _ _ _ _ _ _ _ 66 (by rfl) (want_no rfl rfl rfl rfl) (by rfl) ?_
                                refine @s_pass _ _ _ _ _ _ _ _ 67 (by rfl) (want_no rfl rfl rfl rfl) (by rfl) ?_
                                refine sVal (r_pickF rfl rfl rfl) ?_
                                refine sVal (r_pickF rfl rfl rfl) ?_
                                refine s_nil ?_
                                refine hK56 _ _ ?_
                                refine c_condF rfl ?_
                                refine wp_skip ?_
                                refine hK52 _ _ ?_
                                refine c_region ?_
                                refine sVal (r_ari rfl rfl rfl rfl (by first | exact wrapI (by omega) | rfl)) ?_
                                refine sVal (r_move rfl rfl) ?_
                                refine s_nil ?_
                                refine hKL29 _ _ _ (by rfl) (by rfl) ?_ ?_
                                · exact ⟨j + 1, rfl, by omega, hs⟩
                                · (show _ < _; simp [intOf, xAt]; omega))
                             case true =>
                              replace hc79 := neT hc79
                              try dsimp only [List.length_cons, List.length_nil] at hc79
                              first
                              | (exfalso; first | omega | (cases hc79; done))
                              | (
                                refine sVal (r_move rfl rfl) ?_
                                refine s_bool (r_cmp rfl rfl rfl rfl) rfl rfl (fun _ => by rfl) ?_
                                intro c80 hc80
                                refine sVal (r_pickT rfl rfl rfl) ?_
                                refine sVal (r_pickF rfl rfl rfl) ?_
                                refine s_nil ?_
                                refine hK56 _ _ ?_
                                cases c80
                                case false =>
                                 replace hc80 := neF hc80
                                 try dsimp only [List.length_cons, List.length_nil] at hc80
                                 first
                                 | (exfalso; first | omega | (cases hc80; done))
                                 | (
                                   refine c_condF rfl ?_
                                   refine wp_skip ?_
                                   refine hK52 _ _ ?_
                                   refine c_region ?_
                                   refine sVal (r_ari rfl rfl rfl rfl (by first | exact wrapI (by omega) | rfl)) ?_
                                   refine sVal (r_move rfl rfl) ?_
                                   refine s_nil ?_
                                   refine hKL29 _ _ _ (by rfl) (by rfl) ?_ ?_
                                   · exact ⟨j + 1, rfl, by omega, hs⟩
                                   · (show _ < _; simp [intOf, xAt]; omega))
                                case true =>
                                 replace hc80 := neT hc80
                                 try dsimp only [List.length_cons, List.length_nil] at hc80
                                 first
                                 | (exfalso; first | omega | (cases hc80; done))
                                 | (
                                   refine c_condT rfl ?_
                                   refine wp_seq_k (fun K81 hK81 => ?_)
                                   refine c_region ?_
                                   refine sVal (r_assign rfl rfl) ?_
                                   refine s_nil ?_
                                   refine hK81 _ _ ?_
                                   refine wp_ret ?_
                                   refine f_ret (rs := [.tmp 2]) rfl (.tmp rfl .nil) rfl ?_
                                   first | exact hk _ (fin0 hs (by repeat (first | exact Keeps.refl _ | apply Keeps.tail | apply Keeps.drop))) | (rw [show ((((overL (freshL [a, b, c, d, e] i)).length : Nat) : Int) == 0) = true by rw [hov]; rfl]; exact hk _ (fin0 hs (by repeat (first | exact Keeps.refl _ | apply Keeps.tail | apply Keeps.drop)))))))
                          case true =>
                           replace hc78 := neT hc78
                           try dsimp only [List.length_cons, List.length_nil] at hc78
                           first
                           | (exfalso; first | omega | (cases hc78; done))
                           | (
                             refine @s_pass _ _ _ _ _ _ _ _ 63 (by rfl) (want_no rfl rfl rfl rfl) (by rfl) ?_
                             refine @s_pass _ _ _ _ _ _ _ _ 64 (by rfl) (want_no rfl rfl rfl rfl) (by rfl) ?_
                             refine @s_pass _ _ _ _ _ _ _ _ 65 (by rfl) (want_no rfl rfl rfl rfl) (by rfl) ?_
                             refine @s_pass _ _ _ _ _ _ _ _ 66 (by rfl) (want_ud rfl rfl rfl) (by rfl) ?_
                             refine @s_pass _ _ _ _ _ _ _ _ 67 (by rfl) (want_ud rfl rfl rfl) (by rfl) ?_
                             refine @s_pass _ _ _ _ _ _ _ _ 68 (by rfl) (want_no rfl rfl rfl rfl) (by rfl) ?_
                             refine sVal (r_pickT rfl rfl rfl) ?_
                             refine s_nil ?_
                             refine hK56 _ _ ?_
                             refine c_condT rfl ?_
                             refine wp_seq_k (fun K82 hK82 => ?_)
                             refine c_region ?_
                             refine sVal (r_assign rfl rfl) ?_
                             refine s_nil ?_
                             refine hK82 _ _ ?_
                             refine wp_ret ?_
                             refine f_ret (rs := [.tmp 2]) rfl (.tmp rfl .nil) rfl ?_
                             first | exact hk _ (fin0 hs (by repeat (first | exact Keeps.refl _ | apply Keeps.tail | apply Keeps.drop))) | (rw [show ((((overL (freshL [a, b, c, d, e] i)).length : Nat) : Int) == 0) = true by rw [hov]; rfl]; exact hk _ (fin0 hs (by repeat (first | exact Keeps.refl _ | apply Keeps.tail | apply Keeps.drop)))))))
                    case true =>
                     replace hc71 := neT hc71
                     try dsimp only [List.length_cons, List.length_nil] at hc71
                     first
                     | (exfalso; first | omega | (cases hc71; done))
                     | (
                       refine @s_pass _ _ _ _ _ _ _ _ 52 (by rfl) (want_no rfl rfl rfl rfl) (by rfl) ?_
                       refine @s_pass _ _ _ _ _ _ _ _ 53 (by rfl) (want_no rfl rfl rfl rfl) (by rfl) ?_
                       refine @s_pass _ _ _ _ _ _ _ _ 54 (by rfl) (want_no rfl rfl rfl rfl) (by rfl) ?_
                       refine @s_pass _ _ _ _ _ _ _ _ 55 (by rfl) (want_ud rfl rfl rfl) (by rfl) ?_
                       refine @s_pass _ _ _ _ _ _ _ _ 56 (by rfl) (want_ud rfl rfl rfl) (by rfl) ?_
                       refine @s_pass _ _ _ _ _ _ _ _ 57 (by rfl) (want_ud rfl rfl rfl) (by rfl) ?_
                       refine @s_pass _ _ _ _ _ _ _ _ 58 (by rfl) (want_ud rfl rfl rfl) (by rfl) ?_
                       refine @s_pass _ _ _ _ _ _ _ _ 59 (by rfl) (want_ud rfl rfl rfl) (by rfl) ?_
                       refine @s_pass _ _ _ _ _ _ _ _ 60 (by rfl) (want_no rfl rfl rfl rfl) (by rfl) ?_
                       refine sVal (r_pickT rfl rfl rfl) ?_
                       refine sVal (r_move rfl rfl) ?_
                       refine @s_pass _ _ _ _ _ _ _ _ 63 (by rfl) (want_no rfl rfl rfl rfl) (by rfl) ?_
                       refine @s_pass _ _ _ _ _ _ _ _ 64 (by rfl) (want_no rfl rfl rfl rfl) (by rfl) ?_
                       refine @s_pass _ _ _ _ _ _ _ _ 65 (by rfl) (want_no rfl rfl rfl rfl) (by rfl) ?_
                       refine @s_pass _ _ _ _ _ _ _ _ 66 (by rfl) (want_ud rfl rfl rfl) (by rfl) ?_
                       refine @s_pass _ _ _ _ _ _ _ _ 67 (by rfl) (want_ud rfl rfl rfl) (by rfl) ?_
                       refine @s_pass _ _ _ _ _ _ _ _ 68 (by rfl) (want_no rfl rfl rfl rfl) (by rfl) ?_
                       refine sVal (r_pickT rfl rfl rfl) ?_
                       refine s_nil ?_
                       refine hK56 _ _ ?_
                       refine c_condT rfl ?_
                       refine wp_seq_k (fun K83 hK83 => ?_)
                       refine c_region ?_
                       refine sVal (r_assign rfl rfl) ?_
                       refine s_nil ?_
                       refine hK83 _ _ ?_
                       refine wp_ret ?_
                       refine f_ret (rs := [.tmp 2]) rfl (.tmp rfl .nil) rfl ?_
                       first | exact hk _ (fin0 hs (by repeat (first | exact Keeps.refl _ | apply Keeps.tail | apply Keeps.drop))) | (rw [show ((((overL (freshL [a, b, c, d, e] i)).length : Nat) : Int) == 0) = true by rw [hov]; rfl]; exact hk _ (fin0 hs (by repeat (first | exact Keeps.refl _ | apply Keeps.tail | apply Keeps.drop)))))))))
        case true =>
         replace hc11 := neT hc11
         try dsimp only [List.length_cons, List.length_nil] at hc11
         first
         | (exfalso; first | omega | (cases hc11; done))
         | (
           refine c_condT rfl ?_
           refine wp_seq_k (fun K84 hK84 => ?_)
           refine c_region ?_
           refine sVal (r_assign rfl rfl) ?_
           refine s_nil ?_
           refine hK84 _ _ ?_
           refine wp_ret ?_
           refine f_ret (rs := [.tmp 2]) rfl (.tmp rfl .nil) rfl ?_
           first | exact hk _ (fin0 hs (by repeat (first | exact Keeps.refl _ | apply Keeps.tail | apply Keeps.drop))) | (rw [show ((((overL (freshL [a, b, c, d, e] i)).length : Nat) : Int) == 0) = true by rw [hov]; rfl]; exact hk _ (fin0 hs (by repeat (first | exact Keeps.refl _ | apply Keeps.tail | apply Keeps.drop))))))
     case true =>
      replace hc10 := Eq.symm hc10
      try dsimp only [List.length_cons, List.length_nil] at hc10
      first
      | (exfalso; first | omega | (cases hc10; done))
      | (
        refine @s_pass _ _ _ _ _ _ _ _ 21 (by rfl) (want_no rfl rfl rfl rfl) (by rfl) ?_
        refine @s_pass _ _ _ _ _ _ _ _ 22 (by rfl) (want_no rfl rfl rfl rfl) (by rfl) ?_
        refine sVal (r_pickT rfl rfl rfl) ?_
        refine s_nil ?_
        refine hK9 _ _ ?_
        refine c_condT rfl ?_
        refine wp_seq_k (fun K85 hK85 => ?_)
        refine c_region ?_
        refine sVal (r_assign rfl rfl) ?_
        refine s_nil ?_
        refine hK85 _ _ ?_
        refine wp_ret ?_
        refine f_ret (rs := [.tmp 2]) rfl (.tmp rfl .nil) rfl ?_
        first | exact hk _ (fin0 hs (by repeat (first | exact Keeps.refl _ | apply Keeps.tail | apply Keeps.drop))) | (rw [show ((((overL (freshL [a, b, c, d, e] i)).length : Nat) : Int) == 0) = true by rw [hov]; rfl]; exact hk _ (fin0 hs (by repeat (first | exact Keeps.refl _ | apply Keeps.tail | apply Keeps.drop))))))
theorem paceBusy_use {p : Option Addr} {k : Nat} {L : List Int} (ticks : Int) (hs : Sat E H w) (cu : Cut H (rL 1 intC (.slice p L.length k) L) R) (hk : ∀ w', Sat E H w' → Q (.returned (.bool true)) w') :
    Calls Try.prog 4 #[.slice p L.length k, .int .i64 ticks] w Q := by
  replace hs := hs.cut cu
  replace hk : ∀ w', Sat E (R * rL 1 intC (.slice p L.length k) L) w' → Q (.returned (.bool true)) w' := fun w' h => hk w' (h.eq (by rw [cu.eq]))
  refine f_enter Try.func4 rfl rfl ?_
  show Code.wp _ _ _ (Fr _) _
  refine wp_seq_k (fun K1 hK1 => ?_)
  refine c_region ?_
  refine sVal (r_assign rfl rfl) ?_
  refine s_nil ?_
  refine hK1 _ _ ?_
  refine wp_seq_k (fun K2 hK2 => ?_)
  refine wp_seq_k (fun K3 hK3 => ?_)
  refine c_region ?_
  refine s_enter (r_call rfl ent11 rfl) rfl ?_
  refine awake15_use hs ?_
  intro w hs
  refine ⟨_, rfl, a_bool (fun _ => by rfl) ?_⟩
  intro c4 hc4
  cases c4
  case false =>
   replace hc4 := Eq.symm hc4
   try (with_reducible first | replace hc4 := of_decide_eq_true hc4 | replace hc4 := of_decide_eq_false hc4)
   try dsimp only [List.length_cons, List.length_nil] at hc4
   first
   | (exfalso; first | omega | (cases hc4; done) | (subst hc4; contradiction))
   | (
     refine sVal (r_notF rfl rfl) ?_
     refine s_nil ?_
     refine hK3 _ _ ?_
     refine c_condT rfl ?_
     refine wp_seq_k (fun K5 hK5 => ?_)
     refine c_region ?_
     refine sVal (r_assign rfl rfl) ?_
     refine s_nil ?_
     refine hK5 _ _ ?_
     refine wp_ret ?_
     refine f_ret (rs := [.tmp 4]) rfl (.tmp rfl .nil) rfl ?_
     first | exact hk _ (fin0 hs (by repeat (first | exact Keeps.refl _ | apply Keeps.tail | apply Keeps.drop))) | (rw [show (d == d) = true from beq_self_eq_true d]; exact hk _ (fin0 hs (by repeat (first | exact Keeps.refl _ | apply Keeps.tail | apply Keeps.drop)))))
  case true =>
   replace hc4 := Eq.symm hc4
   try (with_reducible first | replace hc4 := of_decide_eq_true hc4 | replace hc4 := of_decide_eq_false hc4)
   try dsimp only [List.length_cons, List.length_nil] at hc4
   first
   | (exfalso; first | omega | (cases hc4; done) | (subst hc4; contradiction))
   | (
     refine sVal (r_notT rfl rfl) ?_
     refine s_nil ?_
     refine hK3 _ _ ?_
     refine c_condF rfl ?_
     refine wp_skip ?_
     refine hK2 _ _ ?_
     refine wp_seq_k (fun K6 hK6 => ?_)
     refine c_region ?_
     refine sVal (r_move rfl rfl) ?_
     refine s_enter (r_call rfl ent12 rfl) rfl ?_
     refine right_use hs (by (repeat (first | exact Cut.head _ _ | apply Cut.tail)); done) ?_
     intro a b c d e q kq w hT hs
     have hf := hT.five
     refine ⟨_, rfl, a_put (by rfl) ?_⟩
     refine sVal (r_assign rfl rfl) ?_
     refine s_nil ?_
     refine hK6 _ _ ?_
     refine wp_seq_k (fun K7 hK7 => ?_)
     refine c_region ?_
     refine sVal (r_move rfl rfl) ?_
     refine s_enter (r_call rfl ent14 rfl) rfl ?_
     refine own15_use hs (by (repeat (first | exact Cut.head _ _ | apply Cut.tail)); done) ?_
     intro w hs
     refine ⟨_, rfl, a_put (by rfl) ?_⟩
     refine s_enter (r_call rfl ent13 rfl) rfl ?_
     refine pnewP_use hT hs ?_
     intro g w hs
     refine ⟨_, rfl, a_put (by rfl) ?_⟩
     refine sVal (r_move rfl rfl) ?_
     refine sVal (r_extract rfl rfl (by rfl)) ?_
     refine sVal (r_extract rfl rfl (by rfl)) ?_
     refine sVal (r_assign rfl rfl) ?_
     refine sVal (r_assign rfl rfl) ?_
     refine s_nil ?_
     refine hK7 _ _ ?_
     refine wp_seq_k (fun K8 hK8 => ?_)
     refine wp_seq_k (fun K9 hK9 => ?_)
     refine c_region ?_
     refine sVal (r_move rfl rfl) ?_
     refine s_bool (r_cmpP rfl rfl rfl (by kernel_rfl) rfl) rfl rfl (fun _ => by rfl) ?_
     intro c10 hc10
     refine sVal (r_move rfl rfl) ?_
     cases c10
     case false =>
      replace hc10 := Eq.symm hc10
      try dsimp only [List.length_cons, List.length_nil] at hc10
      first
      | (exfalso; first | omega | (cases hc10; done))
      | (
        refine sVal (r_move rfl rfl) ?_
        refine s_bool (r_cmp rfl rfl rfl rfl) rfl rfl (fun _ => by rfl) ?_
        intro c11 hc11
        refine sVal (r_pickF rfl rfl rfl) ?_
        refine s_nil ?_
        refine hK9 _ _ ?_
        cases c11
        case false =>
         replace hc11 := neF hc11
         try dsimp only [List.length_cons, List.length_nil] at hc11
         first
         | (exfalso; first | omega | (cases hc11; done))
         | (
           refine c_condF rfl ?_
           refine wp_skip ?_
           refine hK8 _ _ ?_
           refine wp_seq_k (fun K12 hK12 => ?_)
           refine c_region ?_
           obtain ⟨_, _, _, _, _, e5, ha, hb, hc, hd, he, h13, h23⟩ := hf
           cases e5
           refine sVal (r_move rfl rfl) ?_
           refine s_enter (r_call rfl ent15 rfl) rfl ?_
           refine pbegin_use rfl rfl hs (by (repeat (first | exact Cut.head _ _ | apply Cut.tail)); done) ?_
           intro w hs
           refine ⟨_, rfl, a_put (by rfl) ?_⟩
           refine s_nil ?_
           refine hK12 _ _ ?_
           refine wp_seq_k (fun K13 hK13 => ?_)
           refine c_region ?_
           refine sVal (r_move rfl rfl) ?_
           refine s_enter (r_call rfl ent19 rfl) rfl ?_
           refine ppolled_use _ (beginL_len _ _ rfl) rfl hs (by (repeat (first | exact Cut.head _ _ | apply Cut.tail)); done) ?_
           intro w hs
           refine ⟨_, rfl, a_put (by rfl) ?_⟩
           refine s_nil ?_
           refine hK13 _ _ ?_
           refine wp_seq_k (fun K14 hK14 => ?_)
           refine c_region ?_
           refine sVal (r_move rfl rfl) ?_
           refine s_enter (r_call rfl ent20 rfl) rfl ?_
           refine panswered_use _ (polled_len (beginL_len _ _ rfl)) rfl hs (by (repeat (first | exact Cut.head _ _ | apply Cut.tail)); done) ?_
           intro w hs
           rw [rest_zero hT] at hs
           refine ⟨_, rfl, a_put (by rfl) ?_⟩
           refine s_nil ?_
           refine hK14 _ _ ?_
           refine wp_seq_k (fun K15 hK15 => ?_)
           refine c_region ?_
           refine sVal (r_move rfl rfl) ?_
           refine sVal (r_move rfl rfl) ?_
           refine s_exQ (r_idx (f := intC) rfl rfl rfl hs.rd (rfl) (rfl) Try.underlying22 in3 sz3) rfl rfl (fun _ => by rfl) ?_
           intro ad17 he16
           refine sVal (r_loadEl rfl rfl hs.rd he16 (by first | assumption | rfl) (fun _ => rfl) (ag3 _) (by rfl)) ?_
           refine sVal (r_ari rfl rfl rfl rfl (by first | exact wrapI (by omega) | rfl)) ?_
           refine sVal (r_min rfl rfl rfl) ?_
           refine sVal (r_max rfl rfl rfl) ?_
           refine sVal (r_assign rfl rfl) ?_
           refine s_nil ?_
           refine hK15 _ _ ?_
           refine wp_seq_k (fun K18 hK18 => ?_)
           refine wp_seq_k (fun K19 hK19 => ?_)
           refine c_region ?_
           refine sVal (r_move rfl rfl) ?_
           refine sVal (r_move rfl rfl) ?_
           refine s_nil ?_
           refine hK19 _ _ ?_
           refine wp_block ?_
           refine c_loop (4 :: 39 :: 40 :: 41 :: 42 :: 43 :: 44 :: 45 :: 46 :: 47 :: []) (fun xs w => ∃ (i : Int), xs = (xAt xs 0 :: .int .i64 i :: xAt xs 2 :: xAt xs 3 :: xAt xs 4 :: xAt xs 5 :: xAt xs 6 :: xAt xs 7 :: xAt xs 8 :: xAt xs 9 :: []) ∧ (0 ≤ i ∧ i ≤ max 0 (min ticks (e - 1))) ∧ Sat E (R * rL 1 intC (.slice p L.length k) L * rL 1 intC (.slice q 5 kq) [a, b, c, d, e] * pkP g (restL [a, b, c, d, e] i) [a, b, c, d, e]) w) (fun xs _ => (e + 2).toNat - (intOf (xAt xs 1)).toNat) rfl (by rfl) ?_ ?_
           · exact ⟨0, rfl, by omega, hs⟩
           clear hs
           rintro xs w ⟨i, hxs, hi, hs⟩
           obtain ⟨D20, hD20⟩ : ∃ D, D = xAt xs := ⟨_, rfl⟩
           rw [← hD20] at hxs
           clear hD20
           subst hxs
           refine ⟨_, rfl, fun KL21 hKL21 => ?_⟩
           refine wp_seq_k (fun K22 hK22 => ?_)
           refine c_region ?_
           refine s_bool (r_cmp rfl rfl rfl rfl) rfl rfl (fun _ => by rfl) ?_
           intro c23 hc23
           refine s_nil ?_
           refine hK22 _ _ ?_
           refine wp_seq_k (fun K24 hK24 => ?_)
           cases c23
           case false =>
            replace hc23 := decF' hc23
            try dsimp only [List.length_cons, List.length_nil] at hc23
            first
            | (exfalso; first | omega | (cases hc23; done))
            | (
              refine c_condF rfl ?_
              refine wp_exit ?_
              refine hK18 _ _ ?_
              refine wp_seq_k (fun K25 hK25 => ?_)
              refine wp_seq_k (fun K26 hK26 => ?_)
              replace hs := hs.drew
              refine d_start (by kernel_rfl) ?_
              refine d_pre [0, 1, 2, 4, 5, 7] (g := 15) (by kernel_rfl) (fun _ _ d _ _ h => by cases d <;> exact h) ?_
              have hl4 := rest_left4 [a, b, c, d, e] i
              replace hl4 : leftL (restL [a, b, c, d, e] i) 4 = max 0 (e - i) := hl4
              have hl3 := rest_left3 [a, b, c, d, e] i
              refine pVal rfl (fun w => (r_move rfl rfl)) ?_
              refine pVal rfl (fun w => (r_nil rfl rfl)) ?_
              refine pVal rfl (fun w => (r_field rfl rfl of37_0)) ?_
              refine pVal rfl (fun w => (r_move rfl rfl)) ?_
              refine p_exQ rfl (r_idx (f := intC) rfl rfl rfl hs.rd (rfl) (rfl) Try.underlying22 in3 sz3) rfl rfl (fun _ => by rfl) ?_
              intro ad28 he27
              refine pVal rfl (fun w => (r_move rfl rfl)) ?_
              refine p_nil ?_
              refine d_head 9 [(6, true), (8, true), (3, false)] (Holds _ _) (g := 12) (by kernel_rfl) (fun _ _ d _ _ h => by cases d <;> exact h) (Holds.self hs) ?_
              refine hVal rfl (fun w hS => (r_loadEl rfl rfl hS.rd he27 (by first | assumption | rfl) (fun _ => rfl) (ag3 _) (by rfl))) ?_
              refine hVal rfl (fun w hS => (r_ari rfl rfl rfl rfl (by first | exact wrapI (by omega) | rfl))) ?_
              refine h_enter rfl (r_call rfl ent21 rfl) rfl ?_
              refine pleft_use _ rfl hs (by (repeat (first | exact Cut.head _ _ | apply Cut.tail)); done) ?_
              intro w hs
              refine ⟨_, rfl, ah_put (Holds.mono (Holds.self hs) (by repeat (first | exact Keeps.refl _ | apply Keeps.tail | apply Keeps.drop))) (by rfl) ?_⟩
              refine h_nil ?_
              refine d_tail 9 (by kernel_rfl) ?_
              refine s_bool (r_cmp rfl rfl rfl rfl) rfl rfl (fun _ => by rfl) ?_
              intro c29 hc29
              refine sVal (r_move rfl rfl) ?_
              cases c29
              case false =>
               replace hc29 := neF hc29
               try dsimp only [List.length_cons, List.length_nil] at hc29
               first
               | (exfalso; first | omega | (cases hc29; done))
               | (
                 refine sVal (r_move rfl rfl) ?_
                 refine sVal (r_nil rfl rfl) ?_
                 refine sVal (r_field rfl rfl of37_0) ?_
                 refine s_enter (r_call rfl ent17 rfl) rfl ?_
                 refine pruns_use _ rfl hs (by (repeat (first | exact Cut.head _ _ | apply Cut.tail)); done) ?_
                 intro w hs
                 refine ⟨_, rfl, a_bool (fun _ => by rfl) ?_⟩
                 intro c30 hc30
                 refine sVal (r_pickF rfl rfl rfl) ?_
                 refine sVal (r_move rfl rfl) ?_
                 cases c30
                 case false =>
                  replace hc30 := Eq.symm hc30
                  try (with_reducible first | replace hc30 := of_decide_eq_true hc30 | replace hc30 := of_decide_eq_false hc30)
                  try dsimp only [List.length_cons, List.length_nil] at hc30
                  first
                  | (exfalso; first | omega | (cases hc30; done) | (subst hc30; contradiction))
                  | (
                    refine sVal (r_move rfl rfl) ?_
                    refine s_enter (r_call rfl ent18 rfl) rfl ?_
                    refine psafeH_use rfl hs (by (repeat (first | exact Cut.head _ _ | apply Cut.tail)); done) ?_
                    intro w hs
                    rw [rest_safe]
                    refine ⟨_, rfl, a_bool (fun _ => by rfl) ?_⟩
                    intro c31 hc31
                    cases c31
                    case false =>
                     replace hc31 := Eq.symm hc31
                     try (with_reducible first | replace hc31 := of_decide_eq_true hc31 | replace hc31 := of_decide_eq_false hc31)
                     try dsimp only [List.length_cons, List.length_nil] at hc31
                     first
                     | (exfalso; first | omega | (cases hc31; done) | (subst hc31; contradiction))
                     | (
                       refine sVal (r_notF rfl rfl) ?_
                       refine sVal (r_pickF rfl rfl rfl) ?_
                       refine s_nil ?_
                       refine hK26 _ _ ?_
                       refine c_condT rfl ?_
                       refine wp_seq_k (fun K32 hK32 => ?_)
                       refine c_region ?_
                       refine sVal (r_assign rfl rfl) ?_
                       refine s_nil ?_
                       refine hK32 _ _ ?_
                       refine wp_ret ?_
                       refine f_ret (rs := [.tmp 4]) rfl (.tmp rfl .nil) rfl ?_
                       first | exact hk _ (fin0 hs (by repeat (first | exact Keeps.refl _ | apply Keeps.tail | apply Keeps.drop))) | (rw [show (d == d) = true from beq_self_eq_true d]; exact hk _ (fin0 hs (by repeat (first | exact Keeps.refl _ | apply Keeps.tail | apply Keeps.drop)))))
                    case true =>
                     replace hc31 := Eq.symm hc31
                     try (with_reducible first | replace hc31 := of_decide_eq_true hc31 | replace hc31 := of_decide_eq_false hc31)
                     try dsimp only [List.length_cons, List.length_nil] at hc31
                     first
                     | (exfalso; first | omega | (cases hc31; done) | (subst hc31; contradiction))
                     | (
                       refine sVal (r_notT rfl rfl) ?_
                       refine sVal (r_pickF rfl rfl rfl) ?_
                       refine s_nil ?_
                       refine hK26 _ _ ?_
                       refine c_condF rfl ?_
                       refine wp_skip ?_
                       refine hK25 _ _ ?_
                       refine wp_seq_k (fun K33 hK33 => ?_)
                       refine c_region ?_
                       refine sVal (r_move rfl rfl) ?_
                       refine s_enter (r_call rfl ent22 rfl) rfl ?_
                       refine pbusy_use rfl rfl hs (by (repeat (first | exact Cut.head _ _ | apply Cut.tail)); done) ?_
                       intro w hs
                       rw [rest_busy hT i (by show i < e; omega)] at hs
                       replace hs : Sat E (R * rL 1 intC (.slice p L.length k) L * rL 1 intC (.slice q 5 kq) [a, b, c, d, e] * pkP g [0, b, 0, d, 0] [a, b, c, d, e]) w := fin1 hs (by (repeat (first | exact Cut.head _ _ | apply Cut.tail)); done) (by repeat (first | exact Keeps.refl _ | apply Keeps.tail | apply Keeps.drop))
                       refine ⟨_, rfl, a_put (by rfl) ?_⟩
                       refine s_nil ?_
                       refine hK33 _ _ ?_
                       refine wp_seq_k (fun K34 hK34 => ?_)
                       refine wp_seq_k (fun K35 hK35 => ?_)
                       replace hs := hs.drew
                       refine d_start (by kernel_rfl) ?_
                       refine d_pre [0, 1, 2, 4, 5] (g := 24) (by kernel_rfl) (fun _ _ d _ _ h => by cases d <;> exact h) ?_
                       refine pVal rfl (fun w => (r_move rfl rfl)) ?_
                       refine pVal rfl (fun w => (r_nil rfl rfl)) ?_
                       refine pVal rfl (fun w => (r_field rfl rfl of37_0)) ?_
                       refine pVal rfl (fun w => (r_move rfl rfl)) ?_
                       refine p_exQ rfl (r_idx (f := intC) rfl rfl rfl hs.rd (rfl) (rfl) Try.underlying22 in3 sz3) rfl rfl (fun _ => by rfl) ?_
                       intro ad37 he36
                       refine p_nil ?_
                       refine d_head 16 [(6, true), (3, false), (7, true), (8, true), (9, true), (10, true), (11, true), (13, true), (14, true), (15, true), (12, false)] (Holds _ _) (g := 13) (by kernel_rfl) (fun _ _ d _ _ h => by cases d <;> exact h) (Holds.self hs) ?_
                       refine hVal rfl (fun w hS => (r_loadEl rfl rfl hS.rd he36 (by first | assumption | rfl) (fun _ => rfl) (ag3 _) (by rfl))) ?_
                       refine h_enter rfl (r_call rfl ent21 rfl) rfl ?_
                       refine pleft_use _ rfl hs (by (repeat (first | exact Cut.head _ _ | apply Cut.tail)); done) ?_
                       intro w hs
                       rw [lf1]
                       refine ⟨_, rfl, ah_put (Holds.mono (Holds.self hs) (by repeat (first | exact Keeps.refl _ | apply Keeps.tail | apply Keeps.drop))) (by rfl) ?_⟩
                       refine h_bool rfl rfl rfl (fun w hS => (r_cmp rfl rfl rfl rfl)) (fun _ => by rfl) ?_
                       intro c38 hc38
                       refine hVal rfl (fun w hS => (r_move rfl rfl)) ?_
                       cases c38
                       case false =>
                        replace hc38 := neF hc38
                        try dsimp only [List.length_cons, List.length_nil] at hc38
                        first
                        | (exfalso; first | omega | (cases hc38; done))
                        | (
                          refine hVal rfl (fun w hS => (r_move rfl rfl)) ?_
                          refine hVal rfl (fun w hS => (r_nil rfl rfl)) ?_
                          refine hVal rfl (fun w hS => (r_field rfl rfl of37_0)) ?_
                          refine hVal rfl (fun w hS => (r_move rfl rfl)) ?_
                          refine h_exQ rfl (r_idx (f := intC) rfl rfl rfl hs.rd (rfl) (rfl) Try.underlying22 in3 sz3) rfl rfl (fun _ => by rfl) ?_
                          intro ad40 he39
                          refine hVal rfl (fun w hS => (r_loadEl rfl rfl hS.rd he39 (by first | assumption | rfl) (fun _ => rfl) (ag3 _) (by rfl))) ?_
                          refine h_enter rfl (r_call rfl ent21 rfl) rfl ?_
                          refine pleft_use _ rfl hs (by (repeat (first | exact Cut.head _ _ | apply Cut.tail)); done) ?_
                          intro w hs
                          rw [lf3]
                          refine ⟨_, rfl, ah_put (Holds.mono (Holds.self hs) (by repeat (first | exact Keeps.refl _ | apply Keeps.tail | apply Keeps.drop))) (by rfl) ?_⟩
                          refine h_nil ?_
                          refine d_tail 16 (by kernel_rfl) ?_
                          refine s_bool (r_cmp rfl rfl rfl rfl) rfl rfl (fun _ => by rfl) ?_
                          intro c41 hc41
                          refine sVal (r_pickF rfl rfl rfl) ?_
                          refine sVal (r_move rfl rfl) ?_
                          cases c41
                          case false =>
                           replace hc41 := neF hc41
                           try dsimp only [List.length_cons, List.length_nil] at hc41
                           first
                           | (exfalso; first | omega | (cases hc41; done))
                           | (
                             refine sVal (r_move rfl rfl) ?_
                             refine sVal (r_nil rfl rfl) ?_
                             refine sVal (r_field rfl rfl of37_0) ?_
                             refine s_enter (r_call rfl ent17 rfl) rfl ?_
                             refine pruns_use _ rfl hs (by (repeat (first | exact Cut.head _ _ | apply Cut.tail)); done) ?_
                             intro w hs
                             rw [lf4]
                             refine ⟨_, rfl, a_bool (fun _ => by rfl) ?_⟩
                             intro c42 hc42
                             refine sVal (r_pickF rfl rfl rfl) ?_
                             refine sVal (r_move rfl rfl) ?_
                             cases c42
                             case false =>
                              replace hc42 := Eq.symm hc42
                              try (with_reducible first | replace hc42 := of_decide_eq_true hc42 | replace hc42 := of_decide_eq_false hc42)
                              try dsimp only [List.length_cons, List.length_nil] at hc42
                              first
                              | (exfalso; first | omega | (cases hc42; done) | (subst hc42; contradiction))
                              | (
                                refine sVal (r_move rfl rfl) ?_
                                refine s_enter (r_call rfl ent18 rfl) rfl ?_
                                refine psafeH_use rfl hs (by (repeat (first | exact Cut.head _ _ | apply Cut.tail)); done) ?_
                                intro w hs
                                rw [busy_safe h13 (by omega)]
                                refine ⟨_, rfl, a_bool (fun _ => by rfl) ?_⟩
                                intro c43 hc43
                                cases c43
                                case false =>
                                 replace hc43 := Eq.symm hc43
                                 try (with_reducible first | replace hc43 := of_decide_eq_true hc43 | replace hc43 := of_decide_eq_false hc43)
                                 try dsimp only [List.length_cons, List.length_nil] at hc43
                                 first
                                 | (exfalso; first | omega | (cases hc43; done) | (subst hc43; contradiction))
                                 | (
                                   refine sVal (r_notF rfl rfl) ?_
                                   refine sVal (r_pickF rfl rfl rfl) ?_
                                   refine s_nil ?_
                                   refine hK35 _ _ ?_
                                   refine c_condT rfl ?_
                                   refine wp_seq_k (fun K44 hK44 => ?_)
                                   refine c_region ?_
                                   refine sVal (r_assign rfl rfl) ?_
                                   refine s_nil ?_
                                   refine hK44 _ _ ?_
                                   refine wp_ret ?_
                                   refine f_ret (rs := [.tmp 4]) rfl (.tmp rfl .nil) rfl ?_
                                   first | exact hk _ (fin0 hs (by repeat (first | exact Keeps.refl _ | apply Keeps.tail | apply Keeps.drop))) | (rw [show (d == d) = true from beq_self_eq_true d]; exact hk _ (fin0 hs (by repeat (first | exact Keeps.refl _ | apply Keeps.tail | apply Keeps.drop)))))
                                case true =>
                                 replace hc43 := Eq.symm hc43
                                 try (with_reducible first | replace hc43 := of_decide_eq_true hc43 | replace hc43 := of_decide_eq_false hc43)
                                 try dsimp only [List.length_cons, List.length_nil] at hc43
                                 first
                                 | (exfalso; first | omega | (cases hc43; done) | (subst hc43; contradiction))
                                 | (
                                   refine sVal (r_notT rfl rfl) ?_
                                   refine sVal (r_pickF rfl rfl rfl) ?_
                                   refine s_nil ?_
                                   refine hK35 _ _ ?_
                                   refine c_condF rfl ?_
                                   refine wp_skip ?_
                                   refine hK34 _ _ ?_
                                   refine wp_seq_k (fun K45 hK45 => ?_)
                                   refine c_region ?_
                                   refine sVal (r_move rfl rfl) ?_
                                   refine s_enter (r_call rfl ent23 rfl) rfl ?_
                                   refine pclone_use rfl rfl hs (by (repeat (first | exact Cut.head _ _ | apply Cut.tail)); done) ?_
                                   intro g2 w hs
                                   refine ⟨_, rfl, a_put (by rfl) ?_⟩
                                   refine sVal (r_assign rfl rfl) ?_
                                   refine s_nil ?_
                                   refine hK45 _ _ ?_
                                   refine wp_seq_k (fun K46 hK46 => ?_)
                                   refine c_region ?_
                                   refine sVal (r_move rfl rfl) ?_
                                   refine s_enter (r_call rfl ent22 rfl) rfl ?_
                                   refine pbusy_use rfl rfl hs (R := R * rL 1 intC (.slice p L.length k) L * rL 1 intC (.slice q 5 kq) [a, b, c, d, e] * pkP g2 [0, b, 0, d, 0] [a, b, c, d, e]) (Cut.tail _ (Cut.head _ _)) ?_
                                   intro w hs
                                   rw [busy_still] at hs
                                   refine ⟨_, rfl, a_put (by rfl) ?_⟩
                                   refine s_nil ?_
                                   refine hK46 _ _ ?_
                                   refine wp_seq_k (fun K47 hK47 => ?_)
                                   replace hs := hs.drew
                                   refine d_start (by kernel_rfl) ?_
                                   refine d_pre [0, 1, 2, 4, 5, 6] (g := 15) (by kernel_rfl) (fun _ _ d _ _ h => by cases d <;> exact h) ?_
                                   refine pVal rfl (fun w => (r_move rfl rfl)) ?_
                                   refine pVal rfl (fun w => (r_nil rfl rfl)) ?_
                                   refine pVal rfl (fun w => (r_field rfl rfl of37_0)) ?_
                                   refine pVal rfl (fun w => (r_move rfl rfl)) ?_
                                   refine pVal rfl (fun w => (r_nil rfl rfl)) ?_
                                   refine pVal rfl (fun w => (r_field rfl rfl of37_0)) ?_
                                   refine p_nil ?_
                                   refine d_head 17 [(3, false), (7, false), (8, true), (9, true), (10, true), (11, true), (12, true), (14, true), (15, true), (16, true), (13, false)] (fun _ => True) (g := 4) (by kernel_rfl) (fun _ _ d _ _ h => by cases d <;> exact h) trivial ?_
                                   refine h_enter rfl (r_call rfl ent21 rfl) rfl ?_
                                   refine pleft_use _ rfl hs (Cut.head _ _) ?_
                                   intro w hs
                                   rw [lf1]
                                   refine ⟨_, rfl, ah_put trivial (by rfl) ?_⟩
                                   refine h_enter rfl (r_call rfl ent21 rfl) rfl ?_
                                   refine pleft_use _ rfl hs (Cut.tail _ (Cut.head _ _)) ?_
                                   intro w hs
                                   rw [lf1]
                                   refine ⟨_, rfl, ah_put trivial (by rfl) ?_⟩
                                   refine h_bool rfl rfl rfl (fun w hS => (r_cmp rfl rfl rfl rfl)) (fun _ => by rfl) ?_
                                   intro c48 hc48
                                   refine hVal rfl (fun w hS => (r_move rfl rfl)) ?_
                                   cases c48
                                   case false =>
                                    replace hc48 := eqF hc48
                                    try dsimp only [List.length_cons, List.length_nil] at hc48
                                    first
                                    | (exfalso; first | omega | (cases hc48; done))
                                    | (
                                      refine h_pass (d := 114) (by rfl) (by rfl) (want_no rfl rfl rfl rfl) (by rfl) ?_
                                      refine h_pass (d := 115) (by rfl) (by rfl) (want_no rfl rfl rfl rfl) (by rfl) ?_
                                      refine h_pass (d := 116) (by rfl) (by rfl) (want_no rfl rfl rfl rfl) (by rfl) ?_
                                      refine h_pass (d := 118) (by rfl) (by rfl) (want_no rfl rfl rfl rfl) (by rfl) ?_
                                      refine h_pass (d := 119) (by rfl) (by rfl) (want_no rfl rfl rfl rfl) (by rfl) ?_
                                      refine h_pass (d := 120) (by rfl) (by rfl) (want_no rfl rfl rfl rfl) (by rfl) ?_
                                      refine h_passE (d := 117) (by rfl) (by rfl) (want_no rfl rfl rfl rfl) (by assumption) (by rfl) ?_
                                      refine h_nil ?_
                                      refine d_tail 17 (by kernel_rfl) ?_
                                      refine @s_pass _ _ _ _ _ _ _ _ 121 (by rfl) (want_no rfl rfl rfl rfl) (by rfl) ?_
                                      refine @s_pass _ _ _ _ _ _ _ _ 122 (by rfl) (want_no rfl rfl rfl rfl) (by rfl) ?_
                                      refine sVal (r_pickF rfl rfl rfl) ?_
                                      refine sVal (r_assign rfl rfl) ?_
                                      refine s_nil ?_
                                      refine hK47 _ _ ?_
                                      refine wp_ret ?_
                                      refine f_ret (rs := [.tmp 4]) rfl (.tmp rfl .nil) rfl ?_
                                      first | exact hk _ (fin0 hs (by repeat (first | exact Keeps.refl _ | apply Keeps.tail | apply Keeps.drop))) | (rw [show (d == d) = true from beq_self_eq_true d]; exact hk _ (fin0 hs (by repeat (first | exact Keeps.refl _ | apply Keeps.tail | apply Keeps.drop)))))
                                   case true =>
                                    replace hc48 := eqT hc48
                                    try dsimp only [List.length_cons, List.length_nil] at hc48
                                    first
                                    | (exfalso; first | omega | (cases hc48; done))
                                    | (
                                      refine hVal rfl (fun w hS => (r_move rfl rfl)) ?_
                                      refine hVal rfl (fun w hS => (r_nil rfl rfl)) ?_
                                      refine hVal rfl (fun w hS => (r_field rfl rfl of37_0)) ?_
                                      refine hVal rfl (fun w hS => (r_move rfl rfl)) ?_
                                      refine hVal rfl (fun w hS => (r_nil rfl rfl)) ?_
                                      refine hVal rfl (fun w hS => (r_field rfl rfl of37_0)) ?_
                                      refine h_enter rfl (r_call rfl ent21 rfl) rfl ?_
                                      refine pleft_use _ rfl hs (Cut.head _ _) ?_
                                      intro w hs
                                      rw [lf3]
                                      refine ⟨_, rfl, ah_put trivial (by rfl) ?_⟩
                                      refine h_nil ?_
                                      refine d_tail 17 (by kernel_rfl) ?_
                                      refine s_enter (r_call rfl ent21 rfl) rfl ?_
                                      refine pleft_use _ rfl hs (Cut.tail _ (Cut.head _ _)) ?_
                                      intro w hs
                                      rw [lf3]
                                      refine ⟨_, rfl, a_put (by rfl) ?_⟩
                                      refine s_bool (r_cmp rfl rfl rfl rfl) rfl rfl (fun _ => by rfl) ?_
                                      intro c49 hc49
                                      refine sVal (r_pickT rfl rfl rfl) ?_
                                      refine sVal (r_assign rfl rfl) ?_
                                      refine s_nil ?_
                                      refine hK47 _ _ ?_
                                      refine wp_ret ?_
                                      refine f_ret (rs := [.tmp 4]) rfl (.tmp rfl .nil) rfl ?_
                                      subst c49
                                      first | exact hk _ (fin0 hs (by repeat (first | exact Keeps.refl _ | apply Keeps.tail | apply Keeps.drop))) | (rw [show (d == d) = true from beq_self_eq_true d]; exact hk _ (fin0 hs (by repeat (first | exact Keeps.refl _ | apply Keeps.tail | apply Keeps.drop)))))))
                             case true =>
                              replace hc42 := Eq.symm hc42
                              try (with_reducible first | replace hc42 := of_decide_eq_true hc42 | replace hc42 := of_decide_eq_false hc42)
                              try dsimp only [List.length_cons, List.length_nil] at hc42
                              first
                              | (exfalso; first | omega | (cases hc42; done) | (subst hc42; contradiction))
                              | (
                                refine @s_pass _ _ _ _ _ _ _ _ 96 (by rfl) (want_no rfl rfl rfl rfl) (by rfl) ?_
                                refine @s_pass _ _ _ _ _ _ _ _ 97 (by rfl) (want_no rfl rfl rfl rfl) (by rfl) ?_
                                refine @s_pass _ _ _ _ _ _ _ _ 98 (by rfl) (want_no rfl rfl rfl rfl) (by rfl) ?_
                                refine sVal (r_pickT rfl rfl rfl) ?_
                                refine s_nil ?_
                                refine hK35 _ _ ?_
                                refine c_condT rfl ?_
                                refine wp_seq_k (fun K50 hK50 => ?_)
                                refine c_region ?_
                                refine sVal (r_assign rfl rfl) ?_
                                refine s_nil ?_
                                refine hK50 _ _ ?_
                                refine wp_ret ?_
                                refine f_ret (rs := [.tmp 4]) rfl (.tmp rfl .nil) rfl ?_
                                first | exact hk _ (fin0 hs (by repeat (first | exact Keeps.refl _ | apply Keeps.tail | apply Keeps.drop))) | (rw [show (d == d) = true from beq_self_eq_true d]; exact hk _ (fin0 hs (by repeat (first | exact Keeps.refl _ | apply Keeps.tail | apply Keeps.drop))))))
                          case true =>
                           replace hc41 := neT hc41
                           try dsimp only [List.length_cons, List.length_nil] at hc41
                           first
                           | (exfalso; first | omega | (cases hc41; done))
                           | (
                             refine @s_pass _ _ _ _ _ _ _ _ 90 (by rfl) (want_no rfl rfl rfl rfl) (by rfl) ?_
                             refine @s_pass _ _ _ _ _ _ _ _ 91 (by rfl) (want_no rfl rfl rfl rfl) (by rfl) ?_
                             refine @s_pass _ _ _ _ _ _ _ _ 92 (by rfl) (want_no rfl rfl rfl rfl) (by rfl) ?_
                             refine @s_pass _ _ _ _ _ _ _ _ 93 (by rfl) (want_no rfl rfl rfl rfl) (by rfl) ?_
                             refine sVal (r_pickT rfl rfl rfl) ?_
                             refine sVal (r_move rfl rfl) ?_
                             refine @s_pass _ _ _ _ _ _ _ _ 96 (by rfl) (want_no rfl rfl rfl rfl) (by rfl) ?_
                             refine @s_pass _ _ _ _ _ _ _ _ 97 (by rfl) (want_no rfl rfl rfl rfl) (by rfl) ?_
                             refine @s_pass _ _ _ _ _ _ _ _ 98 (by rfl) (want_no rfl rfl rfl rfl) (by rfl) ?_
                             refine sVal (r_pickT rfl rfl rfl) ?_
                             refine s_nil ?_
                             refine hK35 _ _ ?_
                             refine c_condT rfl ?_
                             refine wp_seq_k (fun K51 hK51 => ?_)
                             refine c_region ?_
                             refine sVal (r_assign rfl rfl) ?_
                             refine s_nil ?_
                             refine hK51 _ _ ?_
                             refine wp_ret ?_
                             refine f_ret (rs := [.tmp 4]) rfl (.tmp rfl .nil) rfl ?_
                             first | exact hk _ (fin0 hs (by repeat (first | exact Keeps.refl _ | apply Keeps.tail | apply Keeps.drop))) | (rw [show (d == d) = true from beq_self_eq_true d]; exact hk _ (fin0 hs (by repeat (first | exact Keeps.refl _ | apply Keeps.tail | apply Keeps.drop))))))
                       case true =>
                        replace hc38 := neT hc38
                        try dsimp only [List.length_cons, List.length_nil] at hc38
                        first
                        | (exfalso; first | omega | (cases hc38; done))
                        | (
                          refine h_pass (d := 80) (by rfl) (by rfl) (want_no rfl rfl rfl rfl) (by rfl) ?_
                          refine h_pass (d := 81) (by rfl) (by rfl) (want_no rfl rfl rfl rfl) (by rfl) ?_
                          refine h_pass (d := 82) (by rfl) (by rfl) (want_no rfl rfl rfl rfl) (by rfl) ?_
                          refine h_pass (d := 84) (by rfl) (by rfl) (want_no rfl rfl rfl rfl) (by rfl) ?_
                          refine h_pass (d := 85) (by rfl) (by rfl) (want_no rfl rfl rfl rfl) (by rfl) ?_
                          refine h_pass (d := 86) (by rfl) (by rfl) (want_no rfl rfl rfl rfl) (by rfl) ?_
                          refine h_passE (d := 83) (by rfl) (by rfl) (want_no rfl rfl rfl rfl) (by assumption) (by rfl) ?_
                          refine h_nil ?_
                          refine d_tail 16 (by kernel_rfl) ?_
                          refine @s_pass _ _ _ _ _ _ _ _ 87 (by rfl) (want_no rfl rfl rfl rfl) (by rfl) ?_
                          refine sVal (r_pickT rfl rfl rfl) ?_
                          refine sVal (r_move rfl rfl) ?_
                          refine @s_pass _ _ _ _ _ _ _ _ 90 (by rfl) (want_no rfl rfl rfl rfl) (by rfl) ?_
                          refine @s_pass _ _ _ _ _ _ _ _ 91 (by rfl) (want_no rfl rfl rfl rfl) (by rfl) ?_
                          refine @s_pass _ _ _ _ _ _ _ _ 92 (by rfl) (want_no rfl rfl rfl rfl) (by rfl) ?_
                          refine @s_pass _ _ _ _ _ _ _ _ 93 (by rfl) (want_no rfl rfl rfl rfl) (by rfl) ?_
                          refine sVal (r_pickT rfl rfl rfl) ?_
                          refine sVal (r_move rfl rfl) ?_
                          refine @s_pass _ _ _ _ _ _ _ _ 96 (by rfl) (want_no rfl rfl rfl rfl) (by rfl) ?_
                          refine @s_pass _ _ _ _ _ _ _ _ 97 (by rfl) (want_no rfl rfl rfl rfl) (by rfl) ?_
                          refine @s_pass _ _ _ _ _ _ _ _ 98 (by rfl) (want_no rfl rfl rfl rfl) (by rfl) ?_
                          refine sVal (r_pickT rfl rfl rfl) ?_
                          refine s_nil ?_
                          refine hK35 _ _ ?_
                          refine c_condT rfl ?_
                          refine wp_seq_k (fun K52 hK52 => ?_)
                          refine c_region ?_
                          refine sVal (r_assign rfl rfl) ?_
                          refine s_nil ?_
                          refine hK52 _ _ ?_
                          refine wp_ret ?_
                          refine f_ret (rs := [.tmp 4]) rfl (.tmp rfl .nil) rfl ?_
                          first | exact hk _ (fin0 hs (by repeat (first | exact Keeps.refl _ | apply Keeps.tail | apply Keeps.drop))) | (rw [show (d == d) = true from beq_self_eq_true d]; exact hk _ (fin0 hs (by repeat (first | exact Keeps.refl _ | apply Keeps.tail | apply Keeps.drop)))))))
                 case true =>
                  replace hc30 := Eq.symm hc30
                  try (with_reducible first | replace hc30 := of_decide_eq_true hc30 | replace hc30 := of_decide_eq_false hc30)
                  try dsimp only [List.length_cons, List.length_nil] at hc30
                  first
                  | (exfalso; first | omega | (cases hc30; done) | (subst hc30; contradiction))
                  | (
                    refine @s_pass _ _ _ _ _ _ _ _ 65 (by rfl) (want_no rfl rfl rfl rfl) (by rfl) ?_
                    refine @s_pass _ _ _ _ _ _ _ _ 66 (by rfl) (want_no rfl rfl rfl rfl) (by rfl) ?_
                    refine @s_pass _ _ _ _ _ _ _ _ 67 (by rfl) (want_no rfl rfl rfl rfl) (by rfl) ?_
                    refine sVal (r_pickT rfl rfl rfl) ?_
                    refine s_nil ?_
                    refine hK26 _ _ ?_
                    refine c_condT rfl ?_
                    refine wp_seq_k (fun K53 hK53 => ?_)
                    refine c_region ?_
                    refine sVal (r_assign rfl rfl) ?_
                    refine s_nil ?_
                    refine hK53 _ _ ?_
                    refine wp_ret ?_
                    refine f_ret (rs := [.tmp 4]) rfl (.tmp rfl .nil) rfl ?_
                    first | exact hk _ (fin0 hs (by repeat (first | exact Keeps.refl _ | apply Keeps.tail | apply Keeps.drop))) | (rw [show (d == d) = true from beq_self_eq_true d]; exact hk _ (fin0 hs (by repeat (first | exact Keeps.refl _ | apply Keeps.tail | apply Keeps.drop))))))
              case true =>
               replace hc29 := neT hc29
               try dsimp only [List.length_cons, List.length_nil] at hc29
               first
               | (exfalso; first | omega | (cases hc29; done))
               | (
                 refine @s_pass _ _ _ _ _ _ _ _ 59 (by rfl) (want_no rfl rfl rfl rfl) (by rfl) ?_
                 refine @s_pass _ _ _ _ _ _ _ _ 60 (by rfl) (want_no rfl rfl rfl rfl) (by rfl) ?_
                 refine @s_pass _ _ _ _ _ _ _ _ 61 (by rfl) (want_no rfl rfl rfl rfl) (by rfl) ?_
                 refine @s_pass _ _ _ _ _ _ _ _ 62 (by rfl) (want_no rfl rfl rfl rfl) (by rfl) ?_
                 refine sVal (r_pickT rfl rfl rfl) ?_
                 refine sVal (r_move rfl rfl) ?_
                 refine @s_pass _ _ _ _ _ _ _ _ 65 (by rfl) (want_no rfl rfl rfl rfl) (by rfl) ?_
                 refine @s_pass _ _ _ _ _ _ _ _ 66 (by rfl) (want_no rfl rfl rfl rfl) (by rfl) ?_
                 refine @s_pass _ _ _ _ _ _ _ _ 67 (by rfl) (want_no rfl rfl rfl rfl) (by rfl) ?_
                 refine sVal (r_pickT rfl rfl rfl) ?_
                 refine s_nil ?_
                 refine hK26 _ _ ?_
                 refine c_condT rfl ?_
                 refine wp_seq_k (fun K54 hK54 => ?_)
                 refine c_region ?_
                 refine sVal (r_assign rfl rfl) ?_
                 refine s_nil ?_
                 refine hK54 _ _ ?_
                 refine wp_ret ?_
                 refine f_ret (rs := [.tmp 4]) rfl (.tmp rfl .nil) rfl ?_
                 first | exact hk _ (fin0 hs (by repeat (first | exact Keeps.refl _ | apply Keeps.tail | apply Keeps.drop))) | (rw [show (d == d) = true from beq_self_eq_true d]; exact hk _ (fin0 hs (by repeat (first | exact Keeps.refl _ | apply Keeps.tail | apply Keeps.drop))))))
           case true =>
            replace hc23 := decT' hc23
            try dsimp only [List.length_cons, List.length_nil] at hc23
            first
            | (exfalso; first | omega | (cases hc23; done))
            | (
              refine c_condT rfl ?_
              refine wp_skip ?_
              refine hK24 _ _ ?_
              refine wp_seq_k (fun K55 hK55 => ?_)
              refine wp_block ?_
              refine wp_seq_k (fun K56 hK56 => ?_)
              refine c_region ?_
              refine sVal (r_move rfl rfl) ?_
              refine sVal (r_nil rfl rfl) ?_
              refine sVal (r_field rfl rfl of37_0) ?_
              refine s_enter (r_call rfl ent16 rfl) rfl ?_
              refine ptick_use (rest_bank hT i (by omega)) hs (by (repeat (first | exact Cut.head _ _ | apply Cut.tail)); done) ?_
              intro pv kv w hs
              have hov : (overL (restL [a, b, c, d, e] i)).length = 0 := congrArg List.length (rest_none (T := [a, b, c, d, e]) i (by show i + 1 < e; omega))
              rw [rest_tick i (by omega)] at hs
              refine ⟨_, rfl, a_put (by rfl) ?_⟩
              refine sVal (r_len rfl rfl Try.underlying22) ?_
              refine s_bool (r_cmp rfl rfl rfl rfl) rfl rfl (fun _ => by rfl) ?_
              intro c57 hc57
              refine s_nil ?_
              refine hK56 _ _ ?_
              cases c57
              case false =>
               replace hc57 := neF hc57
               try dsimp only [List.length_cons, List.length_nil] at hc57
               first
               | (exfalso; first | omega | (cases hc57; done))
               | (
                 refine c_condF rfl ?_
                 refine wp_skip ?_
                 refine hK55 _ _ ?_
                 refine c_region ?_
                 refine sVal (r_ari rfl rfl rfl rfl (by first | exact wrapI (by omega) | rfl)) ?_
                 refine sVal (r_move rfl rfl) ?_
                 refine s_nil ?_
                 refine hKL21 _ _ _ (by rfl) (by rfl) ?_ ?_
                 · exact ⟨i + 1, rfl, by omega, fin1 hs (by (repeat (first | exact Cut.head _ _ | apply Cut.tail)); done) (by repeat (first | exact Keeps.refl _ | apply Keeps.tail | apply Keeps.drop))⟩
                 · (show (e + 2).toNat - (i + 1).toNat < (e + 2).toNat - i.toNat; omega))
              case true =>
               replace hc57 := neT hc57
               try dsimp only [List.length_cons, List.length_nil] at hc57
               first
               | (exfalso; first | omega | (cases hc57; done))
               | (
                 refine c_condT rfl ?_
                 refine wp_seq_k (fun K58 hK58 => ?_)
                 refine c_region ?_
                 refine sVal (r_assign rfl rfl) ?_
                 refine s_nil ?_
                 refine hK58 _ _ ?_
                 refine wp_ret ?_
                 refine f_ret (rs := [.tmp 4]) rfl (.tmp rfl .nil) rfl ?_
                 first | exact hk _ (fin0 hs (by repeat (first | exact Keeps.refl _ | apply Keeps.tail | apply Keeps.drop))) | (rw [show (d == d) = true from beq_self_eq_true d]; exact hk _ (fin0 hs (by repeat (first | exact Keeps.refl _ | apply Keeps.tail | apply Keeps.drop)))))))
        case true =>
         replace hc11 := neT hc11
         try dsimp only [List.length_cons, List.length_nil] at hc11
         first
         | (exfalso; first | omega | (cases hc11; done))
         | (
           refine c_condT rfl ?_
           refine wp_seq_k (fun K59 hK59 => ?_)
           refine c_region ?_
           refine sVal (r_assign rfl rfl) ?_
           refine s_nil ?_
           refine hK59 _ _ ?_
           refine wp_ret ?_
           refine f_ret (rs := [.tmp 4]) rfl (.tmp rfl .nil) rfl ?_
           first | exact hk _ (fin0 hs (by repeat (first | exact Keeps.refl _ | apply Keeps.tail | apply Keeps.drop))) | (rw [show (d == d) = true from beq_self_eq_true d]; exact hk _ (fin0 hs (by repeat (first | exact Keeps.refl _ | apply Keeps.tail | apply Keeps.drop))))))
     case true =>
      replace hc10 := Eq.symm hc10
      try dsimp only [List.length_cons, List.length_nil] at hc10
      first
      | (exfalso; first | omega | (cases hc10; done))
      | (
        refine @s_pass _ _ _ _ _ _ _ _ 22 (by rfl) (want_no rfl rfl rfl rfl) (by rfl) ?_
        refine @s_pass _ _ _ _ _ _ _ _ 23 (by rfl) (want_no rfl rfl rfl rfl) (by rfl) ?_
        refine sVal (r_pickT rfl rfl rfl) ?_
        refine s_nil ?_
        refine hK9 _ _ ?_
        refine c_condT rfl ?_
        refine wp_seq_k (fun K60 hK60 => ?_)
        refine c_region ?_
        refine sVal (r_assign rfl rfl) ?_
        refine s_nil ?_
        refine hK60 _ _ ?_
        refine wp_ret ?_
        refine f_ret (rs := [.tmp 4]) rfl (.tmp rfl .nil) rfl ?_
        first | exact hk _ (fin0 hs (by repeat (first | exact Keeps.refl _ | apply Keeps.tail | apply Keeps.drop))) | (rw [show (d == d) = true from beq_self_eq_true d]; exact hk _ (fin0 hs (by repeat (first | exact Keeps.refl _ | apply Keeps.tail | apply Keeps.drop))))))
end
end Go.Proofs.Ytoeaamohchpjdaa
