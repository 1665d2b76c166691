/-
  Pace beside the document's: PacePlays, PaceLives.
-/
import Derived.Test.YtoeaamohchpjdaaPaceL
import Derived.Test.YtoeaamohchpjdaaRef15B
namespace Go.Proofs.Ytoeaamohchpjdaa
open Go Go.RowKit
set_option linter.unusedVariables false
set_option linter.unusedSimpArgs false
set_option maxRecDepth 100000

def stepL (l T : List Int) (k : Int) (i : Bool) : List Int := if k = 1 then beginL l T else if k = 2 then endL l else if k = 3 then startT l T 0 else if k = 4 then stopL l 0 else if k = 5 then busyL l T else if k = 6 then polledL l T i else if k = 7 then answeredL l T i else if k = 8 then l else tickL l
theorem Bank.stops : ∀ (ts : List Int) {l : List Int}, Bank l → Bank (stopsL l ts)
  | [], _, h => h
  | t :: ts, _, h => Bank.stops ts (h.stop t)
theorem Bank.watch {l T : List Int} (h : Bank l) : Bank (watchL l T) := by unfold watchL; split; exact h; exact h.start _ _
theorem Bank.startT {l T : List Int} (h : Bank l) (t : Nat) : Bank (Proofs.Ytoeaamohchpjdaa.startT l T t) := h.start _ _
theorem Bank.begin {l T : List Int} (h : Bank l) : Bank (beginL l T) := ((Bank.stops _ h).startT 1).watch
theorem Bank.busy {l T : List Int} (h : Bank l) : Bank (busyL l T) := by unfold busyL; split; exact ((Bank.stops _ h).startT 1).watch; exact h
theorem Bank.polled {l T : List Int} (h : Bank l) (i : Bool) : Bank (polledL l T i) := ((Bank.stops _ h).startT _).watch
theorem Bank.answered {l T : List Int} (h : Bank l) (i : Bool) : Bank (answeredL l T i) := by
  unfold answeredL
  repeat' split
  all_goals first | exact h | exact (Bank.stops _ h).startT _ | exact h.startT _ | exact (Bank.stops _ h).start _ _ | exact h.start _ _
theorem Bank.step {l T : List Int} (h : Bank l) (k : Int) (i : Bool) : Bank (stepL l T k i) := by
  unfold stepL
  repeat' split
  · exact h.begin
  · exact Bank.stops _ h
  · exact h.startT 0
  · exact h.stop 0
  · exact h.busy
  · exact h.polled i
  · exact h.answered i
  · exact h
  · exact h.tick
theorem Live.step {l T : List Int} (h : Live l) (hT : Ticks T) {k : Int} (i : Bool) (h2 : ¬ k = 2) : Live (stepL l T k i) := by
  unfold stepL
  split
  · exact Live.begin h.bank hT
  split
  · exact h.again hT
  split
  · exact h.enough
  split
  · exact h.busy hT
  split
  · exact h.polled hT i
  split
  · exact h.answered hT i
  split
  · exact h
  · exact h.tick
def act5C (a : Int × Bool) : List Value := [.int .i64 a.1, .bool a.2]
attribute [local irreducible] pkP own fix oL rL osl rsl fact some' wpList wpHi wpPre wpAny wpHT After AfterH

section
variable {E : World} {H R R2 : HP} {w : World} {Q : Ending → World → Prop} {g : Nat} {l T : List Int} {pT pL p1 p2 : Option Addr} {kT kL k1 k2 : Nat}
theorem same03_use {L : List Int} (hL : L.length ≤ 1000) (hs : Sat E H w) (c : Cut H (rL 1 intC (.slice p1 L.length k1) L * rL 1 intC (.slice p2 L.length k2) L) R) (hk : ∀ w', Sat E H w' → Q (.returned (.bool true)) w') :
    Calls Try.prog 57 #[.slice p1 L.length k1, .slice p2 L.length k2] w Q := by
  replace hs := hs.cut c
  simp only [← star_assoc] at hs
  replace hk : ∀ w', Sat E (R * rL 1 intC (.slice p1 L.length k1) L * rL 1 intC (.slice p2 L.length k2) L) w' → Q (.returned (.bool true)) w' := fun w' h => hk w' (h.eq (by rw [c.eq]; simp only [← star_assoc]))
  refine f_enter Try.func57 rfl rfl ?_
  show Code.wp _ _ _ (Fr _) _
  refine wp_seq_k (fun K1 hK1 => ?_)
  refine c_region ?_
  refine sVal (r_assign rfl rfl) ?_
  refine s_nil ?_
  refine hK1 _ _ ?_
  refine wp_seq_k (fun K2 hK2 => ?_)
  refine wp_seq_k (fun K3 hK3 => ?_)
  refine c_region ?_
  refine sVal (r_move rfl rfl) ?_
  refine sVal (r_len rfl rfl Try.underlying22) ?_
  refine sVal (r_move rfl rfl) ?_
  refine sVal (r_len rfl rfl Try.underlying22) ?_
  refine s_bool (r_cmp rfl rfl rfl rfl) rfl rfl (fun _ => by rfl) ?_
  intro c4 hc4
  refine s_nil ?_
  refine hK3 _ _ ?_
  cases c4
  case false =>
   replace hc4 := neF hc4
   try dsimp only [List.length_cons, List.length_nil] at hc4
   first
   | (exfalso; first | omega | (cases hc4; done))
   | (
     refine c_condF rfl ?_
     refine wp_skip ?_
     refine hK2 _ _ ?_
     refine wp_seq_k (fun K5 hK5 => ?_)
     refine wp_seq_k (fun K6 hK6 => ?_)
     refine c_region ?_
     refine sVal (r_move rfl rfl) ?_
     refine sVal (r_len rfl rfl Try.underlying22) ?_
     refine sVal (r_move rfl rfl) ?_
     refine s_nil ?_
     refine hK6 _ _ ?_
     refine wp_block ?_
     refine c_loop (4 :: 5 :: 13 :: 14 :: 15 :: 16 :: 17 :: 18 :: 19 :: 20 :: 21 :: 22 :: 23 :: 24 :: 25 :: []) (fun xs w => ∃ (j : Nat), xs = (xAt xs 0 :: xAt xs 1 :: .int .i64 (j : Int) :: xAt xs 3 :: xAt xs 4 :: xAt xs 5 :: xAt xs 6 :: xAt xs 7 :: xAt xs 8 :: xAt xs 9 :: xAt xs 10 :: xAt xs 11 :: xAt xs 12 :: xAt xs 13 :: xAt xs 14 :: []) ∧ j ≤ L.length ∧ Sat E (R * rL 1 intC (.slice p1 L.length k1) L * rL 1 intC (.slice p2 L.length k2) L) w) (fun xs _ => L.length - (intOf (xAt xs 2)).toNat) rfl (by rfl) ?_ ?_
     · exact ⟨0, rfl, by omega, hs⟩
     clear hs
     rintro xs w ⟨j, hxs, hj, hs⟩
     obtain ⟨D7, hD7⟩ : ∃ D, D = xAt xs := ⟨_, rfl⟩
     rw [← hD7] at hxs
     clear hD7
     subst hxs
     refine ⟨_, rfl, fun KL8 hKL8 => ?_⟩
     refine wp_seq_k (fun K9 hK9 => ?_)
     refine c_region ?_
     refine s_bool (r_cmp rfl rfl rfl rfl) rfl rfl (fun _ => by rfl) ?_
     intro c10 hc10
     refine s_nil ?_
     refine hK9 _ _ ?_
     refine wp_seq_k (fun K11 hK11 => ?_)
     cases c10
     case false =>
      replace hc10 := decF' hc10
      try dsimp only [List.length_cons, List.length_nil] at hc10
      first
      | (exfalso; first | omega | (cases hc10; done))
      | (
        refine c_condF rfl ?_
        refine wp_exit ?_
        refine hK5 _ _ ?_
        refine wp_seq_k (fun K12 hK12 => ?_)
        refine c_region ?_
        refine sVal (r_assign rfl rfl) ?_
        refine s_nil ?_
        refine hK12 _ _ ?_
        refine wp_ret ?_
        refine f_ret (rs := [.tmp 4]) rfl (.tmp rfl .nil) rfl ?_
        exact hk _ (fin0 hs (by repeat (first | exact Keeps.refl _ | apply Keeps.tail | apply Keeps.drop))))
     case true =>
      replace hc10 := decT' hc10
      try dsimp only [List.length_cons, List.length_nil] at hc10
      first
      | (exfalso; first | omega | (cases hc10; done))
      | (
        refine c_condT rfl ?_
        refine wp_skip ?_
        refine hK11 _ _ ?_
        refine wp_seq_k (fun K13 hK13 => ?_)
        refine wp_block ?_
        refine wp_seq_k (fun K14 hK14 => ?_)
        refine c_region ?_
        obtain ⟨n, hx⟩ : ∃ n, L[j]? = some n := ⟨_, List.getElem?_eq_getElem (by omega)⟩
        refine sVal (r_move rfl rfl) ?_
        refine sVal (r_assign rfl rfl) ?_
        refine s_nil ?_
        refine hK14 _ _ ?_
        refine wp_seq_k (fun K15 hK15 => ?_)
        replace hs := hs.drew
        refine d_start (by kernel_rfl) ?_
        refine d_pre [0, 1, 2, 4, 5, 6] (g := 3) (by kernel_rfl) (fun _ _ d _ _ h => by cases d <;> exact h) ?_
        refine pVal rfl (fun w => (r_move rfl rfl)) ?_
        refine pVal rfl (fun w => (r_move rfl rfl)) ?_
        refine p_exQ rfl (r_idx (f := intC) rfl rfl rfl hs.rd (rfl) (hx) Try.underlying22 in3 sz3) rfl rfl (fun _ => by rfl) ?_
        intro ad17 he16
        refine pVal rfl (fun w => (r_move rfl rfl)) ?_
        refine pVal rfl (fun w => (r_move rfl rfl)) ?_
        refine p_exQ rfl (r_idx (f := intC) rfl rfl rfl hs.rd (rfl) (hx) Try.underlying22 in3 sz3) rfl rfl (fun _ => by rfl) ?_
        intro ad19 he18
        refine p_nil ?_
        refine d_head 8 [(3, true), (7, true)] (Holds _ _) (g := 1) (by kernel_rfl) (fun _ _ d _ _ h => by cases d <;> exact h) (Holds.self hs) ?_
        refine hVal rfl (fun w hS => (r_loadEl rfl rfl hS.rd he16 (hx) (fun _ => rfl) (ag3 _) (by rfl))) ?_
        refine hVal rfl (fun w hS => (r_loadEl rfl rfl hS.rd he18 (hx) (fun _ => rfl) (ag3 _) (by rfl))) ?_
        refine h_nil ?_
        refine d_tail 8 (by kernel_rfl) ?_
        refine s_bool (r_cmp rfl rfl rfl rfl) rfl rfl (fun _ => by rfl) ?_
        intro c20 hc20
        refine s_nil ?_
        refine hK15 _ _ ?_
        cases c20
        case false =>
         replace hc20 := neF hc20
         try dsimp only [List.length_cons, List.length_nil] at hc20
         first
         | (exfalso; first | omega | (cases hc20; done))
         | (
           refine c_condF rfl ?_
           refine wp_skip ?_
           refine hK13 _ _ ?_
           refine c_region ?_
           refine sVal (r_ari rfl rfl rfl rfl (by first | exact wrapI (by omega) | rfl)) ?_
           refine sVal (r_move rfl rfl) ?_
           refine s_nil ?_
           refine hKL8 _ _ _ (by rfl) (by rfl) ?_ ?_
           · exact ⟨j + 1, rfl, by omega, hs⟩
           · (show _ < _; simp [intOf, xAt]; omega))
        case true =>
         replace hc20 := neT hc20
         try dsimp only [List.length_cons, List.length_nil] at hc20
         first
         | (exfalso; first | omega | (cases hc20; done))
         | (
           refine c_condT rfl ?_
           refine wp_seq_k (fun K21 hK21 => ?_)
           refine c_region ?_
           refine sVal (r_assign rfl rfl) ?_
           refine s_nil ?_
           refine hK21 _ _ ?_
           refine wp_ret ?_
           refine f_ret (rs := [.tmp 4]) rfl (.tmp rfl .nil) rfl ?_
           exact hk _ (fin0 hs (by repeat (first | exact Keeps.refl _ | apply Keeps.tail | apply Keeps.drop))))))
  case true =>
   replace hc4 := neT hc4
   try dsimp only [List.length_cons, List.length_nil] at hc4
   first
   | (exfalso; first | omega | (cases hc4; done))
   | (
     refine c_condT rfl ?_
     refine wp_seq_k (fun K22 hK22 => ?_)
     refine c_region ?_
     refine sVal (r_assign rfl rfl) ?_
     refine s_nil ?_
     refine hK22 _ _ ?_
     refine wp_ret ?_
     refine f_ret (rs := [.tmp 4]) rfl (.tmp rfl .nil) rfl ?_
     exact hk _ (fin0 hs (by repeat (first | exact Keeps.refl _ | apply Keeps.tail | apply Keeps.drop))))
theorem is15_use (hb : Bank l) (hs : Sat E H w) (c : Cut H (pkP g l T * rL 1 intC (.slice pL 5 kL) l) R) (hk : ∀ w', Sat E H w' → Q (.returned (.bool true)) w') :
    Calls Try.prog 26 #[.pointer (some ⟨g, 0, none⟩), .agg #[.slice pT 5 kT, .slice pL 5 kL]] w Q := by
  have hl := hb.len
  replace hs := hs.cut c
  simp only [← star_assoc] at hs
  replace hk : ∀ w', Sat E (R * pkP g l T * rL 1 intC (.slice pL 5 kL) l) w' → Q (.returned (.bool true)) w' := fun w' h => hk w' (h.eq (by rw [c.eq]; simp only [← star_assoc]))
  obtain ⟨sb, hsb⟩ : ∃ sb, safeB l = sb := ⟨_, rfl⟩
  refine f_enter Try.func26 rfl rfl ?_
  show Code.wp _ _ _ (Fr _) _
  refine wp_seq_k (fun K1 hK1 => ?_)
  refine c_region ?_
  refine s_ex (r_box rfl rfl rfl hs) rfl rfl (fun _ => by rfl) ?_
  intro bx w hs
  refine sVal (r_assign rfl rfl) ?_
  refine s_nil ?_
  refine hK1 _ _ ?_
  refine wp_seq_k (fun K2 hK2 => ?_)
  refine wp_seq_k (fun K3 hK3 => ?_)
  refine c_region ?_
  refine sVal (r_field rfl rfl of46_1) ?_
  refine sVal (r_load rfl rfl (ag22 _) hs.own (by rfl)) ?_
  refine sVal (r_len rfl rfl Try.underlying22) ?_
  refine sVal (r_move rfl rfl) ?_
  refine s_nil ?_
  refine hK3 _ _ ?_
  refine wp_block ?_
  refine c_loop (4 :: 5 :: 6 :: 10 :: 11 :: 12 :: 13 :: 14 :: 15 :: 16 :: 17 :: 18 :: 19 :: 20 :: 21 :: 22 :: 23 :: 24 :: 25 :: 26 :: 27 :: 28 :: 29 :: 30 :: 31 :: 32 :: []) (fun xs w => ∃ (j : Nat), xs = (xAt xs 0 :: xAt xs 1 :: xAt xs 2 :: .int .i64 (j : Int) :: xAt xs 4 :: xAt xs 5 :: xAt xs 6 :: xAt xs 7 :: xAt xs 8 :: xAt xs 9 :: xAt xs 10 :: xAt xs 11 :: xAt xs 12 :: xAt xs 13 :: xAt xs 14 :: xAt xs 15 :: xAt xs 16 :: xAt xs 17 :: xAt xs 18 :: xAt xs 19 :: xAt xs 20 :: xAt xs 21 :: xAt xs 22 :: xAt xs 23 :: xAt xs 24 :: xAt xs 25 :: []) ∧ j ≤ 5 ∧ Sat E (R * pkP g l T * rL 1 intC (.slice pL 5 kL) l * own bx (.cells #[.slice pT 5 kT, .slice pL 5 kL] 46 (0, 0))) w) (fun xs _ => 5 - (intOf (xAt xs 3)).toNat) rfl (by rfl) ?_ ?_
  · exact ⟨0, rfl, by omega, hs⟩
  clear hs
  rintro xs w ⟨j, hxs, hj, hs⟩
  obtain ⟨D4, hD4⟩ : ∃ D, D = xAt xs := ⟨_, rfl⟩
  rw [← hD4] at hxs
  clear hD4
  subst hxs
  refine ⟨_, rfl, fun KL5 hKL5 => ?_⟩
  refine wp_seq_k (fun K6 hK6 => ?_)
  refine c_region ?_
  refine s_bool (r_cmp rfl rfl rfl rfl) rfl rfl (fun _ => by rfl) ?_
  intro c7 hc7
  refine s_nil ?_
  refine hK6 _ _ ?_
  refine wp_seq_k (fun K8 hK8 => ?_)
  cases c7
  case false =>
   replace hc7 := decF' hc7
   try dsimp only [List.length_cons, List.length_nil] at hc7
   first
   | (exfalso; first | omega | (cases hc7; done))
   | (
     refine c_condF rfl ?_
     refine wp_exit ?_
     refine hK2 _ _ ?_
     refine wp_seq_k (fun K9 hK9 => ?_)
     replace hs := hs.drew
     refine d_start (by kernel_rfl) ?_
     refine d_pre [0] (g := 5) (by kernel_rfl) (fun _ _ d _ _ h => by cases d <;> exact h) ?_
     refine pVal rfl (fun w => (r_move rfl rfl)) ?_
     refine p_nil ?_
     refine d_head 3 [(2, true), (1, false)] (Holds _ _) (g := 3) (by kernel_rfl) (fun _ _ d _ _ h => by cases d <;> exact h) (Holds.self hs) ?_
     refine hVal rfl (fun w hS => (r_loadA rfl rfl (ag46 _) hS.own in46 sz46 (by rfl))) ?_
     refine h_enter rfl (r_call rfl ent18 rfl) rfl ?_
     refine psafeH_use hl hs (by (repeat (first | exact Cut.head _ _ | apply Cut.tail)); done) ?_
     intro w hs
     rw [hsb]
     refine ⟨_, rfl, ah_bool (Holds.mono (Holds.self hs) (by repeat (first | exact Keeps.refl _ | apply Keeps.tail | apply Keeps.drop))) (fun _ => by rfl) ?_⟩
     intro c10 hc10
     refine h_nil ?_
     refine d_tail 3 (by kernel_rfl) ?_
     refine s_enter (r_call rfl ent28 rfl) rfl ?_
     refine r15Safe_use hl hs (by (repeat (first | exact Cut.head _ _ | apply Cut.tail)); done) ?_
     intro w hs
     rw [hsb]
     refine ⟨_, rfl, a_bool (fun _ => by rfl) ?_⟩
     intro c11 hc11
     cases c10
     case false =>
      replace hc10 := Eq.symm hc10
      try (with_reducible first | replace hc10 := of_decide_eq_true hc10 | replace hc10 := of_decide_eq_false hc10)
      try dsimp only [List.length_cons, List.length_nil] at hc10
      first
      | (exfalso; first | omega | (cases hc10; done) | (subst hc10; contradiction))
      | (
        cases c11
        case false =>
         replace hc11 := Eq.symm hc11
         try (with_reducible first | replace hc11 := of_decide_eq_true hc11 | replace hc11 := of_decide_eq_false hc11)
         try dsimp only [List.length_cons, List.length_nil] at hc11
         first
         | (exfalso; first | omega | (cases hc11; done) | (subst hc11; contradiction))
         | (
           refine sVal (r_cmpB rfl rfl rfl Try.underlying4 rfl) ?_
           refine sVal (r_assign rfl rfl) ?_
           refine s_nil ?_
           refine hK9 _ _ ?_
           refine wp_ret ?_
           refine f_ret (rs := [.tmp 4]) rfl (.tmp rfl .nil) rfl ?_
           exact hk _ (fin0 hs (by repeat (first | exact Keeps.refl _ | apply Keeps.tail | apply Keeps.drop))))
        case true =>
         replace hc11 := Eq.symm hc11
         try (with_reducible first | replace hc11 := of_decide_eq_true hc11 | replace hc11 := of_decide_eq_false hc11)
         try dsimp only [List.length_cons, List.length_nil] at hc11
         first
         | (exfalso; first | omega | (cases hc11; done) | (subst hc11; contradiction))
         | (
           refine sVal (r_cmpB rfl rfl rfl Try.underlying4 rfl) ?_
           refine sVal (r_assign rfl rfl) ?_
           refine s_nil ?_
           refine hK9 _ _ ?_
           refine wp_ret ?_
           refine f_ret (rs := [.tmp 4]) rfl (.tmp rfl .nil) rfl ?_
           exact hk _ (fin0 hs (by repeat (first | exact Keeps.refl _ | apply Keeps.tail | apply Keeps.drop)))))
     case true =>
      replace hc10 := Eq.symm hc10
      try (with_reducible first | replace hc10 := of_decide_eq_true hc10 | replace hc10 := of_decide_eq_false hc10)
      try dsimp only [List.length_cons, List.length_nil] at hc10
      first
      | (exfalso; first | omega | (cases hc10; done) | (subst hc10; contradiction))
      | (
        cases c11
        case false =>
         replace hc11 := Eq.symm hc11
         try (with_reducible first | replace hc11 := of_decide_eq_true hc11 | replace hc11 := of_decide_eq_false hc11)
         try dsimp only [List.length_cons, List.length_nil] at hc11
         first
         | (exfalso; first | omega | (cases hc11; done) | (subst hc11; contradiction))
         | (
           refine sVal (r_cmpB rfl rfl rfl Try.underlying4 rfl) ?_
           refine sVal (r_assign rfl rfl) ?_
           refine s_nil ?_
           refine hK9 _ _ ?_
           refine wp_ret ?_
           refine f_ret (rs := [.tmp 4]) rfl (.tmp rfl .nil) rfl ?_
           exact hk _ (fin0 hs (by repeat (first | exact Keeps.refl _ | apply Keeps.tail | apply Keeps.drop))))
        case true =>
         replace hc11 := Eq.symm hc11
         try (with_reducible first | replace hc11 := of_decide_eq_true hc11 | replace hc11 := of_decide_eq_false hc11)
         try dsimp only [List.length_cons, List.length_nil] at hc11
         first
         | (exfalso; first | omega | (cases hc11; done) | (subst hc11; contradiction))
         | (
           refine sVal (r_cmpB rfl rfl rfl Try.underlying4 rfl) ?_
           refine sVal (r_assign rfl rfl) ?_
           refine s_nil ?_
           refine hK9 _ _ ?_
           refine wp_ret ?_
           refine f_ret (rs := [.tmp 4]) rfl (.tmp rfl .nil) rfl ?_
           exact hk _ (fin0 hs (by repeat (first | exact Keeps.refl _ | apply Keeps.tail | apply Keeps.drop))))))
  case true =>
   replace hc7 := decT' hc7
   try dsimp only [List.length_cons, List.length_nil] at hc7
   first
   | (exfalso; first | omega | (cases hc7; done))
   | (
     refine c_condT rfl ?_
     refine wp_skip ?_
     refine hK8 _ _ ?_
     refine wp_seq_k (fun K12 hK12 => ?_)
     refine wp_block ?_
     refine wp_seq_k (fun K13 hK13 => ?_)
     refine c_region ?_
     have hx := atD (l := l) (m := j) hl (by omega)
     have hd := leftD (l := l) (m := j) hl (by omega)
     refine sVal (r_move rfl rfl) ?_
     refine s_exQ (r_idx (f := intC) rfl rfl rfl hs.rd (rfl) (hx) Try.underlying22 in3 sz3) rfl rfl (fun _ => by rfl) ?_
     intro ad15 he14
     refine sVal (r_loadEl rfl rfl hs.rd he14 (hx) (fun _ => rfl) (ag3 _) (by rfl)) ?_
     refine sVal (r_assign rfl rfl) ?_
     refine sVal (r_assign rfl rfl) ?_
     refine s_nil ?_
     refine hK13 _ _ ?_
     refine wp_seq_k (fun K16 hK16 => ?_)
     refine c_region ?_
     refine sVal (r_move rfl rfl) ?_
     refine sVal (r_nil rfl rfl) ?_
     refine sVal (r_field rfl rfl of37_0) ?_
     refine sVal (r_move rfl rfl) ?_
     refine s_enter (r_call rfl ent21 rfl) rfl ?_
     refine pleft_use _ hl hs (by (repeat (first | exact Cut.head _ _ | apply Cut.tail)); done) ?_
     intro w hs
     refine ⟨_, rfl, a_put (by rfl) ?_⟩
     refine sVal (r_move rfl rfl) ?_
     refine s_bool (r_cmp rfl rfl rfl rfl) rfl rfl (fun _ => by rfl) ?_
     intro c17 hc17
     refine sVal (r_move rfl rfl) ?_
     cases c17
     case false =>
      replace hc17 := neF hc17
      try dsimp only [List.length_cons, List.length_nil] at hc17
      first
      | (exfalso; first | omega | (cases hc17; done))
      | (
        refine sVal (r_move rfl rfl) ?_
        refine sVal (r_nil rfl rfl) ?_
        refine sVal (r_field rfl rfl of37_0) ?_
        refine sVal (r_move rfl rfl) ?_
        refine s_enter (r_call rfl ent17 rfl) rfl ?_
        refine pruns_use _ hl hs (by (repeat (first | exact Cut.head _ _ | apply Cut.tail)); done) ?_
        intro w hs
        refine ⟨_, rfl, a_bool (fun _ => by rfl) ?_⟩
        intro c18 hc18
        refine sVal (r_move rfl rfl) ?_
        refine s_bool (r_cmp rfl rfl rfl rfl) rfl rfl (fun _ => by rfl) ?_
        intro c19 hc19
        cases c18
        case false =>
         replace hc18 := Eq.symm hc18
         try (with_reducible first | replace hc18 := of_decide_eq_true hc18 | replace hc18 := of_decide_eq_false hc18)
         try dsimp only [List.length_cons, List.length_nil] at hc18
         first
         | (exfalso; first | omega | (cases hc18; done) | (subst hc18; contradiction))
         | (
           cases c19
           case false =>
            replace hc19 := gtF hc19
            try dsimp only [List.length_cons, List.length_nil] at hc19
            first
            | (exfalso; first | omega | (cases hc19; done))
            | (
              refine sVal (r_cmpB rfl rfl rfl Try.underlying4 rfl) ?_
              refine sVal (r_pickF rfl rfl rfl) ?_
              refine s_nil ?_
              refine hK16 _ _ ?_
              refine c_condF rfl ?_
              refine wp_skip ?_
              refine hK12 _ _ ?_
              refine c_region ?_
              refine sVal (r_ari rfl rfl rfl rfl (by first | exact wrapI (by omega) | rfl)) ?_
              refine sVal (r_move rfl rfl) ?_
              refine s_nil ?_
              refine hKL5 _ _ _ (by rfl) (by rfl) ?_ ?_
              · exact ⟨j + 1, rfl, by omega, hs⟩
              · (show _ < _; simp [intOf, xAt]; omega))
           case true =>
            replace hc19 := gtT hc19
            try dsimp only [List.length_cons, List.length_nil] at hc19
            first
            | (exfalso; first | omega | (cases hc19; done))
            | (
              refine sVal (r_cmpB rfl rfl rfl Try.underlying4 rfl) ?_
              refine sVal (r_pickF rfl rfl rfl) ?_
              refine s_nil ?_
              refine hK16 _ _ ?_
              refine c_condT rfl ?_
              refine wp_seq_k (fun K20 hK20 => ?_)
              refine c_region ?_
              refine sVal (r_assign rfl rfl) ?_
              refine s_nil ?_
              refine hK20 _ _ ?_
              refine wp_ret ?_
              refine f_ret (rs := [.tmp 4]) rfl (.tmp rfl .nil) rfl ?_
              exact hk _ (fin0 hs (by repeat (first | exact Keeps.refl _ | apply Keeps.tail | apply Keeps.drop)))))
        case true =>
         replace hc18 := Eq.symm hc18
         try (with_reducible first | replace hc18 := of_decide_eq_true hc18 | replace hc18 := of_decide_eq_false hc18)
         try dsimp only [List.length_cons, List.length_nil] at hc18
         first
         | (exfalso; first | omega | (cases hc18; done) | (subst hc18; contradiction))
         | (
           cases c19
           case false =>
            replace hc19 := gtF hc19
            try dsimp only [List.length_cons, List.length_nil] at hc19
            first
            | (exfalso; first | omega | (cases hc19; done))
            | (
              refine sVal (r_cmpB rfl rfl rfl Try.underlying4 rfl) ?_
              refine sVal (r_pickF rfl rfl rfl) ?_
              refine s_nil ?_
              refine hK16 _ _ ?_
              refine c_condT rfl ?_
              refine wp_seq_k (fun K21 hK21 => ?_)
              refine c_region ?_
              refine sVal (r_assign rfl rfl) ?_
              refine s_nil ?_
              refine hK21 _ _ ?_
              refine wp_ret ?_
              refine f_ret (rs := [.tmp 4]) rfl (.tmp rfl .nil) rfl ?_
              exact hk _ (fin0 hs (by repeat (first | exact Keeps.refl _ | apply Keeps.tail | apply Keeps.drop))))
           case true =>
            replace hc19 := gtT hc19
            try dsimp only [List.length_cons, List.length_nil] at hc19
            first
            | (exfalso; first | omega | (cases hc19; done))
            | (
              refine sVal (r_cmpB rfl rfl rfl Try.underlying4 rfl) ?_
              refine sVal (r_pickF rfl rfl rfl) ?_
              refine s_nil ?_
              refine hK16 _ _ ?_
              refine c_condF rfl ?_
              refine wp_skip ?_
              refine hK12 _ _ ?_
              refine c_region ?_
              refine sVal (r_ari rfl rfl rfl rfl (by first | exact wrapI (by omega) | rfl)) ?_
              refine sVal (r_move rfl rfl) ?_
              refine s_nil ?_
              refine hKL5 _ _ _ (by rfl) (by rfl) ?_ ?_
              · exact ⟨j + 1, rfl, by omega, hs⟩
              · (show _ < _; simp [intOf, xAt]; omega))))
     case true =>
      replace hc17 := neT hc17
      try dsimp only [List.length_cons, List.length_nil] at hc17
      first
      | (exfalso; first | omega | (cases hc17; done))
      | (
        refine @s_pass _ _ _ _ _ _ _ _ 23 (by rfl) (want_no rfl rfl rfl rfl) (by rfl) ?_
        refine @s_pass _ _ _ _ _ _ _ _ 24 (by rfl) (want_no rfl rfl rfl rfl) (by rfl) ?_
        refine @s_pass _ _ _ _ _ _ _ _ 25 (by rfl) (want_no rfl rfl rfl rfl) (by rfl) ?_
        refine @s_pass _ _ _ _ _ _ _ _ 26 (by rfl) (want_no rfl rfl rfl rfl) (by rfl) ?_
        refine @s_pass _ _ _ _ _ _ _ _ 27 (by rfl) (want_no rfl rfl rfl rfl) (by rfl) ?_
        refine @s_pass _ _ _ _ _ _ _ _ 28 (by rfl) (want_no rfl rfl rfl rfl) (by rfl) ?_
        refine @s_pass _ _ _ _ _ _ _ _ 29 (by rfl) (want_no rfl rfl rfl rfl) (by rfl) ?_
        refine @s_pass _ _ _ _ _ _ _ _ 30 (by rfl) (want_no rfl rfl rfl rfl) (by rfl) ?_
        refine sVal (r_pickT rfl rfl rfl) ?_
        refine s_nil ?_
        refine hK16 _ _ ?_
        refine c_condT rfl ?_
        refine wp_seq_k (fun K22 hK22 => ?_)
        refine c_region ?_
        refine sVal (r_assign rfl rfl) ?_
        refine s_nil ?_
        refine hK22 _ _ ?_
        refine wp_ret ?_
        refine f_ret (rs := [.tmp 4]) rfl (.tmp rfl .nil) rfl ?_
        exact hk _ (fin0 hs (by repeat (first | exact Keeps.refl _ | apply Keeps.tail | apply Keeps.drop)))))
theorem step15_use {k : Int} {i : Bool} (hb : Bank l) (hT : Ticks T) (hs : Sat E H w) (c : Cut H (pkP g l T) R) (c2 : Cut R (rL 1 intC (.slice pT 5 kT) T * rL 1 intC (.slice pL 5 kL) l) R2)
    (hk : ∀ q kq w', Sat E (R * pkP g (stepL l T k i) T * rL 1 intC (.slice q 5 kq) (stepL l T k i)) w' → Q (.returned (.tuple #[.agg #[.slice pT 5 kT, .slice q 5 kq], .bool true])) w') :
    Calls Try.prog 25 #[.pointer (some ⟨g, 0, none⟩), .agg #[.slice pT 5 kT, .slice pL 5 kL], .agg #[.int .i64 k, .bool i]] w Q := by
  have hl := hb.len
  have hTl := hT.len
  replace hs := hs.cut c
  rw [c2.eq] at hs
  simp only [← star_assoc] at hs
  replace hk : ∀ q kq w', Sat E (R2 * rL 1 intC (.slice pT 5 kT) T * rL 1 intC (.slice pL 5 kL) l * pkP g (stepL l T k i) T * rL 1 intC (.slice q 5 kq) (stepL l T k i)) w' → Q (.returned (.tuple #[.agg #[.slice pT 5 kT, .slice q 5 kq], .bool true])) w' := fun q kq w' h => hk q kq w' (h.eq (by rw [c2.eq]; simp only [← star_assoc]))
  refine f_enter Try.func25 rfl rfl ?_
  show Code.wp _ _ _ (Fr _) _
  refine wp_seq_k (fun K1 hK1 => ?_)
  refine c_region ?_
  refine s_ex (r_box rfl rfl rfl hs) rfl rfl (fun _ => by rfl) ?_
  intro bx w hs
  refine s_ex (r_box rfl rfl rfl hs) rfl rfl (fun _ => by rfl) ?_
  intro ba w hs
  refine s_ex (r_alloc rfl zr46 hs) rfl rfl (fun _ => by rfl) ?_
  intro br w hs
  refine sVal (r_assign rfl rfl) ?_
  refine s_nil ?_
  refine hK1 _ _ ?_
  refine wp_seq_k (fun K2 hK2 => ?_)
  refine wp_seq_k (fun K3 hK3 => ?_)
  refine c_region ?_
  refine sVal (r_field rfl rfl of51_0) ?_
  refine sVal (r_load rfl rfl (ag3 _) hs.own (by rfl)) ?_
  refine s_nil ?_
  refine hK3 _ _ ?_
  refine wp_block ?_
  refine wp_seq_k (fun K4 hK4 => ?_)
  refine c_region ?_
  refine s_bool (r_cmp rfl rfl rfl rfl) rfl rfl (fun _ => by rfl) ?_
  intro c5 hc5
  refine sVal (r_assign rfl rfl) ?_
  refine s_nil ?_
  refine hK4 _ _ ?_
  cases c5
  case false =>
   replace hc5 := eqF hc5
   try dsimp only [List.length_cons, List.length_nil] at hc5
   first
   | (exfalso; first | omega | (cases hc5; done))
   | (
     refine c_condF rfl ?_
     refine wp_seq_k (fun K6 hK6 => ?_)
     refine c_region ?_
     refine s_bool (r_cmp rfl rfl rfl rfl) rfl rfl (fun _ => by rfl) ?_
     intro c7 hc7
     refine sVal (r_assign rfl rfl) ?_
     refine s_nil ?_
     refine hK6 _ _ ?_
     cases c7
     case false =>
      replace hc7 := eqF hc7
      try dsimp only [List.length_cons, List.length_nil] at hc7
      first
      | (exfalso; first | omega | (cases hc7; done))
      | (
        refine c_condF rfl ?_
        refine wp_seq_k (fun K8 hK8 => ?_)
        refine c_region ?_
        refine s_bool (r_cmp rfl rfl rfl rfl) rfl rfl (fun _ => by rfl) ?_
        intro c9 hc9
        refine sVal (r_assign rfl rfl) ?_
        refine s_nil ?_
        refine hK8 _ _ ?_
        cases c9
        case false =>
         replace hc9 := eqF hc9
         try dsimp only [List.length_cons, List.length_nil] at hc9
         first
         | (exfalso; first | omega | (cases hc9; done))
         | (
           refine c_condF rfl ?_
           refine wp_seq_k (fun K10 hK10 => ?_)
           refine c_region ?_
           refine s_bool (r_cmp rfl rfl rfl rfl) rfl rfl (fun _ => by rfl) ?_
           intro c11 hc11
           refine sVal (r_assign rfl rfl) ?_
           refine s_nil ?_
           refine hK10 _ _ ?_
           cases c11
           case false =>
            replace hc11 := eqF hc11
            try dsimp only [List.length_cons, List.length_nil] at hc11
            first
            | (exfalso; first | omega | (cases hc11; done))
            | (
              refine c_condF rfl ?_
              refine wp_seq_k (fun K12 hK12 => ?_)
              refine c_region ?_
              refine s_bool (r_cmp rfl rfl rfl rfl) rfl rfl (fun _ => by rfl) ?_
              intro c13 hc13
              refine sVal (r_assign rfl rfl) ?_
              refine s_nil ?_
              refine hK12 _ _ ?_
              cases c13
              case false =>
               replace hc13 := eqF hc13
               try dsimp only [List.length_cons, List.length_nil] at hc13
               first
               | (exfalso; first | omega | (cases hc13; done))
               | (
                 refine c_condF rfl ?_
                 refine wp_seq_k (fun K14 hK14 => ?_)
                 refine c_region ?_
                 refine s_bool (r_cmp rfl rfl rfl rfl) rfl rfl (fun _ => by rfl) ?_
                 intro c15 hc15
                 refine sVal (r_assign rfl rfl) ?_
                 refine s_nil ?_
                 refine hK14 _ _ ?_
                 cases c15
                 case false =>
                  replace hc15 := eqF hc15
                  try dsimp only [List.length_cons, List.length_nil] at hc15
                  first
                  | (exfalso; first | omega | (cases hc15; done))
                  | (
                    refine c_condF rfl ?_
                    refine wp_seq_k (fun K16 hK16 => ?_)
                    refine c_region ?_
                    refine s_bool (r_cmp rfl rfl rfl rfl) rfl rfl (fun _ => by rfl) ?_
                    intro c17 hc17
                    refine sVal (r_assign rfl rfl) ?_
                    refine s_nil ?_
                    refine hK16 _ _ ?_
                    cases c17
                    case false =>
                     replace hc17 := eqF hc17
                     try dsimp only [List.length_cons, List.length_nil] at hc17
                     first
                     | (exfalso; first | omega | (cases hc17; done))
                     | (
                       refine c_condF rfl ?_
                       refine wp_seq_k (fun K18 hK18 => ?_)
                       refine c_region ?_
                       refine s_bool (r_cmp rfl rfl rfl rfl) rfl rfl (fun _ => by rfl) ?_
                       intro c19 hc19
                       refine sVal (r_assign rfl rfl) ?_
                       refine s_nil ?_
                       refine hK18 _ _ ?_
                       cases c19
                       case false =>
                        replace hc19 := eqF hc19
                        try dsimp only [List.length_cons, List.length_nil] at hc19
                        first
                        | (exfalso; first | omega | (cases hc19; done))
                        | (
                          refine c_condF rfl ?_
                          refine wp_skip ?_
                          refine hK2 _ _ ?_
                          refine wp_seq_k (fun K20 hK20 => ?_)
                          refine c_region ?_
                          refine sVal (r_loadA rfl rfl (ag46 _) hs.own in46 sz46 (by rfl)) ?_
                          refine s_enter (r_call rfl ent56 rfl) rfl ?_
                          refine r15Tick_use (T := T) hb hs (by (repeat (first | apply Cut.pair | exact Cut.head _ _ | apply Cut.tail)); done) ?_
                          intro q kq q2 kq2 w hs
                          refine ⟨_, rfl, a_put (by rfl) ?_⟩
                          refine sVal (r_move rfl rfl) ?_
                          refine sVal (r_extract rfl rfl (by rfl)) ?_
                          refine sVal (r_extract rfl rfl (by rfl)) ?_
                          refine s_ex (r_alloc rfl zr46 hs) rfl rfl (fun _ => by rfl) ?_
                          intro b9 w hs
                          refine s_exS (r_storeA rfl rfl rfl hs (by (repeat (first | exact Cut.head _ _ | apply Cut.tail)); done) in46 sz46 rfl (fun h => by cases h) rfl (by rfl)) rfl rfl ?_
                          intro w hs
                          refine sVal (r_assign rfl rfl) ?_
                          refine s_nil ?_
                          refine hK20 _ _ ?_
                          refine wp_seq_k (fun K21 hK21 => ?_)
                          replace hs := hs.drew
                          refine d_start (by kernel_rfl) ?_
                          refine d_pre [1, 2, 3, 5] (g := 5) (by kernel_rfl) (fun _ _ d _ _ h => by cases d <;> exact h) ?_
                          refine pVal rfl (fun w => (r_move rfl rfl)) ?_
                          refine pVal rfl (fun w => (r_nil rfl rfl)) ?_
                          refine pVal rfl (fun w => (r_field rfl rfl of37_0)) ?_
                          refine pVal rfl (fun w => (r_move rfl rfl)) ?_
                          refine p_nil ?_
                          refine d_head 7 [(0, true), (4, false), (6, false)] (Holds _ _) (g := 2) (by kernel_rfl) (fun _ _ d _ _ h => by cases d <;> exact h) (Holds.but (A := pkP _ _ _) hs (by (repeat (first | apply Cut.pair | exact Cut.head _ _ | apply Cut.tail)); done)) ?_
                          refine hVal rfl (fun w hS => (r_loadA rfl rfl (ag46 _) hS.own in46 sz46 (by rfl))) ?_
                          refine h_enter rfl (r_call rfl ent16 rfl) rfl ?_
                          refine ptick_use hb hs (by (repeat (first | exact Cut.head _ _ | apply Cut.tail)); done) ?_
                          intro pv kv w hs
                          refine ⟨_, rfl, ah_put (Holds.mono (Holds.self hs) (by repeat (first | exact Keeps.refl _ | apply Keeps.tail | apply Keeps.drop))) (by rfl) ?_⟩
                          refine h_enter rfl (r_call rfl ent57 rfl) rfl ?_
                          replace hs := hs.letL (L := overL l) (v := .slice pv (overL l).length kv) (by (repeat (first | exact Cut.head _ _ | apply Cut.tail)); done)
                          refine same03_use (by have := over_len hl; omega) hs (by (repeat (first | apply Cut.pair | exact Cut.head _ _ | apply Cut.tail)); done) ?_
                          intro w hs
                          refine ⟨_, rfl, ah_bool (Holds.mono (Holds.self hs) (by repeat (first | exact Keeps.refl _ | apply Keeps.tail | apply Keeps.drop))) (fun _ => by rfl) ?_⟩
                          intro c22 hc22
                          refine h_nil ?_
                          refine d_tail 7 (by kernel_rfl) ?_
                          refine s_exS (r_storeA rfl rfl rfl hs (by (repeat (first | exact Cut.head _ _ | apply Cut.tail)); done) in46 sz46 rfl (fun h => by cases h) rfl (by rfl)) rfl rfl ?_
                          intro w hs
                          refine sVal (r_assign rfl rfl) ?_
                          refine s_nil ?_
                          refine hK21 _ _ ?_
                          refine wp_ret ?_
                          refine f_ret (rs := [.cell 6 46, .tmp 7]) rfl (.cell rfl (run_loadL hs.own (ag46 _) in46 sz46 (by rfl)) (.tmp rfl .nil)) rfl ?_
                          subst c22
                          simp only [stepL, hc5, hc7, hc9, hc11, hc13, hc15, hc17, hc19, ↓reduceIte] at hk
                          first | exact hk q kq _ hs.permK | exact hk pL kL _ (hs.dupL (L := l) (v := .slice pL 5 kL) (by (repeat (first | exact Cut.head _ _ | apply Cut.tail)); done)).permK)
                       case true =>
                        replace hc19 := eqT hc19
                        try dsimp only [List.length_cons, List.length_nil] at hc19
                        first
                        | (exfalso; first | omega | (cases hc19; done))
                        | (
                          refine c_condT rfl ?_
                          refine wp_seq_k (fun K23 hK23 => ?_)
                          refine c_region ?_
                          refine sVal (r_move rfl rfl) ?_
                          refine s_enter (r_call rfl ent23 rfl) rfl ?_
                          refine pclone_use hl hTl hs (by (repeat (first | exact Cut.head _ _ | apply Cut.tail)); done) ?_
                          intro g2 w hs
                          refine ⟨_, rfl, a_put (by rfl) ?_⟩
                          refine sVal (r_assign rfl rfl) ?_
                          refine s_nil ?_
                          refine hK23 _ _ ?_
                          refine wp_seq_k (fun K24 hK24 => ?_)
                          refine wp_seq_k (fun K25 hK25 => ?_)
                          refine c_region ?_
                          refine sVal (r_move rfl rfl) ?_
                          refine s_bool (r_cmpP rfl rfl rfl (by kernel_rfl) rfl) rfl rfl (fun _ => by rfl) ?_
                          intro c26 hc26
                          refine sVal (r_move rfl rfl) ?_
                          cases c26
                          case false =>
                           replace hc26 := Eq.symm hc26
                           try dsimp only [List.length_cons, List.length_nil] at hc26
                           first
                           | (exfalso; first | omega | (cases hc26; done))
                           | (
                             refine sVal (r_move rfl rfl) ?_
                             refine sVal (r_loadA rfl rfl (ag46 _) hs.own in46 sz46 (by rfl)) ?_
                             refine s_enter (r_call rfl ent26 rfl) rfl ?_
                             refine is15_use (g := g2) (T := T) hb hs (by (repeat (first | apply Cut.pair | exact Cut.head _ _ | apply Cut.tail)); done) ?_
                             intro w hs
                             refine ⟨_, rfl, a_bool (fun _ => by rfl) ?_⟩
                             intro c27 hc27
                             cases c27
                             case false =>
                              replace hc27 := Eq.symm hc27
                              try (with_reducible first | replace hc27 := of_decide_eq_true hc27 | replace hc27 := of_decide_eq_false hc27)
                              try dsimp only [List.length_cons, List.length_nil] at hc27
                              first
                              | (exfalso; first | omega | (cases hc27; done) | (subst hc27; contradiction))
                              | (
                                refine sVal (r_notF rfl rfl) ?_
                                refine sVal (r_pickF rfl rfl rfl) ?_
                                refine s_nil ?_
                                refine hK25 _ _ ?_
                                refine c_condT rfl ?_
                                refine wp_seq_k (fun K28 hK28 => ?_)
                                refine c_region ?_
                                refine sVal (r_loadA rfl rfl (ag46 _) hs.own in46 sz46 (by rfl)) ?_
                                refine s_exS (r_storeA rfl rfl rfl hs (by (repeat (first | exact Cut.head _ _ | apply Cut.tail)); done) in46 sz46 rfl (fun h => by cases h) rfl (by rfl)) rfl rfl ?_
                                intro w hs
                                refine sVal (r_assign rfl rfl) ?_
                                refine s_nil ?_
                                refine hK28 _ _ ?_
                                refine wp_ret ?_
                                refine f_ret (rs := [.cell 6 46, .tmp 7]) rfl (.cell rfl (run_loadL hs.own (ag46 _) in46 sz46 (by rfl)) (.tmp rfl .nil)) rfl ?_
                                simp only [stepL, hc5, hc7, hc9, hc11, hc13, hc15, hc17, hc19, hc26, hc27, ↓reduceIte] at hk
                                first | exact hk q kq _ hs.permK | exact hk pL kL _ (hs.dupL (L := l) (v := .slice pL 5 kL) (by (repeat (first | exact Cut.head _ _ | apply Cut.tail)); done)).permK)
                             case true =>
                              replace hc27 := Eq.symm hc27
                              try (with_reducible first | replace hc27 := of_decide_eq_true hc27 | replace hc27 := of_decide_eq_false hc27)
                              try dsimp only [List.length_cons, List.length_nil] at hc27
                              first
                              | (exfalso; first | omega | (cases hc27; done) | (subst hc27; contradiction))
                              | (
                                refine sVal (r_notT rfl rfl) ?_
                                refine sVal (r_pickF rfl rfl rfl) ?_
                                refine s_nil ?_
                                refine hK25 _ _ ?_
                                refine c_condF rfl ?_
                                refine wp_skip ?_
                                refine hK24 _ _ ?_
                                refine wp_seq_k (fun K29 hK29 => ?_)
                                refine c_region ?_
                                refine sVal (r_move rfl rfl) ?_
                                refine s_enter (r_call rfl ent15 rfl) rfl ?_
                                refine pbegin_use hl hTl hs (l := l) (g := g2) (T := T) (by (repeat (first | exact Cut.head _ _ | apply Cut.tail)); done) ?_
                                intro w hs
                                refine ⟨_, rfl, a_put (by rfl) ?_⟩
                                refine s_nil ?_
                                refine hK29 _ _ ?_
                                refine wp_seq_k (fun K30 hK30 => ?_)
                                refine c_region ?_
                                refine sVal (r_move rfl rfl) ?_
                                refine sVal (r_nil rfl rfl) ?_
                                refine sVal (r_field rfl rfl of37_0) ?_
                                refine s_enter (r_call rfl ent16 rfl) rfl ?_
                                refine ptick_use hb.begin hs (by (repeat (first | exact Cut.head _ _ | apply Cut.tail)); done) ?_
                                intro pv kv w hs
                                refine ⟨_, rfl, a_put (by rfl) ?_⟩
                                refine s_nil ?_
                                refine hK30 _ _ ?_
                                refine wp_seq_k (fun K31 hK31 => ?_)
                                refine c_region ?_
                                refine sVal (r_loadA rfl rfl (ag46 _) hs.own in46 sz46 (by rfl)) ?_
                                refine s_exS (r_storeA rfl rfl rfl hs (by (repeat (first | exact Cut.head _ _ | apply Cut.tail)); done) in46 sz46 rfl (fun h => by cases h) rfl (by rfl)) rfl rfl ?_
                                intro w hs
                                refine sVal (r_assign rfl rfl) ?_
                                refine s_nil ?_
                                refine hK31 _ _ ?_
                                refine wp_ret ?_
                                refine f_ret (rs := [.cell 6 46, .tmp 7]) rfl (.cell rfl (run_loadL hs.own (ag46 _) in46 sz46 (by rfl)) (.tmp rfl .nil)) rfl ?_
                                simp only [stepL, hc5, hc7, hc9, hc11, hc13, hc15, hc17, hc19, hc26, hc27, ↓reduceIte] at hk
                                first | exact hk q kq _ hs.permK | exact hk pL kL _ (hs.dupL (L := l) (v := .slice pL 5 kL) (by (repeat (first | exact Cut.head _ _ | apply Cut.tail)); done)).permK))
                          case true =>
                           replace hc26 := Eq.symm hc26
                           try dsimp only [List.length_cons, List.length_nil] at hc26
                           first
                           | (exfalso; first | omega | (cases hc26; done))
                           | (
                             refine @s_pass _ _ _ _ _ _ _ _ 70 (by rfl) (want_no rfl rfl rfl rfl) (by rfl) ?_
                             refine @s_pass _ _ _ _ _ _ _ _ 71 (by rfl) (want_no rfl rfl rfl rfl) (by rfl) ?_
                             refine @s_pass _ _ _ _ _ _ _ _ 72 (by rfl) (want_no rfl rfl rfl rfl) (by rfl) ?_
                             refine @s_pass _ _ _ _ _ _ _ _ 73 (by rfl) (want_no rfl rfl rfl rfl) (by rfl) ?_
                             refine sVal (r_pickT rfl rfl rfl) ?_
                             refine s_nil ?_
                             refine hK25 _ _ ?_
                             refine c_condT rfl ?_
                             refine wp_seq_k (fun K32 hK32 => ?_)
                             refine c_region ?_
                             refine sVal (r_loadA rfl rfl (ag46 _) hs.own in46 sz46 (by rfl)) ?_
                             refine s_exS (r_storeA rfl rfl rfl hs (by (repeat (first | exact Cut.head _ _ | apply Cut.tail)); done) in46 sz46 rfl (fun h => by cases h) rfl (by rfl)) rfl rfl ?_
                             intro w hs
                             refine sVal (r_assign rfl rfl) ?_
                             refine s_nil ?_
                             refine hK32 _ _ ?_
                             refine wp_ret ?_
                             refine f_ret (rs := [.cell 6 46, .tmp 7]) rfl (.cell rfl (run_loadL hs.own (ag46 _) in46 sz46 (by rfl)) (.tmp rfl .nil)) rfl ?_
                             simp only [stepL, hc5, hc7, hc9, hc11, hc13, hc15, hc17, hc19, hc26, ↓reduceIte] at hk
                             first | exact hk q kq _ hs.permK | exact hk pL kL _ (hs.dupL (L := l) (v := .slice pL 5 kL) (by (repeat (first | exact Cut.head _ _ | apply Cut.tail)); done)).permK)))
                    case true =>
                     replace hc17 := eqT hc17
                     try dsimp only [List.length_cons, List.length_nil] at hc17
                     first
                     | (exfalso; first | omega | (cases hc17; done))
                     | (
                       refine c_condT rfl ?_
                       refine wp_seq_k (fun K33 hK33 => ?_)
                       refine c_region ?_
                       refine sVal (r_move rfl rfl) ?_
                       refine sVal (r_field rfl rfl of51_1) ?_
                       refine s_bool (r_load rfl rfl (ag4 _) hs.own (by rfl)) rfl rfl (fun _ => by rfl) ?_
                       intro c34 hc34
                       refine s_enter (r_call rfl ent20 rfl) rfl ?_
                       refine panswered_use _ hl hTl hs (by (repeat (first | exact Cut.head _ _ | apply Cut.tail)); done) ?_
                       intro w hs
                       refine ⟨_, rfl, a_put (by rfl) ?_⟩
                       refine s_nil ?_
                       refine hK33 _ _ ?_
                       refine wp_seq_k (fun K35 hK35 => ?_)
                       refine c_region ?_
                       refine sVal (r_loadA rfl rfl (ag46 _) hs.own in46 sz46 (by rfl)) ?_
                       refine sVal (r_field rfl rfl of51_1) ?_
                       refine s_bool (r_load rfl rfl (ag4 _) hs.own (by rfl)) rfl rfl (fun _ => by rfl) ?_
                       intro c36 hc36
                       refine s_enter (r_call rfl ent55 rfl) rfl ?_
                       refine r15Answered_use _ hTl hl hs (by (repeat (first | apply Cut.pair | exact Cut.head _ _ | apply Cut.tail)); done) ?_
                       intro q kq w hs
                       rw [← answered_ref hb hT] at hs
                       refine ⟨_, rfl, a_put (by rfl) ?_⟩
                       refine s_exS (r_storeA rfl rfl rfl hs (by (repeat (first | exact Cut.head _ _ | apply Cut.tail)); done) in46 sz46 rfl (fun h => by cases h) rfl (by rfl)) rfl rfl ?_
                       intro w hs
                       refine sVal (r_assign rfl rfl) ?_
                       refine s_nil ?_
                       refine hK35 _ _ ?_
                       refine wp_ret ?_
                       refine f_ret (rs := [.cell 6 46, .tmp 7]) rfl (.cell rfl (run_loadL hs.own (ag46 _) in46 sz46 (by rfl)) (.tmp rfl .nil)) rfl ?_
                       subst c34
                       subst c36
                       simp only [stepL, hc5, hc7, hc9, hc11, hc13, hc15, hc17, ↓reduceIte] at hk
                       first | exact hk q kq _ hs.permK | exact hk pL kL _ (hs.dupL (L := l) (v := .slice pL 5 kL) (by (repeat (first | exact Cut.head _ _ | apply Cut.tail)); done)).permK))
                 case true =>
                  replace hc15 := eqT hc15
                  try dsimp only [List.length_cons, List.length_nil] at hc15
                  first
                  | (exfalso; first | omega | (cases hc15; done))
                  | (
                    refine c_condT rfl ?_
                    refine wp_seq_k (fun K37 hK37 => ?_)
                    refine c_region ?_
                    refine sVal (r_move rfl rfl) ?_
                    refine sVal (r_field rfl rfl of51_1) ?_
                    refine s_bool (r_load rfl rfl (ag4 _) hs.own (by rfl)) rfl rfl (fun _ => by rfl) ?_
                    intro c38 hc38
                    refine s_enter (r_call rfl ent19 rfl) rfl ?_
                    refine ppolled_use _ hl hTl hs (by (repeat (first | exact Cut.head _ _ | apply Cut.tail)); done) ?_
                    intro w hs
                    refine ⟨_, rfl, a_put (by rfl) ?_⟩
                    refine s_nil ?_
                    refine hK37 _ _ ?_
                    refine wp_seq_k (fun K39 hK39 => ?_)
                    refine c_region ?_
                    refine sVal (r_loadA rfl rfl (ag46 _) hs.own in46 sz46 (by rfl)) ?_
                    refine sVal (r_field rfl rfl of51_1) ?_
                    refine s_bool (r_load rfl rfl (ag4 _) hs.own (by rfl)) rfl rfl (fun _ => by rfl) ?_
                    intro c40 hc40
                    refine s_enter (r_call rfl ent54 rfl) rfl ?_
                    refine r15Polled_use _ hTl hl hs (by (repeat (first | apply Cut.pair | exact Cut.head _ _ | apply Cut.tail)); done) ?_
                    intro q kq w hs
                    rw [← polled_ref hb hT] at hs
                    refine ⟨_, rfl, a_put (by rfl) ?_⟩
                    refine s_exS (r_storeA rfl rfl rfl hs (by (repeat (first | exact Cut.head _ _ | apply Cut.tail)); done) in46 sz46 rfl (fun h => by cases h) rfl (by rfl)) rfl rfl ?_
                    intro w hs
                    refine sVal (r_assign rfl rfl) ?_
                    refine s_nil ?_
                    refine hK39 _ _ ?_
                    refine wp_ret ?_
                    refine f_ret (rs := [.cell 6 46, .tmp 7]) rfl (.cell rfl (run_loadL hs.own (ag46 _) in46 sz46 (by rfl)) (.tmp rfl .nil)) rfl ?_
                    subst c38
                    subst c40
                    simp only [stepL, hc5, hc7, hc9, hc11, hc13, hc15, ↓reduceIte] at hk
                    first | exact hk q kq _ hs.permK | exact hk pL kL _ (hs.dupL (L := l) (v := .slice pL 5 kL) (by (repeat (first | exact Cut.head _ _ | apply Cut.tail)); done)).permK))
              case true =>
               replace hc13 := eqT hc13
               try dsimp only [List.length_cons, List.length_nil] at hc13
               first
               | (exfalso; first | omega | (cases hc13; done))
               | (
                 refine c_condT rfl ?_
                 refine wp_seq_k (fun K41 hK41 => ?_)
                 refine c_region ?_
                 refine sVal (r_move rfl rfl) ?_
                 refine s_enter (r_call rfl ent22 rfl) rfl ?_
                 refine pbusy_use hl hTl hs (by (repeat (first | exact Cut.head _ _ | apply Cut.tail)); done) ?_
                 intro w hs
                 refine ⟨_, rfl, a_put (by rfl) ?_⟩
                 refine s_nil ?_
                 refine hK41 _ _ ?_
                 refine wp_seq_k (fun K42 hK42 => ?_)
                 refine c_region ?_
                 refine sVal (r_loadA rfl rfl (ag46 _) hs.own in46 sz46 (by rfl)) ?_
                 refine s_enter (r_call rfl ent53 rfl) rfl ?_
                 refine r15Busy_use hTl hl hs (by (repeat (first | apply Cut.pair | exact Cut.head _ _ | apply Cut.tail)); done) ?_
                 intro q kq w hs
                 rw [← busy_ref hb hT] at hs
                 refine ⟨_, rfl, a_put (by rfl) ?_⟩
                 refine s_exS (r_storeA rfl rfl rfl hs (by (repeat (first | exact Cut.head _ _ | apply Cut.tail)); done) in46 sz46 rfl (fun h => by cases h) rfl (by rfl)) rfl rfl ?_
                 intro w hs
                 refine sVal (r_assign rfl rfl) ?_
                 refine s_nil ?_
                 refine hK42 _ _ ?_
                 refine wp_ret ?_
                 refine f_ret (rs := [.cell 6 46, .tmp 7]) rfl (.cell rfl (run_loadL hs.own (ag46 _) in46 sz46 (by rfl)) (.tmp rfl .nil)) rfl ?_
                 simp only [stepL, hc5, hc7, hc9, hc11, hc13, ↓reduceIte] at hk
                 first | exact hk q kq _ hs.permK | exact hk pL kL _ (hs.dupL (L := l) (v := .slice pL 5 kL) (by (repeat (first | exact Cut.head _ _ | apply Cut.tail)); done)).permK))
           case true =>
            replace hc11 := eqT hc11
            try dsimp only [List.length_cons, List.length_nil] at hc11
            first
            | (exfalso; first | omega | (cases hc11; done))
            | (
              refine c_condT rfl ?_
              refine wp_seq_k (fun K43 hK43 => ?_)
              refine c_region ?_
              refine sVal (r_move rfl rfl) ?_
              refine s_enter (r_call rfl ent51 rfl) rfl ?_
              refine penough_use hl hs (by (repeat (first | exact Cut.head _ _ | apply Cut.tail)); done) ?_
              intro w hs
              refine ⟨_, rfl, a_put (by rfl) ?_⟩
              refine s_nil ?_
              refine hK43 _ _ ?_
              refine wp_seq_k (fun K44 hK44 => ?_)
              refine c_region ?_
              refine sVal (r_loadA rfl rfl (ag46 _) hs.own in46 sz46 (by rfl)) ?_
              refine s_enter (r_call rfl ent52 rfl) rfl ?_
              refine r15Enough_use hTl hl hs (by (repeat (first | apply Cut.pair | exact Cut.head _ _ | apply Cut.tail)); done) ?_
              intro q kq w hs
              rw [← enough_ref hb] at hs
              refine ⟨_, rfl, a_put (by rfl) ?_⟩
              refine s_exS (r_storeA rfl rfl rfl hs (by (repeat (first | exact Cut.head _ _ | apply Cut.tail)); done) in46 sz46 rfl (fun h => by cases h) rfl (by rfl)) rfl rfl ?_
              intro w hs
              refine sVal (r_assign rfl rfl) ?_
              refine s_nil ?_
              refine hK44 _ _ ?_
              refine wp_ret ?_
              refine f_ret (rs := [.cell 6 46, .tmp 7]) rfl (.cell rfl (run_loadL hs.own (ag46 _) in46 sz46 (by rfl)) (.tmp rfl .nil)) rfl ?_
              simp only [stepL, hc5, hc7, hc9, hc11, ↓reduceIte] at hk
              first | exact hk q kq _ hs.permK | exact hk pL kL _ (hs.dupL (L := l) (v := .slice pL 5 kL) (by (repeat (first | exact Cut.head _ _ | apply Cut.tail)); done)).permK))
        case true =>
         replace hc9 := eqT hc9
         try dsimp only [List.length_cons, List.length_nil] at hc9
         first
         | (exfalso; first | omega | (cases hc9; done))
         | (
           refine c_condT rfl ?_
           refine wp_seq_k (fun K45 hK45 => ?_)
           refine c_region ?_
           refine sVal (r_move rfl rfl) ?_
           refine s_enter (r_call rfl ent49 rfl) rfl ?_
           refine pagain_use hl hTl hs (by (repeat (first | exact Cut.head _ _ | apply Cut.tail)); done) ?_
           intro w hs
           refine ⟨_, rfl, a_put (by rfl) ?_⟩
           refine s_nil ?_
           refine hK45 _ _ ?_
           refine wp_seq_k (fun K46 hK46 => ?_)
           refine c_region ?_
           refine sVal (r_loadA rfl rfl (ag46 _) hs.own in46 sz46 (by rfl)) ?_
           refine s_enter (r_call rfl ent50 rfl) rfl ?_
           refine r15Again_use hTl hl hs (by (repeat (first | apply Cut.pair | exact Cut.head _ _ | apply Cut.tail)); done) ?_
           intro q kq w hs
           rw [← again_ref hb hT] at hs
           refine ⟨_, rfl, a_put (by rfl) ?_⟩
           refine s_exS (r_storeA rfl rfl rfl hs (by (repeat (first | exact Cut.head _ _ | apply Cut.tail)); done) in46 sz46 rfl (fun h => by cases h) rfl (by rfl)) rfl rfl ?_
           intro w hs
           refine sVal (r_assign rfl rfl) ?_
           refine s_nil ?_
           refine hK46 _ _ ?_
           refine wp_ret ?_
           refine f_ret (rs := [.cell 6 46, .tmp 7]) rfl (.cell rfl (run_loadL hs.own (ag46 _) in46 sz46 (by rfl)) (.tmp rfl .nil)) rfl ?_
           simp only [stepL, hc5, hc7, hc9, ↓reduceIte] at hk
           first | exact hk q kq _ hs.permK | exact hk pL kL _ (hs.dupL (L := l) (v := .slice pL 5 kL) (by (repeat (first | exact Cut.head _ _ | apply Cut.tail)); done)).permK))
     case true =>
      replace hc7 := eqT hc7
      try dsimp only [List.length_cons, List.length_nil] at hc7
      first
      | (exfalso; first | omega | (cases hc7; done))
      | (
        refine c_condT rfl ?_
        refine wp_seq_k (fun K47 hK47 => ?_)
        refine c_region ?_
        refine sVal (r_move rfl rfl) ?_
        refine s_enter (r_call rfl ent43 rfl) rfl ?_
        refine pend_use hl hs (by (repeat (first | exact Cut.head _ _ | apply Cut.tail)); done) ?_
        intro w hs
        refine ⟨_, rfl, a_put (by rfl) ?_⟩
        refine s_nil ?_
        refine hK47 _ _ ?_
        refine wp_seq_k (fun K48 hK48 => ?_)
        refine c_region ?_
        refine sVal (r_loadA rfl rfl (ag46 _) hs.own in46 sz46 (by rfl)) ?_
        refine s_enter (r_call rfl ent48 rfl) rfl ?_
        refine r15End_use hTl hl hs (by (repeat (first | apply Cut.pair | exact Cut.head _ _ | apply Cut.tail)); done) ?_
        intro q kq w hs
        rw [← end_ref hb] at hs
        refine ⟨_, rfl, a_put (by rfl) ?_⟩
        refine s_exS (r_storeA rfl rfl rfl hs (by (repeat (first | exact Cut.head _ _ | apply Cut.tail)); done) in46 sz46 rfl (fun h => by cases h) rfl (by rfl)) rfl rfl ?_
        intro w hs
        refine sVal (r_assign rfl rfl) ?_
        refine s_nil ?_
        refine hK48 _ _ ?_
        refine wp_ret ?_
        refine f_ret (rs := [.cell 6 46, .tmp 7]) rfl (.cell rfl (run_loadL hs.own (ag46 _) in46 sz46 (by rfl)) (.tmp rfl .nil)) rfl ?_
        simp only [stepL, hc5, hc7, ↓reduceIte] at hk
        first | exact hk q kq _ hs.permK | exact hk pL kL _ (hs.dupL (L := l) (v := .slice pL 5 kL) (by (repeat (first | exact Cut.head _ _ | apply Cut.tail)); done)).permK))
  case true =>
   replace hc5 := eqT hc5
   try dsimp only [List.length_cons, List.length_nil] at hc5
   first
   | (exfalso; first | omega | (cases hc5; done))
   | (
     refine c_condT rfl ?_
     refine wp_seq_k (fun K49 hK49 => ?_)
     refine c_region ?_
     refine sVal (r_move rfl rfl) ?_
     refine s_enter (r_call rfl ent15 rfl) rfl ?_
     refine pbegin_use hl hTl hs (by (repeat (first | exact Cut.head _ _ | apply Cut.tail)); done) ?_
     intro w hs
     refine ⟨_, rfl, a_put (by rfl) ?_⟩
     refine s_nil ?_
     refine hK49 _ _ ?_
     refine wp_seq_k (fun K50 hK50 => ?_)
     refine c_region ?_
     refine sVal (r_loadA rfl rfl (ag46 _) hs.own in46 sz46 (by rfl)) ?_
     refine s_enter (r_call rfl ent27 rfl) rfl ?_
     refine r15Begin_use hTl hl hs (by (repeat (first | apply Cut.pair | exact Cut.head _ _ | apply Cut.tail)); done) ?_
     intro q kq w hs
     rw [← begin_ref hb hT] at hs
     refine ⟨_, rfl, a_put (by rfl) ?_⟩
     refine s_exS (r_storeA rfl rfl rfl hs (by (repeat (first | exact Cut.head _ _ | apply Cut.tail)); done) in46 sz46 rfl (fun h => by cases h) rfl (by rfl)) rfl rfl ?_
     intro w hs
     refine sVal (r_assign rfl rfl) ?_
     refine s_nil ?_
     refine hK50 _ _ ?_
     refine wp_ret ?_
     refine f_ret (rs := [.cell 6 46, .tmp 7]) rfl (.cell rfl (run_loadL hs.own (ag46 _) in46 sz46 (by rfl)) (.tmp rfl .nil)) rfl ?_
     simp only [stepL, hc5, ↓reduceIte] at hk
     first | exact hk q kq _ hs.permK | exact hk pL kL _ (hs.dupL (L := l) (v := .slice pL 5 kL) (by (repeat (first | exact Cut.head _ _ | apply Cut.tail)); done)).permK)
theorem pacePlays_use {p pa : Option Addr} {k ka : Nat} {L : List Int} {acts : List (Int × Bool)} (hs : Sat E H w) (cu : Cut H (rL 1 intC (.slice p L.length k) L * rL 2 act5C (.slice pa acts.length ka) acts) R) (hk : ∀ w', Sat E R w' → Q (.returned (.bool true)) w') :
    Calls Try.prog 5 #[.slice p L.length k, .slice pa acts.length ka] w Q := by
  replace hs := hs.cut cu
  simp only [← star_assoc] at hs
  refine f_enter Try.func5 rfl rfl ?_
  show Code.wp _ _ _ (Fr _) _
  refine wp_seq_k (fun K1 hK1 => ?_)
  refine c_region ?_
  refine sVal (r_assign rfl rfl) ?_
  refine s_nil ?_
  refine hK1 _ _ ?_
  refine wp_seq_k (fun K2 hK2 => ?_)
  refine wp_seq_k (fun K3 hK3 => ?_)
  refine c_region ?_
  refine s_enter (r_call rfl ent11 rfl) rfl ?_
  refine awake15_use hs ?_
  intro w hs
  refine ⟨_, rfl, a_bool (fun _ => by rfl) ?_⟩
  intro c4 hc4
  cases c4
  case false =>
   replace hc4 := Eq.symm hc4
   try (with_reducible first | replace hc4 := of_decide_eq_true hc4 | replace hc4 := of_decide_eq_false hc4)
   try dsimp only [List.length_cons, List.length_nil] at hc4
   first
   | (exfalso; first | omega | (cases hc4; done) | (subst hc4; contradiction))
   | (
     refine sVal (r_notF rfl rfl) ?_
     refine s_nil ?_
     refine hK3 _ _ ?_
     refine c_condT rfl ?_
     refine wp_seq_k (fun K5 hK5 => ?_)
     refine c_region ?_
     refine sVal (r_assign rfl rfl) ?_
     refine s_nil ?_
     refine hK5 _ _ ?_
     refine wp_ret ?_
     refine f_ret (rs := [.tmp 4]) rfl (.tmp rfl .nil) rfl ?_
     exact hk _ hs.permK)
  case true =>
   replace hc4 := Eq.symm hc4
   try (with_reducible first | replace hc4 := of_decide_eq_true hc4 | replace hc4 := of_decide_eq_false hc4)
   try dsimp only [List.length_cons, List.length_nil] at hc4
   first
   | (exfalso; first | omega | (cases hc4; done) | (subst hc4; contradiction))
   | (
     refine sVal (r_notT rfl rfl) ?_
     refine s_nil ?_
     refine hK3 _ _ ?_
     refine c_condF rfl ?_
     refine wp_skip ?_
     refine hK2 _ _ ?_
     refine wp_seq_k (fun K6 hK6 => ?_)
     refine c_region ?_
     refine sVal (r_move rfl rfl) ?_
     refine s_enter (r_call rfl ent12 rfl) rfl ?_
     refine right_use hs (by (repeat (first | exact Cut.head _ _ | apply Cut.tail)); done) ?_
     intro a b c d e q kq w hT hs
     refine ⟨_, rfl, a_put (by rfl) ?_⟩
     refine sVal (r_assign rfl rfl) ?_
     refine s_nil ?_
     refine hK6 _ _ ?_
     refine wp_seq_k (fun K7 hK7 => ?_)
     refine c_region ?_
     refine sVal (r_move rfl rfl) ?_
     refine s_enter (r_call rfl ent14 rfl) rfl ?_
     refine own15_use hs (by (repeat (first | exact Cut.head _ _ | apply Cut.tail)); done) ?_
     intro w hs
     refine ⟨_, rfl, a_put (by rfl) ?_⟩
     refine s_enter (r_call rfl ent13 rfl) rfl ?_
     refine pnewP_use hT hs ?_
     intro g w hs
     refine ⟨_, rfl, a_put (by rfl) ?_⟩
     refine sVal (r_move rfl rfl) ?_
     refine sVal (r_extract rfl rfl (by rfl)) ?_
     refine sVal (r_extract rfl rfl (by rfl)) ?_
     refine sVal (r_assign rfl rfl) ?_
     refine sVal (r_assign rfl rfl) ?_
     refine s_nil ?_
     refine hK7 _ _ ?_
     refine wp_seq_k (fun K8 hK8 => ?_)
     refine wp_seq_k (fun K9 hK9 => ?_)
     refine c_region ?_
     refine sVal (r_move rfl rfl) ?_
     refine s_bool (r_cmpP rfl rfl rfl (by kernel_rfl) rfl) rfl rfl (fun _ => by rfl) ?_
     intro c10 hc10
     refine sVal (r_move rfl rfl) ?_
     cases c10
     case false =>
      replace hc10 := Eq.symm hc10
      try dsimp only [List.length_cons, List.length_nil] at hc10
      first
      | (exfalso; first | omega | (cases hc10; done))
      | (
        refine sVal (r_move rfl rfl) ?_
        refine s_bool (r_cmp rfl rfl rfl rfl) rfl rfl (fun _ => by rfl) ?_
        intro c11 hc11
        refine sVal (r_pickF rfl rfl rfl) ?_
        refine s_nil ?_
        refine hK9 _ _ ?_
        cases c11
        case false =>
         replace hc11 := neF hc11
         try dsimp only [List.length_cons, List.length_nil] at hc11
         first
         | (exfalso; first | omega | (cases hc11; done))
         | (
           refine c_condF rfl ?_
           refine wp_skip ?_
           refine hK8 _ _ ?_
           refine wp_seq_k (fun K12 hK12 => ?_)
           refine c_region ?_
           refine sVal (r_move rfl rfl) ?_
           refine s_enter (r_call rfl ent24 rfl) rfl ?_
           refine r15New_use hs ?_
           intro p0 k0 w hs
           refine ⟨_, rfl, a_put (by rfl) ?_⟩
           refine s_ex (r_alloc rfl zr46 hs) rfl rfl (fun _ => by rfl) ?_
           intro bx w hs
           refine s_exS (r_storeA rfl rfl rfl hs (by (repeat (first | exact Cut.head _ _ | apply Cut.tail)); done) in46 sz46 rfl (fun h => by cases h) rfl (by rfl)) rfl rfl ?_
           intro w hs
           refine s_nil ?_
           refine hK12 _ _ ?_
           refine wp_seq_k (fun K13 hK13 => ?_)
           refine c_region ?_
           refine sVal (r_assign rfl rfl) ?_
           refine s_nil ?_
           refine hK13 _ _ ?_
           refine wp_seq_k (fun K14 hK14 => ?_)
           refine wp_seq_k (fun K15 hK15 => ?_)
           refine c_region ?_
           refine sVal (r_assign rfl rfl) ?_
           refine s_nil ?_
           refine hK15 _ _ ?_
           refine wp_block ?_
           refine c_loop (4 :: 8 :: 9 :: 28 :: 29 :: 30 :: 31 :: 32 :: 33 :: 34 :: 35 :: 36 :: 37 :: 38 :: 39 :: 40 :: 41 :: 42 :: 43 :: 44 :: 45 :: 46 :: 47 :: 48 :: 49 :: 50 :: 51 :: 52 :: 53 :: 54 :: 55 :: []) (fun xs w => ∃ (j : Nat) (l : List Int) (pL : Option Addr) (kL : Nat), xs = (xAt xs 0 :: xAt xs 1 :: .int .i64 (j : Int) :: xAt xs 3 :: xAt xs 4 :: xAt xs 5 :: xAt xs 6 :: xAt xs 7 :: xAt xs 8 :: xAt xs 9 :: xAt xs 10 :: xAt xs 11 :: xAt xs 12 :: xAt xs 13 :: xAt xs 14 :: xAt xs 15 :: xAt xs 16 :: xAt xs 17 :: xAt xs 18 :: xAt xs 19 :: xAt xs 20 :: xAt xs 21 :: xAt xs 22 :: xAt xs 23 :: xAt xs 24 :: xAt xs 25 :: xAt xs 26 :: xAt xs 27 :: xAt xs 28 :: xAt xs 29 :: xAt xs 30 :: []) ∧ j ≤ acts.length ∧ Bank l ∧ Sat E (R * rL 2 act5C (.slice pa acts.length ka) acts * rL 1 intC (.slice q 5 kq) [a, b, c, d, e] * own bx (.cells #[.slice q 5 kq, .slice pL 5 kL] 46 (0, 0)) * rL 1 intC (.slice pL 5 kL) l * pkP g l [a, b, c, d, e]) w) (fun xs _ => acts.length - (intOf (xAt xs 2)).toNat) rfl (by rfl) ?_ ?_
           · exact ⟨0, zeroL, p0, k0, rfl, by omega, Bank.zero, hs.permK⟩
           clear hs
           rintro xs w ⟨j, l, pL, kL, hxs, hj, hb, hs⟩
           obtain ⟨D16, hD16⟩ : ∃ D, D = xAt xs := ⟨_, rfl⟩
           rw [← hD16] at hxs
           clear hD16
           subst hxs
           refine ⟨_, rfl, fun KL17 hKL17 => ?_⟩
           refine wp_seq_k (fun K18 hK18 => ?_)
           refine wp_seq_k (fun K19 hK19 => ?_)
           refine c_region ?_
           refine sVal (r_move rfl rfl) ?_
           refine sVal (r_move rfl rfl) ?_
           refine sVal (r_len rfl rfl Try.underlying44) ?_
           refine s_bool (r_cmp rfl rfl rfl rfl) rfl rfl (fun _ => by rfl) ?_
           intro c20 hc20
           refine sVal (r_move rfl rfl) ?_
           cases c20
           case false =>
            replace hc20 := decF' hc20
            try dsimp only [List.length_cons, List.length_nil] at hc20
            first
            | (exfalso; first | omega | (cases hc20; done))
            | (
              refine @s_pass _ _ _ _ _ _ _ _ 33 (by rfl) (want_no rfl rfl rfl rfl) (by rfl) ?_
              refine @s_pass _ _ _ _ _ _ _ _ 34 (by rfl) (want_no rfl rfl rfl rfl) (by rfl) ?_
              refine sVal (r_pickF rfl rfl rfl) ?_
              refine s_nil ?_
              refine hK19 _ _ ?_
              refine c_condF rfl ?_
              refine wp_exit ?_
              refine hK14 _ _ ?_
              refine wp_seq_k (fun K21 hK21 => ?_)
              refine c_region ?_
              refine sVal (r_assign rfl rfl) ?_
              refine s_nil ?_
              refine hK21 _ _ ?_
              refine wp_ret ?_
              refine f_ret (rs := [.tmp 4]) rfl (.tmp rfl .nil) rfl ?_
              exact hk _ hs.permK)
           case true =>
            replace hc20 := decT' hc20
            try dsimp only [List.length_cons, List.length_nil] at hc20
            first
            | (exfalso; first | omega | (cases hc20; done))
            | (
              refine sVal (r_move rfl rfl) ?_
              refine s_bool (r_cmp rfl rfl rfl rfl) rfl rfl (fun _ => by rfl) ?_
              intro c22 hc22
              refine sVal (r_pickT rfl rfl rfl) ?_
              refine s_nil ?_
              refine hK19 _ _ ?_
              cases c22
              case false =>
               replace hc22 := decF' hc22
               try dsimp only [List.length_cons, List.length_nil] at hc22
               first
               | (exfalso; first | omega | (cases hc22; done))
               | (
                 refine c_condF rfl ?_
                 refine wp_exit ?_
                 refine hK14 _ _ ?_
                 refine wp_seq_k (fun K23 hK23 => ?_)
                 refine c_region ?_
                 refine sVal (r_assign rfl rfl) ?_
                 refine s_nil ?_
                 refine hK23 _ _ ?_
                 refine wp_ret ?_
                 refine f_ret (rs := [.tmp 4]) rfl (.tmp rfl .nil) rfl ?_
                 exact hk _ hs.permK)
              case true =>
               replace hc22 := decT' hc22
               try dsimp only [List.length_cons, List.length_nil] at hc22
               first
               | (exfalso; first | omega | (cases hc22; done))
               | (
                 refine c_condT rfl ?_
                 refine wp_skip ?_
                 refine hK18 _ _ ?_
                 refine wp_seq_k (fun K24 hK24 => ?_)
                 refine wp_block ?_
                 refine wp_seq_k (fun K25 hK25 => ?_)
                 replace hs := hs.drew
                 refine d_start (by kernel_rfl) ?_
                 refine d_pre [0, 2, 3, 4] (g := 8) (by kernel_rfl) (fun _ _ d _ _ h => by cases d <;> exact h) ?_
                 obtain ⟨act, hx⟩ : ∃ act, acts[j]? = some act := ⟨_, List.getElem?_eq_getElem (by omega)⟩
                 refine pVal rfl (fun w => (r_move rfl rfl)) ?_
                 refine pVal rfl (fun w => (r_move rfl rfl)) ?_
                 refine pVal rfl (fun w => (r_move rfl rfl)) ?_
                 refine p_exQ rfl (r_idx (f := act5C) rfl rfl rfl hs.rd (rfl) (hx) Try.underlying44 in51 sz51) rfl rfl (fun _ => by rfl) ?_
                 intro ad27 he26
                 refine p_nil ?_
                 refine d_head 11 [(5, true), (1, false), (6, false), (7, true), (8, true), (9, true), (10, false)] (Holds _ _) (g := 1) (by kernel_rfl) (fun _ _ d _ _ h => by cases d <;> exact h) (Holds.but (A := pkP _ _ _ * own bx _) hs (by (repeat (first | apply Cut.pair | exact Cut.head _ _ | apply Cut.tail)); done)) ?_
                 refine hVal rfl (fun w hS => (r_loadElA rfl rfl hS.rd he26 (hx) (fun _ => rfl) (ag51 _) in51 sz51 (by rfl))) ?_
                 refine hStep rfl (r_loadA rfl rfl (ag46 _) hs.own in46 sz46 (by rfl)) (Holds.mono (Holds.self hs) (by repeat (first | exact Keeps.refl _ | apply Keeps.tail | apply Keeps.drop))) ?_
                 refine h_enter rfl (r_call rfl ent25 rfl) rfl ?_
                 refine step15_use hb hT hs (by (repeat (first | exact Cut.head _ _ | apply Cut.tail)); done) (by (repeat (first | apply Cut.pair | exact Cut.head _ _ | apply Cut.tail)); done) ?_
                 intro q1 k1 w hs
                 refine ⟨_, rfl, ah_put (Holds.mono (Holds.self hs) (by repeat (first | exact Keeps.refl _ | apply Keeps.tail | apply Keeps.drop))) (by rfl) ?_⟩
                 refine hVal rfl (fun w hS => (r_move rfl rfl)) ?_
                 refine hVal rfl (fun w hS => (r_extract rfl rfl (by rfl))) ?_
                 refine h_bool rfl rfl rfl (fun w hS => (r_extract rfl rfl (by rfl))) (fun _ => by rfl) ?_
                 intro c28 hc28
                 refine h_exS rfl (r_storeA rfl rfl rfl hs (by (repeat (first | exact Cut.head _ _ | apply Cut.tail)); done) in46 sz46 rfl (fun h => by cases h) rfl (by rfl)) rfl rfl ?_
                 intro w hs
                 refine ⟨(Holds.mono (Holds.self hs) (by repeat (first | exact Keeps.refl _ | apply Keeps.tail | apply Keeps.drop))), ?_⟩
                 refine h_nil ?_
                 refine d_tail 11 (by kernel_rfl) ?_
                 refine sVal (r_assign rfl rfl) ?_
                 refine s_nil ?_
                 refine hK25 _ _ ?_
                 refine wp_seq_k (fun K29 hK29 => ?_)
                 refine c_region ?_
                 refine sVal (r_move rfl rfl) ?_
                 cases c28
                 case false =>
                  replace hc28 := Eq.symm hc28
                  try dsimp only [List.length_cons, List.length_nil] at hc28
                  first
                  | (exfalso; first | omega | (cases hc28; done))
                  | (
                    refine sVal (r_notF rfl rfl) ?_
                    refine sVal (r_move rfl rfl) ?_
                    refine @s_pass _ _ _ _ _ _ _ _ 51 (by rfl) (want_no rfl rfl rfl rfl) (by rfl) ?_
                    refine @s_pass _ _ _ _ _ _ _ _ 52 (by rfl) (want_no rfl rfl rfl rfl) (by rfl) ?_
                    refine @s_pass _ _ _ _ _ _ _ _ 53 (by rfl) (want_no rfl rfl rfl rfl) (by rfl) ?_
                    refine @s_pass _ _ _ _ _ _ _ _ 54 (by rfl) (want_no rfl rfl rfl rfl) (by rfl) ?_
                    refine sVal (r_pickT rfl rfl rfl) ?_
                    refine s_nil ?_
                    refine hK29 _ _ ?_
                    refine c_condT rfl ?_
                    refine wp_seq_k (fun K30 hK30 => ?_)
                    refine c_region ?_
                    refine sVal (r_assign rfl rfl) ?_
                    refine s_nil ?_
                    refine hK30 _ _ ?_
                    refine wp_ret ?_
                    refine f_ret (rs := [.tmp 4]) rfl (.tmp rfl .nil) rfl ?_
                    exact hk _ hs.permK)
                 case true =>
                  replace hc28 := Eq.symm hc28
                  try dsimp only [List.length_cons, List.length_nil] at hc28
                  first
                  | (exfalso; first | omega | (cases hc28; done))
                  | (
                    refine sVal (r_notT rfl rfl) ?_
                    refine sVal (r_move rfl rfl) ?_
                    refine sVal (r_move rfl rfl) ?_
                    refine sVal (r_loadA rfl rfl (ag46 _) hs.own in46 sz46 (by rfl)) ?_
                    refine s_enter (r_call rfl ent26 rfl) rfl ?_
                    refine is15_use (T := [a, b, c, d, e]) (hb.step act.1 act.2) hs (by (repeat (first | apply Cut.pair | exact Cut.head _ _ | apply Cut.tail)); done) ?_
                    intro w hs
                    refine ⟨_, rfl, a_bool (fun _ => by rfl) ?_⟩
                    intro c31 hc31
                    cases c31
                    case false =>
                     replace hc31 := Eq.symm hc31
                     try (with_reducible first | replace hc31 := of_decide_eq_true hc31 | replace hc31 := of_decide_eq_false hc31)
                     try dsimp only [List.length_cons, List.length_nil] at hc31
                     first
                     | (exfalso; first | omega | (cases hc31; done) | (subst hc31; contradiction))
                     | (
                       refine sVal (r_notF rfl rfl) ?_
                       refine sVal (r_pickF rfl rfl rfl) ?_
                       refine s_nil ?_
                       refine hK29 _ _ ?_
                       refine c_condT rfl ?_
                       refine wp_seq_k (fun K32 hK32 => ?_)
                       refine c_region ?_
                       refine sVal (r_assign rfl rfl) ?_
                       refine s_nil ?_
                       refine hK32 _ _ ?_
                       refine wp_ret ?_
                       refine f_ret (rs := [.tmp 4]) rfl (.tmp rfl .nil) rfl ?_
                       exact hk _ hs.permK)
                    case true =>
                     replace hc31 := Eq.symm hc31
                     try (with_reducible first | replace hc31 := of_decide_eq_true hc31 | replace hc31 := of_decide_eq_false hc31)
                     try dsimp only [List.length_cons, List.length_nil] at hc31
                     first
                     | (exfalso; first | omega | (cases hc31; done) | (subst hc31; contradiction))
                     | (
                       refine sVal (r_notT rfl rfl) ?_
                       refine sVal (r_pickF rfl rfl rfl) ?_
                       refine s_nil ?_
                       refine hK29 _ _ ?_
                       refine c_condF rfl ?_
                       refine wp_skip ?_
                       refine hK24 _ _ ?_
                       refine c_region ?_
                       refine sVal (r_move rfl rfl) ?_
                       refine sVal (r_ari rfl rfl rfl rfl (by first | exact wrapI (by omega) | rfl)) ?_
                       refine sVal (r_assign rfl rfl) ?_
                       refine s_nil ?_
                       refine hKL17 _ _ _ (by rfl) (by rfl) ?_ ?_
                       · exact ⟨j + 1, _, q1, k1, rfl, by omega, hb.step act.1 act.2, hs.permK⟩
                       · (show _ < _; simp [intOf, xAt]; omega))))))
        case true =>
         replace hc11 := neT hc11
         try dsimp only [List.length_cons, List.length_nil] at hc11
         first
         | (exfalso; first | omega | (cases hc11; done))
         | (
           refine c_condT rfl ?_
           refine wp_seq_k (fun K33 hK33 => ?_)
           refine c_region ?_
           refine sVal (r_assign rfl rfl) ?_
           refine s_nil ?_
           refine hK33 _ _ ?_
           refine wp_ret ?_
           refine f_ret (rs := [.tmp 4]) rfl (.tmp rfl .nil) rfl ?_
           exact hk _ hs.permK))
     case true =>
      replace hc10 := Eq.symm hc10
      try dsimp only [List.length_cons, List.length_nil] at hc10
      first
      | (exfalso; first | omega | (cases hc10; done))
      | (
        refine @s_pass _ _ _ _ _ _ _ _ 23 (by rfl) (want_no rfl rfl rfl rfl) (by rfl) ?_
        refine @s_pass _ _ _ _ _ _ _ _ 24 (by rfl) (want_no rfl rfl rfl rfl) (by rfl) ?_
        refine sVal (r_pickT rfl rfl rfl) ?_
        refine s_nil ?_
        refine hK9 _ _ ?_
        refine c_condT rfl ?_
        refine wp_seq_k (fun K34 hK34 => ?_)
        refine c_region ?_
        refine sVal (r_assign rfl rfl) ?_
        refine s_nil ?_
        refine hK34 _ _ ?_
        refine wp_ret ?_
        refine f_ret (rs := [.tmp 4]) rfl (.tmp rfl .nil) rfl ?_
        exact hk _ hs.permK))
end
end Go.Proofs.Ytoeaamohchpjdaa
