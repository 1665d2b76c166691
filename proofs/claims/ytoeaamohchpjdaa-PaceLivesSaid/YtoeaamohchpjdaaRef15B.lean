/-
  The document's pace: contracts of its calls, continued.
-/
import Derived.Test.YtoeaamohchpjdaaRef15
namespace Go.Proofs.Ytoeaamohchpjdaa
open Go Go.RowKit
set_option linter.unusedVariables false
set_option linter.unusedSimpArgs false
set_option maxRecDepth 100000

theorem atD {l : List Int} {m : Nat} (hl : l.length = 5) (h : m < 5) : l[m]? = some (l.getD m 0) := by
  rw [List.getD_eq_getElem?_getD, List.getElem?_eq_getElem (by omega)]; rfl
theorem setL_len {l T on off : List Int} (h : l.length = 5) : (setL l T on off).length = 5 := by rw [setL_eq]; exact onL_len (offL_len h)
theorem tickL_len {l : List Int} (h : l.length = 5) : (tickL l).length = 5 := by unfold tickL; rw [List.length_map]; exact h
theorem leftD {l : List Int} {m : Nat} (hl : l.length = 5) (h : m < 5) : leftL l (m : Int) = l.getD m 0 := by
  unfold leftL isT
  simp [show ((m : Int) < 5) by omega]
attribute [local irreducible] own fix oL rL osl rsl fact some' wpList wpHi wpPre wpAny wpHT After AfterH

section
variable {E : World} {H R : HP} {w : World} {Q : Ending → World → Prop} {pT pL : Option Addr} {kT kL : Nat} {T l : List Int}
theorem r15New_use (hs : Sat E H w) (hk : ∀ q k w', Sat E (H * rL 1 intC (.slice q 5 k) zeroL) w' → Q (.returned (.agg #[.slice pT 5 kT, .slice q 5 k])) w') :
    Calls Try.prog 24 #[.slice pT 5 kT] w Q := by
  refine f_enter Try.func24 rfl rfl ?_
  show Code.wp _ _ _ (Fr _) _
  refine wp_seq_k (fun K1 hK1 => ?_)
  refine c_region ?_
  refine s_ex (r_alloc rfl zr46 hs) rfl rfl (fun _ => by rfl) ?_
  intro b2 w hs
  refine s_nil ?_
  refine hK1 _ _ ?_
  refine wp_seq_k (fun K3 hK3 => ?_)
  refine c_region ?_
  refine sVal (r_move rfl rfl) ?_
  refine s_ex (r_lit intC [0, 0, 0, 0, 0] rfl rfl rfl hs Try.underlying22 (by kernel_rfl) sz3 rfl (by decide) (fun _ => rfl)) rfl rfl (fun _ => by rfl) ?_
  intro b4 w hs
  refine sVal (r_build rfl rfl pl46 zr46 (by rfl)) ?_
  refine s_exS (r_storeA rfl rfl rfl hs (by (repeat (first | exact Cut.head _ _ | apply Cut.tail)); done) in46 sz46 rfl (fun h => by cases h) rfl (by rfl)) rfl rfl ?_
  intro w hs
  refine s_nil ?_
  refine hK3 _ _ ?_
  refine wp_ret ?_
  refine f_ret (rs := [.cell 2 46]) rfl (.cell rfl (run_loadL hs.own (ag46 _) in46 sz46 (by rfl)) .nil) rfl ?_
  exact hk _ _ _ (fin1 (hs.letL (L := ([0, 0, 0, 0, 0] : List Int)) (by (repeat (first | exact Cut.head _ _ | apply Cut.tail)); done)) (by (repeat (first | exact Cut.head _ _ | apply Cut.tail)); done) (by repeat (first | exact Keeps.refl _ | apply Keeps.tail | apply Keeps.drop)))
theorem r15Begin_use (hT : T.length = 5) (hl : l.length = 5) (hs : Sat E H w) (c : Cut H (rL 1 intC (.slice pT 5 kT) T * rL 1 intC (.slice pL 5 kL) l) R) (hk : ∀ q k w', Sat E (H * rL 1 intC (.slice q 5 k) (rBegin l T)) w' → Q (.returned (.agg #[.slice pT 5 kT, .slice q 5 k])) w') :
    Calls Try.prog 27 #[.agg #[.slice pT 5 kT, .slice pL 5 kL]] w Q := by
  replace hs := hs.cut c
  simp only [← star_assoc] at hs
  replace hk : ∀ q k w', Sat E (R * rL 1 intC (.slice pT 5 kT) T * rL 1 intC (.slice pL 5 kL) l * rL 1 intC (.slice q 5 k) (rBegin l T)) w' → Q (.returned (.agg #[.slice pT 5 kT, .slice q 5 k])) w' := fun q k w' h => hk q k w' (h.eq (by rw [c.eq]; simp only [← star_assoc]))
  refine f_enter Try.func27 rfl rfl ?_
  show Code.wp _ _ _ (Fr _) _
  refine wp_seq_k (fun K1 hK1 => ?_)
  refine c_region ?_
  refine s_ex (r_box rfl rfl rfl hs) rfl rfl (fun _ => by rfl) ?_
  intro b2 w hs
  refine s_ex (r_alloc rfl zr46 hs) rfl rfl (fun _ => by rfl) ?_
  intro b3 w hs
  refine s_nil ?_
  refine hK1 _ _ ?_
  refine wp_seq_k (fun K4 hK4 => ?_)
  refine c_region ?_
  refine sVal (r_loadA rfl rfl (ag46 _) hs.own in46 sz46 (by rfl)) ?_
  refine s_ex (r_lit intC [1, 3] rfl rfl rfl hs Try.underlying22 (by kernel_rfl) sz3 rfl (by decide) (fun _ => rfl)) rfl rfl (fun _ => by rfl) ?_
  intro b5 w hs
  refine s_ex (r_lit intC [2, 4] rfl rfl rfl hs Try.underlying22 (by kernel_rfl) sz3 rfl (by decide) (fun _ => rfl)) rfl rfl (fun _ => by rfl) ?_
  intro b6 w hs
  refine s_enter (r_call rfl ent58 rfl) rfl ?_
  replace hs := hs.letL (L := ([1, 3] : List Int)) (by (repeat (first | exact Cut.head _ _ | apply Cut.tail)); done)
  replace hs := hs.letL (L := ([2, 4] : List Int)) (by (repeat (first | exact Cut.head _ _ | apply Cut.tail)); done)
  refine set15_use (T := T) (l := l) (on := [1, 3]) (off := [2, 4]) hT hl (by decide) (by decide) (by decide) (by decide) hs (by (repeat (first | apply Cut.pair | exact Cut.head _ _ | apply Cut.tail)); done) ?_
  intro q1 k1 w hs
  refine ⟨_, rfl, a_put (by rfl) ?_⟩
  refine s_exS (r_storeA rfl rfl rfl hs (by (repeat (first | exact Cut.head _ _ | apply Cut.tail)); done) in46 sz46 rfl (fun h => by cases h) rfl (by rfl)) rfl rfl ?_
  intro w hs
  refine s_nil ?_
  refine hK4 _ _ ?_
  refine wp_ret ?_
  refine f_ret (rs := [.cell 2 46]) rfl (.cell rfl (run_loadL hs.own (ag46 _) in46 sz46 (by rfl)) .nil) rfl ?_
  exact hk q1 k1 _ (fin1 hs (by (repeat (first | exact Cut.head _ _ | apply Cut.tail)); done) (by repeat (first | exact Keeps.refl _ | apply Keeps.tail | apply Keeps.drop)))
theorem r15End_use (hT : T.length = 5) (hl : l.length = 5) (hs : Sat E H w) (c : Cut H (rL 1 intC (.slice pT 5 kT) T * rL 1 intC (.slice pL 5 kL) l) R) (hk : ∀ q k w', Sat E (H * rL 1 intC (.slice q 5 k) (rEnd l T)) w' → Q (.returned (.agg #[.slice pT 5 kT, .slice q 5 k])) w') :
    Calls Try.prog 48 #[.agg #[.slice pT 5 kT, .slice pL 5 kL]] w Q := by
  replace hs := hs.cut c
  simp only [← star_assoc] at hs
  replace hk : ∀ q k w', Sat E (R * rL 1 intC (.slice pT 5 kT) T * rL 1 intC (.slice pL 5 kL) l * rL 1 intC (.slice q 5 k) (rEnd l T)) w' → Q (.returned (.agg #[.slice pT 5 kT, .slice q 5 k])) w' := fun q k w' h => hk q k w' (h.eq (by rw [c.eq]; simp only [← star_assoc]))
  refine f_enter Try.func48 rfl rfl ?_
  show Code.wp _ _ _ (Fr _) _
  refine wp_seq_k (fun K1 hK1 => ?_)
  refine c_region ?_
  refine s_ex (r_box rfl rfl rfl hs) rfl rfl (fun _ => by rfl) ?_
  intro b2 w hs
  refine s_ex (r_alloc rfl zr46 hs) rfl rfl (fun _ => by rfl) ?_
  intro b3 w hs
  refine s_nil ?_
  refine hK1 _ _ ?_
  refine wp_seq_k (fun K4 hK4 => ?_)
  refine c_region ?_
  refine sVal (r_loadA rfl rfl (ag46 _) hs.own in46 sz46 (by rfl)) ?_
  refine s_ex (r_lit intC [1, 2, 3, 4] rfl rfl rfl hs Try.underlying22 (by kernel_rfl) sz3 rfl (by decide) (fun _ => rfl)) rfl rfl (fun _ => by rfl) ?_
  intro b5 w hs
  refine s_enter (r_call rfl ent58 rfl) rfl ?_
  replace hs := (hs.mkNilL 3 1 intC).letL (L := ([] : List Int)) (by (repeat (first | exact Cut.head _ _ | apply Cut.tail)); done)
  replace hs := hs.letL (L := ([1, 2, 3, 4] : List Int)) (by (repeat (first | exact Cut.head _ _ | apply Cut.tail)); done)
  refine set15_use (T := T) (l := l) (on := []) (off := [1, 2, 3, 4]) hT hl (by decide) (by decide) (by decide) (by decide) hs (by (repeat (first | apply Cut.pair | exact Cut.head _ _ | apply Cut.tail)); done) ?_
  intro q1 k1 w hs
  refine ⟨_, rfl, a_put (by rfl) ?_⟩
  refine s_exS (r_storeA rfl rfl rfl hs (by (repeat (first | exact Cut.head _ _ | apply Cut.tail)); done) in46 sz46 rfl (fun h => by cases h) rfl (by rfl)) rfl rfl ?_
  intro w hs
  refine s_nil ?_
  refine hK4 _ _ ?_
  refine wp_ret ?_
  refine f_ret (rs := [.cell 2 46]) rfl (.cell rfl (run_loadL hs.own (ag46 _) in46 sz46 (by rfl)) .nil) rfl ?_
  exact hk q1 k1 _ (fin1 hs (by (repeat (first | exact Cut.head _ _ | apply Cut.tail)); done) (by repeat (first | exact Keeps.refl _ | apply Keeps.tail | apply Keeps.drop)))
theorem r15Again_use (hT : T.length = 5) (hl : l.length = 5) (hs : Sat E H w) (c : Cut H (rL 1 intC (.slice pT 5 kT) T * rL 1 intC (.slice pL 5 kL) l) R) (hk : ∀ q k w', Sat E (H * rL 1 intC (.slice q 5 k) (rAgain l T)) w' → Q (.returned (.agg #[.slice pT 5 kT, .slice q 5 k])) w') :
    Calls Try.prog 50 #[.agg #[.slice pT 5 kT, .slice pL 5 kL]] w Q := by
  replace hs := hs.cut c
  simp only [← star_assoc] at hs
  replace hk : ∀ q k w', Sat E (R * rL 1 intC (.slice pT 5 kT) T * rL 1 intC (.slice pL 5 kL) l * rL 1 intC (.slice q 5 k) (rAgain l T)) w' → Q (.returned (.agg #[.slice pT 5 kT, .slice q 5 k])) w' := fun q k w' h => hk q k w' (h.eq (by rw [c.eq]; simp only [← star_assoc]))
  refine f_enter Try.func50 rfl rfl ?_
  show Code.wp _ _ _ (Fr _) _
  refine wp_seq_k (fun K1 hK1 => ?_)
  refine c_region ?_
  refine s_ex (r_box rfl rfl rfl hs) rfl rfl (fun _ => by rfl) ?_
  intro b2 w hs
  refine s_ex (r_alloc rfl zr46 hs) rfl rfl (fun _ => by rfl) ?_
  intro b3 w hs
  refine s_nil ?_
  refine hK1 _ _ ?_
  refine wp_seq_k (fun K4 hK4 => ?_)
  refine c_region ?_
  refine sVal (r_loadA rfl rfl (ag46 _) hs.own in46 sz46 (by rfl)) ?_
  refine s_ex (r_lit intC [0] rfl rfl rfl hs Try.underlying22 (by kernel_rfl) sz3 rfl (by decide) (fun _ => rfl)) rfl rfl (fun _ => by rfl) ?_
  intro b5 w hs
  refine s_enter (r_call rfl ent58 rfl) rfl ?_
  replace hs := hs.letL (L := ([0] : List Int)) (by (repeat (first | exact Cut.head _ _ | apply Cut.tail)); done)
  replace hs := (hs.mkNilL 3 1 intC).letL (L := ([] : List Int)) (by (repeat (first | exact Cut.head _ _ | apply Cut.tail)); done)
  refine set15_use (T := T) (l := l) (on := [0]) (off := []) hT hl (by decide) (by decide) (by decide) (by decide) hs (by (repeat (first | apply Cut.pair | exact Cut.head _ _ | apply Cut.tail)); done) ?_
  intro q1 k1 w hs
  refine ⟨_, rfl, a_put (by rfl) ?_⟩
  refine s_exS (r_storeA rfl rfl rfl hs (by (repeat (first | exact Cut.head _ _ | apply Cut.tail)); done) in46 sz46 rfl (fun h => by cases h) rfl (by rfl)) rfl rfl ?_
  intro w hs
  refine s_nil ?_
  refine hK4 _ _ ?_
  refine wp_ret ?_
  refine f_ret (rs := [.cell 2 46]) rfl (.cell rfl (run_loadL hs.own (ag46 _) in46 sz46 (by rfl)) .nil) rfl ?_
  exact hk q1 k1 _ (fin1 hs (by (repeat (first | exact Cut.head _ _ | apply Cut.tail)); done) (by repeat (first | exact Keeps.refl _ | apply Keeps.tail | apply Keeps.drop)))
theorem r15Enough_use (hT : T.length = 5) (hl : l.length = 5) (hs : Sat E H w) (c : Cut H (rL 1 intC (.slice pT 5 kT) T * rL 1 intC (.slice pL 5 kL) l) R) (hk : ∀ q k w', Sat E (H * rL 1 intC (.slice q 5 k) (rEnough l T)) w' → Q (.returned (.agg #[.slice pT 5 kT, .slice q 5 k])) w') :
    Calls Try.prog 52 #[.agg #[.slice pT 5 kT, .slice pL 5 kL]] w Q := by
  replace hs := hs.cut c
  simp only [← star_assoc] at hs
  replace hk : ∀ q k w', Sat E (R * rL 1 intC (.slice pT 5 kT) T * rL 1 intC (.slice pL 5 kL) l * rL 1 intC (.slice q 5 k) (rEnough l T)) w' → Q (.returned (.agg #[.slice pT 5 kT, .slice q 5 k])) w' := fun q k w' h => hk q k w' (h.eq (by rw [c.eq]; simp only [← star_assoc]))
  refine f_enter Try.func52 rfl rfl ?_
  show Code.wp _ _ _ (Fr _) _
  refine wp_seq_k (fun K1 hK1 => ?_)
  refine c_region ?_
  refine s_ex (r_box rfl rfl rfl hs) rfl rfl (fun _ => by rfl) ?_
  intro b2 w hs
  refine s_ex (r_alloc rfl zr46 hs) rfl rfl (fun _ => by rfl) ?_
  intro b3 w hs
  refine s_nil ?_
  refine hK1 _ _ ?_
  refine wp_seq_k (fun K4 hK4 => ?_)
  refine c_region ?_
  refine sVal (r_loadA rfl rfl (ag46 _) hs.own in46 sz46 (by rfl)) ?_
  refine s_ex (r_lit intC [0] rfl rfl rfl hs Try.underlying22 (by kernel_rfl) sz3 rfl (by decide) (fun _ => rfl)) rfl rfl (fun _ => by rfl) ?_
  intro b5 w hs
  refine s_enter (r_call rfl ent58 rfl) rfl ?_
  replace hs := (hs.mkNilL 3 1 intC).letL (L := ([] : List Int)) (by (repeat (first | exact Cut.head _ _ | apply Cut.tail)); done)
  replace hs := hs.letL (L := ([0] : List Int)) (by (repeat (first | exact Cut.head _ _ | apply Cut.tail)); done)
  refine set15_use (T := T) (l := l) (on := []) (off := [0]) hT hl (by decide) (by decide) (by decide) (by decide) hs (by (repeat (first | apply Cut.pair | exact Cut.head _ _ | apply Cut.tail)); done) ?_
  intro q1 k1 w hs
  refine ⟨_, rfl, a_put (by rfl) ?_⟩
  refine s_exS (r_storeA rfl rfl rfl hs (by (repeat (first | exact Cut.head _ _ | apply Cut.tail)); done) in46 sz46 rfl (fun h => by cases h) rfl (by rfl)) rfl rfl ?_
  intro w hs
  refine s_nil ?_
  refine hK4 _ _ ?_
  refine wp_ret ?_
  refine f_ret (rs := [.cell 2 46]) rfl (.cell rfl (run_loadL hs.own (ag46 _) in46 sz46 (by rfl)) .nil) rfl ?_
  exact hk q1 k1 _ (fin1 hs (by (repeat (first | exact Cut.head _ _ | apply Cut.tail)); done) (by repeat (first | exact Keeps.refl _ | apply Keeps.tail | apply Keeps.drop)))
theorem r15watch_use (hT : T.length = 5) (hl : l.length = 5) (hs : Sat E H w) (c : Cut H (rL 1 intC (.slice pT 5 kT) T * rL 1 intC (.slice pL 5 kL) l) R) (hk : ∀ q k w', Sat E (H * rL 1 intC (.slice q 5 k) (rWatch l T)) w' → Q (.returned (.agg #[.slice pT 5 kT, .slice q 5 k])) w') :
    Calls Try.prog 81 #[.agg #[.slice pT 5 kT, .slice pL 5 kL]] w Q := by
  replace hs := hs.cut c
  simp only [← star_assoc] at hs
  replace hk : ∀ q k w', Sat E (R * rL 1 intC (.slice pT 5 kT) T * rL 1 intC (.slice pL 5 kL) l * rL 1 intC (.slice q 5 k) (rWatch l T)) w' → Q (.returned (.agg #[.slice pT 5 kT, .slice q 5 k])) w' := fun q k w' h => hk q k w' (h.eq (by rw [c.eq]; simp only [← star_assoc]))
  refine f_enter Try.func81 rfl rfl ?_
  show Code.wp _ _ _ (Fr _) _
  refine wp_seq_k (fun K1 hK1 => ?_)
  refine c_region ?_
  refine s_ex (r_box rfl rfl rfl hs) rfl rfl (fun _ => by rfl) ?_
  intro b2 w hs
  refine s_ex (r_alloc rfl zr46 hs) rfl rfl (fun _ => by rfl) ?_
  intro b3 w hs
  refine s_nil ?_
  refine hK1 _ _ ?_
  refine wp_seq_k (fun K4 hK4 => ?_)
  refine wp_seq_k (fun K5 hK5 => ?_)
  refine c_region ?_
  refine sVal (r_field rfl rfl of46_1) ?_
  refine sVal (r_load rfl rfl (ag22 _) hs.own (by rfl)) ?_
  refine s_exQ (r_idx (f := intC) rfl rfl rfl hs.rd (rfl) (atD (m := 3) hl (by decide)) Try.underlying22 in3 sz3) rfl rfl (fun _ => by rfl) ?_
  intro ad7 he6
  refine sVal (r_loadEl rfl rfl hs.rd he6 (atD (m := 3) hl (by decide)) (fun _ => rfl) (ag3 _) (by rfl)) ?_
  refine s_bool (r_cmp rfl rfl rfl rfl) rfl rfl (fun _ => by rfl) ?_
  intro c8 hc8
  refine s_nil ?_
  refine hK5 _ _ ?_
  cases c8
  case false =>
   replace hc8 := gtF hc8
   try dsimp only [List.length_cons, List.length_nil] at hc8
   first
   | (exfalso; first | omega | (cases hc8; done))
   | (
     refine c_condF rfl ?_
     refine wp_skip ?_
     refine hK4 _ _ ?_
     refine wp_seq_k (fun K9 hK9 => ?_)
     refine c_region ?_
     refine sVal (r_loadA rfl rfl (ag46 _) hs.own in46 sz46 (by rfl)) ?_
     refine s_ex (r_lit intC [3] rfl rfl rfl hs Try.underlying22 (by kernel_rfl) sz3 rfl (by decide) (fun _ => rfl)) rfl rfl (fun _ => by rfl) ?_
     intro b10 w hs
     refine s_enter (r_call rfl ent58 rfl) rfl ?_
     replace hs := hs.letL (L := ([3] : List Int)) (by (repeat (first | exact Cut.head _ _ | apply Cut.tail)); done)
     replace hs := (hs.mkNilL 3 1 intC).letL (L := ([] : List Int)) (by (repeat (first | exact Cut.head _ _ | apply Cut.tail)); done)
     refine set15_use (T := T) (l := l) (on := [3]) (off := []) hT hl (by decide) (by decide) (by decide) (by decide) hs (by (repeat (first | apply Cut.pair | exact Cut.head _ _ | apply Cut.tail)); done) ?_
     intro q1 k1 w hs
     refine ⟨_, rfl, a_put (by rfl) ?_⟩
     refine s_exS (r_storeA rfl rfl rfl hs (by (repeat (first | exact Cut.head _ _ | apply Cut.tail)); done) in46 sz46 rfl (fun h => by cases h) rfl (by rfl)) rfl rfl ?_
     intro w hs
     refine s_nil ?_
     refine hK9 _ _ ?_
     refine wp_ret ?_
     refine f_ret (rs := [.cell 2 46]) rfl (.cell rfl (run_loadL hs.own (ag46 _) in46 sz46 (by rfl)) .nil) rfl ?_
     first | (rw [show rWatch l T = l from if_pos (by assumption)] at hk; exact hk _ _ _ (fin1 (hs.dupL (L := l) (v := .slice pL 5 kL) (by (repeat (first | exact Cut.head _ _ | apply Cut.tail)); done)) (by (repeat (first | exact Cut.head _ _ | apply Cut.tail)); done) (by repeat (first | exact Keeps.refl _ | apply Keeps.tail | apply Keeps.drop)))) | (rw [show rWatch l T = setL l T [3] [] from if_neg (by assumption)] at hk; exact hk q1 k1 _ (fin1 hs (by (repeat (first | exact Cut.head _ _ | apply Cut.tail)); done) (by repeat (first | exact Keeps.refl _ | apply Keeps.tail | apply Keeps.drop)))))
  case true =>
   replace hc8 := gtT hc8
   try dsimp only [List.length_cons, List.length_nil] at hc8
   first
   | (exfalso; first | omega | (cases hc8; done))
   | (
     refine c_condT rfl ?_
     refine wp_seq_k (fun K11 hK11 => ?_)
     refine c_region ?_
     refine sVal (r_loadA rfl rfl (ag46 _) hs.own in46 sz46 (by rfl)) ?_
     refine s_exS (r_storeA rfl rfl rfl hs (by (repeat (first | exact Cut.head _ _ | apply Cut.tail)); done) in46 sz46 rfl (fun h => by cases h) rfl (by rfl)) rfl rfl ?_
     intro w hs
     refine s_nil ?_
     refine hK11 _ _ ?_
     refine wp_ret ?_
     refine f_ret (rs := [.cell 2 46]) rfl (.cell rfl (run_loadL hs.own (ag46 _) in46 sz46 (by rfl)) .nil) rfl ?_
     first | (rw [show rWatch l T = l from if_pos (by assumption)] at hk; exact hk _ _ _ (fin1 (hs.dupL (L := l) (v := .slice pL 5 kL) (by (repeat (first | exact Cut.head _ _ | apply Cut.tail)); done)) (by (repeat (first | exact Cut.head _ _ | apply Cut.tail)); done) (by repeat (first | exact Keeps.refl _ | apply Keeps.tail | apply Keeps.drop)))) | (rw [show rWatch l T = setL l T [3] [] from if_neg (by assumption)] at hk; exact hk q1 k1 _ (fin1 hs (by (repeat (first | exact Cut.head _ _ | apply Cut.tail)); done) (by repeat (first | exact Keeps.refl _ | apply Keeps.tail | apply Keeps.drop)))))
theorem r15Busy_use (hT : T.length = 5) (hl : l.length = 5) (hs : Sat E H w) (c : Cut H (rL 1 intC (.slice pT 5 kT) T * rL 1 intC (.slice pL 5 kL) l) R) (hk : ∀ q k w', Sat E (H * rL 1 intC (.slice q 5 k) (rBusy l T)) w' → Q (.returned (.agg #[.slice pT 5 kT, .slice q 5 k])) w') :
    Calls Try.prog 53 #[.agg #[.slice pT 5 kT, .slice pL 5 kL]] w Q := by
  replace hs := hs.cut c
  simp only [← star_assoc] at hs
  replace hk : ∀ q k w', Sat E (R * rL 1 intC (.slice pT 5 kT) T * rL 1 intC (.slice pL 5 kL) l * rL 1 intC (.slice q 5 k) (rBusy l T)) w' → Q (.returned (.agg #[.slice pT 5 kT, .slice q 5 k])) w' := fun q k w' h => hk q k w' (h.eq (by rw [c.eq]; simp only [← star_assoc]))
  refine f_enter Try.func53 rfl rfl ?_
  show Code.wp _ _ _ (Fr _) _
  refine wp_seq_k (fun K1 hK1 => ?_)
  refine c_region ?_
  refine s_ex (r_box rfl rfl rfl hs) rfl rfl (fun _ => by rfl) ?_
  intro b2 w hs
  refine s_ex (r_alloc rfl zr46 hs) rfl rfl (fun _ => by rfl) ?_
  intro b3 w hs
  refine s_nil ?_
  refine hK1 _ _ ?_
  refine wp_seq_k (fun K4 hK4 => ?_)
  refine wp_seq_k (fun K5 hK5 => ?_)
  refine c_region ?_
  refine sVal (r_field rfl rfl of46_1) ?_
  refine sVal (r_load rfl rfl (ag22 _) hs.own (by rfl)) ?_
  refine s_exQ (r_idx (f := intC) rfl rfl rfl hs.rd (rfl) (atD (m := 2) hl (by decide)) Try.underlying22 in3 sz3) rfl rfl (fun _ => by rfl) ?_
  intro ad7 he6
  refine sVal (r_loadEl rfl rfl hs.rd he6 (atD (m := 2) hl (by decide)) (fun _ => rfl) (ag3 _) (by rfl)) ?_
  refine s_bool (r_cmp rfl rfl rfl rfl) rfl rfl (fun _ => by rfl) ?_
  intro c8 hc8
  refine sVal (r_move rfl rfl) ?_
  cases c8
  case false =>
   replace hc8 := eqF hc8
   try dsimp only [List.length_cons, List.length_nil] at hc8
   first
   | (exfalso; first | omega | (cases hc8; done))
   | (
     refine @s_pass _ _ _ _ _ _ _ _ 9 (by rfl) (want_no rfl rfl rfl rfl) (by rfl) ?_
     refine @s_pass _ _ _ _ _ _ _ _ 10 (by rfl) (want_no rfl rfl rfl rfl) (by rfl) ?_
     refine @s_pass _ _ _ _ _ _ _ _ 11 (by rfl) (want_no rfl rfl rfl rfl) (by rfl) ?_
     refine @s_pass _ _ _ _ _ _ _ _ 12 (by rfl) (want_no rfl rfl rfl rfl) (by rfl) ?_
     refine @s_pass _ _ _ _ _ _ _ _ 13 (by rfl) (want_no rfl rfl rfl rfl) (by rfl) ?_
     refine sVal (r_pickF rfl rfl rfl) ?_
     refine s_nil ?_
     refine hK5 _ _ ?_
     refine c_condF rfl ?_
     refine wp_skip ?_
     refine hK4 _ _ ?_
     refine wp_seq_k (fun K9 hK9 => ?_)
     refine c_region ?_
     refine sVal (r_loadA rfl rfl (ag46 _) hs.own in46 sz46 (by rfl)) ?_
     refine s_ex (r_lit intC [1] rfl rfl rfl hs Try.underlying22 (by kernel_rfl) sz3 rfl (by decide) (fun _ => rfl)) rfl rfl (fun _ => by rfl) ?_
     intro b10 w hs
     refine s_ex (r_lit intC [2, 4] rfl rfl rfl hs Try.underlying22 (by kernel_rfl) sz3 rfl (by decide) (fun _ => rfl)) rfl rfl (fun _ => by rfl) ?_
     intro b11 w hs
     refine s_enter (r_call rfl ent58 rfl) rfl ?_
     replace hs := hs.letL (L := ([1] : List Int)) (by (repeat (first | exact Cut.head _ _ | apply Cut.tail)); done)
     replace hs := hs.letL (L := ([2, 4] : List Int)) (by (repeat (first | exact Cut.head _ _ | apply Cut.tail)); done)
     refine set15_use (T := T) (l := l) (on := [1]) (off := [2, 4]) hT hl (by decide) (by decide) (by decide) (by decide) hs (by (repeat (first | apply Cut.pair | exact Cut.head _ _ | apply Cut.tail)); done) ?_
     intro q1 k1 w hs
     refine ⟨_, rfl, a_put (by rfl) ?_⟩
     refine s_enter (r_call rfl ent81 rfl) rfl ?_
     refine r15watch_use hT (setL_len hl) hs (by (repeat (first | apply Cut.pair | exact Cut.head _ _ | apply Cut.tail)); done) ?_
     intro q2 k2 w hs
     refine ⟨_, rfl, a_put (by rfl) ?_⟩
     refine s_exS (r_storeA rfl rfl rfl hs (by (repeat (first | exact Cut.head _ _ | apply Cut.tail)); done) in46 sz46 rfl (fun h => by cases h) rfl (by rfl)) rfl rfl ?_
     intro w hs
     refine s_nil ?_
     refine hK9 _ _ ?_
     refine wp_ret ?_
     refine f_ret (rs := [.cell 2 46]) rfl (.cell rfl (run_loadL hs.own (ag46 _) in46 sz46 (by rfl)) .nil) rfl ?_
     first | (rw [show rBusy l T = l from if_pos ⟨by assumption, by assumption⟩] at hk; exact hk _ _ _ (fin1 (hs.dupL (L := l) (v := .slice pL 5 kL) (by (repeat (first | exact Cut.head _ _ | apply Cut.tail)); done)) (by (repeat (first | exact Cut.head _ _ | apply Cut.tail)); done) (by repeat (first | exact Keeps.refl _ | apply Keeps.tail | apply Keeps.drop)))) | (rw [show rBusy l T = rWatch (setL l T [1] [2, 4]) T from if_neg (by omega)] at hk; exact hk q2 k2 _ (fin1 hs (by (repeat (first | exact Cut.head _ _ | apply Cut.tail)); done) (by repeat (first | exact Keeps.refl _ | apply Keeps.tail | apply Keeps.drop)))))
  case true =>
   replace hc8 := eqT hc8
   try dsimp only [List.length_cons, List.length_nil] at hc8
   first
   | (exfalso; first | omega | (cases hc8; done))
   | (
     refine sVal (r_field rfl rfl of46_1) ?_
     refine sVal (r_load rfl rfl (ag22 _) hs.own (by rfl)) ?_
     refine s_exQ (r_idx (f := intC) rfl rfl rfl hs.rd (rfl) (atD (m := 4) hl (by decide)) Try.underlying22 in3 sz3) rfl rfl (fun _ => by rfl) ?_
     intro ad13 he12
     refine sVal (r_loadEl rfl rfl hs.rd he12 (atD (m := 4) hl (by decide)) (fun _ => rfl) (ag3 _) (by rfl)) ?_
     refine s_bool (r_cmp rfl rfl rfl rfl) rfl rfl (fun _ => by rfl) ?_
     intro c14 hc14
     refine sVal (r_pickT rfl rfl rfl) ?_
     refine s_nil ?_
     refine hK5 _ _ ?_
     cases c14
     case false =>
      replace hc14 := eqF hc14
      try dsimp only [List.length_cons, List.length_nil] at hc14
      first
      | (exfalso; first | omega | (cases hc14; done))
      | (
        refine c_condF rfl ?_
        refine wp_skip ?_
        refine hK4 _ _ ?_
        refine wp_seq_k (fun K15 hK15 => ?_)
        refine c_region ?_
        refine sVal (r_loadA rfl rfl (ag46 _) hs.own in46 sz46 (by rfl)) ?_
        refine s_ex (r_lit intC [1] rfl rfl rfl hs Try.underlying22 (by kernel_rfl) sz3 rfl (by decide) (fun _ => rfl)) rfl rfl (fun _ => by rfl) ?_
        intro b16 w hs
        refine s_ex (r_lit intC [2, 4] rfl rfl rfl hs Try.underlying22 (by kernel_rfl) sz3 rfl (by decide) (fun _ => rfl)) rfl rfl (fun _ => by rfl) ?_
        intro b17 w hs
        refine s_enter (r_call rfl ent58 rfl) rfl ?_
        replace hs := hs.letL (L := ([1] : List Int)) (by (repeat (first | exact Cut.head _ _ | apply Cut.tail)); done)
        replace hs := hs.letL (L := ([2, 4] : List Int)) (by (repeat (first | exact Cut.head _ _ | apply Cut.tail)); done)
        refine set15_use (T := T) (l := l) (on := [1]) (off := [2, 4]) hT hl (by decide) (by decide) (by decide) (by decide) hs (by (repeat (first | apply Cut.pair | exact Cut.head _ _ | apply Cut.tail)); done) ?_
        intro q1 k1 w hs
        refine ⟨_, rfl, a_put (by rfl) ?_⟩
        refine s_enter (r_call rfl ent81 rfl) rfl ?_
        refine r15watch_use hT (setL_len hl) hs (by (repeat (first | apply Cut.pair | exact Cut.head _ _ | apply Cut.tail)); done) ?_
        intro q2 k2 w hs
        refine ⟨_, rfl, a_put (by rfl) ?_⟩
        refine s_exS (r_storeA rfl rfl rfl hs (by (repeat (first | exact Cut.head _ _ | apply Cut.tail)); done) in46 sz46 rfl (fun h => by cases h) rfl (by rfl)) rfl rfl ?_
        intro w hs
        refine s_nil ?_
        refine hK15 _ _ ?_
        refine wp_ret ?_
        refine f_ret (rs := [.cell 2 46]) rfl (.cell rfl (run_loadL hs.own (ag46 _) in46 sz46 (by rfl)) .nil) rfl ?_
        first | (rw [show rBusy l T = l from if_pos ⟨by assumption, by assumption⟩] at hk; exact hk _ _ _ (fin1 (hs.dupL (L := l) (v := .slice pL 5 kL) (by (repeat (first | exact Cut.head _ _ | apply Cut.tail)); done)) (by (repeat (first | exact Cut.head _ _ | apply Cut.tail)); done) (by repeat (first | exact Keeps.refl _ | apply Keeps.tail | apply Keeps.drop)))) | (rw [show rBusy l T = rWatch (setL l T [1] [2, 4]) T from if_neg (by omega)] at hk; exact hk q2 k2 _ (fin1 hs (by (repeat (first | exact Cut.head _ _ | apply Cut.tail)); done) (by repeat (first | exact Keeps.refl _ | apply Keeps.tail | apply Keeps.drop)))))
     case true =>
      replace hc14 := eqT hc14
      try dsimp only [List.length_cons, List.length_nil] at hc14
      first
      | (exfalso; first | omega | (cases hc14; done))
      | (
        refine c_condT rfl ?_
        refine wp_seq_k (fun K18 hK18 => ?_)
        refine c_region ?_
        refine sVal (r_loadA rfl rfl (ag46 _) hs.own in46 sz46 (by rfl)) ?_
        refine s_exS (r_storeA rfl rfl rfl hs (by (repeat (first | exact Cut.head _ _ | apply Cut.tail)); done) in46 sz46 rfl (fun h => by cases h) rfl (by rfl)) rfl rfl ?_
        intro w hs
        refine s_nil ?_
        refine hK18 _ _ ?_
        refine wp_ret ?_
        refine f_ret (rs := [.cell 2 46]) rfl (.cell rfl (run_loadL hs.own (ag46 _) in46 sz46 (by rfl)) .nil) rfl ?_
        first | (rw [show rBusy l T = l from if_pos ⟨by assumption, by assumption⟩] at hk; exact hk _ _ _ (fin1 (hs.dupL (L := l) (v := .slice pL 5 kL) (by (repeat (first | exact Cut.head _ _ | apply Cut.tail)); done)) (by (repeat (first | exact Cut.head _ _ | apply Cut.tail)); done) (by repeat (first | exact Keeps.refl _ | apply Keeps.tail | apply Keeps.drop)))) | (rw [show rBusy l T = rWatch (setL l T [1] [2, 4]) T from if_neg (by omega)] at hk; exact hk q2 k2 _ (fin1 hs (by (repeat (first | exact Cut.head _ _ | apply Cut.tail)); done) (by repeat (first | exact Keeps.refl _ | apply Keeps.tail | apply Keeps.drop))))))
theorem r15Polled_use (i : Bool) (hT : T.length = 5) (hl : l.length = 5) (hs : Sat E H w) (c : Cut H (rL 1 intC (.slice pT 5 kT) T * rL 1 intC (.slice pL 5 kL) l) R) (hk : ∀ q k w', Sat E (H * rL 1 intC (.slice q 5 k) (rPolled l T i)) w' → Q (.returned (.agg #[.slice pT 5 kT, .slice q 5 k])) w') :
    Calls Try.prog 54 #[.agg #[.slice pT 5 kT, .slice pL 5 kL], .bool i] w Q := by
  replace hs := hs.cut c
  simp only [← star_assoc] at hs
  replace hk : ∀ q k w', Sat E (R * rL 1 intC (.slice pT 5 kT) T * rL 1 intC (.slice pL 5 kL) l * rL 1 intC (.slice q 5 k) (rPolled l T i)) w' → Q (.returned (.agg #[.slice pT 5 kT, .slice q 5 k])) w' := fun q k w' h => hk q k w' (h.eq (by rw [c.eq]; simp only [← star_assoc]))
  refine f_enter Try.func54 rfl rfl ?_
  show Code.wp _ _ _ (Fr _) _
  refine wp_seq_k (fun K1 hK1 => ?_)
  refine c_region ?_
  refine s_ex (r_box rfl rfl rfl hs) rfl rfl (fun _ => by rfl) ?_
  intro b2 w hs
  refine s_ex (r_alloc rfl zr46 hs) rfl rfl (fun _ => by rfl) ?_
  intro b3 w hs
  refine s_nil ?_
  refine hK1 _ _ ?_
  refine wp_seq_k (fun K4 hK4 => ?_)
  refine wp_seq_k (fun K5 hK5 => ?_)
  refine c_region ?_
  refine s_bool (r_move rfl rfl) rfl rfl (fun _ => by rfl) ?_
  intro c6 hc6
  refine s_nil ?_
  refine hK5 _ _ ?_
  cases c6
  case false =>
   replace hc6 := Eq.symm hc6
   try dsimp only [List.length_cons, List.length_nil] at hc6
   first
   | (exfalso; first | omega | (cases hc6; done))
   | (
     refine c_condF rfl ?_
     refine wp_skip ?_
     refine hK4 _ _ ?_
     refine wp_seq_k (fun K7 hK7 => ?_)
     refine c_region ?_
     refine sVal (r_loadA rfl rfl (ag46 _) hs.own in46 sz46 (by rfl)) ?_
     refine s_ex (r_lit intC [1] rfl rfl rfl hs Try.underlying22 (by kernel_rfl) sz3 rfl (by decide) (fun _ => rfl)) rfl rfl (fun _ => by rfl) ?_
     intro b8 w hs
     refine s_ex (r_lit intC [2, 4] rfl rfl rfl hs Try.underlying22 (by kernel_rfl) sz3 rfl (by decide) (fun _ => rfl)) rfl rfl (fun _ => by rfl) ?_
     intro b9 w hs
     refine s_enter (r_call rfl ent58 rfl) rfl ?_
     replace hs := hs.letL (L := ([1] : List Int)) (by (repeat (first | exact Cut.head _ _ | apply Cut.tail)); done)
     replace hs := hs.letL (L := ([2, 4] : List Int)) (by (repeat (first | exact Cut.head _ _ | apply Cut.tail)); done)
     refine set15_use (T := T) (l := l) (on := [1]) (off := [2, 4]) hT hl (by decide) (by decide) (by decide) (by decide) hs (by (repeat (first | apply Cut.pair | exact Cut.head _ _ | apply Cut.tail)); done) ?_
     intro q1 k1 w hs
     refine ⟨_, rfl, a_put (by rfl) ?_⟩
     refine s_enter (r_call rfl ent81 rfl) rfl ?_
     refine r15watch_use hT (setL_len hl) hs (by (repeat (first | apply Cut.pair | exact Cut.head _ _ | apply Cut.tail)); done) ?_
     intro q2 k2 w hs
     refine ⟨_, rfl, a_put (by rfl) ?_⟩
     refine s_exS (r_storeA rfl rfl rfl hs (by (repeat (first | exact Cut.head _ _ | apply Cut.tail)); done) in46 sz46 rfl (fun h => by cases h) rfl (by rfl)) rfl rfl ?_
     intro w hs
     refine s_nil ?_
     refine hK7 _ _ ?_
     refine wp_ret ?_
     refine f_ret (rs := [.cell 4 46]) rfl (.cell rfl (run_loadL hs.own (ag46 _) in46 sz46 (by rfl)) .nil) rfl ?_
     first | (rw [show rPolled l T i = rWatch (setL l T [2] [1, 4]) T by rw [show i = true by assumption]; rfl] at hk; exact hk q2 k2 _ (fin1 hs (by (repeat (first | exact Cut.head _ _ | apply Cut.tail)); done) (by repeat (first | exact Keeps.refl _ | apply Keeps.tail | apply Keeps.drop)))) | (rw [show rPolled l T i = rWatch (setL l T [1] [2, 4]) T by rw [show i = false by assumption]; rfl] at hk; exact hk q2 k2 _ (fin1 hs (by (repeat (first | exact Cut.head _ _ | apply Cut.tail)); done) (by repeat (first | exact Keeps.refl _ | apply Keeps.tail | apply Keeps.drop)))))
  case true =>
   replace hc6 := Eq.symm hc6
   try dsimp only [List.length_cons, List.length_nil] at hc6
   first
   | (exfalso; first | omega | (cases hc6; done))
   | (
     refine c_condT rfl ?_
     refine wp_seq_k (fun K10 hK10 => ?_)
     refine c_region ?_
     refine sVal (r_loadA rfl rfl (ag46 _) hs.own in46 sz46 (by rfl)) ?_
     refine s_ex (r_lit intC [2] rfl rfl rfl hs Try.underlying22 (by kernel_rfl) sz3 rfl (by decide) (fun _ => rfl)) rfl rfl (fun _ => by rfl) ?_
     intro b11 w hs
     refine s_ex (r_lit intC [1, 4] rfl rfl rfl hs Try.underlying22 (by kernel_rfl) sz3 rfl (by decide) (fun _ => rfl)) rfl rfl (fun _ => by rfl) ?_
     intro b12 w hs
     refine s_enter (r_call rfl ent58 rfl) rfl ?_
     replace hs := hs.letL (L := ([2] : List Int)) (by (repeat (first | exact Cut.head _ _ | apply Cut.tail)); done)
     replace hs := hs.letL (L := ([1, 4] : List Int)) (by (repeat (first | exact Cut.head _ _ | apply Cut.tail)); done)
     refine set15_use (T := T) (l := l) (on := [2]) (off := [1, 4]) hT hl (by decide) (by decide) (by decide) (by decide) hs (by (repeat (first | apply Cut.pair | exact Cut.head _ _ | apply Cut.tail)); done) ?_
     intro q1 k1 w hs
     refine ⟨_, rfl, a_put (by rfl) ?_⟩
     refine s_enter (r_call rfl ent81 rfl) rfl ?_
     refine r15watch_use hT (setL_len hl) hs (by (repeat (first | apply Cut.pair | exact Cut.head _ _ | apply Cut.tail)); done) ?_
     intro q2 k2 w hs
     refine ⟨_, rfl, a_put (by rfl) ?_⟩
     refine s_exS (r_storeA rfl rfl rfl hs (by (repeat (first | exact Cut.head _ _ | apply Cut.tail)); done) in46 sz46 rfl (fun h => by cases h) rfl (by rfl)) rfl rfl ?_
     intro w hs
     refine s_nil ?_
     refine hK10 _ _ ?_
     refine wp_ret ?_
     refine f_ret (rs := [.cell 4 46]) rfl (.cell rfl (run_loadL hs.own (ag46 _) in46 sz46 (by rfl)) .nil) rfl ?_
     first | (rw [show rPolled l T i = rWatch (setL l T [2] [1, 4]) T by rw [show i = true by assumption]; rfl] at hk; exact hk q2 k2 _ (fin1 hs (by (repeat (first | exact Cut.head _ _ | apply Cut.tail)); done) (by repeat (first | exact Keeps.refl _ | apply Keeps.tail | apply Keeps.drop)))) | (rw [show rPolled l T i = rWatch (setL l T [1] [2, 4]) T by rw [show i = false by assumption]; rfl] at hk; exact hk q2 k2 _ (fin1 hs (by (repeat (first | exact Cut.head _ _ | apply Cut.tail)); done) (by repeat (first | exact Keeps.refl _ | apply Keeps.tail | apply Keeps.drop)))))
theorem r15Answered_use (i : Bool) (hT : T.length = 5) (hl : l.length = 5) (hs : Sat E H w) (c : Cut H (rL 1 intC (.slice pT 5 kT) T * rL 1 intC (.slice pL 5 kL) l) R) (hk : ∀ q k w', Sat E (H * rL 1 intC (.slice q 5 k) (rAnswered l T i)) w' → Q (.returned (.agg #[.slice pT 5 kT, .slice q 5 k])) w') :
    Calls Try.prog 55 #[.agg #[.slice pT 5 kT, .slice pL 5 kL], .bool i] w Q := by
  replace hs := hs.cut c
  simp only [← star_assoc] at hs
  replace hk : ∀ q k w', Sat E (R * rL 1 intC (.slice pT 5 kT) T * rL 1 intC (.slice pL 5 kL) l * rL 1 intC (.slice q 5 k) (rAnswered l T i)) w' → Q (.returned (.agg #[.slice pT 5 kT, .slice q 5 k])) w' := fun q k w' h => hk q k w' (h.eq (by rw [c.eq]; simp only [← star_assoc]))
  refine f_enter Try.func55 rfl rfl ?_
  show Code.wp _ _ _ (Fr _) _
  refine wp_seq_k (fun K1 hK1 => ?_)
  refine c_region ?_
  refine s_ex (r_box rfl rfl rfl hs) rfl rfl (fun _ => by rfl) ?_
  intro b2 w hs
  refine s_ex (r_alloc rfl zr46 hs) rfl rfl (fun _ => by rfl) ?_
  intro b3 w hs
  refine s_nil ?_
  refine hK1 _ _ ?_
  refine wp_seq_k (fun K4 hK4 => ?_)
  refine wp_seq_k (fun K5 hK5 => ?_)
  refine c_region ?_
  refine s_bool (r_move rfl rfl) rfl rfl (fun _ => by rfl) ?_
  intro c6 hc6
  refine sVal (r_move rfl rfl) ?_
  cases c6
  case false =>
   replace hc6 := Eq.symm hc6
   try dsimp only [List.length_cons, List.length_nil] at hc6
   first
   | (exfalso; first | omega | (cases hc6; done))
   | (
     refine @s_pass _ _ _ _ _ _ _ _ 7 (by rfl) (want_no rfl rfl rfl rfl) (by rfl) ?_
     refine @s_pass _ _ _ _ _ _ _ _ 8 (by rfl) (want_no rfl rfl rfl rfl) (by rfl) ?_
     refine @s_pass _ _ _ _ _ _ _ _ 9 (by rfl) (want_no rfl rfl rfl rfl) (by rfl) ?_
     refine @s_pass _ _ _ _ _ _ _ _ 10 (by rfl) (want_no rfl rfl rfl rfl) (by rfl) ?_
     refine @s_pass _ _ _ _ _ _ _ _ 11 (by rfl) (want_no rfl rfl rfl rfl) (by rfl) ?_
     refine sVal (r_pickF rfl rfl rfl) ?_
     refine s_nil ?_
     refine hK5 _ _ ?_
     refine c_condF rfl ?_
     refine wp_skip ?_
     refine hK4 _ _ ?_
     refine wp_seq_k (fun K7 hK7 => ?_)
     refine wp_seq_k (fun K8 hK8 => ?_)
     refine c_region ?_
     refine sVal (r_field rfl rfl of46_1) ?_
     refine sVal (r_load rfl rfl (ag22 _) hs.own (by rfl)) ?_
     refine s_exQ (r_idx (f := intC) rfl rfl rfl hs.rd (rfl) (atD (m := 4) hl (by decide)) Try.underlying22 in3 sz3) rfl rfl (fun _ => by rfl) ?_
     intro ad10 he9
     refine sVal (r_loadEl rfl rfl hs.rd he9 (atD (m := 4) hl (by decide)) (fun _ => rfl) (ag3 _) (by rfl)) ?_
     refine s_bool (r_cmp rfl rfl rfl rfl) rfl rfl (fun _ => by rfl) ?_
     intro c11 hc11
     refine s_nil ?_
     refine hK8 _ _ ?_
     cases c11
     case false =>
      replace hc11 := gtF hc11
      try dsimp only [List.length_cons, List.length_nil] at hc11
      first
      | (exfalso; first | omega | (cases hc11; done))
      | (
        refine c_condF rfl ?_
        refine wp_skip ?_
        refine hK7 _ _ ?_
        refine wp_seq_k (fun K12 hK12 => ?_)
        refine c_region ?_
        refine sVal (r_loadA rfl rfl (ag46 _) hs.own in46 sz46 (by rfl)) ?_
        refine s_ex (r_lit intC [3] rfl rfl rfl hs Try.underlying22 (by kernel_rfl) sz3 rfl (by decide) (fun _ => rfl)) rfl rfl (fun _ => by rfl) ?_
        intro b13 w hs
        refine s_enter (r_call rfl ent58 rfl) rfl ?_
        replace hs := hs.letL (L := ([3] : List Int)) (by (repeat (first | exact Cut.head _ _ | apply Cut.tail)); done)
        replace hs := (hs.mkNilL 3 1 intC).letL (L := ([] : List Int)) (by (repeat (first | exact Cut.head _ _ | apply Cut.tail)); done)
        refine set15_use (T := T) (l := l) (on := [3]) (off := []) hT hl (by decide) (by decide) (by decide) (by decide) hs (by (repeat (first | apply Cut.pair | exact Cut.head _ _ | apply Cut.tail)); done) ?_
        intro q1 k1 w hs
        refine ⟨_, rfl, a_put (by rfl) ?_⟩
        refine s_exS (r_storeA rfl rfl rfl hs (by (repeat (first | exact Cut.head _ _ | apply Cut.tail)); done) in46 sz46 rfl (fun h => by cases h) rfl (by rfl)) rfl rfl ?_
        intro w hs
        refine s_nil ?_
        refine hK12 _ _ ?_
        refine wp_ret ?_
        refine f_ret (rs := [.cell 4 46]) rfl (.cell rfl (run_loadL hs.own (ag46 _) in46 sz46 (by rfl)) .nil) rfl ?_
        first | (rw [show rAnswered l T i = setL l T [4] [2, 3] from if_pos ⟨by assumption, by assumption⟩] at hk; exact hk q1 k1 _ (fin1 hs (by (repeat (first | exact Cut.head _ _ | apply Cut.tail)); done) (by repeat (first | exact Keeps.refl _ | apply Keeps.tail | apply Keeps.drop)))) | (have hn : ¬ (i = true ∧ 0 < l.getD 2 0) := (by first | exact fun h => absurd h.2 (by assumption) | exact fun h => by rw [show i = false by assumption] at h; cases h.1); first | (rw [show rAnswered l T i = l from (if_neg hn).trans (if_pos (by assumption))] at hk; exact hk _ _ _ (fin1 (hs.dupL (L := l) (v := .slice pL 5 kL) (by (repeat (first | exact Cut.head _ _ | apply Cut.tail)); done)) (by (repeat (first | exact Cut.head _ _ | apply Cut.tail)); done) (by repeat (first | exact Keeps.refl _ | apply Keeps.tail | apply Keeps.drop)))) | (rw [show rAnswered l T i = setL l T [3] [] from (if_neg hn).trans (if_neg (by assumption))] at hk; exact hk q1 k1 _ (fin1 hs (by (repeat (first | exact Cut.head _ _ | apply Cut.tail)); done) (by repeat (first | exact Keeps.refl _ | apply Keeps.tail | apply Keeps.drop))))))
     case true =>
      replace hc11 := gtT hc11
      try dsimp only [List.length_cons, List.length_nil] at hc11
      first
      | (exfalso; first | omega | (cases hc11; done))
      | (
        refine c_condT rfl ?_
        refine wp_seq_k (fun K14 hK14 => ?_)
        refine c_region ?_
        refine sVal (r_loadA rfl rfl (ag46 _) hs.own in46 sz46 (by rfl)) ?_
        refine s_exS (r_storeA rfl rfl rfl hs (by (repeat (first | exact Cut.head _ _ | apply Cut.tail)); done) in46 sz46 rfl (fun h => by cases h) rfl (by rfl)) rfl rfl ?_
        intro w hs
        refine s_nil ?_
        refine hK14 _ _ ?_
        refine wp_ret ?_
        refine f_ret (rs := [.cell 4 46]) rfl (.cell rfl (run_loadL hs.own (ag46 _) in46 sz46 (by rfl)) .nil) rfl ?_
        first | (rw [show rAnswered l T i = setL l T [4] [2, 3] from if_pos ⟨by assumption, by assumption⟩] at hk; exact hk q1 k1 _ (fin1 hs (by (repeat (first | exact Cut.head _ _ | apply Cut.tail)); done) (by repeat (first | exact Keeps.refl _ | apply Keeps.tail | apply Keeps.drop)))) | (have hn : ¬ (i = true ∧ 0 < l.getD 2 0) := (by first | exact fun h => absurd h.2 (by assumption) | exact fun h => by rw [show i = false by assumption] at h; cases h.1); first | (rw [show rAnswered l T i = l from (if_neg hn).trans (if_pos (by assumption))] at hk; exact hk _ _ _ (fin1 (hs.dupL (L := l) (v := .slice pL 5 kL) (by (repeat (first | exact Cut.head _ _ | apply Cut.tail)); done)) (by (repeat (first | exact Cut.head _ _ | apply Cut.tail)); done) (by repeat (first | exact Keeps.refl _ | apply Keeps.tail | apply Keeps.drop)))) | (rw [show rAnswered l T i = setL l T [3] [] from (if_neg hn).trans (if_neg (by assumption))] at hk; exact hk q1 k1 _ (fin1 hs (by (repeat (first | exact Cut.head _ _ | apply Cut.tail)); done) (by repeat (first | exact Keeps.refl _ | apply Keeps.tail | apply Keeps.drop)))))))
  case true =>
   replace hc6 := Eq.symm hc6
   try dsimp only [List.length_cons, List.length_nil] at hc6
   first
   | (exfalso; first | omega | (cases hc6; done))
   | (
     refine sVal (r_field rfl rfl of46_1) ?_
     refine sVal (r_load rfl rfl (ag22 _) hs.own (by rfl)) ?_
     refine s_exQ (r_idx (f := intC) rfl rfl rfl hs.rd (rfl) (atD (m := 2) hl (by decide)) Try.underlying22 in3 sz3) rfl rfl (fun _ => by rfl) ?_
     intro ad16 he15
     refine sVal (r_loadEl rfl rfl hs.rd he15 (atD (m := 2) hl (by decide)) (fun _ => rfl) (ag3 _) (by rfl)) ?_
     refine s_bool (r_cmp rfl rfl rfl rfl) rfl rfl (fun _ => by rfl) ?_
     intro c17 hc17
     refine sVal (r_pickT rfl rfl rfl) ?_
     refine s_nil ?_
     refine hK5 _ _ ?_
     cases c17
     case false =>
      replace hc17 := gtF hc17
      try dsimp only [List.length_cons, List.length_nil] at hc17
      first
      | (exfalso; first | omega | (cases hc17; done))
      | (
        refine c_condF rfl ?_
        refine wp_skip ?_
        refine hK4 _ _ ?_
        refine wp_seq_k (fun K18 hK18 => ?_)
        refine wp_seq_k (fun K19 hK19 => ?_)
        refine c_region ?_
        refine sVal (r_field rfl rfl of46_1) ?_
        refine sVal (r_load rfl rfl (ag22 _) hs.own (by rfl)) ?_
        refine s_exQ (r_idx (f := intC) rfl rfl rfl hs.rd (rfl) (atD (m := 4) hl (by decide)) Try.underlying22 in3 sz3) rfl rfl (fun _ => by rfl) ?_
        intro ad21 he20
        refine sVal (r_loadEl rfl rfl hs.rd he20 (atD (m := 4) hl (by decide)) (fun _ => rfl) (ag3 _) (by rfl)) ?_
        refine s_bool (r_cmp rfl rfl rfl rfl) rfl rfl (fun _ => by rfl) ?_
        intro c22 hc22
        refine s_nil ?_
        refine hK19 _ _ ?_
        cases c22
        case false =>
         replace hc22 := gtF hc22
         try dsimp only [List.length_cons, List.length_nil] at hc22
         first
         | (exfalso; first | omega | (cases hc22; done))
         | (
           refine c_condF rfl ?_
           refine wp_skip ?_
           refine hK18 _ _ ?_
           refine wp_seq_k (fun K23 hK23 => ?_)
           refine c_region ?_
           refine sVal (r_loadA rfl rfl (ag46 _) hs.own in46 sz46 (by rfl)) ?_
           refine s_ex (r_lit intC [3] rfl rfl rfl hs Try.underlying22 (by kernel_rfl) sz3 rfl (by decide) (fun _ => rfl)) rfl rfl (fun _ => by rfl) ?_
           intro b24 w hs
           refine s_enter (r_call rfl ent58 rfl) rfl ?_
           replace hs := hs.letL (L := ([3] : List Int)) (by (repeat (first | exact Cut.head _ _ | apply Cut.tail)); done)
           replace hs := (hs.mkNilL 3 1 intC).letL (L := ([] : List Int)) (by (repeat (first | exact Cut.head _ _ | apply Cut.tail)); done)
           refine set15_use (T := T) (l := l) (on := [3]) (off := []) hT hl (by decide) (by decide) (by decide) (by decide) hs (by (repeat (first | apply Cut.pair | exact Cut.head _ _ | apply Cut.tail)); done) ?_
           intro q1 k1 w hs
           refine ⟨_, rfl, a_put (by rfl) ?_⟩
           refine s_exS (r_storeA rfl rfl rfl hs (by (repeat (first | exact Cut.head _ _ | apply Cut.tail)); done) in46 sz46 rfl (fun h => by cases h) rfl (by rfl)) rfl rfl ?_
           intro w hs
           refine s_nil ?_
           refine hK23 _ _ ?_
           refine wp_ret ?_
           refine f_ret (rs := [.cell 4 46]) rfl (.cell rfl (run_loadL hs.own (ag46 _) in46 sz46 (by rfl)) .nil) rfl ?_
           first | (rw [show rAnswered l T i = setL l T [4] [2, 3] from if_pos ⟨by assumption, by assumption⟩] at hk; exact hk q1 k1 _ (fin1 hs (by (repeat (first | exact Cut.head _ _ | apply Cut.tail)); done) (by repeat (first | exact Keeps.refl _ | apply Keeps.tail | apply Keeps.drop)))) | (have hn : ¬ (i = true ∧ 0 < l.getD 2 0) := (by first | exact fun h => absurd h.2 (by assumption) | exact fun h => by rw [show i = false by assumption] at h; cases h.1); first | (rw [show rAnswered l T i = l from (if_neg hn).trans (if_pos (by assumption))] at hk; exact hk _ _ _ (fin1 (hs.dupL (L := l) (v := .slice pL 5 kL) (by (repeat (first | exact Cut.head _ _ | apply Cut.tail)); done)) (by (repeat (first | exact Cut.head _ _ | apply Cut.tail)); done) (by repeat (first | exact Keeps.refl _ | apply Keeps.tail | apply Keeps.drop)))) | (rw [show rAnswered l T i = setL l T [3] [] from (if_neg hn).trans (if_neg (by assumption))] at hk; exact hk q1 k1 _ (fin1 hs (by (repeat (first | exact Cut.head _ _ | apply Cut.tail)); done) (by repeat (first | exact Keeps.refl _ | apply Keeps.tail | apply Keeps.drop))))))
        case true =>
         replace hc22 := gtT hc22
         try dsimp only [List.length_cons, List.length_nil] at hc22
         first
         | (exfalso; first | omega | (cases hc22; done))
         | (
           refine c_condT rfl ?_
           refine wp_seq_k (fun K25 hK25 => ?_)
           refine c_region ?_
           refine sVal (r_loadA rfl rfl (ag46 _) hs.own in46 sz46 (by rfl)) ?_
           refine s_exS (r_storeA rfl rfl rfl hs (by (repeat (first | exact Cut.head _ _ | apply Cut.tail)); done) in46 sz46 rfl (fun h => by cases h) rfl (by rfl)) rfl rfl ?_
           intro w hs
           refine s_nil ?_
           refine hK25 _ _ ?_
           refine wp_ret ?_
           refine f_ret (rs := [.cell 4 46]) rfl (.cell rfl (run_loadL hs.own (ag46 _) in46 sz46 (by rfl)) .nil) rfl ?_
           first | (rw [show rAnswered l T i = setL l T [4] [2, 3] from if_pos ⟨by assumption, by assumption⟩] at hk; exact hk q1 k1 _ (fin1 hs (by (repeat (first | exact Cut.head _ _ | apply Cut.tail)); done) (by repeat (first | exact Keeps.refl _ | apply Keeps.tail | apply Keeps.drop)))) | (have hn : ¬ (i = true ∧ 0 < l.getD 2 0) := (by first | exact fun h => absurd h.2 (by assumption) | exact fun h => by rw [show i = false by assumption] at h; cases h.1); first | (rw [show rAnswered l T i = l from (if_neg hn).trans (if_pos (by assumption))] at hk; exact hk _ _ _ (fin1 (hs.dupL (L := l) (v := .slice pL 5 kL) (by (repeat (first | exact Cut.head _ _ | apply Cut.tail)); done)) (by (repeat (first | exact Cut.head _ _ | apply Cut.tail)); done) (by repeat (first | exact Keeps.refl _ | apply Keeps.tail | apply Keeps.drop)))) | (rw [show rAnswered l T i = setL l T [3] [] from (if_neg hn).trans (if_neg (by assumption))] at hk; exact hk q1 k1 _ (fin1 hs (by (repeat (first | exact Cut.head _ _ | apply Cut.tail)); done) (by repeat (first | exact Keeps.refl _ | apply Keeps.tail | apply Keeps.drop)))))))
     case true =>
      replace hc17 := gtT hc17
      try dsimp only [List.length_cons, List.length_nil] at hc17
      first
      | (exfalso; first | omega | (cases hc17; done))
      | (
        refine c_condT rfl ?_
        refine wp_seq_k (fun K26 hK26 => ?_)
        refine c_region ?_
        refine sVal (r_loadA rfl rfl (ag46 _) hs.own in46 sz46 (by rfl)) ?_
        refine s_ex (r_lit intC [4] rfl rfl rfl hs Try.underlying22 (by kernel_rfl) sz3 rfl (by decide) (fun _ => rfl)) rfl rfl (fun _ => by rfl) ?_
        intro b27 w hs
        refine s_ex (r_lit intC [2, 3] rfl rfl rfl hs Try.underlying22 (by kernel_rfl) sz3 rfl (by decide) (fun _ => rfl)) rfl rfl (fun _ => by rfl) ?_
        intro b28 w hs
        refine s_enter (r_call rfl ent58 rfl) rfl ?_
        replace hs := hs.letL (L := ([4] : List Int)) (by (repeat (first | exact Cut.head _ _ | apply Cut.tail)); done)
        replace hs := hs.letL (L := ([2, 3] : List Int)) (by (repeat (first | exact Cut.head _ _ | apply Cut.tail)); done)
        refine set15_use (T := T) (l := l) (on := [4]) (off := [2, 3]) hT hl (by decide) (by decide) (by decide) (by decide) hs (by (repeat (first | apply Cut.pair | exact Cut.head _ _ | apply Cut.tail)); done) ?_
        intro q1 k1 w hs
        refine ⟨_, rfl, a_put (by rfl) ?_⟩
        refine s_exS (r_storeA rfl rfl rfl hs (by (repeat (first | exact Cut.head _ _ | apply Cut.tail)); done) in46 sz46 rfl (fun h => by cases h) rfl (by rfl)) rfl rfl ?_
        intro w hs
        refine s_nil ?_
        refine hK26 _ _ ?_
        refine wp_ret ?_
        refine f_ret (rs := [.cell 4 46]) rfl (.cell rfl (run_loadL hs.own (ag46 _) in46 sz46 (by rfl)) .nil) rfl ?_
        first | (rw [show rAnswered l T i = setL l T [4] [2, 3] from if_pos ⟨by assumption, by assumption⟩] at hk; exact hk q1 k1 _ (fin1 hs (by (repeat (first | exact Cut.head _ _ | apply Cut.tail)); done) (by repeat (first | exact Keeps.refl _ | apply Keeps.tail | apply Keeps.drop)))) | (have hn : ¬ (i = true ∧ 0 < l.getD 2 0) := (by first | exact fun h => absurd h.2 (by assumption) | exact fun h => by rw [show i = false by assumption] at h; cases h.1); first | (rw [show rAnswered l T i = l from (if_neg hn).trans (if_pos (by assumption))] at hk; exact hk _ _ _ (fin1 (hs.dupL (L := l) (v := .slice pL 5 kL) (by (repeat (first | exact Cut.head _ _ | apply Cut.tail)); done)) (by (repeat (first | exact Cut.head _ _ | apply Cut.tail)); done) (by repeat (first | exact Keeps.refl _ | apply Keeps.tail | apply Keeps.drop)))) | (rw [show rAnswered l T i = setL l T [3] [] from (if_neg hn).trans (if_neg (by assumption))] at hk; exact hk q1 k1 _ (fin1 hs (by (repeat (first | exact Cut.head _ _ | apply Cut.tail)); done) (by repeat (first | exact Keeps.refl _ | apply Keeps.tail | apply Keeps.drop)))))))
theorem r15Tick_use (hb : Bank l) (hs : Sat E H w) (c : Cut H (rL 1 intC (.slice pT 5 kT) T * rL 1 intC (.slice pL 5 kL) l) R) (hk : ∀ q k q2 k2 w', Sat E (H * rL 1 intC (.slice q 5 k) (tickL l) * rL 1 intC (.slice q2 (overL l).length k2) (overL l)) w' → Q (.returned (.tuple #[.agg #[.slice pT 5 kT, .slice q 5 k], .slice q2 (overL l).length k2])) w') :
    Calls Try.prog 56 #[.agg #[.slice pT 5 kT, .slice pL 5 kL]] w Q := by
  have hl := hb.len
  replace hs := hs.cut c
  simp only [← star_assoc] at hs
  replace hk : ∀ q k q2 k2 w', Sat E (R * rL 1 intC (.slice pT 5 kT) T * rL 1 intC (.slice pL 5 kL) l * rL 1 intC (.slice q 5 k) (tickL l) * rL 1 intC (.slice q2 (overL l).length k2) (overL l)) w' → Q (.returned (.tuple #[.agg #[.slice pT 5 kT, .slice q 5 k], .slice q2 (overL l).length k2])) w' := fun q k q2 k2 w' h => hk q k q2 k2 w' (h.eq (by rw [c.eq]; simp only [← star_assoc]))
  refine f_enter Try.func56 rfl rfl ?_
  show Code.wp _ _ _ (Fr _) _
  refine wp_seq_k (fun K1 hK1 => ?_)
  refine c_region ?_
  refine s_ex (r_box rfl rfl rfl hs) rfl rfl (fun _ => by rfl) ?_
  intro bx w hs
  refine s_ex (r_alloc rfl zr46 hs) rfl rfl (fun _ => by rfl) ?_
  intro br w hs
  refine sVal (r_assign rfl rfl) ?_
  refine s_nil ?_
  refine hK1 _ _ ?_
  refine wp_seq_k (fun K2 hK2 => ?_)
  refine c_region ?_
  refine s_ex (r_lit intC ([] : List Int) rfl rfl rfl hs Try.underlying22 (by kernel_rfl) sz3 rfl (by decide) (fun _ => rfl)) rfl rfl (fun _ => by rfl) ?_
  intro b4 w hs
  refine sVal (r_assign rfl rfl) ?_
  refine s_nil ?_
  refine hK2 _ _ ?_
  refine wp_seq_k (fun K3 hK3 => ?_)
  refine c_region ?_
  refine s_ex (r_lit intC ([] : List Int) rfl rfl rfl hs Try.underlying22 (by kernel_rfl) sz3 rfl (by decide) (fun _ => rfl)) rfl rfl (fun _ => by rfl) ?_
  intro b5 w hs
  refine sVal (r_assign rfl rfl) ?_
  refine s_nil ?_
  refine hK3 _ _ ?_
  refine wp_seq_k (fun K4 hK4 => ?_)
  refine wp_seq_k (fun K5 hK5 => ?_)
  refine c_region ?_
  refine sVal (r_field rfl rfl of46_1) ?_
  refine sVal (r_load rfl rfl (ag22 _) hs.own (by rfl)) ?_
  refine sVal (r_len rfl rfl Try.underlying22) ?_
  refine sVal (r_move rfl rfl) ?_
  refine s_nil ?_
  refine hK5 _ _ ?_
  refine wp_block ?_
  refine c_loop (4 :: 5 :: 6 :: 7 :: 13 :: 14 :: 15 :: 16 :: 17 :: 18 :: 19 :: 20 :: 21 :: 22 :: 23 :: 24 :: 25 :: 26 :: 27 :: 28 :: 29 :: 30 :: []) (fun xs w => ∃ (j : Nat) (p4 p5 : Option Addr) (k4 k5 : Nat), xs = (.slice p4 (tickL (l.take j)).length k4 :: .slice p5 (overL (l.take j)).length k5 :: xAt xs 2 :: xAt xs 3 :: .int .i64 (j : Int) :: xAt xs 5 :: xAt xs 6 :: xAt xs 7 :: xAt xs 8 :: xAt xs 9 :: xAt xs 10 :: xAt xs 11 :: xAt xs 12 :: xAt xs 13 :: xAt xs 14 :: xAt xs 15 :: xAt xs 16 :: xAt xs 17 :: xAt xs 18 :: xAt xs 19 :: xAt xs 20 :: xAt xs 21 :: []) ∧ j ≤ 5 ∧ Sat E (R * rL 1 intC (.slice pT 5 kT) T * rL 1 intC (.slice pL 5 kL) l * own bx (.cells #[.slice pT 5 kT, .slice pL 5 kL] 46 (0, 0)) * own br (.cells #[.slice none 0 0, .slice none 0 0] 46 (0, 0)) * oL 3 1 intC (.slice p4 (tickL (l.take j)).length k4) (tickL (l.take j)) * oL 3 1 intC (.slice p5 (overL (l.take j)).length k5) (overL (l.take j))) w) (fun xs _ => 5 - (intOf (xAt xs 4)).toNat) rfl (by rfl) ?_ ?_
  · exact ⟨0, _, _, _, _, rfl, by omega, hs⟩
  clear hs
  rintro xs w ⟨j, p4, p5, k4, k5, hxs, hj, hs⟩
  obtain ⟨D6, hD6⟩ : ∃ D, D = xAt xs := ⟨_, rfl⟩
  rw [← hD6] at hxs
  clear hD6
  subst hxs
  refine ⟨_, rfl, fun KL7 hKL7 => ?_⟩
  refine wp_seq_k (fun K8 hK8 => ?_)
  refine c_region ?_
  refine s_bool (r_cmp rfl rfl rfl rfl) rfl rfl (fun _ => by rfl) ?_
  intro c9 hc9
  refine s_nil ?_
  refine hK8 _ _ ?_
  refine wp_seq_k (fun K10 hK10 => ?_)
  cases c9
  case false =>
   replace hc9 := decF' hc9
   try dsimp only [List.length_cons, List.length_nil] at hc9
   first
   | (exfalso; first | omega | (cases hc9; done))
   | (
     refine c_condF rfl ?_
     refine wp_exit ?_
     refine hK4 _ _ ?_
     refine wp_seq_k (fun K11 hK11 => ?_)
     refine c_region ?_
     refine sVal (r_field rfl rfl of46_0) ?_
     refine sVal (r_load rfl rfl (ag22 _) hs.own (by rfl)) ?_
     refine sVal (r_move rfl rfl) ?_
     refine sVal (r_build rfl rfl pl46 zr46 (by rfl)) ?_
     refine sVal (r_move rfl rfl) ?_
     refine s_exS (r_storeA rfl rfl rfl hs (by (repeat (first | exact Cut.head _ _ | apply Cut.tail)); done) in46 sz46 rfl (fun h => by cases h) rfl (by rfl)) rfl rfl ?_
     intro w hs
     refine sVal (r_assign rfl rfl) ?_
     refine s_nil ?_
     refine hK11 _ _ ?_
     refine wp_ret ?_
     refine f_ret (rs := [.cell 2 46, .tmp 3]) rfl (.cell rfl (run_loadL hs.own (ag46 _) in46 sz46 (by rfl)) (.tmp rfl .nil)) rfl ?_
     obtain rfl : j = 5 := by omega
     have e5 : l.take 5 = l := (by rw [← hl]; exact List.take_length)
     rw [e5, tickL_len hl] at hs
     rw [e5, tickL_len hl]
     replace hs := hs.letL (L := tickL l) (by (repeat (first | exact Cut.head _ _ | apply Cut.tail)); done)
     replace hs := hs.letL (L := overL l) (by (repeat (first | exact Cut.head _ _ | apply Cut.tail)); done)
     exact hk _ _ _ _ _ ((fin1 hs (by (repeat (first | apply Cut.pair | exact Cut.head _ _ | apply Cut.tail)); done) (by repeat (first | exact Keeps.refl _ | apply Keeps.tail | apply Keeps.drop))).eq (star_assoc _ _ _).symm))
  case true =>
   replace hc9 := decT' hc9
   try dsimp only [List.length_cons, List.length_nil] at hc9
   first
   | (exfalso; first | omega | (cases hc9; done))
   | (
     refine c_condT rfl ?_
     refine wp_skip ?_
     refine hK10 _ _ ?_
     refine wp_seq_k (fun K12 hK12 => ?_)
     refine wp_block ?_
     refine wp_seq_k (fun K13 hK13 => ?_)
     refine c_region ?_
     refine sVal (r_move rfl rfl) ?_
     obtain ⟨n, hx⟩ : ∃ n, l[j]? = some n := ⟨_, List.getElem?_eq_getElem (by omega)⟩
     have hn := hb.all n (List.mem_of_getElem? hx)
     have et := tickL_next hx
     have ho5 : (overL (l.take j)).length ≤ 5 := (by have := overFrom_length (l.take j) 0; rw [List.length_take] at this; unfold overL; omega)
     have ht5 : (tickL (l.take j)).length ≤ 5 := (by unfold tickL; rw [List.length_map, List.length_take]; omega)
     refine s_exQ (r_idx (f := intC) rfl rfl rfl hs.rd (rfl) (hx) Try.underlying22 in3 sz3) rfl rfl (fun _ => by rfl) ?_
     intro ad15 he14
     refine sVal (r_loadEl rfl rfl hs.rd he14 (hx) (fun _ => rfl) (ag3 _) (by rfl)) ?_
     refine sVal (r_assign rfl rfl) ?_
     refine sVal (r_assign rfl rfl) ?_
     refine s_nil ?_
     refine hK13 _ _ ?_
     refine wp_seq_k (fun K16 hK16 => ?_)
     refine wp_seq_k (fun K17 hK17 => ?_)
     refine c_region ?_
     refine sVal (r_move rfl rfl) ?_
     refine s_bool (r_cmp rfl rfl rfl rfl) rfl rfl (fun _ => by rfl) ?_
     intro c18 hc18
     refine s_nil ?_
     refine hK17 _ _ ?_
     cases c18
     case false =>
      replace hc18 := eqF hc18
      try dsimp only [List.length_cons, List.length_nil] at hc18
      first
      | (exfalso; first | omega | (cases hc18; done))
      | (
        refine c_condF rfl ?_
        refine wp_skip ?_
        refine hK16 _ _ ?_
        refine c_region ?_
        refine sVal (r_move rfl rfl) ?_
        refine sVal (r_move rfl rfl) ?_
        refine sVal (r_ari rfl rfl rfl rfl (by first | exact wrapI (by omega) | rfl)) ?_
        refine sVal (r_max rfl rfl rfl) ?_
        refine s_ex (r_lit intC [max (n - 1) 0] rfl rfl rfl hs Try.underlying22 (by kernel_rfl) sz3 rfl (by decide) (fun _ => rfl)) rfl rfl (fun _ => by rfl) ?_
        intro b19 w hs
        refine s_ex (r_appendO (f := intC) rfl rfl rfl hs (by (repeat (first | exact Cut.head _ _ | apply Cut.tail)); done) hs.rd Try.underlying22 (by kernel_rfl) sz3 (by decide) (fun _ => rfl) (by simp; omega)) rfl rfl (fun _ => by rfl) ?_
        intro v4 w hs
        obtain ⟨pv4, kv4, rfl⟩ := (hs.oReads (by (repeat (first | exact Cut.head _ _ | apply Cut.tail)); done)).header
        refine sVal (r_assign rfl rfl) ?_
        refine s_nil ?_
        refine hK12 _ _ ?_
        refine c_region ?_
        refine sVal (r_ari rfl rfl rfl rfl (by first | exact wrapI (by omega) | rfl)) ?_
        refine sVal (r_move rfl rfl) ?_
        refine s_nil ?_
        refine hKL7 _ _ _ (by rfl) (by rfl) ?_ ?_
        · first | (have eo : overL (l.take (j + 1)) = overL (l.take j) ++ [(j : Int)] := (by rw [overL_next hx, if_pos (by assumption)]); exact ⟨j + 1, pv4, pv5, kv4, kv5, by rw [eo, et]; rfl, by omega, by rw [eo, et]; exact hs.permK⟩) | (have eo : overL (l.take (j + 1)) = overL (l.take j) := (by rw [overL_next hx, if_neg (by assumption), List.append_nil]); exact ⟨j + 1, pv4, p5, kv4, k5, by rw [eo, et]; rfl, by omega, by rw [eo, et]; exact hs.permK⟩)
        · (show _ < _; simp [intOf, xAt]; omega))
     case true =>
      replace hc18 := eqT hc18
      try dsimp only [List.length_cons, List.length_nil] at hc18
      first
      | (exfalso; first | omega | (cases hc18; done))
      | (
        refine c_condT rfl ?_
        refine c_region ?_
        refine sVal (r_move rfl rfl) ?_
        refine sVal (r_move rfl rfl) ?_
        refine s_ex (r_lit intC [(j : Int)] rfl rfl rfl hs Try.underlying22 (by kernel_rfl) sz3 rfl (by decide) (fun _ => rfl)) rfl rfl (fun _ => by rfl) ?_
        intro b20 w hs
        refine s_ex (r_appendO (f := intC) rfl rfl rfl hs (by (repeat (first | exact Cut.head _ _ | apply Cut.tail)); done) hs.rd Try.underlying22 (by kernel_rfl) sz3 (by decide) (fun _ => rfl) (by simp; omega)) rfl rfl (fun _ => by rfl) ?_
        intro v5 w hs
        obtain ⟨pv5, kv5, rfl⟩ := (hs.oReads (by (repeat (first | exact Cut.head _ _ | apply Cut.tail)); done)).header
        refine sVal (r_assign rfl rfl) ?_
        refine s_nil ?_
        refine hK16 _ _ ?_
        refine c_region ?_
        refine sVal (r_move rfl rfl) ?_
        refine sVal (r_move rfl rfl) ?_
        refine sVal (r_ari rfl rfl rfl rfl (by first | exact wrapI (by omega) | rfl)) ?_
        refine sVal (r_max rfl rfl rfl) ?_
        refine s_ex (r_lit intC [max (n - 1) 0] rfl rfl rfl hs Try.underlying22 (by kernel_rfl) sz3 rfl (by decide) (fun _ => rfl)) rfl rfl (fun _ => by rfl) ?_
        intro b21 w hs
        refine s_ex (r_appendO (f := intC) rfl rfl rfl hs (by (repeat (first | exact Cut.head _ _ | apply Cut.tail)); done) hs.rd Try.underlying22 (by kernel_rfl) sz3 (by decide) (fun _ => rfl) (by simp; omega)) rfl rfl (fun _ => by rfl) ?_
        intro v4 w hs
        obtain ⟨pv4, kv4, rfl⟩ := (hs.oReads (by (repeat (first | exact Cut.head _ _ | apply Cut.tail)); done)).header
        refine sVal (r_assign rfl rfl) ?_
        refine s_nil ?_
        refine hK12 _ _ ?_
        refine c_region ?_
        refine sVal (r_ari rfl rfl rfl rfl (by first | exact wrapI (by omega) | rfl)) ?_
        refine sVal (r_move rfl rfl) ?_
        refine s_nil ?_
        refine hKL7 _ _ _ (by rfl) (by rfl) ?_ ?_
        · first | (have eo : overL (l.take (j + 1)) = overL (l.take j) ++ [(j : Int)] := (by rw [overL_next hx, if_pos (by assumption)]); exact ⟨j + 1, pv4, pv5, kv4, kv5, by rw [eo, et]; rfl, by omega, by rw [eo, et]; exact hs.permK⟩) | (have eo : overL (l.take (j + 1)) = overL (l.take j) := (by rw [overL_next hx, if_neg (by assumption), List.append_nil]); exact ⟨j + 1, pv4, p5, kv4, k5, by rw [eo, et]; rfl, by omega, by rw [eo, et]; exact hs.permK⟩)
        · (show _ < _; simp [intOf, xAt]; omega)))
theorem r15Safe_use (hl : l.length = 5) (hs : Sat E H w) (c : Cut H (rL 1 intC (.slice pL 5 kL) l) R) (hk : ∀ w', Sat E H w' → Q (.returned (.bool (safeB l))) w') :
    Calls Try.prog 28 #[.agg #[.slice pT 5 kT, .slice pL 5 kL]] w Q := by
  replace hs := hs.cut c
  replace hk : ∀ w', Sat E (R * rL 1 intC (.slice pL 5 kL) l) w' → Q (.returned (.bool (safeB l))) w' := fun w' h => hk w' (h.eq (by rw [c.eq]))
  have h1 := leftD (m := 1) hl (by decide)
  have h2 := leftD (m := 2) hl (by decide)
  have h3 := leftD (m := 3) hl (by decide)
  refine f_enter Try.func28 rfl rfl ?_
  show Code.wp _ _ _ (Fr _) _
  refine wp_seq_k (fun K1 hK1 => ?_)
  refine c_region ?_
  refine s_ex (r_box rfl rfl rfl hs) rfl rfl (fun _ => by rfl) ?_
  intro b2 w hs
  refine sVal (r_assign rfl rfl) ?_
  refine s_nil ?_
  refine hK1 _ _ ?_
  refine wp_seq_k (fun K3 hK3 => ?_)
  refine c_region ?_
  refine sVal (r_field rfl rfl of46_1) ?_
  refine sVal (r_load rfl rfl (ag22 _) hs.own (by rfl)) ?_
  refine s_exQ (r_idx (f := intC) rfl rfl rfl hs.rd (rfl) (atD (m := 3) hl (by decide)) Try.underlying22 in3 sz3) rfl rfl (fun _ => by rfl) ?_
  intro ad5 he4
  refine sVal (r_loadEl rfl rfl hs.rd he4 (atD (m := 3) hl (by decide)) (fun _ => rfl) (ag3 _) (by rfl)) ?_
  refine sVal (r_assign rfl rfl) ?_
  refine s_nil ?_
  refine hK3 _ _ ?_
  refine wp_seq_k (fun K6 hK6 => ?_)
  refine c_region ?_
  refine sVal (r_move rfl rfl) ?_
  refine s_bool (r_cmp rfl rfl rfl rfl) rfl rfl (fun _ => by rfl) ?_
  intro c7 hc7
  refine sVal (r_move rfl rfl) ?_
  cases c7
  case false =>
   replace hc7 := eqF hc7
   try dsimp only [List.length_cons, List.length_nil] at hc7
   first
   | (exfalso; first | omega | (cases hc7; done))
   | (
     refine sVal (r_field rfl rfl of46_1) ?_
     refine sVal (r_load rfl rfl (ag22 _) hs.own (by rfl)) ?_
     refine s_exQ (r_idx (f := intC) rfl rfl rfl hs.rd (rfl) (atD (m := 1) hl (by decide)) Try.underlying22 in3 sz3) rfl rfl (fun _ => by rfl) ?_
     intro ad9 he8
     refine sVal (r_loadEl rfl rfl hs.rd he8 (atD (m := 1) hl (by decide)) (fun _ => rfl) (ag3 _) (by rfl)) ?_
     refine s_bool (r_cmp rfl rfl rfl rfl) rfl rfl (fun _ => by rfl) ?_
     intro c10 hc10
     refine sVal (r_move rfl rfl) ?_
     cases c10
     case false =>
      replace hc10 := gtF hc10
      try dsimp only [List.length_cons, List.length_nil] at hc10
      first
      | (exfalso; first | omega | (cases hc10; done))
      | (
        refine @s_pass _ _ _ _ _ _ _ _ 17 (by rfl) (want_no rfl rfl rfl rfl) (by rfl) ?_
        refine @s_pass _ _ _ _ _ _ _ _ 18 (by rfl) (want_no rfl rfl rfl rfl) (by rfl) ?_
        refine @s_pass _ _ _ _ _ _ _ _ 19 (by rfl) (want_no rfl rfl rfl rfl) (by rfl) ?_
        refine @s_pass _ _ _ _ _ _ _ _ 20 (by rfl) (want_no rfl rfl rfl rfl) (by rfl) ?_
        refine @s_pass _ _ _ _ _ _ _ _ 21 (by rfl) (want_no rfl rfl rfl rfl) (by rfl) ?_
        refine @s_pass _ _ _ _ _ _ _ _ 22 (by rfl) (want_no rfl rfl rfl rfl) (by rfl) ?_
        refine sVal (r_pickF rfl rfl rfl) ?_
        refine sVal (r_pickF rfl rfl rfl) ?_
        refine sVal (r_move rfl rfl) ?_
        refine sVal (r_field rfl rfl of46_1) ?_
        refine sVal (r_load rfl rfl (ag22 _) hs.own (by rfl)) ?_
        refine s_exQ (r_idx (f := intC) rfl rfl rfl hs.rd (rfl) (atD (m := 2) hl (by decide)) Try.underlying22 in3 sz3) rfl rfl (fun _ => by rfl) ?_
        intro ad12 he11
        refine sVal (r_loadEl rfl rfl hs.rd he11 (atD (m := 2) hl (by decide)) (fun _ => rfl) (ag3 _) (by rfl)) ?_
        refine s_bool (r_cmp rfl rfl rfl rfl) rfl rfl (fun _ => by rfl) ?_
        intro c13 hc13
        refine sVal (r_move rfl rfl) ?_
        cases c13
        case false =>
         replace hc13 := gtF hc13
         try dsimp only [List.length_cons, List.length_nil] at hc13
         first
         | (exfalso; first | omega | (cases hc13; done))
         | (
           refine @s_pass _ _ _ _ _ _ _ _ 32 (by rfl) (want_no rfl rfl rfl rfl) (by rfl) ?_
           refine @s_pass _ _ _ _ _ _ _ _ 33 (by rfl) (want_no rfl rfl rfl rfl) (by rfl) ?_
           refine @s_pass _ _ _ _ _ _ _ _ 34 (by rfl) (want_no rfl rfl rfl rfl) (by rfl) ?_
           refine @s_pass _ _ _ _ _ _ _ _ 35 (by rfl) (want_no rfl rfl rfl rfl) (by rfl) ?_
           refine @s_pass _ _ _ _ _ _ _ _ 36 (by rfl) (want_no rfl rfl rfl rfl) (by rfl) ?_
           refine @s_pass _ _ _ _ _ _ _ _ 37 (by rfl) (want_no rfl rfl rfl rfl) (by rfl) ?_
           refine sVal (r_pickF rfl rfl rfl) ?_
           refine sVal (r_pickF rfl rfl rfl) ?_
           refine sVal (r_assign rfl rfl) ?_
           refine s_nil ?_
           refine hK6 _ _ ?_
           refine wp_ret ?_
           refine f_ret (rs := [.tmp 2]) rfl (.tmp rfl .nil) rfl ?_
           first | (rw [safe_true (l := l) (by show leftL l ((3 : Nat) : Int) = 0 ∨ (0 < leftL l ((1 : Nat) : Int) ∧ leftL l ((1 : Nat) : Int) < leftL l ((3 : Nat) : Int)) ∨ (0 < leftL l ((2 : Nat) : Int) ∧ leftL l ((2 : Nat) : Int) < leftL l ((3 : Nat) : Int)); rw [h1, h2, h3]; omega)] at hk; exact hk _ (fin0 hs (by repeat (first | exact Keeps.refl _ | apply Keeps.tail | apply Keeps.drop)))) | (rw [safe_false (l := l) (by show ¬ leftL l ((3 : Nat) : Int) = 0; rw [h3]; omega) (by show ¬ (0 < leftL l ((1 : Nat) : Int) ∧ leftL l ((1 : Nat) : Int) < leftL l ((3 : Nat) : Int)); rw [h1, h3]; omega) (by show ¬ (0 < leftL l ((2 : Nat) : Int) ∧ leftL l ((2 : Nat) : Int) < leftL l ((3 : Nat) : Int)); rw [h2, h3]; omega)] at hk; exact hk _ (fin0 hs (by repeat (first | exact Keeps.refl _ | apply Keeps.tail | apply Keeps.drop)))))
        case true =>
         replace hc13 := gtT hc13
         try dsimp only [List.length_cons, List.length_nil] at hc13
         first
         | (exfalso; first | omega | (cases hc13; done))
         | (
           refine sVal (r_field rfl rfl of46_1) ?_
           refine sVal (r_load rfl rfl (ag22 _) hs.own (by rfl)) ?_
           refine s_exQ (r_idx (f := intC) rfl rfl rfl hs.rd (rfl) (atD (m := 2) hl (by decide)) Try.underlying22 in3 sz3) rfl rfl (fun _ => by rfl) ?_
           intro ad15 he14
           refine sVal (r_loadEl rfl rfl hs.rd he14 (atD (m := 2) hl (by decide)) (fun _ => rfl) (ag3 _) (by rfl)) ?_
           refine sVal (r_move rfl rfl) ?_
           refine s_bool (r_cmp rfl rfl rfl rfl) rfl rfl (fun _ => by rfl) ?_
           intro c16 hc16
           refine sVal (r_pickT rfl rfl rfl) ?_
           refine sVal (r_pickF rfl rfl rfl) ?_
           refine sVal (r_assign rfl rfl) ?_
           refine s_nil ?_
           refine hK6 _ _ ?_
           refine wp_ret ?_
           cases c16
           case false =>
            replace hc16 := decF' hc16
            try dsimp only [List.length_cons, List.length_nil] at hc16
            first
            | (exfalso; first | omega | (cases hc16; done))
            | (
              refine f_ret (rs := [.tmp 2]) rfl (.tmp rfl .nil) rfl ?_
              first | (rw [safe_true (l := l) (by show leftL l ((3 : Nat) : Int) = 0 ∨ (0 < leftL l ((1 : Nat) : Int) ∧ leftL l ((1 : Nat) : Int) < leftL l ((3 : Nat) : Int)) ∨ (0 < leftL l ((2 : Nat) : Int) ∧ leftL l ((2 : Nat) : Int) < leftL l ((3 : Nat) : Int)); rw [h1, h2, h3]; omega)] at hk; exact hk _ (fin0 hs (by repeat (first | exact Keeps.refl _ | apply Keeps.tail | apply Keeps.drop)))) | (rw [safe_false (l := l) (by show ¬ leftL l ((3 : Nat) : Int) = 0; rw [h3]; omega) (by show ¬ (0 < leftL l ((1 : Nat) : Int) ∧ leftL l ((1 : Nat) : Int) < leftL l ((3 : Nat) : Int)); rw [h1, h3]; omega) (by show ¬ (0 < leftL l ((2 : Nat) : Int) ∧ leftL l ((2 : Nat) : Int) < leftL l ((3 : Nat) : Int)); rw [h2, h3]; omega)] at hk; exact hk _ (fin0 hs (by repeat (first | exact Keeps.refl _ | apply Keeps.tail | apply Keeps.drop)))))
           case true =>
            replace hc16 := decT' hc16
            try dsimp only [List.length_cons, List.length_nil] at hc16
            first
            | (exfalso; first | omega | (cases hc16; done))
            | (
              refine f_ret (rs := [.tmp 2]) rfl (.tmp rfl .nil) rfl ?_
              first | (rw [safe_true (l := l) (by show leftL l ((3 : Nat) : Int) = 0 ∨ (0 < leftL l ((1 : Nat) : Int) ∧ leftL l ((1 : Nat) : Int) < leftL l ((3 : Nat) : Int)) ∨ (0 < leftL l ((2 : Nat) : Int) ∧ leftL l ((2 : Nat) : Int) < leftL l ((3 : Nat) : Int)); rw [h1, h2, h3]; omega)] at hk; exact hk _ (fin0 hs (by repeat (first | exact Keeps.refl _ | apply Keeps.tail | apply Keeps.drop)))) | (rw [safe_false (l := l) (by show ¬ leftL l ((3 : Nat) : Int) = 0; rw [h3]; omega) (by show ¬ (0 < leftL l ((1 : Nat) : Int) ∧ leftL l ((1 : Nat) : Int) < leftL l ((3 : Nat) : Int)); rw [h1, h3]; omega) (by show ¬ (0 < leftL l ((2 : Nat) : Int) ∧ leftL l ((2 : Nat) : Int) < leftL l ((3 : Nat) : Int)); rw [h2, h3]; omega)] at hk; exact hk _ (fin0 hs (by repeat (first | exact Keeps.refl _ | apply Keeps.tail | apply Keeps.drop)))))))
     case true =>
      replace hc10 := gtT hc10
      try dsimp only [List.length_cons, List.length_nil] at hc10
      first
      | (exfalso; first | omega | (cases hc10; done))
      | (
        refine sVal (r_field rfl rfl of46_1) ?_
        refine sVal (r_load rfl rfl (ag22 _) hs.own (by rfl)) ?_
        refine s_exQ (r_idx (f := intC) rfl rfl rfl hs.rd (rfl) (atD (m := 1) hl (by decide)) Try.underlying22 in3 sz3) rfl rfl (fun _ => by rfl) ?_
        intro ad18 he17
        refine sVal (r_loadEl rfl rfl hs.rd he17 (atD (m := 1) hl (by decide)) (fun _ => rfl) (ag3 _) (by rfl)) ?_
        refine sVal (r_move rfl rfl) ?_
        refine s_bool (r_cmp rfl rfl rfl rfl) rfl rfl (fun _ => by rfl) ?_
        intro c19 hc19
        refine sVal (r_pickT rfl rfl rfl) ?_
        refine sVal (r_pickF rfl rfl rfl) ?_
        refine sVal (r_move rfl rfl) ?_
        cases c19
        case false =>
         replace hc19 := decF' hc19
         try dsimp only [List.length_cons, List.length_nil] at hc19
         first
         | (exfalso; first | omega | (cases hc19; done))
         | (
           refine sVal (r_field rfl rfl of46_1) ?_
           refine sVal (r_load rfl rfl (ag22 _) hs.own (by rfl)) ?_
           refine s_exQ (r_idx (f := intC) rfl rfl rfl hs.rd (rfl) (atD (m := 2) hl (by decide)) Try.underlying22 in3 sz3) rfl rfl (fun _ => by rfl) ?_
           intro ad21 he20
           refine sVal (r_loadEl rfl rfl hs.rd he20 (atD (m := 2) hl (by decide)) (fun _ => rfl) (ag3 _) (by rfl)) ?_
           refine s_bool (r_cmp rfl rfl rfl rfl) rfl rfl (fun _ => by rfl) ?_
           intro c22 hc22
           refine sVal (r_move rfl rfl) ?_
           cases c22
           case false =>
            replace hc22 := gtF hc22
            try dsimp only [List.length_cons, List.length_nil] at hc22
            first
            | (exfalso; first | omega | (cases hc22; done))
            | (
              refine @s_pass _ _ _ _ _ _ _ _ 32 (by rfl) (want_no rfl rfl rfl rfl) (by rfl) ?_
              refine @s_pass _ _ _ _ _ _ _ _ 33 (by rfl) (want_no rfl rfl rfl rfl) (by rfl) ?_
              refine @s_pass _ _ _ _ _ _ _ _ 34 (by rfl) (want_no rfl rfl rfl rfl) (by rfl) ?_
              refine @s_pass _ _ _ _ _ _ _ _ 35 (by rfl) (want_no rfl rfl rfl rfl) (by rfl) ?_
              refine @s_pass _ _ _ _ _ _ _ _ 36 (by rfl) (want_no rfl rfl rfl rfl) (by rfl) ?_
              refine @s_pass _ _ _ _ _ _ _ _ 37 (by rfl) (want_no rfl rfl rfl rfl) (by rfl) ?_
              refine sVal (r_pickF rfl rfl rfl) ?_
              refine sVal (r_pickF rfl rfl rfl) ?_
              refine sVal (r_assign rfl rfl) ?_
              refine s_nil ?_
              refine hK6 _ _ ?_
              refine wp_ret ?_
              refine f_ret (rs := [.tmp 2]) rfl (.tmp rfl .nil) rfl ?_
              first | (rw [safe_true (l := l) (by show leftL l ((3 : Nat) : Int) = 0 ∨ (0 < leftL l ((1 : Nat) : Int) ∧ leftL l ((1 : Nat) : Int) < leftL l ((3 : Nat) : Int)) ∨ (0 < leftL l ((2 : Nat) : Int) ∧ leftL l ((2 : Nat) : Int) < leftL l ((3 : Nat) : Int)); rw [h1, h2, h3]; omega)] at hk; exact hk _ (fin0 hs (by repeat (first | exact Keeps.refl _ | apply Keeps.tail | apply Keeps.drop)))) | (rw [safe_false (l := l) (by show ¬ leftL l ((3 : Nat) : Int) = 0; rw [h3]; omega) (by show ¬ (0 < leftL l ((1 : Nat) : Int) ∧ leftL l ((1 : Nat) : Int) < leftL l ((3 : Nat) : Int)); rw [h1, h3]; omega) (by show ¬ (0 < leftL l ((2 : Nat) : Int) ∧ leftL l ((2 : Nat) : Int) < leftL l ((3 : Nat) : Int)); rw [h2, h3]; omega)] at hk; exact hk _ (fin0 hs (by repeat (first | exact Keeps.refl _ | apply Keeps.tail | apply Keeps.drop)))))
           case true =>
            replace hc22 := gtT hc22
            try dsimp only [List.length_cons, List.length_nil] at hc22
            first
            | (exfalso; first | omega | (cases hc22; done))
            | (
              refine sVal (r_field rfl rfl of46_1) ?_
              refine sVal (r_load rfl rfl (ag22 _) hs.own (by rfl)) ?_
              refine s_exQ (r_idx (f := intC) rfl rfl rfl hs.rd (rfl) (atD (m := 2) hl (by decide)) Try.underlying22 in3 sz3) rfl rfl (fun _ => by rfl) ?_
              intro ad24 he23
              refine sVal (r_loadEl rfl rfl hs.rd he23 (atD (m := 2) hl (by decide)) (fun _ => rfl) (ag3 _) (by rfl)) ?_
              refine sVal (r_move rfl rfl) ?_
              refine s_bool (r_cmp rfl rfl rfl rfl) rfl rfl (fun _ => by rfl) ?_
              intro c25 hc25
              refine sVal (r_pickT rfl rfl rfl) ?_
              refine sVal (r_pickF rfl rfl rfl) ?_
              refine sVal (r_assign rfl rfl) ?_
              refine s_nil ?_
              refine hK6 _ _ ?_
              refine wp_ret ?_
              cases c25
              case false =>
               replace hc25 := decF' hc25
               try dsimp only [List.length_cons, List.length_nil] at hc25
               first
               | (exfalso; first | omega | (cases hc25; done))
               | (
                 refine f_ret (rs := [.tmp 2]) rfl (.tmp rfl .nil) rfl ?_
                 first | (rw [safe_true (l := l) (by show leftL l ((3 : Nat) : Int) = 0 ∨ (0 < leftL l ((1 : Nat) : Int) ∧ leftL l ((1 : Nat) : Int) < leftL l ((3 : Nat) : Int)) ∨ (0 < leftL l ((2 : Nat) : Int) ∧ leftL l ((2 : Nat) : Int) < leftL l ((3 : Nat) : Int)); rw [h1, h2, h3]; omega)] at hk; exact hk _ (fin0 hs (by repeat (first | exact Keeps.refl _ | apply Keeps.tail | apply Keeps.drop)))) | (rw [safe_false (l := l) (by show ¬ leftL l ((3 : Nat) : Int) = 0; rw [h3]; omega) (by show ¬ (0 < leftL l ((1 : Nat) : Int) ∧ leftL l ((1 : Nat) : Int) < leftL l ((3 : Nat) : Int)); rw [h1, h3]; omega) (by show ¬ (0 < leftL l ((2 : Nat) : Int) ∧ leftL l ((2 : Nat) : Int) < leftL l ((3 : Nat) : Int)); rw [h2, h3]; omega)] at hk; exact hk _ (fin0 hs (by repeat (first | exact Keeps.refl _ | apply Keeps.tail | apply Keeps.drop)))))
              case true =>
               replace hc25 := decT' hc25
               try dsimp only [List.length_cons, List.length_nil] at hc25
               first
               | (exfalso; first | omega | (cases hc25; done))
               | (
                 refine f_ret (rs := [.tmp 2]) rfl (.tmp rfl .nil) rfl ?_
                 first | (rw [safe_true (l := l) (by show leftL l ((3 : Nat) : Int) = 0 ∨ (0 < leftL l ((1 : Nat) : Int) ∧ leftL l ((1 : Nat) : Int) < leftL l ((3 : Nat) : Int)) ∨ (0 < leftL l ((2 : Nat) : Int) ∧ leftL l ((2 : Nat) : Int) < leftL l ((3 : Nat) : Int)); rw [h1, h2, h3]; omega)] at hk; exact hk _ (fin0 hs (by repeat (first | exact Keeps.refl _ | apply Keeps.tail | apply Keeps.drop)))) | (rw [safe_false (l := l) (by show ¬ leftL l ((3 : Nat) : Int) = 0; rw [h3]; omega) (by show ¬ (0 < leftL l ((1 : Nat) : Int) ∧ leftL l ((1 : Nat) : Int) < leftL l ((3 : Nat) : Int)); rw [h1, h3]; omega) (by show ¬ (0 < leftL l ((2 : Nat) : Int) ∧ leftL l ((2 : Nat) : Int) < leftL l ((3 : Nat) : Int)); rw [h2, h3]; omega)] at hk; exact hk _ (fin0 hs (by repeat (first | exact Keeps.refl _ | apply Keeps.tail | apply Keeps.drop)))))))
        case true =>
         replace hc19 := decT' hc19
         try dsimp only [List.length_cons, List.length_nil] at hc19
         first
         | (exfalso; first | omega | (cases hc19; done))
         | (
           refine @s_pass _ _ _ _ _ _ _ _ 26 (by rfl) (want_no rfl rfl rfl rfl) (by rfl) ?_
           refine @s_pass _ _ _ _ _ _ _ _ 27 (by rfl) (want_no rfl rfl rfl rfl) (by rfl) ?_
           refine @s_pass _ _ _ _ _ _ _ _ 28 (by rfl) (want_no rfl rfl rfl rfl) (by rfl) ?_
           refine @s_pass _ _ _ _ _ _ _ _ 29 (by rfl) (want_no rfl rfl rfl rfl) (by rfl) ?_
           refine @s_pass _ _ _ _ _ _ _ _ 30 (by rfl) (want_no rfl rfl rfl rfl) (by rfl) ?_
           refine @s_pass _ _ _ _ _ _ _ _ 31 (by rfl) (want_no rfl rfl rfl rfl) (by rfl) ?_
           refine @s_pass _ _ _ _ _ _ _ _ 32 (by rfl) (want_ud rfl rfl rfl) (by rfl) ?_
           refine @s_pass _ _ _ _ _ _ _ _ 33 (by rfl) (want_ud rfl rfl rfl) (by rfl) ?_
           refine @s_pass _ _ _ _ _ _ _ _ 34 (by rfl) (want_ud rfl rfl rfl) (by rfl) ?_
           refine @s_pass _ _ _ _ _ _ _ _ 35 (by rfl) (want_ud rfl rfl rfl) (by rfl) ?_
           refine @s_pass _ _ _ _ _ _ _ _ 36 (by rfl) (want_ud rfl rfl rfl) (by rfl) ?_
           refine @s_pass _ _ _ _ _ _ _ _ 37 (by rfl) (want_ud rfl rfl rfl) (by rfl) ?_
           refine @s_pass _ _ _ _ _ _ _ _ 38 (by rfl) (want_no rfl rfl rfl rfl) (by rfl) ?_
           refine sVal (r_pickT rfl rfl rfl) ?_
           refine sVal (r_assign rfl rfl) ?_
           refine s_nil ?_
           refine hK6 _ _ ?_
           refine wp_ret ?_
           refine f_ret (rs := [.tmp 2]) rfl (.tmp rfl .nil) rfl ?_
           first | (rw [safe_true (l := l) (by show leftL l ((3 : Nat) : Int) = 0 ∨ (0 < leftL l ((1 : Nat) : Int) ∧ leftL l ((1 : Nat) : Int) < leftL l ((3 : Nat) : Int)) ∨ (0 < leftL l ((2 : Nat) : Int) ∧ leftL l ((2 : Nat) : Int) < leftL l ((3 : Nat) : Int)); rw [h1, h2, h3]; omega)] at hk; exact hk _ (fin0 hs (by repeat (first | exact Keeps.refl _ | apply Keeps.tail | apply Keeps.drop)))) | (rw [safe_false (l := l) (by show ¬ leftL l ((3 : Nat) : Int) = 0; rw [h3]; omega) (by show ¬ (0 < leftL l ((1 : Nat) : Int) ∧ leftL l ((1 : Nat) : Int) < leftL l ((3 : Nat) : Int)); rw [h1, h3]; omega) (by show ¬ (0 < leftL l ((2 : Nat) : Int) ∧ leftL l ((2 : Nat) : Int) < leftL l ((3 : Nat) : Int)); rw [h2, h3]; omega)] at hk; exact hk _ (fin0 hs (by repeat (first | exact Keeps.refl _ | apply Keeps.tail | apply Keeps.drop)))))))
  case true =>
   replace hc7 := eqT hc7
   try dsimp only [List.length_cons, List.length_nil] at hc7
   first
   | (exfalso; first | omega | (cases hc7; done))
   | (
     refine @s_pass _ _ _ _ _ _ _ _ 11 (by rfl) (want_no rfl rfl rfl rfl) (by rfl) ?_
     refine @s_pass _ _ _ _ _ _ _ _ 12 (by rfl) (want_no rfl rfl rfl rfl) (by rfl) ?_
     refine @s_pass _ _ _ _ _ _ _ _ 13 (by rfl) (want_no rfl rfl rfl rfl) (by rfl) ?_
     refine @s_pass _ _ _ _ _ _ _ _ 14 (by rfl) (want_no rfl rfl rfl rfl) (by rfl) ?_
     refine @s_pass _ _ _ _ _ _ _ _ 15 (by rfl) (want_no rfl rfl rfl rfl) (by rfl) ?_
     refine @s_pass _ _ _ _ _ _ _ _ 16 (by rfl) (want_no rfl rfl rfl rfl) (by rfl) ?_
     refine @s_pass _ _ _ _ _ _ _ _ 17 (by rfl) (want_ud rfl rfl rfl) (by rfl) ?_
     refine @s_pass _ _ _ _ _ _ _ _ 18 (by rfl) (want_ud rfl rfl rfl) (by rfl) ?_
     refine @s_pass _ _ _ _ _ _ _ _ 19 (by rfl) (want_ud rfl rfl rfl) (by rfl) ?_
     refine @s_pass _ _ _ _ _ _ _ _ 20 (by rfl) (want_ud rfl rfl rfl) (by rfl) ?_
     refine @s_pass _ _ _ _ _ _ _ _ 21 (by rfl) (want_ud rfl rfl rfl) (by rfl) ?_
     refine @s_pass _ _ _ _ _ _ _ _ 22 (by rfl) (want_ud rfl rfl rfl) (by rfl) ?_
     refine @s_pass _ _ _ _ _ _ _ _ 23 (by rfl) (want_no rfl rfl rfl rfl) (by rfl) ?_
     refine sVal (r_pickT rfl rfl rfl) ?_
     refine sVal (r_move rfl rfl) ?_
     refine @s_pass _ _ _ _ _ _ _ _ 26 (by rfl) (want_no rfl rfl rfl rfl) (by rfl) ?_
     refine @s_pass _ _ _ _ _ _ _ _ 27 (by rfl) (want_no rfl rfl rfl rfl) (by rfl) ?_
     refine @s_pass _ _ _ _ _ _ _ _ 28 (by rfl) (want_no rfl rfl rfl rfl) (by rfl) ?_
     refine @s_pass _ _ _ _ _ _ _ _ 29 (by rfl) (want_no rfl rfl rfl rfl) (by rfl) ?_
     refine @s_pass _ _ _ _ _ _ _ _ 30 (by rfl) (want_no rfl rfl rfl rfl) (by rfl) ?_
     refine @s_pass _ _ _ _ _ _ _ _ 31 (by rfl) (want_no rfl rfl rfl rfl) (by rfl) ?_
     refine @s_pass _ _ _ _ _ _ _ _ 32 (by rfl) (want_ud rfl rfl rfl) (by rfl) ?_
     refine @s_pass _ _ _ _ _ _ _ _ 33 (by rfl) (want_ud rfl rfl rfl) (by rfl) ?_
     refine @s_pass _ _ _ _ _ _ _ _ 34 (by rfl) (want_ud rfl rfl rfl) (by rfl) ?_
     refine @s_pass _ _ _ _ _ _ _ _ 35 (by rfl) (want_ud rfl rfl rfl) (by rfl) ?_
     refine @s_pass _ _ _ _ _ _ _ _ 36 (by rfl) (want_ud rfl rfl rfl) (by rfl) ?_
     refine @s_pass _ _ _ _ _ _ _ _ 37 (by rfl) (want_ud rfl rfl rfl) (by rfl) ?_
     refine @s_pass _ _ _ _ _ _ _ _ 38 (by rfl) (want_no rfl rfl rfl rfl) (by rfl) ?_
     refine sVal (r_pickT rfl rfl rfl) ?_
     refine sVal (r_assign rfl rfl) ?_
     refine s_nil ?_
     refine hK6 _ _ ?_
     refine wp_ret ?_
     refine f_ret (rs := [.tmp 2]) rfl (.tmp rfl .nil) rfl ?_
     first | (rw [safe_true (l := l) (by show leftL l ((3 : Nat) : Int) = 0 ∨ (0 < leftL l ((1 : Nat) : Int) ∧ leftL l ((1 : Nat) : Int) < leftL l ((3 : Nat) : Int)) ∨ (0 < leftL l ((2 : Nat) : Int) ∧ leftL l ((2 : Nat) : Int) < leftL l ((3 : Nat) : Int)); rw [h1, h2, h3]; omega)] at hk; exact hk _ (fin0 hs (by repeat (first | exact Keeps.refl _ | apply Keeps.tail | apply Keeps.drop)))) | (rw [safe_false (l := l) (by show ¬ leftL l ((3 : Nat) : Int) = 0; rw [h3]; omega) (by show ¬ (0 < leftL l ((1 : Nat) : Int) ∧ leftL l ((1 : Nat) : Int) < leftL l ((3 : Nat) : Int)); rw [h1, h3]; omega) (by show ¬ (0 < leftL l ((2 : Nat) : Int) ∧ leftL l ((2 : Nat) : Int) < leftL l ((3 : Nat) : Int)); rw [h2, h3]; omega)] at hk; exact hk _ (fin0 hs (by repeat (first | exact Keeps.refl _ | apply Keeps.tail | apply Keeps.drop)))))
end
end Go.Proofs.Ytoeaamohchpjdaa
