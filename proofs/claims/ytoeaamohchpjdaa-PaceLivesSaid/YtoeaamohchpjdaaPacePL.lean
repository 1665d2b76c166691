/-
  Pace: who asks at once, and is answered at once, is never given up.
-/
import Derived.Test.YtoeaamohchpjdaaPaceP
namespace Go.Proofs.Ytoeaamohchpjdaa
open Go Go.RowKit
set_option linter.unusedVariables false
set_option linter.unusedSimpArgs false
set_option maxRecDepth 100000
attribute [local irreducible] answeredL polledL busyL beginL tickL overL safeB pkP own fix oL rL osl rsl fact some' wpList wpHi wpPre wpAny wpHT After AfterH

section
variable {E : World} {H R R2 : HP} {w : World} {Q : Ending → World → Prop}
set_option maxHeartbeats 4000000 in
theorem paceLives_use {p pa pi : Option Addr} {k ka ki : Nat} {L : List Int} {idles : List Bool} {acts : List (Int × Bool)} (hs : Sat E H w) (cu : Cut H (rL 1 intC (.slice p L.length k) L * rL 1 booC (.slice pi idles.length ki) idles * rL 2 act5C (.slice pa acts.length ka) acts) R) (hk : ∀ w', Sat E R w' → Q (.returned (.bool true)) w') :
    Calls Try.prog 6 #[.slice p L.length k, .slice pi idles.length ki, .slice pa acts.length ka] w Q := by
  replace hs := hs.cut cu
  simp only [← star_assoc] at hs
  refine f_enter Try.func6 rfl rfl ?_
  show Code.wp _ _ _ (Fr _) _
  refine wp_seq_k (fun K1 hK1 => ?_)
  refine c_region ?_
  refine sVal (r_assign rfl rfl) ?_
  refine s_nil ?_
  refine hK1 _ _ ?_
  refine wp_seq_k (fun K2 hK2 => ?_)
  refine wp_seq_k (fun K3 hK3 => ?_)
  refine c_region ?_
  refine s_enter (r_call rfl ent11 rfl) rfl ?_
  refine awake15_use hs ?_
  intro w hs
  refine ⟨_, rfl, a_bool (fun _ => by rfl) ?_⟩
  intro c4 hc4
  cases c4
  case false =>
   replace hc4 := Eq.symm hc4
   try (with_reducible first | replace hc4 := of_decide_eq_true hc4 | replace hc4 := of_decide_eq_false hc4)
   try dsimp only [List.length_cons, List.length_nil] at hc4
   first
   | (exfalso; first | omega | (cases hc4; done) | (subst hc4; contradiction))
   | (
     refine sVal (r_notF rfl rfl) ?_
     refine s_nil ?_
     refine hK3 _ _ ?_
     refine c_condT rfl ?_
     refine wp_seq_k (fun K5 hK5 => ?_)
     refine c_region ?_
     refine sVal (r_assign rfl rfl) ?_
     refine s_nil ?_
     refine hK5 _ _ ?_
     refine wp_ret ?_
     refine f_ret (rs := [.tmp 6]) rfl (.tmp rfl .nil) rfl ?_
     exact hk _ hs.permK)
  case true =>
   replace hc4 := Eq.symm hc4
   try (with_reducible first | replace hc4 := of_decide_eq_true hc4 | replace hc4 := of_decide_eq_false hc4)
   try dsimp only [List.length_cons, List.length_nil] at hc4
   first
   | (exfalso; first | omega | (cases hc4; done) | (subst hc4; contradiction))
   | (
     refine sVal (r_notT rfl rfl) ?_
     refine s_nil ?_
     refine hK3 _ _ ?_
     refine c_condF rfl ?_
     refine wp_skip ?_
     refine hK2 _ _ ?_
     refine wp_seq_k (fun K6 hK6 => ?_)
     refine c_region ?_
     refine sVal (r_move rfl rfl) ?_
     refine s_enter (r_call rfl ent12 rfl) rfl ?_
     refine right_use hs (by (repeat (first | exact Cut.head _ _ | apply Cut.tail)); done) ?_
     intro a b c d e q kq w hT hs
     refine ⟨_, rfl, a_put (by rfl) ?_⟩
     refine sVal (r_assign rfl rfl) ?_
     refine s_nil ?_
     refine hK6 _ _ ?_
     refine wp_seq_k (fun K7 hK7 => ?_)
     refine c_region ?_
     refine sVal (r_move rfl rfl) ?_
     refine s_enter (r_call rfl ent14 rfl) rfl ?_
     refine own15_use hs (by (repeat (first | exact Cut.head _ _ | apply Cut.tail)); done) ?_
     intro w hs
     refine ⟨_, rfl, a_put (by rfl) ?_⟩
     refine s_enter (r_call rfl ent13 rfl) rfl ?_
     refine pnewP_use hT hs ?_
     intro g w hs
     refine ⟨_, rfl, a_put (by rfl) ?_⟩
     refine sVal (r_move rfl rfl) ?_
     refine sVal (r_extract rfl rfl (by rfl)) ?_
     refine sVal (r_extract rfl rfl (by rfl)) ?_
     refine sVal (r_assign rfl rfl) ?_
     refine sVal (r_assign rfl rfl) ?_
     refine s_nil ?_
     refine hK7 _ _ ?_
     refine wp_seq_k (fun K8 hK8 => ?_)
     refine wp_seq_k (fun K9 hK9 => ?_)
     refine c_region ?_
     refine sVal (r_move rfl rfl) ?_
     refine s_bool (r_cmpP rfl rfl rfl (by kernel_rfl) rfl) rfl rfl (fun _ => by rfl) ?_
     intro c10 hc10
     refine sVal (r_move rfl rfl) ?_
     cases c10
     case false =>
      replace hc10 := Eq.symm hc10
      try dsimp only [List.length_cons, List.length_nil] at hc10
      first
      | (exfalso; first | omega | (cases hc10; done))
      | (
        refine sVal (r_move rfl rfl) ?_
        refine s_bool (r_cmp rfl rfl rfl rfl) rfl rfl (fun _ => by rfl) ?_
        intro c11 hc11
        refine sVal (r_pickF rfl rfl rfl) ?_
        refine s_nil ?_
        refine hK9 _ _ ?_
        cases c11
        case false =>
         replace hc11 := neF hc11
         try dsimp only [List.length_cons, List.length_nil] at hc11
         first
         | (exfalso; first | omega | (cases hc11; done))
         | (
           refine c_condF rfl ?_
           refine wp_skip ?_
           refine hK8 _ _ ?_
           refine wp_seq_k (fun K12 hK12 => ?_)
           refine c_region ?_
           refine sVal (r_move rfl rfl) ?_
           refine s_enter (r_call rfl ent24 rfl) rfl ?_
           refine r15New_use hs ?_
           intro p0 k0 w hs
           refine ⟨_, rfl, a_put (by rfl) ?_⟩
           refine s_ex (r_alloc rfl zr46 hs) rfl rfl (fun _ => by rfl) ?_
           intro bx w hs
           refine s_exS (r_storeA rfl rfl rfl hs (by (repeat (first | exact Cut.head _ _ | apply Cut.tail)); done) in46 sz46 rfl (fun h => by cases h) rfl (by rfl)) rfl rfl ?_
           intro w hs
           refine s_nil ?_
           refine hK12 _ _ ?_
           refine wp_seq_k (fun K13 hK13 => ?_)
           refine c_region ?_
           refine sVal (r_move rfl rfl) ?_
           refine s_enter (r_call rfl ent15 rfl) rfl ?_
           refine pbegin_use rfl rfl hs (by (repeat (first | exact Cut.head _ _ | apply Cut.tail)); done) ?_
           intro w hs
           refine ⟨_, rfl, a_put (by rfl) ?_⟩
           refine s_nil ?_
           refine hK13 _ _ ?_
           refine wp_seq_k (fun K14 hK14 => ?_)
           refine c_region ?_
           refine sVal (r_loadA rfl rfl (ag46 _) hs.own in46 sz46 (by rfl)) ?_
           refine s_enter (r_call rfl ent27 rfl) rfl ?_
           refine r15Begin_use rfl rfl hs (by (repeat (first | apply Cut.pair | exact Cut.head _ _ | apply Cut.tail)); done) ?_
           intro p1 k1 w hs
           rw [← begin_ref Bank.zero hT] at hs
           refine ⟨_, rfl, a_put (by rfl) ?_⟩
           refine s_exS (r_storeA rfl rfl rfl hs (by (repeat (first | exact Cut.head _ _ | apply Cut.tail)); done) in46 sz46 rfl (fun h => by cases h) rfl (by rfl)) rfl rfl ?_
           intro w hs
           refine s_nil ?_
           refine hK14 _ _ ?_
           refine c_meet (10 :: 11 :: 38 :: 39 :: 40 :: 41 :: 42 :: 43 :: 44 :: 45 :: 46 :: 47 :: 48 :: 49 :: 50 :: 51 :: 52 :: 53 :: 54 :: 55 :: 56 :: 57 :: 58 :: 59 :: 60 :: 61 :: 62 :: 63 :: 64 :: 65 :: 66 :: []) (fun xs w => ∃ (l : List Int) (pL : Option Addr) (kL : Nat), xs = (xAt xs 0 :: xAt xs 1 :: xAt xs 2 :: xAt xs 3 :: xAt xs 4 :: xAt xs 5 :: xAt xs 6 :: xAt xs 7 :: xAt xs 8 :: xAt xs 9 :: xAt xs 10 :: xAt xs 11 :: xAt xs 12 :: xAt xs 13 :: xAt xs 14 :: xAt xs 15 :: xAt xs 16 :: xAt xs 17 :: xAt xs 18 :: xAt xs 19 :: xAt xs 20 :: xAt xs 21 :: xAt xs 22 :: xAt xs 23 :: xAt xs 24 :: xAt xs 25 :: xAt xs 26 :: xAt xs 27 :: xAt xs 28 :: xAt xs 29 :: xAt xs 30 :: []) ∧ Live l ∧ Sat E (R * rL 1 booC (.slice pi idles.length ki) idles * rL 2 act5C (.slice pa acts.length ka) acts * rL 1 intC (.slice q 5 kq) [a, b, c, d, e] * own bx (.cells #[.slice q 5 kq, .slice pL 5 kL] 46 (0, 0)) * rL 1 intC (.slice pL 5 kL) l * pkP g l [a, b, c, d, e]) w) ?_ ?_
           ·
            intro KM15 hKM15
            refine wp_seq_k (fun K16 hK16 => ?_)
            refine c_region ?_
            refine sVal (r_assign rfl rfl) ?_
            refine s_nil ?_
            refine hK16 _ _ ?_
            refine wp_block ?_
            refine c_loop (10 :: 11 :: 38 :: 39 :: 40 :: 41 :: 42 :: 43 :: 44 :: 45 :: 46 :: 47 :: 48 :: 49 :: 50 :: 51 :: 52 :: 53 :: 54 :: 55 :: 56 :: 57 :: 58 :: 59 :: 60 :: 61 :: 62 :: 63 :: 64 :: 65 :: 66 :: []) (fun xs w => ∃ (j : Nat) (l : List Int) (pL : Option Addr) (kL : Nat), xs = (.int .i64 (j : Int) :: xAt xs 1 :: xAt xs 2 :: xAt xs 3 :: xAt xs 4 :: xAt xs 5 :: xAt xs 6 :: xAt xs 7 :: xAt xs 8 :: xAt xs 9 :: xAt xs 10 :: xAt xs 11 :: xAt xs 12 :: xAt xs 13 :: xAt xs 14 :: xAt xs 15 :: xAt xs 16 :: xAt xs 17 :: xAt xs 18 :: xAt xs 19 :: xAt xs 20 :: xAt xs 21 :: xAt xs 22 :: xAt xs 23 :: xAt xs 24 :: xAt xs 25 :: xAt xs 26 :: xAt xs 27 :: xAt xs 28 :: xAt xs 29 :: xAt xs 30 :: []) ∧ j ≤ acts.length ∧ Live l ∧ Sat E (R * rL 1 booC (.slice pi idles.length ki) idles * rL 2 act5C (.slice pa acts.length ka) acts * rL 1 intC (.slice q 5 kq) [a, b, c, d, e] * own bx (.cells #[.slice q 5 kq, .slice pL 5 kL] 46 (0, 0)) * rL 1 intC (.slice pL 5 kL) l * pkP g l [a, b, c, d, e]) w) (fun xs _ => acts.length - (intOf (xAt xs 0)).toNat) rfl (by rfl) ?_ ?_
            · exact ⟨0, beginL zeroL [a, b, c, d, e], p1, k1, rfl, by omega, Live.begin Bank.zero hT, hs.permK⟩
            clear hs
            rintro xs w ⟨j, l, pL, kL, hxs, hj, hlv, hs⟩
            obtain ⟨D17, hD17⟩ : ∃ D, D = xAt xs := ⟨_, rfl⟩
            rw [← hD17] at hxs
            clear hD17
            subst hxs
            refine ⟨_, rfl, fun KL18 hKL18 => ?_⟩
            refine wp_seq_k (fun K19 hK19 => ?_)
            refine wp_seq_k (fun K20 hK20 => ?_)
            refine c_region ?_
            refine sVal (r_move rfl rfl) ?_
            refine sVal (r_move rfl rfl) ?_
            refine sVal (r_len rfl rfl Try.underlying44) ?_
            refine s_bool (r_cmp rfl rfl rfl rfl) rfl rfl (fun _ => by rfl) ?_
            intro c21 hc21
            refine sVal (r_move rfl rfl) ?_
            cases c21
            case false =>
             replace hc21 := decF' hc21
             try dsimp only [List.length_cons, List.length_nil] at hc21
             first
             | (exfalso; first | omega | (cases hc21; done))
             | (
               refine @s_pass _ _ _ _ _ _ _ _ 43 (by rfl) (want_no rfl rfl rfl rfl) (by rfl) ?_
               refine @s_pass _ _ _ _ _ _ _ _ 44 (by rfl) (want_no rfl rfl rfl rfl) (by rfl) ?_
               refine sVal (r_pickF rfl rfl rfl) ?_
               refine s_nil ?_
               refine hK20 _ _ ?_
               refine c_condF rfl ?_
               refine wp_exit ?_
               refine hKM15 _ _ _ (by rfl) (by rfl) ?_
               exact ⟨_, _, _, rfl, hlv, hs⟩)
            case true =>
             replace hc21 := decT' hc21
             try dsimp only [List.length_cons, List.length_nil] at hc21
             first
             | (exfalso; first | omega | (cases hc21; done))
             | (
               refine sVal (r_move rfl rfl) ?_
               refine s_bool (r_cmp rfl rfl rfl rfl) rfl rfl (fun _ => by rfl) ?_
               intro c22 hc22
               refine sVal (r_pickT rfl rfl rfl) ?_
               refine s_nil ?_
               refine hK20 _ _ ?_
               cases c22
               case false =>
                replace hc22 := decF' hc22
                try dsimp only [List.length_cons, List.length_nil] at hc22
                first
                | (exfalso; first | omega | (cases hc22; done))
                | (
                  refine c_condF rfl ?_
                  refine wp_exit ?_
                  refine hKM15 _ _ _ (by rfl) (by rfl) ?_
                  exact ⟨_, _, _, rfl, hlv, hs⟩)
               case true =>
                replace hc22 := decT' hc22
                try dsimp only [List.length_cons, List.length_nil] at hc22
                first
                | (exfalso; first | omega | (cases hc22; done))
                | (
                  refine c_condT rfl ?_
                  refine wp_skip ?_
                  refine hK19 _ _ ?_
                  refine wp_seq_k (fun K23 hK23 => ?_)
                  refine wp_block ?_
                  refine wp_seq_k (fun K24 hK24 => ?_)
                  refine c_region ?_
                  obtain ⟨act, hx⟩ : ∃ act, acts[j]? = some act := ⟨_, List.getElem?_eq_getElem (by omega)⟩
                  refine sVal (r_move rfl rfl) ?_
                  refine sVal (r_move rfl rfl) ?_
                  refine s_exQ (r_idx (f := act5C) rfl rfl rfl hs.rd (rfl) (hx) Try.underlying44 in51 sz51) rfl rfl (fun _ => by rfl) ?_
                  intro ad26 he25
                  refine sVal (r_loadElA rfl rfl hs.rd he25 (hx) (fun _ => rfl) (ag51 _) in51 sz51 (by rfl)) ?_
                  refine s_ex (r_alloc rfl zr51 hs) rfl rfl (fun _ => by rfl) ?_
                  intro bt w hs
                  refine s_exS (r_storeA rfl rfl rfl hs (by (repeat (first | exact Cut.head _ _ | apply Cut.tail)); done) in51 sz51 rfl (fun h => by cases h) rfl (by rfl)) rfl rfl ?_
                  intro w hs
                  refine s_nil ?_
                  refine hK24 _ _ ?_
                  refine wp_seq_k (fun K27 hK27 => ?_)
                  refine c_region ?_
                  refine sVal (r_field rfl rfl of51_0) ?_
                  refine sVal (r_load rfl rfl (ag3 _) hs.own (by rfl)) ?_
                  refine s_bool (r_cmp rfl rfl rfl rfl) rfl rfl (fun _ => by rfl) ?_
                  intro c28 hc28
                  refine sVal (r_move rfl rfl) ?_
                  cases c28
                  case false =>
                   replace hc28 := neF hc28
                   try dsimp only [List.length_cons, List.length_nil] at hc28
                   first
                   | (exfalso; first | omega | (cases hc28; done))
                   | (
                     refine @s_pass _ _ _ _ _ _ _ _ 56 (by rfl) (want_no rfl rfl rfl rfl) (by rfl) ?_
                     refine @s_pass _ _ _ _ _ _ _ _ 57 (by rfl) (want_no rfl rfl rfl rfl) (by rfl) ?_
                     refine @s_pass _ _ _ _ _ _ _ _ 58 (by rfl) (want_no rfl rfl rfl rfl) (by rfl) ?_
                     refine sVal (r_pickF rfl rfl rfl) ?_
                     refine s_nil ?_
                     refine hK27 _ _ ?_
                     refine c_condF rfl ?_
                     refine wp_skip ?_
                     refine hK23 _ _ ?_
                     refine c_region ?_
                     refine sVal (r_move rfl rfl) ?_
                     refine sVal (r_ari rfl rfl rfl rfl (by first | exact wrapI (by omega) | rfl)) ?_
                     refine sVal (r_assign rfl rfl) ?_
                     refine s_nil ?_
                     refine hKL18 _ _ _ (by rfl) (by rfl) ?_ ?_
                     · first | exact ⟨j + 1, _, q1, k1, rfl, by omega, hlv.step hT act.2 (by assumption), hs.permK⟩ | exact ⟨j + 1, _, pL, kL, rfl, by omega, hlv, hs.permK⟩
                     · (show _ < _; simp [intOf, xAt]; omega))
                  case true =>
                   replace hc28 := neT hc28
                   try dsimp only [List.length_cons, List.length_nil] at hc28
                   first
                   | (exfalso; first | omega | (cases hc28; done))
                   | (
                     refine sVal (r_field rfl rfl of51_0) ?_
                     refine sVal (r_load rfl rfl (ag3 _) hs.own (by rfl)) ?_
                     refine s_bool (r_cmp rfl rfl rfl rfl) rfl rfl (fun _ => by rfl) ?_
                     intro c29 hc29
                     refine sVal (r_pickT rfl rfl rfl) ?_
                     refine s_nil ?_
                     refine hK27 _ _ ?_
                     cases c29
                     case false =>
                      replace hc29 := neF hc29
                      try dsimp only [List.length_cons, List.length_nil] at hc29
                      first
                      | (exfalso; first | omega | (cases hc29; done))
                      | (
                        refine c_condF rfl ?_
                        refine wp_skip ?_
                        refine hK23 _ _ ?_
                        refine c_region ?_
                        refine sVal (r_move rfl rfl) ?_
                        refine sVal (r_ari rfl rfl rfl rfl (by first | exact wrapI (by omega) | rfl)) ?_
                        refine sVal (r_assign rfl rfl) ?_
                        refine s_nil ?_
                        refine hKL18 _ _ _ (by rfl) (by rfl) ?_ ?_
                        · first | exact ⟨j + 1, _, q1, k1, rfl, by omega, hlv.step hT act.2 (by assumption), hs.permK⟩ | exact ⟨j + 1, _, pL, kL, rfl, by omega, hlv, hs.permK⟩
                        · (show _ < _; simp [intOf, xAt]; omega))
                     case true =>
                      replace hc29 := neT hc29
                      try dsimp only [List.length_cons, List.length_nil] at hc29
                      first
                      | (exfalso; first | omega | (cases hc29; done))
                      | (
                        refine c_condT rfl ?_
                        refine c_region ?_
                        refine sVal (r_move rfl rfl) ?_
                        refine sVal (r_loadA rfl rfl (ag46 _) hs.own in46 sz46 (by rfl)) ?_
                        refine sVal (r_loadA rfl rfl (ag51 _) hs.own in51 sz51 (by rfl)) ?_
                        refine s_enter (r_call rfl ent25 rfl) rfl ?_
                        refine step15_use (k := act.1) (i := act.2) hlv.bank hT hs (by (repeat (first | exact Cut.head _ _ | apply Cut.tail)); done) (by (repeat (first | apply Cut.pair | exact Cut.head _ _ | apply Cut.tail)); done) ?_
                        intro q1 k1 w hs
                        refine ⟨_, rfl, a_put (by rfl) ?_⟩
                        refine sVal (r_move rfl rfl) ?_
                        refine sVal (r_extract rfl rfl (by rfl)) ?_
                        refine s_bool (r_extract rfl rfl (by rfl)) rfl rfl (fun _ => by rfl) ?_
                        intro c30 hc30
                        refine s_exS (r_storeA rfl rfl rfl hs (by (repeat (first | exact Cut.head _ _ | apply Cut.tail)); done) in46 sz46 rfl (fun h => by cases h) rfl (by rfl)) rfl rfl ?_
                        intro w hs
                        refine s_nil ?_
                        refine hK23 _ _ ?_
                        refine c_region ?_
                        refine sVal (r_move rfl rfl) ?_
                        refine sVal (r_ari rfl rfl rfl rfl (by first | exact wrapI (by omega) | rfl)) ?_
                        refine sVal (r_assign rfl rfl) ?_
                        refine s_nil ?_
                        refine hKL18 _ _ _ (by rfl) (by rfl) ?_ ?_
                        · first | exact ⟨j + 1, _, q1, k1, rfl, by omega, hlv.step hT act.2 (by assumption), hs.permK⟩ | exact ⟨j + 1, _, pL, kL, rfl, by omega, hlv, hs.permK⟩
                        · (show _ < _; simp [intOf, xAt]; omega)))))
           clear hs
           rintro xs w ⟨l, pL, kL, hxs, hlv, hs⟩
           obtain ⟨D31, hD31⟩ : ∃ D, D = xAt xs := ⟨_, rfl⟩
           rw [← hD31] at hxs
           clear hD31
           subst hxs
           refine ⟨_, rfl, ?_⟩
           refine c_meet (6 :: 67 :: 68 :: 69 :: 70 :: 71 :: 72 :: 73 :: 74 :: 75 :: 76 :: 77 :: 78 :: 79 :: 80 :: 81 :: 82 :: 83 :: 84 :: 85 :: 86 :: 87 :: 88 :: []) (fun xs w => xs = (xAt xs 0 :: xAt xs 1 :: xAt xs 2 :: xAt xs 3 :: xAt xs 4 :: xAt xs 5 :: xAt xs 6 :: xAt xs 7 :: xAt xs 8 :: xAt xs 9 :: xAt xs 10 :: xAt xs 11 :: xAt xs 12 :: xAt xs 13 :: xAt xs 14 :: xAt xs 15 :: xAt xs 16 :: xAt xs 17 :: xAt xs 18 :: xAt xs 19 :: xAt xs 20 :: xAt xs 21 :: xAt xs 22 :: []) ∧ safeB l = true ∧ Sat E (R * rL 1 booC (.slice pi idles.length ki) idles * rL 2 act5C (.slice pa acts.length ka) acts * rL 1 intC (.slice q 5 kq) [a, b, c, d, e] * own bx (.cells #[.slice q 5 kq, .slice pL 5 kL] 46 (0, 0)) * rL 1 intC (.slice pL 5 kL) l * pkP g l [a, b, c, d, e]) w) ?_ ?_
           ·
            intro KM32 hKM32
            refine wp_seq_k (fun K33 hK33 => ?_)
            refine c_region ?_
            obtain ⟨sb, hsb⟩ : ∃ sb, safeB l = sb := ⟨_, rfl⟩
            refine sVal (r_move rfl rfl) ?_
            refine s_enter (r_call rfl ent18 rfl) rfl ?_
            refine psafeH_use hlv.bank.len hs (by (repeat (first | exact Cut.head _ _ | apply Cut.tail)); done) ?_
            intro w hs
            rw [hsb]
            refine ⟨_, rfl, a_bool (fun _ => by rfl) ?_⟩
            intro c34 hc34
            cases c34
            case false =>
             replace hc34 := Eq.symm hc34
             try (with_reducible first | replace hc34 := of_decide_eq_true hc34 | replace hc34 := of_decide_eq_false hc34)
             try dsimp only [List.length_cons, List.length_nil] at hc34
             first
             | (exfalso; first | omega | (cases hc34; done) | (subst hc34; contradiction))
             | (
               refine sVal (r_notF rfl rfl) ?_
               refine sVal (r_move rfl rfl) ?_
               refine @s_pass _ _ _ _ _ _ _ _ 71 (by rfl) (want_no rfl rfl rfl rfl) (by rfl) ?_
               refine @s_pass _ _ _ _ _ _ _ _ 72 (by rfl) (want_no rfl rfl rfl rfl) (by rfl) ?_
               refine @s_pass _ _ _ _ _ _ _ _ 73 (by rfl) (want_no rfl rfl rfl rfl) (by rfl) ?_
               refine @s_pass _ _ _ _ _ _ _ _ 74 (by rfl) (want_no rfl rfl rfl rfl) (by rfl) ?_
               refine @s_pass _ _ _ _ _ _ _ _ 75 (by rfl) (want_no rfl rfl rfl rfl) (by rfl) ?_
               refine @s_pass _ _ _ _ _ _ _ _ 76 (by rfl) (want_no rfl rfl rfl rfl) (by rfl) ?_
               refine @s_pass _ _ _ _ _ _ _ _ 77 (by rfl) (want_ud rfl rfl rfl) (by rfl) ?_
               refine @s_pass _ _ _ _ _ _ _ _ 78 (by rfl) (want_ud rfl rfl rfl) (by rfl) ?_
               refine @s_pass _ _ _ _ _ _ _ _ 79 (by rfl) (want_ud rfl rfl rfl) (by rfl) ?_
               refine @s_pass _ _ _ _ _ _ _ _ 80 (by rfl) (want_ud rfl rfl rfl) (by rfl) ?_
               refine @s_pass _ _ _ _ _ _ _ _ 81 (by rfl) (want_ud rfl rfl rfl) (by rfl) ?_
               refine @s_pass _ _ _ _ _ _ _ _ 82 (by rfl) (want_no rfl rfl rfl rfl) (by rfl) ?_
               refine sVal (r_pickT rfl rfl rfl) ?_
               refine s_nil ?_
               refine hK33 _ _ ?_
               refine c_condT rfl ?_
               refine wp_seq_k (fun K35 hK35 => ?_)
               replace hs := hs.drew
               refine d_start (by kernel_rfl) ?_
               refine d_pre [0] (g := 5) (by kernel_rfl) (fun _ _ d _ _ h => by cases d <;> exact h) ?_
               obtain ⟨sb, hsb⟩ : ∃ sb, safeB l = sb := ⟨_, rfl⟩
               refine pVal rfl (fun w => (r_move rfl rfl)) ?_
               refine p_nil ?_
               refine d_head 3 [(2, true), (1, false)] (Holds _ _) (g := 3) (by kernel_rfl) (fun _ _ d _ _ h => by cases d <;> exact h) (Holds.self hs) ?_
               refine hVal rfl (fun w hS => (r_loadA rfl rfl (ag46 _) hS.own in46 sz46 (by rfl))) ?_
               refine h_enter rfl (r_call rfl ent18 rfl) rfl ?_
               refine psafeH_use hlv.bank.len hs (by (repeat (first | exact Cut.head _ _ | apply Cut.tail)); done) ?_
               intro w hs
               rw [hsb]
               refine ⟨_, rfl, ah_bool (Holds.mono (Holds.self hs) (by repeat (first | exact Keeps.refl _ | apply Keeps.tail | apply Keeps.drop))) (fun _ => by rfl) ?_⟩
               intro c36 hc36
               refine h_nil ?_
               refine d_tail 3 (by kernel_rfl) ?_
               refine s_enter (r_call rfl ent28 rfl) rfl ?_
               refine r15Safe_use hlv.bank.len hs (by (repeat (first | exact Cut.head _ _ | apply Cut.tail)); done) ?_
               intro w hs
               rw [hsb]
               refine ⟨_, rfl, a_bool (fun _ => by rfl) ?_⟩
               intro c37 hc37
               cases c36
               case false =>
                replace hc36 := Eq.symm hc36
                try (with_reducible first | replace hc36 := of_decide_eq_true hc36 | replace hc36 := of_decide_eq_false hc36)
                try dsimp only [List.length_cons, List.length_nil] at hc36
                first
                | (exfalso; first | omega | (cases hc36; done) | (subst hc36; contradiction))
                | (
                  cases c37
                  case false =>
                   replace hc37 := Eq.symm hc37
                   try (with_reducible first | replace hc37 := of_decide_eq_true hc37 | replace hc37 := of_decide_eq_false hc37)
                   try dsimp only [List.length_cons, List.length_nil] at hc37
                   first
                   | (exfalso; first | omega | (cases hc37; done) | (subst hc37; contradiction))
                   | (
                     refine sVal (r_cmpB rfl rfl rfl Try.underlying4 rfl) ?_
                     refine sVal (r_assign rfl rfl) ?_
                     refine s_nil ?_
                     refine hK35 _ _ ?_
                     refine wp_ret ?_
                     refine f_ret (rs := [.tmp 6]) rfl (.tmp rfl .nil) rfl ?_
                     exact hk _ hs.permK)
                  case true =>
                   replace hc37 := Eq.symm hc37
                   try (with_reducible first | replace hc37 := of_decide_eq_true hc37 | replace hc37 := of_decide_eq_false hc37)
                   try dsimp only [List.length_cons, List.length_nil] at hc37
                   first
                   | (exfalso; first | omega | (cases hc37; done) | (subst hc37; contradiction))
                   | (
                     refine sVal (r_cmpB rfl rfl rfl Try.underlying4 rfl) ?_
                     refine sVal (r_assign rfl rfl) ?_
                     refine s_nil ?_
                     refine hK35 _ _ ?_
                     refine wp_ret ?_
                     refine f_ret (rs := [.tmp 6]) rfl (.tmp rfl .nil) rfl ?_
                     exact hk _ hs.permK))
               case true =>
                replace hc36 := Eq.symm hc36
                try (with_reducible first | replace hc36 := of_decide_eq_true hc36 | replace hc36 := of_decide_eq_false hc36)
                try dsimp only [List.length_cons, List.length_nil] at hc36
                first
                | (exfalso; first | omega | (cases hc36; done) | (subst hc36; contradiction))
                | (
                  cases c37
                  case false =>
                   replace hc37 := Eq.symm hc37
                   try (with_reducible first | replace hc37 := of_decide_eq_true hc37 | replace hc37 := of_decide_eq_false hc37)
                   try dsimp only [List.length_cons, List.length_nil] at hc37
                   first
                   | (exfalso; first | omega | (cases hc37; done) | (subst hc37; contradiction))
                   | (
                     refine sVal (r_cmpB rfl rfl rfl Try.underlying4 rfl) ?_
                     refine sVal (r_assign rfl rfl) ?_
                     refine s_nil ?_
                     refine hK35 _ _ ?_
                     refine wp_ret ?_
                     refine f_ret (rs := [.tmp 6]) rfl (.tmp rfl .nil) rfl ?_
                     exact hk _ hs.permK)
                  case true =>
                   replace hc37 := Eq.symm hc37
                   try (with_reducible first | replace hc37 := of_decide_eq_true hc37 | replace hc37 := of_decide_eq_false hc37)
                   try dsimp only [List.length_cons, List.length_nil] at hc37
                   first
                   | (exfalso; first | omega | (cases hc37; done) | (subst hc37; contradiction))
                   | (
                     refine sVal (r_cmpB rfl rfl rfl Try.underlying4 rfl) ?_
                     refine sVal (r_assign rfl rfl) ?_
                     refine s_nil ?_
                     refine hK35 _ _ ?_
                     refine wp_ret ?_
                     refine f_ret (rs := [.tmp 6]) rfl (.tmp rfl .nil) rfl ?_
                     exact hk _ hs.permK)))
            case true =>
             replace hc34 := Eq.symm hc34
             try (with_reducible first | replace hc34 := of_decide_eq_true hc34 | replace hc34 := of_decide_eq_false hc34)
             try dsimp only [List.length_cons, List.length_nil] at hc34
             first
             | (exfalso; first | omega | (cases hc34; done) | (subst hc34; contradiction))
             | (
               refine sVal (r_notT rfl rfl) ?_
               refine sVal (r_move rfl rfl) ?_
               refine sVal (r_move rfl rfl) ?_
               refine sVal (r_nil rfl rfl) ?_
               refine sVal (r_field rfl rfl of37_0) ?_
               refine s_enter (r_call rfl ent17 rfl) rfl ?_
               refine pruns_use _ hlv.bank.len hs (by (repeat (first | exact Cut.head _ _ | apply Cut.tail)); done) ?_
               intro w hs
               refine ⟨_, rfl, a_bool (fun _ => by rfl) ?_⟩
               intro c38 hc38
               cases c38
               case false =>
                replace hc38 := Eq.symm hc38
                try (with_reducible first | replace hc38 := of_decide_eq_true hc38 | replace hc38 := of_decide_eq_false hc38)
                try dsimp only [List.length_cons, List.length_nil] at hc38
                first
                | (exfalso; first | omega | (cases hc38; done) | (subst hc38; contradiction))
                | (
                  refine sVal (r_notF rfl rfl) ?_
                  refine sVal (r_move rfl rfl) ?_
                  refine sVal (r_move rfl rfl) ?_
                  refine sVal (r_nil rfl rfl) ?_
                  refine sVal (r_field rfl rfl of37_0) ?_
                  refine s_enter (r_call rfl ent17 rfl) rfl ?_
                  refine pruns_use _ hlv.bank.len hs (by (repeat (first | exact Cut.head _ _ | apply Cut.tail)); done) ?_
                  intro w hs
                  refine ⟨_, rfl, a_bool (fun _ => by rfl) ?_⟩
                  intro c39 hc39
                  cases c39
                  case false =>
                   replace hc39 := Eq.symm hc39
                   try (with_reducible first | replace hc39 := of_decide_eq_true hc39 | replace hc39 := of_decide_eq_false hc39)
                   try dsimp only [List.length_cons, List.length_nil] at hc39
                   first
                   | (exfalso; first | omega | (cases hc39; done) | (subst hc39; contradiction))
                   | (
                     refine sVal (r_notF rfl rfl) ?_
                     refine sVal (r_pickT rfl rfl rfl) ?_
                     refine sVal (r_pickF rfl rfl rfl) ?_
                     refine s_nil ?_
                     refine hK33 _ _ ?_
                     refine c_condT rfl ?_
                     refine wp_seq_k (fun K40 hK40 => ?_)
                     replace hs := hs.drew
                     refine d_start (by kernel_rfl) ?_
                     refine d_pre [0] (g := 5) (by kernel_rfl) (fun _ _ d _ _ h => by cases d <;> exact h) ?_
                     obtain ⟨sb, hsb⟩ : ∃ sb, safeB l = sb := ⟨_, rfl⟩
                     refine pVal rfl (fun w => (r_move rfl rfl)) ?_
                     refine p_nil ?_
                     refine d_head 3 [(2, true), (1, false)] (Holds _ _) (g := 3) (by kernel_rfl) (fun _ _ d _ _ h => by cases d <;> exact h) (Holds.self hs) ?_
                     refine hVal rfl (fun w hS => (r_loadA rfl rfl (ag46 _) hS.own in46 sz46 (by rfl))) ?_
                     refine h_enter rfl (r_call rfl ent18 rfl) rfl ?_
                     refine psafeH_use hlv.bank.len hs (by (repeat (first | exact Cut.head _ _ | apply Cut.tail)); done) ?_
                     intro w hs
                     rw [hsb]
                     refine ⟨_, rfl, ah_bool (Holds.mono (Holds.self hs) (by repeat (first | exact Keeps.refl _ | apply Keeps.tail | apply Keeps.drop))) (fun _ => by rfl) ?_⟩
                     intro c41 hc41
                     refine h_nil ?_
                     refine d_tail 3 (by kernel_rfl) ?_
                     refine s_enter (r_call rfl ent28 rfl) rfl ?_
                     refine r15Safe_use hlv.bank.len hs (by (repeat (first | exact Cut.head _ _ | apply Cut.tail)); done) ?_
                     intro w hs
                     rw [hsb]
                     refine ⟨_, rfl, a_bool (fun _ => by rfl) ?_⟩
                     intro c42 hc42
                     cases c41
                     case false =>
                      replace hc41 := Eq.symm hc41
                      try (with_reducible first | replace hc41 := of_decide_eq_true hc41 | replace hc41 := of_decide_eq_false hc41)
                      try dsimp only [List.length_cons, List.length_nil] at hc41
                      first
                      | (exfalso; first | omega | (cases hc41; done) | (subst hc41; contradiction))
                      | (
                        cases c42
                        case false =>
                         replace hc42 := Eq.symm hc42
                         try (with_reducible first | replace hc42 := of_decide_eq_true hc42 | replace hc42 := of_decide_eq_false hc42)
                         try dsimp only [List.length_cons, List.length_nil] at hc42
                         first
                         | (exfalso; first | omega | (cases hc42; done) | (subst hc42; contradiction))
                         | (
                           refine sVal (r_cmpB rfl rfl rfl Try.underlying4 rfl) ?_
                           refine sVal (r_assign rfl rfl) ?_
                           refine s_nil ?_
                           refine hK40 _ _ ?_
                           refine wp_ret ?_
                           refine f_ret (rs := [.tmp 6]) rfl (.tmp rfl .nil) rfl ?_
                           exact hk _ hs.permK)
                        case true =>
                         replace hc42 := Eq.symm hc42
                         try (with_reducible first | replace hc42 := of_decide_eq_true hc42 | replace hc42 := of_decide_eq_false hc42)
                         try dsimp only [List.length_cons, List.length_nil] at hc42
                         first
                         | (exfalso; first | omega | (cases hc42; done) | (subst hc42; contradiction))
                         | (
                           refine sVal (r_cmpB rfl rfl rfl Try.underlying4 rfl) ?_
                           refine sVal (r_assign rfl rfl) ?_
                           refine s_nil ?_
                           refine hK40 _ _ ?_
                           refine wp_ret ?_
                           refine f_ret (rs := [.tmp 6]) rfl (.tmp rfl .nil) rfl ?_
                           exact hk _ hs.permK))
                     case true =>
                      replace hc41 := Eq.symm hc41
                      try (with_reducible first | replace hc41 := of_decide_eq_true hc41 | replace hc41 := of_decide_eq_false hc41)
                      try dsimp only [List.length_cons, List.length_nil] at hc41
                      first
                      | (exfalso; first | omega | (cases hc41; done) | (subst hc41; contradiction))
                      | (
                        cases c42
                        case false =>
                         replace hc42 := Eq.symm hc42
                         try (with_reducible first | replace hc42 := of_decide_eq_true hc42 | replace hc42 := of_decide_eq_false hc42)
                         try dsimp only [List.length_cons, List.length_nil] at hc42
                         first
                         | (exfalso; first | omega | (cases hc42; done) | (subst hc42; contradiction))
                         | (
                           refine sVal (r_cmpB rfl rfl rfl Try.underlying4 rfl) ?_
                           refine sVal (r_assign rfl rfl) ?_
                           refine s_nil ?_
                           refine hK40 _ _ ?_
                           refine wp_ret ?_
                           refine f_ret (rs := [.tmp 6]) rfl (.tmp rfl .nil) rfl ?_
                           exact hk _ hs.permK)
                        case true =>
                         replace hc42 := Eq.symm hc42
                         try (with_reducible first | replace hc42 := of_decide_eq_true hc42 | replace hc42 := of_decide_eq_false hc42)
                         try dsimp only [List.length_cons, List.length_nil] at hc42
                         first
                         | (exfalso; first | omega | (cases hc42; done) | (subst hc42; contradiction))
                         | (
                           refine sVal (r_cmpB rfl rfl rfl Try.underlying4 rfl) ?_
                           refine sVal (r_assign rfl rfl) ?_
                           refine s_nil ?_
                           refine hK40 _ _ ?_
                           refine wp_ret ?_
                           refine f_ret (rs := [.tmp 6]) rfl (.tmp rfl .nil) rfl ?_
                           exact hk _ hs.permK)))
                  case true =>
                   replace hc39 := Eq.symm hc39
                   try (with_reducible first | replace hc39 := of_decide_eq_true hc39 | replace hc39 := of_decide_eq_false hc39)
                   try dsimp only [List.length_cons, List.length_nil] at hc39
                   first
                   | (exfalso; first | omega | (cases hc39; done) | (subst hc39; contradiction))
                   | (
                     refine sVal (r_notT rfl rfl) ?_
                     refine sVal (r_pickT rfl rfl rfl) ?_
                     refine sVal (r_pickF rfl rfl rfl) ?_
                     refine s_nil ?_
                     refine hK33 _ _ ?_
                     refine c_condF rfl ?_
                     refine wp_skip ?_
                     refine hKM32 _ _ _ (by rfl) (by rfl) ?_
                     exact ⟨rfl, by rw [hsb]; assumption, hs⟩))
               case true =>
                replace hc38 := Eq.symm hc38
                try (with_reducible first | replace hc38 := of_decide_eq_true hc38 | replace hc38 := of_decide_eq_false hc38)
                try dsimp only [List.length_cons, List.length_nil] at hc38
                first
                | (exfalso; first | omega | (cases hc38; done) | (subst hc38; contradiction))
                | (
                  refine sVal (r_notT rfl rfl) ?_
                  refine sVal (r_move rfl rfl) ?_
                  refine @s_pass _ _ _ _ _ _ _ _ 77 (by rfl) (want_no rfl rfl rfl rfl) (by rfl) ?_
                  refine @s_pass _ _ _ _ _ _ _ _ 78 (by rfl) (want_no rfl rfl rfl rfl) (by rfl) ?_
                  refine @s_pass _ _ _ _ _ _ _ _ 79 (by rfl) (want_no rfl rfl rfl rfl) (by rfl) ?_
                  refine @s_pass _ _ _ _ _ _ _ _ 80 (by rfl) (want_no rfl rfl rfl rfl) (by rfl) ?_
                  refine @s_pass _ _ _ _ _ _ _ _ 81 (by rfl) (want_no rfl rfl rfl rfl) (by rfl) ?_
                  refine sVal (r_pickF rfl rfl rfl) ?_
                  refine sVal (r_pickF rfl rfl rfl) ?_
                  refine s_nil ?_
                  refine hK33 _ _ ?_
                  refine c_condF rfl ?_
                  refine wp_skip ?_
                  refine hKM32 _ _ _ (by rfl) (by rfl) ?_
                  exact ⟨rfl, by rw [hsb]; assumption, hs⟩))
           clear hs
           rintro xs w ⟨hxs, hrs, hs⟩
           obtain ⟨D43, hD43⟩ : ∃ D, D = xAt xs := ⟨_, rfl⟩
           rw [← hD43] at hxs
           clear hD43
           subst hxs
           refine ⟨_, rfl, ?_⟩
           refine wp_seq_k (fun K44 hK44 => ?_)
           refine wp_seq_k (fun K45 hK45 => ?_)
           refine c_region ?_
           refine sVal (r_move rfl rfl) ?_
           refine s_nil ?_
           refine hK45 _ _ ?_
           refine wp_block ?_
           refine c_loop (6 :: 12 :: 13 :: 15 :: 89 :: 90 :: 91 :: 92 :: 93 :: 94 :: 95 :: 96 :: 97 :: 98 :: 99 :: 100 :: 101 :: 102 :: 103 :: 104 :: 105 :: 106 :: 107 :: 108 :: 109 :: 110 :: 111 :: 112 :: 113 :: 114 :: 115 :: 116 :: 117 :: 118 :: 119 :: 120 :: 121 :: 122 :: 123 :: 124 :: 125 :: 126 :: 127 :: 128 :: 129 :: 130 :: 131 :: 132 :: 133 :: 134 :: 135 :: 136 :: 137 :: []) (fun xs w => ∃ (n : Nat) (m : List Int), xs = (xAt xs 0 :: xAt xs 1 :: xAt xs 2 :: xAt xs 3 :: .int .i64 (n : Int) :: xAt xs 5 :: xAt xs 6 :: xAt xs 7 :: xAt xs 8 :: xAt xs 9 :: xAt xs 10 :: xAt xs 11 :: xAt xs 12 :: xAt xs 13 :: xAt xs 14 :: xAt xs 15 :: xAt xs 16 :: xAt xs 17 :: xAt xs 18 :: xAt xs 19 :: xAt xs 20 :: xAt xs 21 :: xAt xs 22 :: xAt xs 23 :: xAt xs 24 :: xAt xs 25 :: xAt xs 26 :: xAt xs 27 :: xAt xs 28 :: xAt xs 29 :: xAt xs 30 :: xAt xs 31 :: xAt xs 32 :: xAt xs 33 :: xAt xs 34 :: xAt xs 35 :: xAt xs 36 :: xAt xs 37 :: xAt xs 38 :: xAt xs 39 :: xAt xs 40 :: xAt xs 41 :: xAt xs 42 :: xAt xs 43 :: xAt xs 44 :: xAt xs 45 :: xAt xs 46 :: xAt xs 47 :: xAt xs 48 :: xAt xs 49 :: xAt xs 50 :: xAt xs 51 :: xAt xs 52 :: []) ∧ n ≤ 200 ∧ Live m ∧ safeB m = true ∧ Sat E (R * rL 1 booC (.slice pi idles.length ki) idles * rL 2 act5C (.slice pa acts.length ka) acts * rL 1 intC (.slice q 5 kq) [a, b, c, d, e] * pkP g m [a, b, c, d, e]) w) (fun xs _ => 200 - (intOf (xAt xs 4)).toNat) rfl (by rfl) ?_ ?_
           · exact ⟨0, l, rfl, by omega, hlv, hrs, hs.permK⟩
           clear hs
           rintro xs w ⟨n, m, hxs, hn, hlm, hsm, hs⟩
           obtain ⟨D46, hD46⟩ : ∃ D, D = xAt xs := ⟨_, rfl⟩
           rw [← hD46] at hxs
           clear hD46
           subst hxs
           refine ⟨_, rfl, fun KL47 hKL47 => ?_⟩
           refine wp_seq_k (fun K48 hK48 => ?_)
           refine c_region ?_
           refine s_bool (r_cmp rfl rfl rfl rfl) rfl rfl (fun _ => by rfl) ?_
           intro c49 hc49
           refine s_nil ?_
           refine hK48 _ _ ?_
           refine wp_seq_k (fun K50 hK50 => ?_)
           cases c49
           case false =>
            replace hc49 := decF' hc49
            try dsimp only [List.length_cons, List.length_nil] at hc49
            first
            | (exfalso; first | omega | (cases hc49; done))
            | (
              refine c_condF rfl ?_
              refine wp_exit ?_
              refine hK44 _ _ ?_
              refine wp_seq_k (fun K51 hK51 => ?_)
              refine c_region ?_
              refine sVal (r_assign rfl rfl) ?_
              refine s_nil ?_
              refine hK51 _ _ ?_
              refine wp_ret ?_
              refine f_ret (rs := [.tmp 6]) rfl (.tmp rfl .nil) rfl ?_
              exact hk _ hs.permK)
           case true =>
            replace hc49 := decT' hc49
            try dsimp only [List.length_cons, List.length_nil] at hc49
            first
            | (exfalso; first | omega | (cases hc49; done))
            | (
              refine c_condT rfl ?_
              refine wp_skip ?_
              refine hK50 _ _ ?_
              refine wp_seq_k (fun K52 hK52 => ?_)
              refine wp_block ?_
              refine wp_seq_k (fun K53 hK53 => ?_)
              refine c_region ?_
              refine sVal (r_move rfl rfl) ?_
              refine sVal (r_assign rfl rfl) ?_
              refine s_nil ?_
              refine hK53 _ _ ?_
              refine c_meet (13 :: 92 :: 93 :: 94 :: 95 :: 96 :: 97 :: 98 :: 99 :: 100 :: 101 :: []) (fun xs w => ∃ (ib : Bool), xs = (.bool ib :: xAt xs 1 :: xAt xs 2 :: xAt xs 3 :: xAt xs 4 :: xAt xs 5 :: xAt xs 6 :: xAt xs 7 :: xAt xs 8 :: xAt xs 9 :: xAt xs 10 :: []) ∧ Sat E (R * rL 1 booC (.slice pi idles.length ki) idles * rL 2 act5C (.slice pa acts.length ka) acts * rL 1 intC (.slice q 5 kq) [a, b, c, d, e] * pkP g m [a, b, c, d, e]) w) ?_ ?_
              ·
               intro KM54 hKM54
               refine c_region ?_
               refine sVal (r_move rfl rfl) ?_
               refine sVal (r_move rfl rfl) ?_
               refine sVal (r_len rfl rfl Try.underlying54) ?_
               refine s_bool (r_cmp rfl rfl rfl rfl) rfl rfl (fun _ => by rfl) ?_
               intro c55 hc55
               refine sVal (r_move rfl rfl) ?_
               cases c55
               case false =>
                replace hc55 := decF' hc55
                try dsimp only [List.length_cons, List.length_nil] at hc55
                first
                | (exfalso; first | omega | (cases hc55; done))
                | (
                  refine @s_pass _ _ _ _ _ _ _ _ 97 (by rfl) (want_no rfl rfl rfl rfl) (by rfl) ?_
                  refine @s_pass _ _ _ _ _ _ _ _ 98 (by rfl) (want_no rfl rfl rfl rfl) (by rfl) ?_
                  refine @s_pass _ _ _ _ _ _ _ _ 99 (by rfl) (want_no rfl rfl rfl rfl) (by rfl) ?_
                  refine @s_pass _ _ _ _ _ _ _ _ 100 (by rfl) (want_no rfl rfl rfl rfl) (by rfl) ?_
                  refine sVal (r_pickF rfl rfl rfl) ?_
                  refine sVal (r_assign rfl rfl) ?_
                  refine s_nil ?_
                  refine hKM54 _ _ _ (by rfl) (by rfl) ?_
                  exact ⟨_, rfl, hs⟩)
               case true =>
                replace hc55 := decT' hc55
                try dsimp only [List.length_cons, List.length_nil] at hc55
                first
                | (exfalso; first | omega | (cases hc55; done))
                | (
                  refine sVal (r_move rfl rfl) ?_
                  refine sVal (r_move rfl rfl) ?_
                  obtain ⟨ib, hib⟩ : ∃ ib, idles[n]? = some ib := ⟨_, List.getElem?_eq_getElem (by omega)⟩
                  refine s_exQ (r_idx (f := booC) rfl rfl rfl hs.rd (rfl) (hib) Try.underlying54 in4 sz4) rfl rfl (fun _ => by rfl) ?_
                  intro ad57 he56
                  refine s_bool (r_loadEl rfl rfl hs.rd he56 (hib) (fun _ => rfl) (ag4 _) (by rfl)) rfl rfl (fun _ => by rfl) ?_
                  intro c58 hc58
                  refine sVal (r_pickT rfl rfl rfl) ?_
                  refine sVal (r_assign rfl rfl) ?_
                  refine s_nil ?_
                  refine hKM54 _ _ _ (by rfl) (by rfl) ?_
                  exact ⟨_, rfl, hs⟩)
              clear hs
              rintro xs w ⟨ib, hxs, hs⟩
              obtain ⟨D59, hD59⟩ : ∃ D, D = xAt xs := ⟨_, rfl⟩
              rw [← hD59] at hxs
              clear hD59
              subst hxs
              refine ⟨_, rfl, ?_⟩
              refine c_meet (102 :: 103 :: 104 :: 105 :: 106 :: 107 :: 108 :: 109 :: 110 :: 111 :: 112 :: []) (fun xs w => ∃ (m2 : List Int), xs = (xAt xs 0 :: xAt xs 1 :: xAt xs 2 :: xAt xs 3 :: xAt xs 4 :: xAt xs 5 :: xAt xs 6 :: xAt xs 7 :: xAt xs 8 :: xAt xs 9 :: xAt xs 10 :: []) ∧ Live m2 ∧ safeB m2 = true ∧ Sat E (R * rL 1 booC (.slice pi idles.length ki) idles * rL 2 act5C (.slice pa acts.length ka) acts * rL 1 intC (.slice q 5 kq) [a, b, c, d, e] * pkP g m2 [a, b, c, d, e]) w) ?_ ?_
              ·
               intro KM60 hKM60
               refine wp_seq_k (fun K61 hK61 => ?_)
               refine c_region ?_
               refine sVal (r_move rfl rfl) ?_
               refine sVal (r_div rfl rfl rfl (by decide) rfl rfl) ?_
               refine s_bool (r_cmp rfl rfl rfl rfl) rfl rfl (fun _ => by rfl) ?_
               intro c62 hc62
               refine sVal (r_move rfl rfl) ?_
               cases c62
               case false =>
                replace hc62 := eqF hc62
                try dsimp only [List.length_cons, List.length_nil] at hc62
                first
                | (exfalso; first | omega | (cases hc62; done))
                | (
                  refine @s_pass _ _ _ _ _ _ _ _ 106 (by rfl) (want_no rfl rfl rfl rfl) (by rfl) ?_
                  refine @s_pass _ _ _ _ _ _ _ _ 107 (by rfl) (want_no rfl rfl rfl rfl) (by rfl) ?_
                  refine @s_pass _ _ _ _ _ _ _ _ 108 (by rfl) (want_no rfl rfl rfl rfl) (by rfl) ?_
                  refine @s_pass _ _ _ _ _ _ _ _ 109 (by rfl) (want_no rfl rfl rfl rfl) (by rfl) ?_
                  refine sVal (r_pickF rfl rfl rfl) ?_
                  refine s_nil ?_
                  refine hK61 _ _ ?_
                  refine c_condF rfl ?_
                  refine wp_skip ?_
                  refine hKM60 _ _ _ (by rfl) (by rfl) ?_
                  first | exact ⟨_, rfl, hlm.busy hT, safe_busy hlm hT (by assumption), hs⟩ | exact ⟨_, rfl, hlm, hsm, hs⟩)
               case true =>
                replace hc62 := eqT hc62
                try dsimp only [List.length_cons, List.length_nil] at hc62
                first
                | (exfalso; first | omega | (cases hc62; done))
                | (
                  refine sVal (r_move rfl rfl) ?_
                  refine sVal (r_nil rfl rfl) ?_
                  refine sVal (r_field rfl rfl of37_0) ?_
                  refine s_enter (r_call rfl ent17 rfl) rfl ?_
                  refine pruns_use _ hlm.bank.len hs (by (repeat (first | exact Cut.head _ _ | apply Cut.tail)); done) ?_
                  intro w hs
                  refine ⟨_, rfl, a_bool (fun _ => by rfl) ?_⟩
                  intro c63 hc63
                  refine sVal (r_pickT rfl rfl rfl) ?_
                  refine s_nil ?_
                  refine hK61 _ _ ?_
                  cases c63
                  case false =>
                   replace hc63 := Eq.symm hc63
                   try (with_reducible first | replace hc63 := of_decide_eq_true hc63 | replace hc63 := of_decide_eq_false hc63)
                   try dsimp only [List.length_cons, List.length_nil] at hc63
                   first
                   | (exfalso; first | omega | (cases hc63; done) | (subst hc63; contradiction))
                   | (
                     refine c_condF rfl ?_
                     refine wp_skip ?_
                     refine hKM60 _ _ _ (by rfl) (by rfl) ?_
                     first | exact ⟨_, rfl, hlm.busy hT, safe_busy hlm hT (by assumption), hs⟩ | exact ⟨_, rfl, hlm, hsm, hs⟩)
                  case true =>
                   replace hc63 := Eq.symm hc63
                   try (with_reducible first | replace hc63 := of_decide_eq_true hc63 | replace hc63 := of_decide_eq_false hc63)
                   try dsimp only [List.length_cons, List.length_nil] at hc63
                   first
                   | (exfalso; first | omega | (cases hc63; done) | (subst hc63; contradiction))
                   | (
                     refine c_condT rfl ?_
                     refine c_region ?_
                     refine sVal (r_move rfl rfl) ?_
                     refine s_enter (r_call rfl ent22 rfl) rfl ?_
                     refine pbusy_use hlm.bank.len rfl hs (by (repeat (first | exact Cut.head _ _ | apply Cut.tail)); done) ?_
                     intro w hs
                     refine ⟨_, rfl, a_put (by rfl) ?_⟩
                     refine s_nil ?_
                     refine hKM60 _ _ _ (by rfl) (by rfl) ?_
                     first | exact ⟨_, rfl, hlm.busy hT, safe_busy hlm hT (by assumption), hs⟩ | exact ⟨_, rfl, hlm, hsm, hs⟩))
              clear hs
              rintro xs w ⟨m2, hxs, hlm2, hsm2, hs⟩
              obtain ⟨D64, hD64⟩ : ∃ D, D = xAt xs := ⟨_, rfl⟩
              rw [← hD64] at hxs
              clear hD64
              subst hxs
              refine ⟨_, rfl, ?_⟩
              refine wp_seq_k (fun K65 hK65 => ?_)
              refine wp_seq_k (fun K66 hK66 => ?_)
              refine c_region ?_
              have hov := over_len hlm2.bank.len
              refine sVal (r_move rfl rfl) ?_
              refine sVal (r_nil rfl rfl) ?_
              refine sVal (r_field rfl rfl of37_0) ?_
              refine s_enter (r_call rfl ent16 rfl) rfl ?_
              refine ptick_use hlm2.bank hs (by (repeat (first | exact Cut.head _ _ | apply Cut.tail)); done) ?_
              intro pv kv w hs
              have hlt := hlm2.tick
              have hno := safe_silent hlm2 hsm2
              refine ⟨_, rfl, a_put (by rfl) ?_⟩
              refine sVal (r_len rfl rfl Try.underlying22) ?_
              refine sVal (r_move rfl rfl) ?_
              refine s_nil ?_
              refine hK66 _ _ ?_
              refine wp_block ?_
              refine c_loop (6 :: 15 :: 118 :: 119 :: 120 :: 121 :: 122 :: 123 :: 124 :: 125 :: 126 :: 127 :: 128 :: 129 :: 130 :: 131 :: 132 :: 133 :: []) (fun xs w => ∃ (r : Nat) (s : List Int), xs = (xAt xs 0 :: xAt xs 1 :: .int .i64 (r : Int) :: xAt xs 3 :: xAt xs 4 :: xAt xs 5 :: xAt xs 6 :: xAt xs 7 :: xAt xs 8 :: xAt xs 9 :: xAt xs 10 :: xAt xs 11 :: xAt xs 12 :: xAt xs 13 :: xAt xs 14 :: xAt xs 15 :: xAt xs 16 :: xAt xs 17 :: []) ∧ r ≤ (overL m2).length ∧ Live s ∧ (safeB s = true ∨ (s = tickL m2 ∧ ∀ x ∈ (overL m2).take r, asksB x = false)) ∧ Sat E (R * rL 1 booC (.slice pi idles.length ki) idles * rL 2 act5C (.slice pa acts.length ka) acts * rL 1 intC (.slice q 5 kq) [a, b, c, d, e] * oL 3 1 intC (.slice pv (overL m2).length kv) (overL m2) * pkP g s [a, b, c, d, e]) w) (fun xs _ => (overL m2).length - (intOf (xAt xs 2)).toNat) rfl (by rfl) ?_ ?_
              · exact ⟨0, tickL m2, rfl, by omega, hlt, .inr ⟨rfl, by simp⟩, hs.permK⟩
              clear hs
              rintro xs w ⟨r, s, hxs, hr, hls, hqs, hs⟩
              obtain ⟨D67, hD67⟩ : ∃ D, D = xAt xs := ⟨_, rfl⟩
              rw [← hD67] at hxs
              clear hD67
              subst hxs
              refine ⟨_, rfl, fun KL68 hKL68 => ?_⟩
              refine wp_seq_k (fun K69 hK69 => ?_)
              refine c_region ?_
              refine s_bool (r_cmp rfl rfl rfl rfl) rfl rfl (fun _ => by rfl) ?_
              intro c70 hc70
              refine s_nil ?_
              refine hK69 _ _ ?_
              refine wp_seq_k (fun K71 hK71 => ?_)
              cases c70
              case false =>
               replace hc70 := decF' hc70
               try dsimp only [List.length_cons, List.length_nil] at hc70
               first
               | (exfalso; first | omega | (cases hc70; done))
               | (
                 refine c_condF rfl ?_
                 refine wp_exit ?_
                 refine hK65 _ _ ?_
                 refine wp_seq_k (fun K72 hK72 => ?_)
                 refine c_region ?_
                 have hsafe : safeB s = true := (by rcases hqs with h | ⟨rfl, h⟩; exact h; exact safe_tick hlm2 hsm2 (by have e : r = (overL m2).length := (by omega); rw [e, List.take_length] at h; exact h))
                 refine sVal (r_move rfl rfl) ?_
                 refine s_enter (r_call rfl ent18 rfl) rfl ?_
                 refine psafeH_use hls.bank.len hs (by (repeat (first | exact Cut.head _ _ | apply Cut.tail)); done) ?_
                 intro w hs
                 rw [hsafe]
                 refine ⟨_, rfl, a_bool (fun _ => by rfl) ?_⟩
                 intro c73 hc73
                 cases c73
                 case false =>
                  replace hc73 := Eq.symm hc73
                  try (with_reducible first | replace hc73 := of_decide_eq_true hc73 | replace hc73 := of_decide_eq_false hc73)
                  try dsimp only [List.length_cons, List.length_nil] at hc73
                  first
                  | (exfalso; first | omega | (cases hc73; done) | (subst hc73; contradiction))
                  | (
                    refine sVal (r_notF rfl rfl) ?_
                    refine s_nil ?_
                    refine hK72 _ _ ?_
                    refine c_condT rfl ?_
                    refine wp_seq_k (fun K74 hK74 => ?_)
                    refine c_region ?_
                    refine sVal (r_assign rfl rfl) ?_
                    refine s_nil ?_
                    refine hK74 _ _ ?_
                    refine wp_ret ?_
                    refine f_ret (rs := [.tmp 6]) rfl (.tmp rfl .nil) rfl ?_
                    exact hk _ hs.permK)
                 case true =>
                  replace hc73 := Eq.symm hc73
                  try (with_reducible first | replace hc73 := of_decide_eq_true hc73 | replace hc73 := of_decide_eq_false hc73)
                  try dsimp only [List.length_cons, List.length_nil] at hc73
                  first
                  | (exfalso; first | omega | (cases hc73; done) | (subst hc73; contradiction))
                  | (
                    refine sVal (r_notT rfl rfl) ?_
                    refine s_nil ?_
                    refine hK72 _ _ ?_
                    refine c_condF rfl ?_
                    refine wp_skip ?_
                    refine hK52 _ _ ?_
                    refine c_region ?_
                    refine sVal (r_ari rfl rfl rfl rfl (by first | exact wrapI (by omega) | rfl)) ?_
                    refine sVal (r_move rfl rfl) ?_
                    refine s_nil ?_
                    refine hKL47 _ _ _ (by rfl) (by rfl) ?_ ?_
                    · exact ⟨n + 1, s, rfl, by omega, hls, hsafe, hs.permK⟩
                    · (show _ < _; simp [intOf, xAt]; omega)))
              case true =>
               replace hc70 := decT' hc70
               try dsimp only [List.length_cons, List.length_nil] at hc70
               first
               | (exfalso; first | omega | (cases hc70; done))
               | (
                 refine c_condT rfl ?_
                 refine wp_skip ?_
                 refine hK71 _ _ ?_
                 refine wp_seq_k (fun K75 hK75 => ?_)
                 refine wp_block ?_
                 refine wp_seq_k (fun K76 hK76 => ?_)
                 refine c_region ?_
                 obtain ⟨t, ht⟩ : ∃ t, (overL m2)[r]? = some t := ⟨_, List.getElem?_eq_getElem (by omega)⟩
                 have ht3 : ¬ t = 3 := (fun h => hno (h ▸ List.mem_of_getElem? ht))
                 refine s_exQ (r_idx (f := intC) rfl rfl rfl hs.rd (rfl) (ht) Try.underlying22 in3 sz3) rfl rfl (fun _ => by rfl) ?_
                 intro ad78 he77
                 refine sVal (r_loadEl rfl rfl hs.rd he77 (ht) (fun _ => rfl) (ag3 _) (by rfl)) ?_
                 refine sVal (r_assign rfl rfl) ?_
                 refine s_nil ?_
                 refine hK76 _ _ ?_
                 refine wp_seq_k (fun K79 hK79 => ?_)
                 refine wp_seq_k (fun K80 hK80 => ?_)
                 refine c_region ?_
                 refine sVal (r_move rfl rfl) ?_
                 refine s_bool (r_cmp rfl rfl rfl rfl) rfl rfl (fun _ => by rfl) ?_
                 intro c81 hc81
                 refine s_nil ?_
                 refine hK80 _ _ ?_
                 cases c81
                 case false =>
                  replace hc81 := eqF hc81
                  try dsimp only [List.length_cons, List.length_nil] at hc81
                  first
                  | (exfalso; first | omega | (cases hc81; done))
                  | (
                    refine c_condF rfl ?_
                    refine wp_skip ?_
                    refine hK79 _ _ ?_
                    refine wp_seq_k (fun K82 hK82 => ?_)
                    refine c_region ?_
                    refine sVal (r_move rfl rfl) ?_
                    refine sVal (r_move rfl rfl) ?_
                    refine s_enter (r_call rfl ent29 rfl) rfl ?_
                    refine pasks_use _ _ hs ?_
                    intro w hs
                    refine ⟨_, rfl, a_bool (fun _ => by rfl) ?_⟩
                    intro c83 hc83
                    refine s_nil ?_
                    refine hK82 _ _ ?_
                    cases c83
                    case false =>
                     replace hc83 := Eq.symm hc83
                     try (with_reducible first | replace hc83 := of_decide_eq_true hc83 | replace hc83 := of_decide_eq_false hc83)
                     try dsimp only [List.length_cons, List.length_nil] at hc83
                     first
                     | (exfalso; first | omega | (cases hc83; done) | (subst hc83; contradiction))
                     | (
                       refine c_condF rfl ?_
                       refine wp_skip ?_
                       refine hK75 _ _ ?_
                       refine c_region ?_
                       refine sVal (r_ari rfl rfl rfl rfl (by first | exact wrapI (by omega) | rfl)) ?_
                       refine sVal (r_move rfl rfl) ?_
                       refine s_nil ?_
                       refine hKL68 _ _ _ (by rfl) (by rfl) ?_ ?_
                       · first | (have ha : asksB t = true := (by assumption); subst_vars; exact ⟨r + 1, _, rfl, by omega, (hls.polled hT _).answered hT _, .inl (safe_asked hls hT _), hs.permK⟩) | exact ⟨r + 1, s, rfl, by omega, hls, hqs.imp id (fun h => ⟨h.1, fun x hx => by rw [List.take_add_one, ht, List.mem_append] at hx; rcases hx with hx | hx; exact h.2 x hx; (simp only [Option.toList_some, List.mem_singleton] at hx; subst hx; assumption)⟩), hs.permK⟩
                       · (show _ < _; simp [intOf, xAt]; omega))
                    case true =>
                     replace hc83 := Eq.symm hc83
                     try (with_reducible first | replace hc83 := of_decide_eq_true hc83 | replace hc83 := of_decide_eq_false hc83)
                     try dsimp only [List.length_cons, List.length_nil] at hc83
                     first
                     | (exfalso; first | omega | (cases hc83; done) | (subst hc83; contradiction))
                     | (
                       refine c_condT rfl ?_
                       refine wp_seq_k (fun K84 hK84 => ?_)
                       refine c_region ?_
                       refine sVal (r_move rfl rfl) ?_
                       refine s_bool (r_move rfl rfl) rfl rfl (fun _ => by rfl) ?_
                       intro c85 hc85
                       refine s_enter (r_call rfl ent19 rfl) rfl ?_
                       refine ppolled_use _ hls.bank.len rfl hs (by (repeat (first | exact Cut.head _ _ | apply Cut.tail)); done) ?_
                       intro w hs
                       refine ⟨_, rfl, a_put (by rfl) ?_⟩
                       refine s_nil ?_
                       refine hK84 _ _ ?_
                       refine c_region ?_
                       refine sVal (r_move rfl rfl) ?_
                       refine s_bool (r_move rfl rfl) rfl rfl (fun _ => by rfl) ?_
                       intro c86 hc86
                       refine s_enter (r_call rfl ent20 rfl) rfl ?_
                       refine panswered_use _ (polled_len hls.bank.len) rfl hs (by (repeat (first | exact Cut.head _ _ | apply Cut.tail)); done) ?_
                       intro w hs
                       refine ⟨_, rfl, a_put (by rfl) ?_⟩
                       refine s_nil ?_
                       refine hK75 _ _ ?_
                       refine c_region ?_
                       refine sVal (r_ari rfl rfl rfl rfl (by first | exact wrapI (by omega) | rfl)) ?_
                       refine sVal (r_move rfl rfl) ?_
                       refine s_nil ?_
                       refine hKL68 _ _ _ (by rfl) (by rfl) ?_ ?_
                       · first | (have ha : asksB t = true := (by assumption); subst_vars; exact ⟨r + 1, _, rfl, by omega, (hls.polled hT _).answered hT _, .inl (safe_asked hls hT _), hs.permK⟩) | exact ⟨r + 1, s, rfl, by omega, hls, hqs.imp id (fun h => ⟨h.1, fun x hx => by rw [List.take_add_one, ht, List.mem_append] at hx; rcases hx with hx | hx; exact h.2 x hx; (simp only [Option.toList_some, List.mem_singleton] at hx; subst hx; assumption)⟩), hs.permK⟩
                       · (show _ < _; simp [intOf, xAt]; omega)))
                 case true =>
                  replace hc81 := eqT hc81
                  try dsimp only [List.length_cons, List.length_nil] at hc81
                  first
                  | (exfalso; first | omega | (cases hc81; done))
                  | (
                    refine c_condT rfl ?_
                    refine wp_seq_k (fun K87 hK87 => ?_)
                    refine c_region ?_
                    refine sVal (r_assign rfl rfl) ?_
                    refine s_nil ?_
                    refine hK87 _ _ ?_
                    refine wp_ret ?_
                    refine f_ret (rs := [.tmp 6]) rfl (.tmp rfl .nil) rfl ?_
                    exact hk _ hs.permK))))
        case true =>
         replace hc11 := neT hc11
         try dsimp only [List.length_cons, List.length_nil] at hc11
         first
         | (exfalso; first | omega | (cases hc11; done))
         | (
           refine c_condT rfl ?_
           refine wp_seq_k (fun K88 hK88 => ?_)
           refine c_region ?_
           refine sVal (r_assign rfl rfl) ?_
           refine s_nil ?_
           refine hK88 _ _ ?_
           refine wp_ret ?_
           refine f_ret (rs := [.tmp 6]) rfl (.tmp rfl .nil) rfl ?_
           exact hk _ hs.permK))
     case true =>
      replace hc10 := Eq.symm hc10
      try dsimp only [List.length_cons, List.length_nil] at hc10
      first
      | (exfalso; first | omega | (cases hc10; done))
      | (
        refine @s_pass _ _ _ _ _ _ _ _ 29 (by rfl) (want_no rfl rfl rfl rfl) (by rfl) ?_
        refine @s_pass _ _ _ _ _ _ _ _ 30 (by rfl) (want_no rfl rfl rfl rfl) (by rfl) ?_
        refine sVal (r_pickT rfl rfl rfl) ?_
        refine s_nil ?_
        refine hK9 _ _ ?_
        refine c_condT rfl ?_
        refine wp_seq_k (fun K89 hK89 => ?_)
        refine c_region ?_
        refine sVal (r_assign rfl rfl) ?_
        refine s_nil ?_
        refine hK89 _ _ ?_
        refine wp_ret ?_
        refine f_ret (rs := [.tmp 6]) rfl (.tmp rfl .nil) rfl ?_
        exact hk _ hs.permK))
end
end Go.Proofs.Ytoeaamohchpjdaa
