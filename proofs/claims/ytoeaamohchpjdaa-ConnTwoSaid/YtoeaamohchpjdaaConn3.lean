/-
  A connection: contracts of a call in the making: units.
-/
import Derived.Test.YtoeaamohchpjdaaConn2
namespace Go.Proofs.Ytoeaamohchpjdaa
open Go Go.RowKit
set_option linter.unusedVariables false
set_option linter.unusedSimpArgs false
set_option maxRecDepth 100000
attribute [local irreducible] own fix oL rL osl rsl fact some' wpList wpHi wpPre wpAny After AfterH

section
variable {E : World} {H R : HP} {w : World} {Q : Ending → World → Prop} {ba bc : Nat} {g : Gh} {a : As}

theorem oldBegin_use (k sq n ps mr : Int) (self : Bool) (d : ByteArray) (hb : a.few ≤ 70000) (hs : Sat E H w) (c : Cut H (actP ba bc g a) R) (hk : ∀ g' w', Sat E (R * actP ba bc g' (a.oldBegin ⟨k, sq, n, ps, mr, self, d⟩)) w' → Q (.returned (.tuple #[])) w') :
    Calls Try.prog 87 #[.pointer (some ⟨ba, 0, none⟩), .agg #[.int .i64 k, .int .i64 sq, .int .u32 n, .int .u32 ps, .int .u32 mr, .slice none 0 0, .bool self, .string d]] w Q := by
  replace hs := act_open (hs.cut c)
  refine f_enter Try.func87 rfl rfl ?_
  show Code.wp _ _ _ (Fr _) _
  refine wp_seq_k (fun K1 hK1 => ?_)
  refine c_region ?_
  refine s_ex (r_box rfl rfl rfl hs) rfl rfl (fun _ => by rfl) ?_
  intro b2 w hs
  refine s_nil ?_
  refine hK1 _ _ ?_
  refine wp_seq_k (fun K3 hK3 => ?_)
  refine c_region ?_
  refine sVal (r_move rfl rfl) ?_
  refine sVal (r_loadA rfl rfl (ag85 _) hs.own in85 sz85 (by rfl)) ?_
  refine s_ex (r_lit intC [_] rfl rfl rfl hs Try.underlying22 (by kernel_rfl) sz3 rfl (by decide) (fun _ => rfl)) rfl rfl (fun _ => by rfl) ?_
  intro b4 w hs
  refine s_enter (r_call rfl ent90 rfl) rfl ?_
  refine back_use (a := (a)) _ _ _ _ _ _ _ _ [1] _ _ (by omega) (by decide) (act_close g ((a)) hs (by (try simp only [As.oldBegin, Bool.true_or, Bool.false_or, Bool.or_true, Bool.or_false, ↓reduceIte, or_true, true_or, or_false, false_or]); (repeat (first | apply Cut.pair | exact Cut.head _ _ | apply Cut.tail)); done) (by repeat (first | exact Keeps.refl _ | apply Keeps.tail | apply Keeps.drop))) (by (repeat (first | exact Cut.head _ _ | apply Cut.tail)); done) (Cut.head _ _) ?_
  intro g w hs
  replace hs := act_open hs
  refine ⟨_, rfl, a_put (by rfl) ?_⟩
  refine s_nil ?_
  refine hK3 _ _ ?_
  refine c_region ?_
  refine sVal (r_move rfl rfl) ?_
  refine sVal (r_loadA rfl rfl (ag85 _) hs.own in85 sz85 (by rfl)) ?_
  refine s_ex (r_lit intC [_, _, _, _, _, _] rfl rfl rfl hs Try.underlying22 (by kernel_rfl) sz3 rfl (by decide) (fun _ => rfl)) rfl rfl (fun _ => by rfl) ?_
  intro b5 w hs
  refine s_enter (r_call rfl ent90 rfl) rfl ?_
  refine back_use (a := (a.back ⟨k, sq, n, ps, mr, self, d⟩ 7 [1])) _ _ _ _ _ _ _ _ [5, 6, 7, 8, 9, 10] _ _ (by have := few_back ⟨k, sq, n, ps, mr, self, d⟩ 7 [1] (a); simp only [List.length_cons, List.length_nil] at this; omega) (by decide) (act_close g ((a.back ⟨k, sq, n, ps, mr, self, d⟩ 7 [1])) hs (by (try simp only [As.oldBegin, Bool.true_or, Bool.false_or, Bool.or_true, Bool.or_false, ↓reduceIte, or_true, true_or, or_false, false_or]); (repeat (first | apply Cut.pair | exact Cut.head _ _ | apply Cut.tail)); done) (by repeat (first | exact Keeps.refl _ | apply Keeps.tail | apply Keeps.drop))) (by (repeat (first | exact Cut.head _ _ | apply Cut.tail)); done) (Cut.head _ _) ?_
  intro g w hs
  replace hs := act_open hs
  refine ⟨_, rfl, a_put (by rfl) ?_⟩
  refine s_nil ?_
  refine f_end (rs := []) rfl .nil rfl ?_
  refine hk g _ (act_close g (a.oldBegin ⟨k, sq, n, ps, mr, self, d⟩) hs (by (try simp only [As.oldBegin, Bool.true_or, Bool.false_or, Bool.or_true, Bool.or_false, ↓reduceIte, or_true, true_or, or_false, false_or]); repeat (first | apply Cut.pair | exact Cut.head _ _ | apply Cut.tail)) (by repeat (first | exact Keeps.refl _ | apply Keeps.tail | apply Keeps.drop)))

theorem newBegin_use (k sq n ps mr : Int) (self : Bool) (d : ByteArray) (hb : a.few ≤ 70000) (hs : Sat E H w) (c : Cut H (actP ba bc g a) R) (hk : ∀ g' w', Sat E (R * actP ba bc g' (a.newBegin ⟨k, sq, n, ps, mr, self, d⟩)) w' → Q (.returned (.tuple #[])) w') :
    Calls Try.prog 88 #[.pointer (some ⟨ba, 0, none⟩), .agg #[.int .i64 k, .int .i64 sq, .int .u32 n, .int .u32 ps, .int .u32 mr, .slice none 0 0, .bool self, .string d]] w Q := by
  replace hs := act_open (hs.cut c)
  refine f_enter Try.func88 rfl rfl ?_
  show Code.wp _ _ _ (Fr _) _
  refine wp_seq_k (fun K1 hK1 => ?_)
  refine c_region ?_
  refine s_ex (r_box rfl rfl rfl hs) rfl rfl (fun _ => by rfl) ?_
  intro b2 w hs
  refine s_nil ?_
  refine hK1 _ _ ?_
  refine wp_seq_k (fun K3 hK3 => ?_)
  refine c_region ?_
  refine sVal (r_move rfl rfl) ?_
  refine sVal (r_loadA rfl rfl (ag85 _) hs.own in85 sz85 (by rfl)) ?_
  refine s_enter (r_call rfl ent106 rfl) rfl ?_
  refine heard_use (a := (a)) _ _ _ _ _ _ _ (act_close g ((a)) hs (by (try simp only [mkS, mkU, noS, Bool.true_or, Bool.false_or, Bool.or_true, Bool.or_false, ↓reduceIte, or_true, true_or, or_false, false_or]); (repeat (first | apply Cut.pair | exact Cut.head _ _ | apply Cut.tail)); done) (by repeat (first | exact Keeps.refl _ | apply Keeps.tail | apply Keeps.drop))) (Cut.head _ _) ?_
  intro g w hs
  replace hs := act_open hs
  refine ⟨_, rfl, a_put (by rfl) ?_⟩
  refine s_nil ?_
  refine hK3 _ _ ?_
  refine wp_seq_k (fun K4 hK4 => ?_)
  refine c_region ?_
  refine sVal (r_field rfl rfl of85_7) ?_
  refine sVal (r_load rfl rfl (ag9 _) hs.own (by rfl)) ?_
  refine sVal (r_build rfl rfl pl93 zr93 (by rfl)) ?_
  refine s_ex (r_alloc rfl zr93 hs) rfl rfl (fun _ => by rfl) ?_
  intro b5 w hs
  refine s_exS (r_storeA rfl rfl rfl hs (by (repeat (first | exact Cut.head _ _ | apply Cut.tail)); done) in93 sz93 rfl (fun h => by cases h) rfl (by rfl)) rfl rfl ?_
  intro w hs
  refine s_nil ?_
  refine hK4 _ _ ?_
  refine wp_seq_k (fun K6 hK6 => ?_)
  refine wp_seq_k (fun K7 hK7 => ?_)
  refine c_region ?_
  refine sVal (r_move rfl rfl) ?_
  refine sVal (r_nil rfl rfl) ?_
  refine sVal (r_field rfl rfl of121_0) ?_
  refine sVal (r_load rfl rfl (ag58 _) hs.own (by rfl)) ?_
  refine sVal (r_nil rfl rfl) ?_
  refine sVal (r_field rfl rfl of108_1) ?_
  refine sVal (r_field rfl rfl of80_0) ?_
  refine sVal (r_load rfl rfl (ag3 _) hs.own (by rfl)) ?_
  refine s_nil ?_
  refine hK7 _ _ ?_
  refine wp_block ?_
  refine wp_seq_k (fun K8 hK8 => ?_)
  refine c_region ?_
  refine s_bool (r_cmp rfl rfl rfl rfl) rfl rfl (fun _ => by rfl) ?_
  intro c9 hc9
  refine sVal (r_assign rfl rfl) ?_
  refine s_nil ?_
  refine hK8 _ _ ?_
  cases c9
  case false =>
   replace hc9 := eqF hc9
   try dsimp only at hc9
   try simp only [heard_state] at hc9
   first
   | (exfalso; first | omega | (cases hc9; done))
   | (
     refine c_condF rfl ?_
     refine wp_seq_k (fun K10 hK10 => ?_)
     refine c_region ?_
     refine s_bool (r_cmp rfl rfl rfl rfl) rfl rfl (fun _ => by rfl) ?_
     intro c11 hc11
     refine sVal (r_assign rfl rfl) ?_
     refine s_nil ?_
     refine hK10 _ _ ?_
     cases c11
     case false =>
      replace hc11 := eqF hc11
      try dsimp only at hc11
      try simp only [heard_state] at hc11
      first
      | (exfalso; first | omega | (cases hc11; done))
      | (
        refine c_condF rfl ?_
        refine wp_seq_k (fun K12 hK12 => ?_)
        refine c_region ?_
        refine s_bool (r_cmp rfl rfl rfl rfl) rfl rfl (fun _ => by rfl) ?_
        intro c13 hc13
        refine sVal (r_assign rfl rfl) ?_
        refine s_nil ?_
        refine hK12 _ _ ?_
        cases c13
        case false =>
         replace hc13 := eqF hc13
         try dsimp only at hc13
         try simp only [heard_state] at hc13
         first
         | (exfalso; first | omega | (cases hc13; done))
         | (
           refine c_condF rfl ?_
           refine c_region ?_
           refine sVal (r_move rfl rfl) ?_
           refine sVal (r_build rfl rfl pl93 zr93 (by rfl)) ?_
           refine s_enter (r_call rfl ent72 rfl) rfl ?_
           refine tell_use (a := ((a.heard ⟨k, sq, n, ps, mr, self, d⟩))) _ _ _ _ _ (by simp only [few_to, few_stop, few_ready, few_heard, few_setMS, few_tell, few_out]; omega) (act_close g (((a.heard ⟨k, sq, n, ps, mr, self, d⟩))) hs (by (try simp only [mkS, mkU, noS, hc9, hc11, hc13, Bool.true_or, Bool.false_or, Bool.or_true, Bool.or_false, ↓reduceIte, or_true, true_or, or_false, false_or]); (repeat (first | apply Cut.pair | exact Cut.head _ _ | apply Cut.tail)); done) (by repeat (first | exact Keeps.refl _ | apply Keeps.tail | apply Keeps.drop))) (Cut.head _ _) ?_
           intro g w hs
           replace hs := act_open hs
           refine ⟨_, rfl, a_put (by rfl) ?_⟩
           refine s_nil ?_
           refine hK6 _ _ ?_
           refine wp_seq_k (fun K14 hK14 => ?_)
           refine c_region ?_
           refine sVal (r_move rfl rfl) ?_
           refine sVal (r_loadA rfl rfl (ag93 _) hs.own in93 sz93 (by rfl)) ?_
           refine s_enter (r_call rfl ent72 rfl) rfl ?_
           first
           | (refine tell_use (a := ((a.heard ⟨k, sq, n, ps, mr, self, d⟩).tell (mkS 4 false noS))) _ _ _ _ _ (by simp only [few_to, few_stop, few_ready, few_heard, few_setMS, few_tell, few_out]; omega) (act_close g (((a.heard ⟨k, sq, n, ps, mr, self, d⟩).tell (mkS 4 false noS))) hs (by (try simp only [mkS, mkU, noS, hc9, hc11, hc13, Bool.true_or, Bool.false_or, Bool.or_true, Bool.or_false, ↓reduceIte, or_true, true_or, or_false, false_or]); (repeat (first | apply Cut.pair | exact Cut.head _ _ | apply Cut.tail)); done) (by repeat (first | exact Keeps.refl _ | apply Keeps.tail | apply Keeps.drop))) (Cut.head _ _) ?_; intro g w hs; replace hs := act_open hs)
           | (refine tell_use (a := ((a.heard ⟨k, sq, n, ps, mr, self, d⟩).tell (mkS 3 false noS))) _ _ _ _ _ (by simp only [few_to, few_stop, few_ready, few_heard, few_setMS, few_tell, few_out]; omega) (act_close g (((a.heard ⟨k, sq, n, ps, mr, self, d⟩).tell (mkS 3 false noS))) hs (by (try simp only [mkS, mkU, noS, hc9, hc11, hc13, Bool.true_or, Bool.false_or, Bool.or_true, Bool.or_false, ↓reduceIte, or_true, true_or, or_false, false_or]); (repeat (first | apply Cut.pair | exact Cut.head _ _ | apply Cut.tail)); done) (by repeat (first | exact Keeps.refl _ | apply Keeps.tail | apply Keeps.drop))) (Cut.head _ _) ?_; intro g w hs; replace hs := act_open hs)
           try skip
           refine ⟨_, rfl, a_put (by rfl) ?_⟩
           refine s_nil ?_
           refine hK14 _ _ ?_
           refine c_region ?_
           refine sVal (r_move rfl rfl) ?_
           refine s_enter (r_call rfl ent73 rfl) rfl ?_
           first
           | (refine stop_use (a := (((a.heard ⟨k, sq, n, ps, mr, self, d⟩).tell (mkS 4 false noS)).tell (mkS 1 false d))) _ (act_close g ((((a.heard ⟨k, sq, n, ps, mr, self, d⟩).tell (mkS 4 false noS)).tell (mkS 1 false d))) hs (by (try simp only [mkS, mkU, noS, hc9, hc11, hc13, Bool.true_or, Bool.false_or, Bool.or_true, Bool.or_false, ↓reduceIte, or_true, true_or, or_false, false_or]); (repeat (first | apply Cut.pair | exact Cut.head _ _ | apply Cut.tail)); done) (by repeat (first | exact Keeps.refl _ | apply Keeps.tail | apply Keeps.drop))) (Cut.head _ _) ?_; intro g w hs; replace hs := act_open hs)
           | (refine stop_use (a := (((a.heard ⟨k, sq, n, ps, mr, self, d⟩).tell (mkS 3 false noS)).tell (mkS 1 false d))) _ (act_close g ((((a.heard ⟨k, sq, n, ps, mr, self, d⟩).tell (mkS 3 false noS)).tell (mkS 1 false d))) hs (by (try simp only [mkS, mkU, noS, hc9, hc11, hc13, Bool.true_or, Bool.false_or, Bool.or_true, Bool.or_false, ↓reduceIte, or_true, true_or, or_false, false_or]); (repeat (first | apply Cut.pair | exact Cut.head _ _ | apply Cut.tail)); done) (by repeat (first | exact Keeps.refl _ | apply Keeps.tail | apply Keeps.drop))) (Cut.head _ _) ?_; intro g w hs; replace hs := act_open hs)
           try skip
           refine ⟨_, rfl, a_put (by rfl) ?_⟩
           refine s_nil ?_
           refine f_end (rs := []) rfl .nil rfl ?_
           refine hk g _ (act_close g (a.newBegin ⟨k, sq, n, ps, mr, self, d⟩) hs (by (try simp only [As.newBegin, mkS, mkU, noS, hc9, hc11, hc13, Bool.true_or, Bool.false_or, Bool.or_true, Bool.or_false, ↓reduceIte, or_true, true_or, or_false, false_or]); repeat (first | apply Cut.pair | exact Cut.head _ _ | apply Cut.tail)) (by repeat (first | exact Keeps.refl _ | apply Keeps.tail | apply Keeps.drop))))
        case true =>
         replace hc13 := eqT hc13
         try dsimp only at hc13
         try simp only [heard_state] at hc13
         first
         | (exfalso; first | omega | (cases hc13; done))
         | (
           refine c_condT rfl ?_
           refine c_region ?_
           refine sVal (r_move rfl rfl) ?_
           refine sVal (r_build rfl rfl pl93 zr93 (by rfl)) ?_
           refine s_enter (r_call rfl ent72 rfl) rfl ?_
           refine tell_use (a := ((a.heard ⟨k, sq, n, ps, mr, self, d⟩))) _ _ _ _ _ (by simp only [few_to, few_stop, few_ready, few_heard, few_setMS, few_tell, few_out]; omega) (act_close g (((a.heard ⟨k, sq, n, ps, mr, self, d⟩))) hs (by (try simp only [mkS, mkU, noS, hc9, hc11, hc13, Bool.true_or, Bool.false_or, Bool.or_true, Bool.or_false, ↓reduceIte, or_true, true_or, or_false, false_or]); (repeat (first | apply Cut.pair | exact Cut.head _ _ | apply Cut.tail)); done) (by repeat (first | exact Keeps.refl _ | apply Keeps.tail | apply Keeps.drop))) (Cut.head _ _) ?_
           intro g w hs
           replace hs := act_open hs
           refine ⟨_, rfl, a_put (by rfl) ?_⟩
           refine s_nil ?_
           refine hK6 _ _ ?_
           refine wp_seq_k (fun K15 hK15 => ?_)
           refine c_region ?_
           refine sVal (r_move rfl rfl) ?_
           refine sVal (r_loadA rfl rfl (ag93 _) hs.own in93 sz93 (by rfl)) ?_
           refine s_enter (r_call rfl ent72 rfl) rfl ?_
           first
           | (refine tell_use (a := ((a.heard ⟨k, sq, n, ps, mr, self, d⟩).tell (mkS 4 false noS))) _ _ _ _ _ (by simp only [few_to, few_stop, few_ready, few_heard, few_setMS, few_tell, few_out]; omega) (act_close g (((a.heard ⟨k, sq, n, ps, mr, self, d⟩).tell (mkS 4 false noS))) hs (by (try simp only [mkS, mkU, noS, hc9, hc11, hc13, Bool.true_or, Bool.false_or, Bool.or_true, Bool.or_false, ↓reduceIte, or_true, true_or, or_false, false_or]); (repeat (first | apply Cut.pair | exact Cut.head _ _ | apply Cut.tail)); done) (by repeat (first | exact Keeps.refl _ | apply Keeps.tail | apply Keeps.drop))) (Cut.head _ _) ?_; intro g w hs; replace hs := act_open hs)
           | (refine tell_use (a := ((a.heard ⟨k, sq, n, ps, mr, self, d⟩).tell (mkS 3 false noS))) _ _ _ _ _ (by simp only [few_to, few_stop, few_ready, few_heard, few_setMS, few_tell, few_out]; omega) (act_close g (((a.heard ⟨k, sq, n, ps, mr, self, d⟩).tell (mkS 3 false noS))) hs (by (try simp only [mkS, mkU, noS, hc9, hc11, hc13, Bool.true_or, Bool.false_or, Bool.or_true, Bool.or_false, ↓reduceIte, or_true, true_or, or_false, false_or]); (repeat (first | apply Cut.pair | exact Cut.head _ _ | apply Cut.tail)); done) (by repeat (first | exact Keeps.refl _ | apply Keeps.tail | apply Keeps.drop))) (Cut.head _ _) ?_; intro g w hs; replace hs := act_open hs)
           try skip
           refine ⟨_, rfl, a_put (by rfl) ?_⟩
           refine s_nil ?_
           refine hK15 _ _ ?_
           refine c_region ?_
           refine sVal (r_move rfl rfl) ?_
           refine s_enter (r_call rfl ent73 rfl) rfl ?_
           first
           | (refine stop_use (a := (((a.heard ⟨k, sq, n, ps, mr, self, d⟩).tell (mkS 4 false noS)).tell (mkS 1 false d))) _ (act_close g ((((a.heard ⟨k, sq, n, ps, mr, self, d⟩).tell (mkS 4 false noS)).tell (mkS 1 false d))) hs (by (try simp only [mkS, mkU, noS, hc9, hc11, hc13, Bool.true_or, Bool.false_or, Bool.or_true, Bool.or_false, ↓reduceIte, or_true, true_or, or_false, false_or]); (repeat (first | apply Cut.pair | exact Cut.head _ _ | apply Cut.tail)); done) (by repeat (first | exact Keeps.refl _ | apply Keeps.tail | apply Keeps.drop))) (Cut.head _ _) ?_; intro g w hs; replace hs := act_open hs)
           | (refine stop_use (a := (((a.heard ⟨k, sq, n, ps, mr, self, d⟩).tell (mkS 3 false noS)).tell (mkS 1 false d))) _ (act_close g ((((a.heard ⟨k, sq, n, ps, mr, self, d⟩).tell (mkS 3 false noS)).tell (mkS 1 false d))) hs (by (try simp only [mkS, mkU, noS, hc9, hc11, hc13, Bool.true_or, Bool.false_or, Bool.or_true, Bool.or_false, ↓reduceIte, or_true, true_or, or_false, false_or]); (repeat (first | apply Cut.pair | exact Cut.head _ _ | apply Cut.tail)); done) (by repeat (first | exact Keeps.refl _ | apply Keeps.tail | apply Keeps.drop))) (Cut.head _ _) ?_; intro g w hs; replace hs := act_open hs)
           try skip
           refine ⟨_, rfl, a_put (by rfl) ?_⟩
           refine s_nil ?_
           refine f_end (rs := []) rfl .nil rfl ?_
           refine hk g _ (act_close g (a.newBegin ⟨k, sq, n, ps, mr, self, d⟩) hs (by (try simp only [As.newBegin, mkS, mkU, noS, hc9, hc11, hc13, Bool.true_or, Bool.false_or, Bool.or_true, Bool.or_false, ↓reduceIte, or_true, true_or, or_false, false_or]); repeat (first | apply Cut.pair | exact Cut.head _ _ | apply Cut.tail)) (by repeat (first | exact Keeps.refl _ | apply Keeps.tail | apply Keeps.drop)))))
     case true =>
      replace hc11 := eqT hc11
      try dsimp only at hc11
      try simp only [heard_state] at hc11
      first
      | (exfalso; first | omega | (cases hc11; done))
      | (
        refine c_condT rfl ?_
        refine wp_seq_k (fun K16 hK16 => ?_)
        refine c_region ?_
        refine sVal (r_move rfl rfl) ?_
        refine sVal (r_loadA rfl rfl (ag85 _) hs.own in85 sz85 (by rfl)) ?_
        refine s_ex (r_lit intC [_] rfl rfl rfl hs Try.underlying22 (by kernel_rfl) sz3 rfl (by decide) (fun _ => rfl)) rfl rfl (fun _ => by rfl) ?_
        intro b17 w hs
        refine s_enter (r_call rfl ent90 rfl) rfl ?_
        refine back_use (a := ((a.heard ⟨k, sq, n, ps, mr, self, d⟩))) _ _ _ _ _ _ _ _ [2] _ _ (by rw [few_heard]; omega) (by decide) (act_close g (((a.heard ⟨k, sq, n, ps, mr, self, d⟩))) hs (by (try simp only [mkS, mkU, noS, hc9, hc11, Bool.true_or, Bool.false_or, Bool.or_true, Bool.or_false, ↓reduceIte, or_true, true_or, or_false, false_or]); (repeat (first | apply Cut.pair | exact Cut.head _ _ | apply Cut.tail)); done) (by repeat (first | exact Keeps.refl _ | apply Keeps.tail | apply Keeps.drop))) (by (repeat (first | exact Cut.head _ _ | apply Cut.tail)); done) (Cut.head _ _) ?_
        intro g w hs
        replace hs := act_open hs
        refine ⟨_, rfl, a_put (by rfl) ?_⟩
        refine s_nil ?_
        refine hK16 _ _ ?_
        refine wp_seq_k (fun K18 hK18 => ?_)
        refine c_region ?_
        refine sVal (r_move rfl rfl) ?_
        refine sVal (r_build rfl rfl pl93 zr93 (by rfl)) ?_
        refine s_enter (r_call rfl ent72 rfl) rfl ?_
        refine tell_use (a := ((a.heard ⟨k, sq, n, ps, mr, self, d⟩).back ⟨k, sq, n, ps, mr, self, d⟩ 2 [2])) _ _ _ _ _ (by have := few_back ⟨k, sq, n, ps, mr, self, d⟩ 2 [2] (a.heard ⟨k, sq, n, ps, mr, self, d⟩); simp only [List.length_cons, List.length_nil, few_heard] at this; omega) (act_close g (((a.heard ⟨k, sq, n, ps, mr, self, d⟩).back ⟨k, sq, n, ps, mr, self, d⟩ 2 [2])) hs (by (try simp only [mkS, mkU, noS, hc9, hc11, Bool.true_or, Bool.false_or, Bool.or_true, Bool.or_false, ↓reduceIte, or_true, true_or, or_false, false_or]); (repeat (first | apply Cut.pair | exact Cut.head _ _ | apply Cut.tail)); done) (by repeat (first | exact Keeps.refl _ | apply Keeps.tail | apply Keeps.drop))) (Cut.head _ _) ?_
        intro g w hs
        replace hs := act_open hs
        refine ⟨_, rfl, a_put (by rfl) ?_⟩
        refine s_nil ?_
        refine hK18 _ _ ?_
        refine wp_seq_k (fun K19 hK19 => ?_)
        refine c_region ?_
        refine sVal (r_move rfl rfl) ?_
        refine s_enter (r_call rfl ent84 rfl) rfl ?_
        refine ready_use (a := ((a.heard ⟨k, sq, n, ps, mr, self, d⟩).back ⟨k, sq, n, ps, mr, self, d⟩ 2 [2]).tell (mkS 2 false noS)) (act_close g (((a.heard ⟨k, sq, n, ps, mr, self, d⟩).back ⟨k, sq, n, ps, mr, self, d⟩ 2 [2]).tell (mkS 2 false noS)) hs (by (try simp only [mkS, mkU, noS, hc9, hc11, Bool.true_or, Bool.false_or, Bool.or_true, Bool.or_false, ↓reduceIte, or_true, true_or, or_false, false_or]); (repeat (first | apply Cut.pair | exact Cut.head _ _ | apply Cut.tail)); done) (by repeat (first | exact Keeps.refl _ | apply Keeps.tail | apply Keeps.drop))) (Cut.head _ _) ?_
        intro g w hs
        replace hs := act_open hs
        refine ⟨_, rfl, a_put (by rfl) ?_⟩
        refine s_nil ?_
        refine hK19 _ _ ?_
        refine wp_ret ?_
        refine f_ret (rs := []) rfl .nil rfl ?_
        refine hk g _ (act_close g (a.newBegin ⟨k, sq, n, ps, mr, self, d⟩) hs (by (try simp only [As.newBegin, mkS, mkU, noS, hc9, hc11, Bool.true_or, Bool.false_or, Bool.or_true, Bool.or_false, ↓reduceIte, or_true, true_or, or_false, false_or]); repeat (first | apply Cut.pair | exact Cut.head _ _ | apply Cut.tail)) (by repeat (first | exact Keeps.refl _ | apply Keeps.tail | apply Keeps.drop)))))
  case true =>
   replace hc9 := eqT hc9
   try dsimp only at hc9
   try simp only [heard_state] at hc9
   first
   | (exfalso; first | omega | (cases hc9; done))
   | (
     refine c_condT rfl ?_
     refine wp_seq_k (fun K20 hK20 => ?_)
     refine c_region ?_
     refine sVal (r_move rfl rfl) ?_
     refine sVal (r_loadA rfl rfl (ag93 _) hs.own in93 sz93 (by rfl)) ?_
     refine s_enter (r_call rfl ent72 rfl) rfl ?_
     refine tell_use (a := ((a.heard ⟨k, sq, n, ps, mr, self, d⟩))) _ _ _ _ _ (by simp only [few_to, few_stop, few_ready, few_heard, few_setMS, few_tell, few_out]; omega) (act_close g (((a.heard ⟨k, sq, n, ps, mr, self, d⟩))) hs (by (try simp only [mkS, mkU, noS, hc9, Bool.true_or, Bool.false_or, Bool.or_true, Bool.or_false, ↓reduceIte, or_true, true_or, or_false, false_or]); (repeat (first | apply Cut.pair | exact Cut.head _ _ | apply Cut.tail)); done) (by repeat (first | exact Keeps.refl _ | apply Keeps.tail | apply Keeps.drop))) (Cut.head _ _) ?_
     intro g w hs
     replace hs := act_open hs
     refine ⟨_, rfl, a_put (by rfl) ?_⟩
     refine s_nil ?_
     refine hK20 _ _ ?_
     refine wp_seq_k (fun K21 hK21 => ?_)
     refine c_region ?_
     refine sVal (r_move rfl rfl) ?_
     refine s_enter (r_call rfl ent79 rfl) rfl ?_
     refine to_use (a := ((a.heard ⟨k, sq, n, ps, mr, self, d⟩).tell (mkS 1 false d))) _ (act_close g (((a.heard ⟨k, sq, n, ps, mr, self, d⟩).tell (mkS 1 false d))) hs (by (try simp only [mkS, mkU, noS, hc9, Bool.true_or, Bool.false_or, Bool.or_true, Bool.or_false, ↓reduceIte, or_true, true_or, or_false, false_or]); (repeat (first | apply Cut.pair | exact Cut.head _ _ | apply Cut.tail)); done) (by repeat (first | exact Keeps.refl _ | apply Keeps.tail | apply Keeps.drop))) (Cut.head _ _) ?_
     intro g w hs
     replace hs := act_open hs
     refine ⟨_, rfl, a_put (by rfl) ?_⟩
     refine s_nil ?_
     refine hK21 _ _ ?_
     refine wp_ret ?_
     refine f_ret (rs := []) rfl .nil rfl ?_
     refine hk g _ (act_close g (a.newBegin ⟨k, sq, n, ps, mr, self, d⟩) hs (by (try simp only [As.newBegin, mkS, mkU, noS, hc9, Bool.true_or, Bool.false_or, Bool.or_true, Bool.or_false, ↓reduceIte, or_true, true_or, or_false, false_or]); repeat (first | apply Cut.pair | exact Cut.head _ _ | apply Cut.tail)) (by repeat (first | exact Keeps.refl _ | apply Keeps.tail | apply Keeps.drop))))

end
end Go.Proofs.Ytoeaamohchpjdaa
