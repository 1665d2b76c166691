/-
  A connection: contracts of a call in the making: all units, all requests.
-/
import Derived.Test.YtoeaamohchpjdaaConn3
namespace Go.Proofs.Ytoeaamohchpjdaa
open Go Go.RowKit
set_option linter.unusedVariables false
set_option linter.unusedSimpArgs false
set_option maxRecDepth 100000
attribute [local irreducible] own fix oL rL osl rsl fact some' wpList wpHi wpPre wpAny After AfterH

section
variable {E : World} {H R : HP} {w : World} {Q : Ending → World → Prop} {ba bc : Nat} {g : Gh} {a : As}

theorem fin_use (k sq n ps mr : Int) (self : Bool) (d : ByteArray) (hb : a.few ≤ 70000) (hs : Sat E H w) (c : Cut H (actP ba bc g a) R) (hk : ∀ g' w', Sat E (R * actP ba bc g' (a.fin ⟨k, sq, n, ps, mr, self, d⟩)) w' → Q (.returned (.tuple #[])) w') :
    Calls Try.prog 89 #[.pointer (some ⟨ba, 0, none⟩), .agg #[.int .i64 k, .int .i64 sq, .int .u32 n, .int .u32 ps, .int .u32 mr, .slice none 0 0, .bool self, .string d]] w Q := by
  replace hs := act_open (hs.cut c)
  refine f_enter Try.func89 rfl rfl ?_
  show Code.wp _ _ _ (Fr _) _
  refine wp_seq_k (fun K1 hK1 => ?_)
  refine c_region ?_
  refine s_ex (r_box rfl rfl rfl hs) rfl rfl (fun _ => by rfl) ?_
  intro b2 w hs
  refine s_nil ?_
  refine hK1 _ _ ?_
  refine wp_seq_k (fun K3 hK3 => ?_)
  refine c_region ?_
  refine sVal (r_move rfl rfl) ?_
  refine sVal (r_field rfl rfl of85_1) ?_
  refine sVal (r_load rfl rfl (ag3 _) hs.own (by rfl)) ?_
  refine sVal (r_build rfl rfl pl85 zr85 (by rfl)) ?_
  refine s_enter (r_call rfl ent83 rfl) rfl ?_
  refine out_use (a := (a)) _ _ _ _ _ _ _ (by (try simp only [few_to, few_stop, few_ready, few_heard, few_setMS, few_tell, few_out]); omega) (act_close g ((a)) hs (by (try simp only [mkS, mkU, noS, Bool.true_or, Bool.false_or, Bool.or_true, Bool.or_false, ↓reduceIte, or_true, true_or, or_false, false_or]); (repeat (first | apply Cut.pair | exact Cut.head _ _ | apply Cut.tail)); done) (by repeat (first | exact Keeps.refl _ | apply Keeps.tail | apply Keeps.drop))) (Cut.head _ _) ?_
  intro g w hs
  replace hs := act_open hs
  refine ⟨_, rfl, a_put (by rfl) ?_⟩
  refine s_nil ?_
  refine hK3 _ _ ?_
  refine wp_seq_k (fun K4 hK4 => ?_)
  refine wp_seq_k (fun K5 hK5 => ?_)
  refine c_region ?_
  refine sVal (r_move rfl rfl) ?_
  refine sVal (r_nil rfl rfl) ?_
  refine sVal (r_field rfl rfl of121_0) ?_
  refine sVal (r_load rfl rfl (ag58 _) hs.own (by rfl)) ?_
  refine sVal (r_nil rfl rfl) ?_
  refine sVal (r_field rfl rfl of108_1) ?_
  refine sVal (r_field rfl rfl of80_0) ?_
  refine sVal (r_load rfl rfl (ag3 _) hs.own (by rfl)) ?_
  refine s_nil ?_
  refine hK5 _ _ ?_
  refine wp_block ?_
  refine wp_seq_k (fun K6 hK6 => ?_)
  refine c_region ?_
  refine s_bool (r_cmp rfl rfl rfl rfl) rfl rfl (fun _ => by rfl) ?_
  intro c7 hc7
  refine sVal (r_assign rfl rfl) ?_
  refine s_nil ?_
  refine hK6 _ _ ?_
  cases c7
  case false =>
   replace hc7 := eqF hc7
   try dsimp only at hc7
   try simp only [cn_out] at hc7
   first
   | (exfalso; first | omega | (cases hc7; done))
   | (
     refine c_condF rfl ?_
     refine wp_seq_k (fun K8 hK8 => ?_)
     refine c_region ?_
     refine s_bool (r_cmp rfl rfl rfl rfl) rfl rfl (fun _ => by rfl) ?_
     intro c9 hc9
     refine sVal (r_assign rfl rfl) ?_
     refine s_nil ?_
     refine hK8 _ _ ?_
     cases c9
     case false =>
      replace hc9 := eqF hc9
      try dsimp only at hc9
      try simp only [cn_out] at hc9
      first
      | (exfalso; first | omega | (cases hc9; done))
      | (
        refine c_condF rfl ?_
        refine c_region ?_
        refine sVal (r_move rfl rfl) ?_
        refine sVal (r_field rfl rfl of85_6) ?_
        refine s_bool (r_load rfl rfl (ag4 _) hs.own (by rfl)) rfl rfl (fun _ => by rfl) ?_
        intro c10 hc10
        refine sVal (r_field rfl rfl of85_7) ?_
        refine sVal (r_load rfl rfl (ag9 _) hs.own (by rfl)) ?_
        refine sVal (r_build rfl rfl pl93 zr93 (by rfl)) ?_
        refine s_enter (r_call rfl ent72 rfl) rfl ?_
        subst c10
        refine tell_use (a := (a.out (mkU 4 sq false noS))) _ _ _ _ _ (by (try simp only [few_to, few_stop, few_ready, few_heard, few_setMS, few_tell, few_out]); omega) (act_close g ((a.out (mkU 4 sq false noS))) hs (by (try simp only [mkS, mkU, noS, hc7, hc9, Bool.true_or, Bool.false_or, Bool.or_true, Bool.or_false, ↓reduceIte, or_true, true_or, or_false, false_or]); (repeat (first | apply Cut.pair | exact Cut.head _ _ | apply Cut.tail)); done) (by repeat (first | exact Keeps.refl _ | apply Keeps.tail | apply Keeps.drop))) (Cut.head _ _) ?_
        intro g w hs
        replace hs := act_open hs
        refine ⟨_, rfl, a_put (by rfl) ?_⟩
        refine s_nil ?_
        refine hK4 _ _ ?_
        refine c_region ?_
        refine sVal (r_move rfl rfl) ?_
        refine s_enter (r_call rfl ent73 rfl) rfl ?_
        first
        | (refine stop_use (a := ((a.out (mkU 4 sq false noS)).tell (mkS 4 false noS))) _ (act_close g (((a.out (mkU 4 sq false noS)).tell (mkS 4 false noS))) hs (by (try simp only [mkS, mkU, noS, hc7, hc9, Bool.true_or, Bool.false_or, Bool.or_true, Bool.or_false, ↓reduceIte, or_true, true_or, or_false, false_or]); (repeat (first | apply Cut.pair | exact Cut.head _ _ | apply Cut.tail)); done) (by repeat (first | exact Keeps.refl _ | apply Keeps.tail | apply Keeps.drop))) (Cut.head _ _) ?_; intro g w hs; replace hs := act_open hs)
        | (refine stop_use (a := ((a.out (mkU 4 sq false noS)).tell (mkS 3 self d))) _ (act_close g (((a.out (mkU 4 sq false noS)).tell (mkS 3 self d))) hs (by (try simp only [mkS, mkU, noS, hc7, hc9, Bool.true_or, Bool.false_or, Bool.or_true, Bool.or_false, ↓reduceIte, or_true, true_or, or_false, false_or]); (repeat (first | apply Cut.pair | exact Cut.head _ _ | apply Cut.tail)); done) (by repeat (first | exact Keeps.refl _ | apply Keeps.tail | apply Keeps.drop))) (Cut.head _ _) ?_; intro g w hs; replace hs := act_open hs)
        try skip
        refine ⟨_, rfl, a_put (by rfl) ?_⟩
        refine s_nil ?_
        refine f_end (rs := []) rfl .nil rfl ?_
        refine hk g _ (act_close g (a.fin ⟨k, sq, n, ps, mr, self, d⟩) hs (by (try simp only [As.fin, mkS, mkU, noS, hc7, hc9, Bool.true_or, Bool.false_or, Bool.or_true, Bool.or_false, ↓reduceIte, or_true, true_or, or_false, false_or]); repeat (first | apply Cut.pair | exact Cut.head _ _ | apply Cut.tail)) (by repeat (first | exact Keeps.refl _ | apply Keeps.tail | apply Keeps.drop))))
     case true =>
      replace hc9 := eqT hc9
      try dsimp only at hc9
      try simp only [cn_out] at hc9
      first
      | (exfalso; first | omega | (cases hc9; done))
      | (
        refine c_condT rfl ?_
        refine c_region ?_
        refine sVal (r_move rfl rfl) ?_
        refine sVal (r_build rfl rfl pl93 zr93 (by rfl)) ?_
        refine s_enter (r_call rfl ent72 rfl) rfl ?_
        refine tell_use (a := (a.out (mkU 4 sq false noS))) _ _ _ _ _ (by (try simp only [few_to, few_stop, few_ready, few_heard, few_setMS, few_tell, few_out]); omega) (act_close g ((a.out (mkU 4 sq false noS))) hs (by (try simp only [mkS, mkU, noS, hc7, hc9, Bool.true_or, Bool.false_or, Bool.or_true, Bool.or_false, ↓reduceIte, or_true, true_or, or_false, false_or]); (repeat (first | apply Cut.pair | exact Cut.head _ _ | apply Cut.tail)); done) (by repeat (first | exact Keeps.refl _ | apply Keeps.tail | apply Keeps.drop))) (Cut.head _ _) ?_
        intro g w hs
        replace hs := act_open hs
        refine ⟨_, rfl, a_put (by rfl) ?_⟩
        refine s_nil ?_
        refine hK4 _ _ ?_
        refine c_region ?_
        refine sVal (r_move rfl rfl) ?_
        refine s_enter (r_call rfl ent73 rfl) rfl ?_
        first
        | (refine stop_use (a := ((a.out (mkU 4 sq false noS)).tell (mkS 4 false noS))) _ (act_close g (((a.out (mkU 4 sq false noS)).tell (mkS 4 false noS))) hs (by (try simp only [mkS, mkU, noS, hc7, hc9, Bool.true_or, Bool.false_or, Bool.or_true, Bool.or_false, ↓reduceIte, or_true, true_or, or_false, false_or]); (repeat (first | apply Cut.pair | exact Cut.head _ _ | apply Cut.tail)); done) (by repeat (first | exact Keeps.refl _ | apply Keeps.tail | apply Keeps.drop))) (Cut.head _ _) ?_; intro g w hs; replace hs := act_open hs)
        | (refine stop_use (a := ((a.out (mkU 4 sq false noS)).tell (mkS 3 self d))) _ (act_close g (((a.out (mkU 4 sq false noS)).tell (mkS 3 self d))) hs (by (try simp only [mkS, mkU, noS, hc7, hc9, Bool.true_or, Bool.false_or, Bool.or_true, Bool.or_false, ↓reduceIte, or_true, true_or, or_false, false_or]); (repeat (first | apply Cut.pair | exact Cut.head _ _ | apply Cut.tail)); done) (by repeat (first | exact Keeps.refl _ | apply Keeps.tail | apply Keeps.drop))) (Cut.head _ _) ?_; intro g w hs; replace hs := act_open hs)
        try skip
        refine ⟨_, rfl, a_put (by rfl) ?_⟩
        refine s_nil ?_
        refine f_end (rs := []) rfl .nil rfl ?_
        refine hk g _ (act_close g (a.fin ⟨k, sq, n, ps, mr, self, d⟩) hs (by (try simp only [As.fin, mkS, mkU, noS, hc7, hc9, Bool.true_or, Bool.false_or, Bool.or_true, Bool.or_false, ↓reduceIte, or_true, true_or, or_false, false_or]); repeat (first | apply Cut.pair | exact Cut.head _ _ | apply Cut.tail)) (by repeat (first | exact Keeps.refl _ | apply Keeps.tail | apply Keeps.drop)))))
  case true =>
   replace hc7 := eqT hc7
   try dsimp only at hc7
   try simp only [cn_out] at hc7
   first
   | (exfalso; first | omega | (cases hc7; done))
   | (
     refine c_condT rfl ?_
     refine wp_ret ?_
     refine f_ret (rs := []) rfl .nil rfl ?_
     refine hk g _ (act_close g (a.fin ⟨k, sq, n, ps, mr, self, d⟩) hs (by (try simp only [As.fin, mkS, mkU, noS, hc7, Bool.true_or, Bool.false_or, Bool.or_true, Bool.or_false, ↓reduceIte, or_true, true_or, or_false, false_or]); repeat (first | apply Cut.pair | exact Cut.head _ _ | apply Cut.tail)) (by repeat (first | exact Keeps.refl _ | apply Keeps.tail | apply Keeps.drop))))

theorem resync_use (k sq n ps mr : Int) (self : Bool) (d : ByteArray) (hb : a.few ≤ 70000) (hs : Sat E H w) (c : Cut H (actP ba bc g a) R) (hk : ∀ g' w', Sat E (R * actP ba bc g' (a.resync ⟨k, sq, n, ps, mr, self, d⟩)) w' → Q (.returned (.tuple #[])) w') :
    Calls Try.prog 91 #[.pointer (some ⟨ba, 0, none⟩), .agg #[.int .i64 k, .int .i64 sq, .int .u32 n, .int .u32 ps, .int .u32 mr, .slice none 0 0, .bool self, .string d]] w Q := by
  replace hs := act_open (hs.cut c)
  refine f_enter Try.func91 rfl rfl ?_
  show Code.wp _ _ _ (Fr _) _
  refine wp_seq_k (fun K1 hK1 => ?_)
  refine c_region ?_
  refine s_ex (r_box rfl rfl rfl hs) rfl rfl (fun _ => by rfl) ?_
  intro b2 w hs
  refine s_nil ?_
  refine hK1 _ _ ?_
  refine wp_seq_k (fun K3 hK3 => ?_)
  refine c_region ?_
  refine sVal (r_move rfl rfl) ?_
  refine sVal (r_loadA rfl rfl (ag85 _) hs.own in85 sz85 (by rfl)) ?_
  refine s_enter (r_call rfl ent106 rfl) rfl ?_
  refine heard_use (a := (a)) _ _ _ _ _ _ _ (act_close g ((a)) hs (by (try simp only [mkS, mkU, noS, Bool.true_or, Bool.false_or, Bool.or_true, Bool.or_false, ↓reduceIte, or_true, true_or, or_false, false_or]); (repeat (first | apply Cut.pair | exact Cut.head _ _ | apply Cut.tail)); done) (by repeat (first | exact Keeps.refl _ | apply Keeps.tail | apply Keeps.drop))) (Cut.head _ _) ?_
  intro g w hs
  replace hs := act_open hs
  refine ⟨_, rfl, a_put (by rfl) ?_⟩
  refine s_nil ?_
  refine hK3 _ _ ?_
  refine wp_seq_k (fun K4 hK4 => ?_)
  refine c_region ?_
  refine sVal (r_move rfl rfl) ?_
  refine sVal (r_nil rfl rfl) ?_
  refine sVal (r_field rfl rfl of121_0) ?_
  refine sVal (r_load rfl rfl (ag58 _) hs.own (by rfl)) ?_
  refine sVal (r_nil rfl rfl) ?_
  refine sVal (r_field rfl rfl of108_1) ?_
  refine sVal (r_field rfl rfl of80_0) ?_
  refine sVal (r_load rfl rfl (ag3 _) hs.own (by rfl)) ?_
  refine s_nil ?_
  refine hK4 _ _ ?_
  refine wp_block ?_
  refine wp_seq_k (fun K5 hK5 => ?_)
  refine c_region ?_
  refine s_bool (r_cmp rfl rfl rfl rfl) rfl rfl (fun _ => by rfl) ?_
  intro c6 hc6
  refine sVal (r_assign rfl rfl) ?_
  refine s_nil ?_
  refine hK5 _ _ ?_
  cases c6
  case false =>
   replace hc6 := eqF hc6
   try dsimp only at hc6
   try simp only [heard_state] at hc6
   first
   | (exfalso; first | omega | (cases hc6; done))
   | (
     refine c_condF rfl ?_
     refine wp_seq_k (fun K7 hK7 => ?_)
     refine c_region ?_
     refine s_bool (r_cmp rfl rfl rfl rfl) rfl rfl (fun _ => by rfl) ?_
     intro c8 hc8
     refine sVal (r_assign rfl rfl) ?_
     refine s_nil ?_
     refine hK7 _ _ ?_
     cases c8
     case false =>
      replace hc8 := eqF hc8
      try dsimp only at hc8
      try simp only [heard_state] at hc8
      first
      | (exfalso; first | omega | (cases hc8; done))
      | (
        refine c_condF rfl ?_
        refine wp_seq_k (fun K9 hK9 => ?_)
        refine c_region ?_
        refine sVal (r_move rfl rfl) ?_
        refine sVal (r_field rfl rfl of85_7) ?_
        refine sVal (r_load rfl rfl (ag9 _) hs.own (by rfl)) ?_
        refine sVal (r_build rfl rfl pl93 zr93 (by rfl)) ?_
        refine s_enter (r_call rfl ent72 rfl) rfl ?_
        refine tell_use (a := ((a.heard ⟨k, sq, n, ps, mr, self, d⟩))) _ _ _ _ _ (by (try simp only [few_to, few_stop, few_ready, few_heard, few_setMS, few_tell, few_out]); omega) (act_close g (((a.heard ⟨k, sq, n, ps, mr, self, d⟩))) hs (by (try simp only [mkS, mkU, noS, hc6, hc8, Bool.true_or, Bool.false_or, Bool.or_true, Bool.or_false, ↓reduceIte, or_true, true_or, or_false, false_or]); (repeat (first | apply Cut.pair | exact Cut.head _ _ | apply Cut.tail)); done) (by repeat (first | exact Keeps.refl _ | apply Keeps.tail | apply Keeps.drop))) (Cut.head _ _) ?_
        intro g w hs
        replace hs := act_open hs
        refine ⟨_, rfl, a_put (by rfl) ?_⟩
        refine s_nil ?_
        refine hK9 _ _ ?_
        refine c_region ?_
        refine sVal (r_move rfl rfl) ?_
        refine s_enter (r_call rfl ent73 rfl) rfl ?_
        refine stop_use (a := ((a.heard ⟨k, sq, n, ps, mr, self, d⟩).tell (mkS 5 false d))) _ (act_close g (((a.heard ⟨k, sq, n, ps, mr, self, d⟩).tell (mkS 5 false d))) hs (by (try simp only [mkS, mkU, noS, hc6, hc8, Bool.true_or, Bool.false_or, Bool.or_true, Bool.or_false, ↓reduceIte, or_true, true_or, or_false, false_or]); (repeat (first | apply Cut.pair | exact Cut.head _ _ | apply Cut.tail)); done) (by repeat (first | exact Keeps.refl _ | apply Keeps.tail | apply Keeps.drop))) (Cut.head _ _) ?_
        intro g w hs
        replace hs := act_open hs
        refine ⟨_, rfl, a_put (by rfl) ?_⟩
        refine s_nil ?_
        refine f_end (rs := []) rfl .nil rfl ?_
        refine hk g _ (act_close g (a.resync ⟨k, sq, n, ps, mr, self, d⟩) hs (by (try simp only [As.resync, mkS, mkU, noS, hc6, hc8, Bool.true_or, Bool.false_or, Bool.or_true, Bool.or_false, ↓reduceIte, or_true, true_or, or_false, false_or]); repeat (first | apply Cut.pair | exact Cut.head _ _ | apply Cut.tail)) (by repeat (first | exact Keeps.refl _ | apply Keeps.tail | apply Keeps.drop))))
     case true =>
      replace hc8 := eqT hc8
      try dsimp only at hc8
      try simp only [heard_state] at hc8
      first
      | (exfalso; first | omega | (cases hc8; done))
      | (
        refine c_condT rfl ?_
        refine wp_skip ?_
        refine f_end (rs := []) rfl .nil rfl ?_
        refine hk g _ (act_close g (a.resync ⟨k, sq, n, ps, mr, self, d⟩) hs (by (try simp only [As.resync, mkS, mkU, noS, hc6, hc8, Bool.true_or, Bool.false_or, Bool.or_true, Bool.or_false, ↓reduceIte, or_true, true_or, or_false, false_or]); repeat (first | apply Cut.pair | exact Cut.head _ _ | apply Cut.tail)) (by repeat (first | exact Keeps.refl _ | apply Keeps.tail | apply Keeps.drop)))))
  case true =>
   replace hc6 := eqT hc6
   try dsimp only at hc6
   try simp only [heard_state] at hc6
   first
   | (exfalso; first | omega | (cases hc6; done))
   | (
     refine c_condT rfl ?_
     refine wp_seq_k (fun K10 hK10 => ?_)
     refine c_region ?_
     refine sVal (r_move rfl rfl) ?_
     refine sVal (r_field rfl rfl of85_1) ?_
     refine sVal (r_load rfl rfl (ag3 _) hs.own (by rfl)) ?_
     refine sVal (r_build rfl rfl pl85 zr85 (by rfl)) ?_
     refine s_enter (r_call rfl ent83 rfl) rfl ?_
     refine out_use (a := ((a.heard ⟨k, sq, n, ps, mr, self, d⟩))) _ _ _ _ _ _ _ (by (try simp only [few_to, few_stop, few_ready, few_heard, few_setMS, few_tell, few_out]); omega) (act_close g (((a.heard ⟨k, sq, n, ps, mr, self, d⟩))) hs (by (try simp only [mkS, mkU, noS, hc6, Bool.true_or, Bool.false_or, Bool.or_true, Bool.or_false, ↓reduceIte, or_true, true_or, or_false, false_or]); (repeat (first | apply Cut.pair | exact Cut.head _ _ | apply Cut.tail)); done) (by repeat (first | exact Keeps.refl _ | apply Keeps.tail | apply Keeps.drop))) (Cut.head _ _) ?_
     intro g w hs
     replace hs := act_open hs
     refine ⟨_, rfl, a_put (by rfl) ?_⟩
     refine s_nil ?_
     refine hK10 _ _ ?_
     refine wp_seq_k (fun K11 hK11 => ?_)
     refine c_region ?_
     refine sVal (r_move rfl rfl) ?_
     refine sVal (r_build rfl rfl pl93 zr93 (by rfl)) ?_
     refine s_enter (r_call rfl ent72 rfl) rfl ?_
     refine tell_use (a := ((a.heard ⟨k, sq, n, ps, mr, self, d⟩).out (mkU 6 sq false noS))) _ _ _ _ _ (by (try simp only [few_to, few_stop, few_ready, few_heard, few_setMS, few_tell, few_out]); omega) (act_close g (((a.heard ⟨k, sq, n, ps, mr, self, d⟩).out (mkU 6 sq false noS))) hs (by (try simp only [mkS, mkU, noS, hc6, Bool.true_or, Bool.false_or, Bool.or_true, Bool.or_false, ↓reduceIte, or_true, true_or, or_false, false_or]); (repeat (first | apply Cut.pair | exact Cut.head _ _ | apply Cut.tail)); done) (by repeat (first | exact Keeps.refl _ | apply Keeps.tail | apply Keeps.drop))) (Cut.head _ _) ?_
     intro g w hs
     replace hs := act_open hs
     refine ⟨_, rfl, a_put (by rfl) ?_⟩
     refine s_nil ?_
     refine hK11 _ _ ?_
     refine c_region ?_
     refine sVal (r_move rfl rfl) ?_
     refine s_enter (r_call rfl ent84 rfl) rfl ?_
     refine ready_use (a := (((a.heard ⟨k, sq, n, ps, mr, self, d⟩).out (mkU 6 sq false noS)).tell (mkS 6 false noS))) (act_close g ((((a.heard ⟨k, sq, n, ps, mr, self, d⟩).out (mkU 6 sq false noS)).tell (mkS 6 false noS))) hs (by (try simp only [mkS, mkU, noS, hc6, Bool.true_or, Bool.false_or, Bool.or_true, Bool.or_false, ↓reduceIte, or_true, true_or, or_false, false_or]); (repeat (first | apply Cut.pair | exact Cut.head _ _ | apply Cut.tail)); done) (by repeat (first | exact Keeps.refl _ | apply Keeps.tail | apply Keeps.drop))) (Cut.head _ _) ?_
     intro g w hs
     replace hs := act_open hs
     refine ⟨_, rfl, a_put (by rfl) ?_⟩
     refine s_nil ?_
     refine f_end (rs := []) rfl .nil rfl ?_
     refine hk g _ (act_close g (a.resync ⟨k, sq, n, ps, mr, self, d⟩) hs (by (try simp only [As.resync, mkS, mkU, noS, hc6, Bool.true_or, Bool.false_or, Bool.or_true, Bool.or_false, ↓reduceIte, or_true, true_or, or_false, false_or]); repeat (first | apply Cut.pair | exact Cut.head _ _ | apply Cut.tail)) (by repeat (first | exact Keeps.refl _ | apply Keeps.tail | apply Keeps.drop))))

theorem recover_use (k sq n ps mr : Int) (self : Bool) (d : ByteArray) (hb : a.few ≤ 70000) (hs : Sat E H w) (c : Cut H (actP ba bc g a) R) (hk : ∀ g' w', Sat E (R * actP ba bc g' (a.recover ⟨k, sq, n, ps, mr, self, d⟩)) w' → Q (.returned (.tuple #[])) w') :
    Calls Try.prog 92 #[.pointer (some ⟨ba, 0, none⟩), .agg #[.int .i64 k, .int .i64 sq, .int .u32 n, .int .u32 ps, .int .u32 mr, .slice none 0 0, .bool self, .string d]] w Q := by
  replace hs := act_open (hs.cut c)
  refine f_enter Try.func92 rfl rfl ?_
  show Code.wp _ _ _ (Fr _) _
  refine wp_seq_k (fun K1 hK1 => ?_)
  refine c_region ?_
  refine s_ex (r_box rfl rfl rfl hs) rfl rfl (fun _ => by rfl) ?_
  intro b2 w hs
  refine s_nil ?_
  refine hK1 _ _ ?_
  refine wp_seq_k (fun K3 hK3 => ?_)
  refine c_region ?_
  refine sVal (r_move rfl rfl) ?_
  refine sVal (r_loadA rfl rfl (ag85 _) hs.own in85 sz85 (by rfl)) ?_
  refine s_enter (r_call rfl ent106 rfl) rfl ?_
  refine heard_use (a := (a)) _ _ _ _ _ _ _ (act_close g ((a)) hs (by (try simp only [mkS, mkU, noS, Bool.true_or, Bool.false_or, Bool.or_true, Bool.or_false, ↓reduceIte, or_true, true_or, or_false, false_or]); (repeat (first | apply Cut.pair | exact Cut.head _ _ | apply Cut.tail)); done) (by repeat (first | exact Keeps.refl _ | apply Keeps.tail | apply Keeps.drop))) (Cut.head _ _) ?_
  intro g w hs
  replace hs := act_open hs
  refine ⟨_, rfl, a_put (by rfl) ?_⟩
  refine s_nil ?_
  refine hK3 _ _ ?_
  refine wp_seq_k (fun K4 hK4 => ?_)
  refine c_region ?_
  refine sVal (r_move rfl rfl) ?_
  refine sVal (r_loadA rfl rfl (ag85 _) hs.own in85 sz85 (by rfl)) ?_
  refine s_ex (r_lit intC [_, _] rfl rfl rfl hs Try.underlying22 (by kernel_rfl) sz3 rfl (by decide) (fun _ => rfl)) rfl rfl (fun _ => by rfl) ?_
  intro b5 w hs
  refine s_enter (r_call rfl ent90 rfl) rfl ?_
  refine back_use (a := ((a.heard ⟨k, sq, n, ps, mr, self, d⟩))) _ _ _ _ _ _ _ _ [7, 8] _ _ (by rw [few_heard]; omega) (by decide) (act_close g (((a.heard ⟨k, sq, n, ps, mr, self, d⟩))) hs (by (try simp only [mkS, mkU, noS, Bool.true_or, Bool.false_or, Bool.or_true, Bool.or_false, ↓reduceIte, or_true, true_or, or_false, false_or]); (repeat (first | apply Cut.pair | exact Cut.head _ _ | apply Cut.tail)); done) (by repeat (first | exact Keeps.refl _ | apply Keeps.tail | apply Keeps.drop))) (by (repeat (first | exact Cut.head _ _ | apply Cut.tail)); done) (Cut.head _ _) ?_
  intro g w hs
  replace hs := act_open hs
  refine ⟨_, rfl, a_put (by rfl) ?_⟩
  refine s_nil ?_
  refine hK4 _ _ ?_
  refine wp_seq_k (fun K6 hK6 => ?_)
  refine c_region ?_
  refine sVal (r_move rfl rfl) ?_
  refine sVal (r_nil rfl rfl) ?_
  refine sVal (r_field rfl rfl of121_0) ?_
  refine sVal (r_load rfl rfl (ag58 _) hs.own (by rfl)) ?_
  refine sVal (r_nil rfl rfl) ?_
  refine sVal (r_field rfl rfl of108_1) ?_
  refine sVal (r_field rfl rfl of80_0) ?_
  refine sVal (r_load rfl rfl (ag3 _) hs.own (by rfl)) ?_
  refine s_nil ?_
  refine hK6 _ _ ?_
  refine wp_block ?_
  refine wp_seq_k (fun K7 hK7 => ?_)
  refine c_region ?_
  refine s_bool (r_cmp rfl rfl rfl rfl) rfl rfl (fun _ => by rfl) ?_
  intro c8 hc8
  refine sVal (r_assign rfl rfl) ?_
  refine s_nil ?_
  refine hK7 _ _ ?_
  cases c8
  case false =>
   replace hc8 := eqF hc8
   try dsimp only at hc8
   try simp only [cn_back, heard_state] at hc8
   first
   | (exfalso; first | omega | (cases hc8; done))
   | (
     refine c_condF rfl ?_
     refine wp_seq_k (fun K9 hK9 => ?_)
     refine c_region ?_
     refine s_bool (r_cmp rfl rfl rfl rfl) rfl rfl (fun _ => by rfl) ?_
     intro c10 hc10
     refine sVal (r_assign rfl rfl) ?_
     refine s_nil ?_
     refine hK9 _ _ ?_
     cases c10
     case false =>
      replace hc10 := eqF hc10
      try dsimp only at hc10
      try simp only [cn_back, heard_state] at hc10
      first
      | (exfalso; first | omega | (cases hc10; done))
      | (
        refine c_condF rfl ?_
        refine wp_skip ?_
        refine f_end (rs := []) rfl .nil rfl ?_
        refine hk g _ (act_close g (a.recover ⟨k, sq, n, ps, mr, self, d⟩) hs (by (try simp only [As.recover, mkS, mkU, noS, hc8, hc10, Bool.true_or, Bool.false_or, Bool.or_true, Bool.or_false, ↓reduceIte, or_true, true_or, or_false, false_or]); repeat (first | apply Cut.pair | exact Cut.head _ _ | apply Cut.tail)) (by repeat (first | exact Keeps.refl _ | apply Keeps.tail | apply Keeps.drop))))
     case true =>
      replace hc10 := eqT hc10
      try dsimp only at hc10
      try simp only [cn_back, heard_state] at hc10
      first
      | (exfalso; first | omega | (cases hc10; done))
      | (
        refine c_condT rfl ?_
        refine wp_seq_k (fun K11 hK11 => ?_)
        refine c_region ?_
        refine sVal (r_move rfl rfl) ?_
        refine sVal (r_build rfl rfl pl93 zr93 (by rfl)) ?_
        refine s_enter (r_call rfl ent72 rfl) rfl ?_
        refine tell_use (a := ((a.heard ⟨k, sq, n, ps, mr, self, d⟩).back ⟨k, sq, n, ps, mr, self, d⟩ 15 [7, 8])) _ _ _ _ _ (by have := few_back ⟨k, sq, n, ps, mr, self, d⟩ 15 [7, 8] (a.heard ⟨k, sq, n, ps, mr, self, d⟩); simp only [List.length_cons, List.length_nil, few_heard] at this; omega) (act_close g (((a.heard ⟨k, sq, n, ps, mr, self, d⟩).back ⟨k, sq, n, ps, mr, self, d⟩ 15 [7, 8])) hs (by (try simp only [mkS, mkU, noS, hc8, hc10, Bool.true_or, Bool.false_or, Bool.or_true, Bool.or_false, ↓reduceIte, or_true, true_or, or_false, false_or]); (repeat (first | apply Cut.pair | exact Cut.head _ _ | apply Cut.tail)); done) (by repeat (first | exact Keeps.refl _ | apply Keeps.tail | apply Keeps.drop))) (Cut.head _ _) ?_
        intro g w hs
        replace hs := act_open hs
        refine ⟨_, rfl, a_put (by rfl) ?_⟩
        refine s_nil ?_
        refine hK11 _ _ ?_
        refine c_region ?_
        refine sVal (r_move rfl rfl) ?_
        refine s_enter (r_call rfl ent79 rfl) rfl ?_
        refine to_use (a := (((a.heard ⟨k, sq, n, ps, mr, self, d⟩).back ⟨k, sq, n, ps, mr, self, d⟩ 15 [7, 8]).tell (mkS 7 false noS))) _ (act_close g ((((a.heard ⟨k, sq, n, ps, mr, self, d⟩).back ⟨k, sq, n, ps, mr, self, d⟩ 15 [7, 8]).tell (mkS 7 false noS))) hs (by (try simp only [mkS, mkU, noS, hc8, hc10, Bool.true_or, Bool.false_or, Bool.or_true, Bool.or_false, ↓reduceIte, or_true, true_or, or_false, false_or]); (repeat (first | apply Cut.pair | exact Cut.head _ _ | apply Cut.tail)); done) (by repeat (first | exact Keeps.refl _ | apply Keeps.tail | apply Keeps.drop))) (Cut.head _ _) ?_
        intro g w hs
        replace hs := act_open hs
        refine ⟨_, rfl, a_put (by rfl) ?_⟩
        refine s_nil ?_
        refine f_end (rs := []) rfl .nil rfl ?_
        refine hk g _ (act_close g (a.recover ⟨k, sq, n, ps, mr, self, d⟩) hs (by (try simp only [As.recover, mkS, mkU, noS, hc8, hc10, Bool.true_or, Bool.false_or, Bool.or_true, Bool.or_false, ↓reduceIte, or_true, true_or, or_false, false_or]); repeat (first | apply Cut.pair | exact Cut.head _ _ | apply Cut.tail)) (by repeat (first | exact Keeps.refl _ | apply Keeps.tail | apply Keeps.drop)))))
  case true =>
   replace hc8 := eqT hc8
   try dsimp only at hc8
   try simp only [cn_back, heard_state] at hc8
   first
   | (exfalso; first | omega | (cases hc8; done))
   | (
     refine c_condT rfl ?_
     refine wp_seq_k (fun K12 hK12 => ?_)
     refine c_region ?_
     refine sVal (r_move rfl rfl) ?_
     refine sVal (r_build rfl rfl pl93 zr93 (by rfl)) ?_
     refine s_enter (r_call rfl ent72 rfl) rfl ?_
     refine tell_use (a := ((a.heard ⟨k, sq, n, ps, mr, self, d⟩).back ⟨k, sq, n, ps, mr, self, d⟩ 15 [7, 8])) _ _ _ _ _ (by have := few_back ⟨k, sq, n, ps, mr, self, d⟩ 15 [7, 8] (a.heard ⟨k, sq, n, ps, mr, self, d⟩); simp only [List.length_cons, List.length_nil, few_heard] at this; omega) (act_close g (((a.heard ⟨k, sq, n, ps, mr, self, d⟩).back ⟨k, sq, n, ps, mr, self, d⟩ 15 [7, 8])) hs (by (try simp only [mkS, mkU, noS, hc8, Bool.true_or, Bool.false_or, Bool.or_true, Bool.or_false, ↓reduceIte, or_true, true_or, or_false, false_or]); (repeat (first | apply Cut.pair | exact Cut.head _ _ | apply Cut.tail)); done) (by repeat (first | exact Keeps.refl _ | apply Keeps.tail | apply Keeps.drop))) (Cut.head _ _) ?_
     intro g w hs
     replace hs := act_open hs
     refine ⟨_, rfl, a_put (by rfl) ?_⟩
     refine s_nil ?_
     refine hK12 _ _ ?_
     refine c_region ?_
     refine sVal (r_move rfl rfl) ?_
     refine s_enter (r_call rfl ent73 rfl) rfl ?_
     refine stop_use (a := (((a.heard ⟨k, sq, n, ps, mr, self, d⟩).back ⟨k, sq, n, ps, mr, self, d⟩ 15 [7, 8]).tell (mkS 7 false noS))) _ (act_close g ((((a.heard ⟨k, sq, n, ps, mr, self, d⟩).back ⟨k, sq, n, ps, mr, self, d⟩ 15 [7, 8]).tell (mkS 7 false noS))) hs (by (try simp only [mkS, mkU, noS, hc8, Bool.true_or, Bool.false_or, Bool.or_true, Bool.or_false, ↓reduceIte, or_true, true_or, or_false, false_or]); (repeat (first | apply Cut.pair | exact Cut.head _ _ | apply Cut.tail)); done) (by repeat (first | exact Keeps.refl _ | apply Keeps.tail | apply Keeps.drop))) (Cut.head _ _) ?_
     intro g w hs
     replace hs := act_open hs
     refine ⟨_, rfl, a_put (by rfl) ?_⟩
     refine s_nil ?_
     refine f_end (rs := []) rfl .nil rfl ?_
     refine hk g _ (act_close g (a.recover ⟨k, sq, n, ps, mr, self, d⟩) hs (by (try simp only [As.recover, mkS, mkU, noS, hc8, Bool.true_or, Bool.false_or, Bool.or_true, Bool.or_false, ↓reduceIte, or_true, true_or, or_false, false_or]); repeat (first | apply Cut.pair | exact Cut.head _ _ | apply Cut.tail)) (by repeat (first | exact Keeps.refl _ | apply Keeps.tail | apply Keeps.drop))))

theorem answer_use (k sq n ps mr : Int) (self : Bool) (d : ByteArray) (hb : a.few ≤ 70000) (hs : Sat E H w) (c : Cut H (actP ba bc g a) R) (hk : ∀ g' w', Sat E (R * actP ba bc g' (a.answer ⟨k, sq, n, ps, mr, self, d⟩)) w' → Q (.returned (.tuple #[])) w') :
    Calls Try.prog 93 #[.pointer (some ⟨ba, 0, none⟩), .agg #[.int .i64 k, .int .i64 sq, .int .u32 n, .int .u32 ps, .int .u32 mr, .slice none 0 0, .bool self, .string d]] w Q := by
  replace hs := act_open (hs.cut c)
  refine f_enter Try.func93 rfl rfl ?_
  show Code.wp _ _ _ (Fr _) _
  refine wp_seq_k (fun K1 hK1 => ?_)
  refine c_region ?_
  refine s_ex (r_box rfl rfl rfl hs) rfl rfl (fun _ => by rfl) ?_
  intro b2 w hs
  refine s_nil ?_
  refine hK1 _ _ ?_
  refine wp_seq_k (fun K3 hK3 => ?_)
  refine c_region ?_
  refine sVal (r_field rfl rfl of85_0) ?_
  refine sVal (r_load rfl rfl (ag3 _) hs.own (by rfl)) ?_
  refine s_nil ?_
  refine hK3 _ _ ?_
  refine wp_block ?_
  refine wp_seq_k (fun K4 hK4 => ?_)
  refine c_region ?_
  refine s_bool (r_cmp rfl rfl rfl rfl) rfl rfl (fun _ => by rfl) ?_
  intro c5 hc5
  refine sVal (r_assign rfl rfl) ?_
  refine s_nil ?_
  refine hK4 _ _ ?_
  cases c5
  case false =>
   replace hc5 := eqF hc5
   try dsimp only at hc5
   first
   | (exfalso; first | omega | (cases hc5; done))
   | (
     refine c_condF rfl ?_
     refine wp_seq_k (fun K6 hK6 => ?_)
     refine c_region ?_
     refine s_bool (r_cmp rfl rfl rfl rfl) rfl rfl (fun _ => by rfl) ?_
     intro c7 hc7
     refine sVal (r_assign rfl rfl) ?_
     refine s_nil ?_
     refine hK6 _ _ ?_
     cases c7
     case false =>
      replace hc7 := eqF hc7
      try dsimp only at hc7
      first
      | (exfalso; first | omega | (cases hc7; done))
      | (
        refine c_condF rfl ?_
        refine wp_seq_k (fun K8 hK8 => ?_)
        refine c_region ?_
        refine s_bool (r_cmp rfl rfl rfl rfl) rfl rfl (fun _ => by rfl) ?_
        intro c9 hc9
        refine sVal (r_assign rfl rfl) ?_
        refine s_nil ?_
        refine hK8 _ _ ?_
        cases c9
        case false =>
         replace hc9 := eqF hc9
         try dsimp only at hc9
         first
         | (exfalso; first | omega | (cases hc9; done))
         | (
           refine c_condF rfl ?_
           refine wp_seq_k (fun K10 hK10 => ?_)
           refine wp_seq_k (fun K11 hK11 => ?_)
           refine c_region ?_
           refine s_bool (r_cmp rfl rfl rfl rfl) rfl rfl (fun _ => by rfl) ?_
           intro c12 hc12
           refine sVal (r_assign rfl rfl) ?_
           refine s_nil ?_
           refine hK11 _ _ ?_
           cases c12
           case false =>
            replace hc12 := eqF hc12
            try dsimp only at hc12
            first
            | (exfalso; first | omega | (cases hc12; done))
            | (
              refine c_condF rfl ?_
              refine c_region ?_
              refine s_bool (r_cmp rfl rfl rfl rfl) rfl rfl (fun _ => by rfl) ?_
              intro c13 hc13
              refine sVal (r_assign rfl rfl) ?_
              refine s_nil ?_
              refine hK10 _ _ ?_
              cases c13
              case false =>
               replace hc13 := eqF hc13
               try dsimp only at hc13
               first
               | (exfalso; first | omega | (cases hc13; done))
               | (
                 refine c_condF rfl ?_
                 refine wp_skip ?_
                 refine f_end (rs := []) rfl .nil rfl ?_
                 refine hk g _ (act_close g (a.answer ⟨k, sq, n, ps, mr, self, d⟩) hs (by (try simp only [As.answer, As.setMS, mkS, mkU, noS, hc5, hc7, hc9, hc12, hc13, Bool.true_or, Bool.false_or, Bool.or_true, Bool.or_false, ↓reduceIte, or_true, true_or, or_false, false_or]); repeat (first | apply Cut.pair | exact Cut.head _ _ | apply Cut.tail)) (by repeat (first | exact Keeps.refl _ | apply Keeps.tail | apply Keeps.drop))))
              case true =>
               replace hc13 := eqT hc13
               try dsimp only at hc13
               first
               | (exfalso; first | omega | (cases hc13; done))
               | (
                 refine c_condT rfl ?_
                 refine wp_seq_k (fun K14 hK14 => ?_)
                 refine c_region ?_
                 refine sVal (r_build rfl rfl pl93 zr93 (by rfl)) ?_
                 refine s_ex (r_alloc rfl zr93 hs) rfl rfl (fun _ => by rfl) ?_
                 intro b15 w hs
                 refine s_exS (r_storeA rfl rfl rfl hs (by (repeat (first | exact Cut.head _ _ | apply Cut.tail)); done) in93 sz93 rfl (fun h => by cases h) rfl (by rfl)) rfl rfl ?_
                 intro w hs
                 refine s_nil ?_
                 refine hK14 _ _ ?_
                 refine wp_seq_k (fun K16 hK16 => ?_)
                 refine wp_seq_k (fun K17 hK17 => ?_)
                 refine c_region ?_
                 refine sVal (r_move rfl rfl) ?_
                 refine sVal (r_nil rfl rfl) ?_
                 refine sVal (r_field rfl rfl of121_0) ?_
                 refine sVal (r_load rfl rfl (ag58 _) hs.own (by rfl)) ?_
                 refine sVal (r_nil rfl rfl) ?_
                 refine sVal (r_field rfl rfl of108_1) ?_
                 refine sVal (r_field rfl rfl of80_0) ?_
                 refine sVal (r_load rfl rfl (ag3 _) hs.own (by rfl)) ?_
                 refine s_bool (r_cmp rfl rfl rfl rfl) rfl rfl (fun _ => by rfl) ?_
                 intro c18 hc18
                 refine s_nil ?_
                 refine hK17 _ _ ?_
                 cases c18
                 case false =>
                  replace hc18 := eqF hc18
                  try dsimp only at hc18
                  first
                  | (exfalso; first | omega | (cases hc18; done))
                  | (
                    refine c_condF rfl ?_
                    refine wp_skip ?_
                    refine hK16 _ _ ?_
                    refine wp_seq_k (fun K19 hK19 => ?_)
                    refine c_region ?_
                    refine sVal (r_move rfl rfl) ?_
                    refine sVal (r_loadA rfl rfl (ag93 _) hs.own in93 sz93 (by rfl)) ?_
                    refine s_enter (r_call rfl ent72 rfl) rfl ?_
                    refine tell_use (a := (a)) _ _ _ _ _ (by (try simp only [few_to, few_stop, few_ready, few_heard, few_setMS, few_tell, few_out]); omega) (act_close g ((a)) hs (by (try simp only [As.setMS, mkS, mkU, noS, hc5, hc7, hc9, hc12, hc13, hc18, Bool.true_or, Bool.false_or, Bool.or_true, Bool.or_false, ↓reduceIte, or_true, true_or, or_false, false_or]); (repeat (first | apply Cut.pair | exact Cut.head _ _ | apply Cut.tail)); done) (by repeat (first | exact Keeps.refl _ | apply Keeps.tail | apply Keeps.drop))) (Cut.head _ _) ?_
                    intro g w hs
                    replace hs := act_open hs
                    refine ⟨_, rfl, a_put (by rfl) ?_⟩
                    refine s_nil ?_
                    refine hK19 _ _ ?_
                    refine c_region ?_
                    refine sVal (r_move rfl rfl) ?_
                    refine s_enter (r_call rfl ent73 rfl) rfl ?_
                    first
                    | (refine stop_use (a := (a.tell (mkS 4 false noS))) _ (act_close g ((a.tell (mkS 4 false noS))) hs (by (try simp only [As.setMS, mkS, mkU, noS, hc5, hc7, hc9, hc12, hc13, hc18, Bool.true_or, Bool.false_or, Bool.or_true, Bool.or_false, ↓reduceIte, or_true, true_or, or_false, false_or]); (repeat (first | apply Cut.pair | exact Cut.head _ _ | apply Cut.tail)); done) (by repeat (first | exact Keeps.refl _ | apply Keeps.tail | apply Keeps.drop))) (Cut.head _ _) ?_; intro g w hs; replace hs := act_open hs)
                    | (refine stop_use (a := (a.tell (mkS 3 false d))) _ (act_close g ((a.tell (mkS 3 false d))) hs (by (try simp only [As.setMS, mkS, mkU, noS, hc5, hc7, hc9, hc12, hc13, hc18, Bool.true_or, Bool.false_or, Bool.or_true, Bool.or_false, ↓reduceIte, or_true, true_or, or_false, false_or]); (repeat (first | apply Cut.pair | exact Cut.head _ _ | apply Cut.tail)); done) (by repeat (first | exact Keeps.refl _ | apply Keeps.tail | apply Keeps.drop))) (Cut.head _ _) ?_; intro g w hs; replace hs := act_open hs)
                    try skip
                    refine ⟨_, rfl, a_put (by rfl) ?_⟩
                    refine s_nil ?_
                    refine f_end (rs := []) rfl .nil rfl ?_
                    refine hk g _ (act_close g (a.answer ⟨k, sq, n, ps, mr, self, d⟩) hs (by (try simp only [As.answer, As.setMS, mkS, mkU, noS, hc5, hc7, hc9, hc12, hc13, hc18, Bool.true_or, Bool.false_or, Bool.or_true, Bool.or_false, ↓reduceIte, or_true, true_or, or_false, false_or]); repeat (first | apply Cut.pair | exact Cut.head _ _ | apply Cut.tail)) (by repeat (first | exact Keeps.refl _ | apply Keeps.tail | apply Keeps.drop))))
                 case true =>
                  replace hc18 := eqT hc18
                  try dsimp only at hc18
                  first
                  | (exfalso; first | omega | (cases hc18; done))
                  | (
                    refine c_condT rfl ?_
                    refine c_region ?_
                    refine sVal (r_field rfl rfl of85_7) ?_
                    refine sVal (r_load rfl rfl (ag9 _) hs.own (by rfl)) ?_
                    refine sVal (r_build rfl rfl pl93 zr93 (by rfl)) ?_
                    refine s_exS (r_storeA rfl rfl rfl hs (by (repeat (first | exact Cut.head _ _ | apply Cut.tail)); done) in93 sz93 rfl (fun h => by cases h) rfl (by rfl)) rfl rfl ?_
                    intro w hs
                    refine s_nil ?_
                    refine hK16 _ _ ?_
                    refine wp_seq_k (fun K20 hK20 => ?_)
                    refine c_region ?_
                    refine sVal (r_move rfl rfl) ?_
                    refine sVal (r_loadA rfl rfl (ag93 _) hs.own in93 sz93 (by rfl)) ?_
                    refine s_enter (r_call rfl ent72 rfl) rfl ?_
                    refine tell_use (a := (a)) _ _ _ _ _ (by (try simp only [few_to, few_stop, few_ready, few_heard, few_setMS, few_tell, few_out]); omega) (act_close g ((a)) hs (by (try simp only [As.setMS, mkS, mkU, noS, hc5, hc7, hc9, hc12, hc13, hc18, Bool.true_or, Bool.false_or, Bool.or_true, Bool.or_false, ↓reduceIte, or_true, true_or, or_false, false_or]); (repeat (first | apply Cut.pair | exact Cut.head _ _ | apply Cut.tail)); done) (by repeat (first | exact Keeps.refl _ | apply Keeps.tail | apply Keeps.drop))) (Cut.head _ _) ?_
                    intro g w hs
                    replace hs := act_open hs
                    refine ⟨_, rfl, a_put (by rfl) ?_⟩
                    refine s_nil ?_
                    refine hK20 _ _ ?_
                    refine c_region ?_
                    refine sVal (r_move rfl rfl) ?_
                    refine s_enter (r_call rfl ent73 rfl) rfl ?_
                    first
                    | (refine stop_use (a := (a.tell (mkS 4 false noS))) _ (act_close g ((a.tell (mkS 4 false noS))) hs (by (try simp only [As.setMS, mkS, mkU, noS, hc5, hc7, hc9, hc12, hc13, hc18, Bool.true_or, Bool.false_or, Bool.or_true, Bool.or_false, ↓reduceIte, or_true, true_or, or_false, false_or]); (repeat (first | apply Cut.pair | exact Cut.head _ _ | apply Cut.tail)); done) (by repeat (first | exact Keeps.refl _ | apply Keeps.tail | apply Keeps.drop))) (Cut.head _ _) ?_; intro g w hs; replace hs := act_open hs)
                    | (refine stop_use (a := (a.tell (mkS 3 false d))) _ (act_close g ((a.tell (mkS 3 false d))) hs (by (try simp only [As.setMS, mkS, mkU, noS, hc5, hc7, hc9, hc12, hc13, hc18, Bool.true_or, Bool.false_or, Bool.or_true, Bool.or_false, ↓reduceIte, or_true, true_or, or_false, false_or]); (repeat (first | apply Cut.pair | exact Cut.head _ _ | apply Cut.tail)); done) (by repeat (first | exact Keeps.refl _ | apply Keeps.tail | apply Keeps.drop))) (Cut.head _ _) ?_; intro g w hs; replace hs := act_open hs)
                    try skip
                    refine ⟨_, rfl, a_put (by rfl) ?_⟩
                    refine s_nil ?_
                    refine f_end (rs := []) rfl .nil rfl ?_
                    refine hk g _ (act_close g (a.answer ⟨k, sq, n, ps, mr, self, d⟩) hs (by (try simp only [As.answer, As.setMS, mkS, mkU, noS, hc5, hc7, hc9, hc12, hc13, hc18, Bool.true_or, Bool.false_or, Bool.or_true, Bool.or_false, ↓reduceIte, or_true, true_or, or_false, false_or]); repeat (first | apply Cut.pair | exact Cut.head _ _ | apply Cut.tail)) (by repeat (first | exact Keeps.refl _ | apply Keeps.tail | apply Keeps.drop))))))
           case true =>
            replace hc12 := eqT hc12
            try dsimp only at hc12
            first
            | (exfalso; first | omega | (cases hc12; done))
            | (
              refine c_condT rfl ?_
              refine wp_skip ?_
              refine hK10 _ _ ?_
              refine c_condT rfl ?_
              refine wp_seq_k (fun K21 hK21 => ?_)
              refine c_region ?_
              refine sVal (r_build rfl rfl pl93 zr93 (by rfl)) ?_
              refine s_ex (r_alloc rfl zr93 hs) rfl rfl (fun _ => by rfl) ?_
              intro b22 w hs
              refine s_exS (r_storeA rfl rfl rfl hs (by (repeat (first | exact Cut.head _ _ | apply Cut.tail)); done) in93 sz93 rfl (fun h => by cases h) rfl (by rfl)) rfl rfl ?_
              intro w hs
              refine s_nil ?_
              refine hK21 _ _ ?_
              refine wp_seq_k (fun K23 hK23 => ?_)
              refine wp_seq_k (fun K24 hK24 => ?_)
              refine c_region ?_
              refine sVal (r_move rfl rfl) ?_
              refine sVal (r_nil rfl rfl) ?_
              refine sVal (r_field rfl rfl of121_0) ?_
              refine sVal (r_load rfl rfl (ag58 _) hs.own (by rfl)) ?_
              refine sVal (r_nil rfl rfl) ?_
              refine sVal (r_field rfl rfl of108_1) ?_
              refine sVal (r_field rfl rfl of80_0) ?_
              refine sVal (r_load rfl rfl (ag3 _) hs.own (by rfl)) ?_
              refine s_bool (r_cmp rfl rfl rfl rfl) rfl rfl (fun _ => by rfl) ?_
              intro c25 hc25
              refine s_nil ?_
              refine hK24 _ _ ?_
              cases c25
              case false =>
               replace hc25 := eqF hc25
               try dsimp only at hc25
               first
               | (exfalso; first | omega | (cases hc25; done))
               | (
                 refine c_condF rfl ?_
                 refine wp_skip ?_
                 refine hK23 _ _ ?_
                 refine wp_seq_k (fun K26 hK26 => ?_)
                 refine c_region ?_
                 refine sVal (r_move rfl rfl) ?_
                 refine sVal (r_loadA rfl rfl (ag93 _) hs.own in93 sz93 (by rfl)) ?_
                 refine s_enter (r_call rfl ent72 rfl) rfl ?_
                 refine tell_use (a := (a)) _ _ _ _ _ (by (try simp only [few_to, few_stop, few_ready, few_heard, few_setMS, few_tell, few_out]); omega) (act_close g ((a)) hs (by (try simp only [As.setMS, mkS, mkU, noS, hc5, hc7, hc9, hc12, hc25, Bool.true_or, Bool.false_or, Bool.or_true, Bool.or_false, ↓reduceIte, or_true, true_or, or_false, false_or]); (repeat (first | apply Cut.pair | exact Cut.head _ _ | apply Cut.tail)); done) (by repeat (first | exact Keeps.refl _ | apply Keeps.tail | apply Keeps.drop))) (Cut.head _ _) ?_
                 intro g w hs
                 replace hs := act_open hs
                 refine ⟨_, rfl, a_put (by rfl) ?_⟩
                 refine s_nil ?_
                 refine hK26 _ _ ?_
                 refine c_region ?_
                 refine sVal (r_move rfl rfl) ?_
                 refine s_enter (r_call rfl ent73 rfl) rfl ?_
                 first
                 | (refine stop_use (a := (a.tell (mkS 4 false noS))) _ (act_close g ((a.tell (mkS 4 false noS))) hs (by (try simp only [As.setMS, mkS, mkU, noS, hc5, hc7, hc9, hc12, hc25, Bool.true_or, Bool.false_or, Bool.or_true, Bool.or_false, ↓reduceIte, or_true, true_or, or_false, false_or]); (repeat (first | apply Cut.pair | exact Cut.head _ _ | apply Cut.tail)); done) (by repeat (first | exact Keeps.refl _ | apply Keeps.tail | apply Keeps.drop))) (Cut.head _ _) ?_; intro g w hs; replace hs := act_open hs)
                 | (refine stop_use (a := (a.tell (mkS 3 false d))) _ (act_close g ((a.tell (mkS 3 false d))) hs (by (try simp only [As.setMS, mkS, mkU, noS, hc5, hc7, hc9, hc12, hc25, Bool.true_or, Bool.false_or, Bool.or_true, Bool.or_false, ↓reduceIte, or_true, true_or, or_false, false_or]); (repeat (first | apply Cut.pair | exact Cut.head _ _ | apply Cut.tail)); done) (by repeat (first | exact Keeps.refl _ | apply Keeps.tail | apply Keeps.drop))) (Cut.head _ _) ?_; intro g w hs; replace hs := act_open hs)
                 try skip
                 refine ⟨_, rfl, a_put (by rfl) ?_⟩
                 refine s_nil ?_
                 refine f_end (rs := []) rfl .nil rfl ?_
                 refine hk g _ (act_close g (a.answer ⟨k, sq, n, ps, mr, self, d⟩) hs (by (try simp only [As.answer, As.setMS, mkS, mkU, noS, hc5, hc7, hc9, hc12, hc25, Bool.true_or, Bool.false_or, Bool.or_true, Bool.or_false, ↓reduceIte, or_true, true_or, or_false, false_or]); repeat (first | apply Cut.pair | exact Cut.head _ _ | apply Cut.tail)) (by repeat (first | exact Keeps.refl _ | apply Keeps.tail | apply Keeps.drop))))
              case true =>
               replace hc25 := eqT hc25
               try dsimp only at hc25
               first
               | (exfalso; first | omega | (cases hc25; done))
               | (
                 refine c_condT rfl ?_
                 refine c_region ?_
                 refine sVal (r_field rfl rfl of85_7) ?_
                 refine sVal (r_load rfl rfl (ag9 _) hs.own (by rfl)) ?_
                 refine sVal (r_build rfl rfl pl93 zr93 (by rfl)) ?_
                 refine s_exS (r_storeA rfl rfl rfl hs (by (repeat (first | exact Cut.head _ _ | apply Cut.tail)); done) in93 sz93 rfl (fun h => by cases h) rfl (by rfl)) rfl rfl ?_
                 intro w hs
                 refine s_nil ?_
                 refine hK23 _ _ ?_
                 refine wp_seq_k (fun K27 hK27 => ?_)
                 refine c_region ?_
                 refine sVal (r_move rfl rfl) ?_
                 refine sVal (r_loadA rfl rfl (ag93 _) hs.own in93 sz93 (by rfl)) ?_
                 refine s_enter (r_call rfl ent72 rfl) rfl ?_
                 refine tell_use (a := (a)) _ _ _ _ _ (by (try simp only [few_to, few_stop, few_ready, few_heard, few_setMS, few_tell, few_out]); omega) (act_close g ((a)) hs (by (try simp only [As.setMS, mkS, mkU, noS, hc5, hc7, hc9, hc12, hc25, Bool.true_or, Bool.false_or, Bool.or_true, Bool.or_false, ↓reduceIte, or_true, true_or, or_false, false_or]); (repeat (first | apply Cut.pair | exact Cut.head _ _ | apply Cut.tail)); done) (by repeat (first | exact Keeps.refl _ | apply Keeps.tail | apply Keeps.drop))) (Cut.head _ _) ?_
                 intro g w hs
                 replace hs := act_open hs
                 refine ⟨_, rfl, a_put (by rfl) ?_⟩
                 refine s_nil ?_
                 refine hK27 _ _ ?_
                 refine c_region ?_
                 refine sVal (r_move rfl rfl) ?_
                 refine s_enter (r_call rfl ent73 rfl) rfl ?_
                 first
                 | (refine stop_use (a := (a.tell (mkS 4 false noS))) _ (act_close g ((a.tell (mkS 4 false noS))) hs (by (try simp only [As.setMS, mkS, mkU, noS, hc5, hc7, hc9, hc12, hc25, Bool.true_or, Bool.false_or, Bool.or_true, Bool.or_false, ↓reduceIte, or_true, true_or, or_false, false_or]); (repeat (first | apply Cut.pair | exact Cut.head _ _ | apply Cut.tail)); done) (by repeat (first | exact Keeps.refl _ | apply Keeps.tail | apply Keeps.drop))) (Cut.head _ _) ?_; intro g w hs; replace hs := act_open hs)
                 | (refine stop_use (a := (a.tell (mkS 3 false d))) _ (act_close g ((a.tell (mkS 3 false d))) hs (by (try simp only [As.setMS, mkS, mkU, noS, hc5, hc7, hc9, hc12, hc25, Bool.true_or, Bool.false_or, Bool.or_true, Bool.or_false, ↓reduceIte, or_true, true_or, or_false, false_or]); (repeat (first | apply Cut.pair | exact Cut.head _ _ | apply Cut.tail)); done) (by repeat (first | exact Keeps.refl _ | apply Keeps.tail | apply Keeps.drop))) (Cut.head _ _) ?_; intro g w hs; replace hs := act_open hs)
                 try skip
                 refine ⟨_, rfl, a_put (by rfl) ?_⟩
                 refine s_nil ?_
                 refine f_end (rs := []) rfl .nil rfl ?_
                 refine hk g _ (act_close g (a.answer ⟨k, sq, n, ps, mr, self, d⟩) hs (by (try simp only [As.answer, As.setMS, mkS, mkU, noS, hc5, hc7, hc9, hc12, hc25, Bool.true_or, Bool.false_or, Bool.or_true, Bool.or_false, ↓reduceIte, or_true, true_or, or_false, false_or]); repeat (first | apply Cut.pair | exact Cut.head _ _ | apply Cut.tail)) (by repeat (first | exact Keeps.refl _ | apply Keeps.tail | apply Keeps.drop))))))
        case true =>
         replace hc9 := eqT hc9
         try dsimp only at hc9
         first
         | (exfalso; first | omega | (cases hc9; done))
         | (
           refine c_condT rfl ?_
           refine wp_seq_k (fun K28 hK28 => ?_)
           replace hs := hs.drew
           refine d_start (by kernel_rfl) ?_
           refine d_pre [0, 1, 2, 4] (g := 6) (by kernel_rfl) (fun _ _ d _ _ h => by cases d <;> exact h) ?_
           refine pVal rfl (fun w => (r_move rfl rfl)) ?_
           refine pVal rfl (fun w => (r_nil rfl rfl)) ?_
           refine pVal rfl (fun w => (r_field rfl rfl of121_0)) ?_
           refine pVal rfl (fun w => (r_field rfl rfl of85_2)) ?_
           refine p_nil ?_
           refine d_head 6 [(3, true), (5, true)] (Holds _ _) (g := 4) (by kernel_rfl) (fun _ _ d _ _ h => by cases d <;> exact h) (Holds.self hs) ?_
           refine hVal rfl (fun w hS => (r_load rfl rfl (ag58 _) hS.own (by rfl))) ?_
           refine hVal rfl (fun w hS => (r_load rfl rfl (ag61 _) hS.own (by rfl))) ?_
           refine h_nil ?_
           refine d_tail 6 (by kernel_rfl) ?_
           refine sVal (r_nil rfl rfl) ?_
           refine sVal (r_field rfl rfl of108_1) ?_
           refine sVal (r_field rfl rfl of80_4) ?_
           refine s_exS (r_store rfl rfl rfl hs (by (repeat (first | exact Cut.head _ _ | apply Cut.tail)); done) in61 sz61 rfl (by rfl)) rfl rfl ?_
           intro w hs
           refine s_nil ?_
           refine hK28 _ _ ?_
           refine wp_seq_k (fun K29 hK29 => ?_)
           refine c_region ?_
           refine sVal (r_move rfl rfl) ?_
           refine sVal (r_build rfl rfl pl93 zr93 (by rfl)) ?_
           refine s_enter (r_call rfl ent72 rfl) rfl ?_
           refine tell_use (a := (a.setMS n)) _ _ _ _ _ (by (try simp only [few_to, few_stop, few_ready, few_heard, few_setMS, few_tell, few_out]); omega) (act_close g ((a.setMS n)) hs (by (try simp only [As.setMS, mkS, mkU, noS, hc5, hc7, hc9, Bool.true_or, Bool.false_or, Bool.or_true, Bool.or_false, ↓reduceIte, or_true, true_or, or_false, false_or]); (repeat (first | apply Cut.pair | exact Cut.head _ _ | apply Cut.tail)); done) (by repeat (first | exact Keeps.refl _ | apply Keeps.tail | apply Keeps.drop))) (Cut.head _ _) ?_
           intro g w hs
           replace hs := act_open hs
           refine ⟨_, rfl, a_put (by rfl) ?_⟩
           refine s_nil ?_
           refine hK29 _ _ ?_
           refine c_region ?_
           refine sVal (r_move rfl rfl) ?_
           refine s_enter (r_call rfl ent73 rfl) rfl ?_
           refine stop_use (a := ((a.setMS n).tell (mkS 7 false noS))) _ (act_close g (((a.setMS n).tell (mkS 7 false noS))) hs (by (try simp only [As.setMS, mkS, mkU, noS, hc5, hc7, hc9, Bool.true_or, Bool.false_or, Bool.or_true, Bool.or_false, ↓reduceIte, or_true, true_or, or_false, false_or]); (repeat (first | apply Cut.pair | exact Cut.head _ _ | apply Cut.tail)); done) (by repeat (first | exact Keeps.refl _ | apply Keeps.tail | apply Keeps.drop))) (Cut.head _ _) ?_
           intro g w hs
           replace hs := act_open hs
           refine ⟨_, rfl, a_put (by rfl) ?_⟩
           refine s_nil ?_
           refine f_end (rs := []) rfl .nil rfl ?_
           refine hk g _ (act_close g (a.answer ⟨k, sq, n, ps, mr, self, d⟩) hs (by (try simp only [As.answer, As.setMS, mkS, mkU, noS, hc5, hc7, hc9, Bool.true_or, Bool.false_or, Bool.or_true, Bool.or_false, ↓reduceIte, or_true, true_or, or_false, false_or]); repeat (first | apply Cut.pair | exact Cut.head _ _ | apply Cut.tail)) (by repeat (first | exact Keeps.refl _ | apply Keeps.tail | apply Keeps.drop)))))
     case true =>
      replace hc7 := eqT hc7
      try dsimp only at hc7
      first
      | (exfalso; first | omega | (cases hc7; done))
      | (
        refine c_condT rfl ?_
        refine wp_seq_k (fun K30 hK30 => ?_)
        replace hs := hs.drew
        refine d_start (by kernel_rfl) ?_
        refine d_pre [0, 1, 2, 4] (g := 6) (by kernel_rfl) (fun _ _ d _ _ h => by cases d <;> exact h) ?_
        refine pVal rfl (fun w => (r_move rfl rfl)) ?_
        refine pVal rfl (fun w => (r_nil rfl rfl)) ?_
        refine pVal rfl (fun w => (r_field rfl rfl of121_0)) ?_
        refine pVal rfl (fun w => (r_field rfl rfl of85_2)) ?_
        refine p_nil ?_
        refine d_head 6 [(3, true), (5, true)] (Holds _ _) (g := 4) (by kernel_rfl) (fun _ _ d _ _ h => by cases d <;> exact h) (Holds.self hs) ?_
        refine hVal rfl (fun w hS => (r_load rfl rfl (ag58 _) hS.own (by rfl))) ?_
        refine hVal rfl (fun w hS => (r_load rfl rfl (ag61 _) hS.own (by rfl))) ?_
        refine h_nil ?_
        refine d_tail 6 (by kernel_rfl) ?_
        refine sVal (r_nil rfl rfl) ?_
        refine sVal (r_field rfl rfl of108_1) ?_
        refine sVal (r_field rfl rfl of80_4) ?_
        refine s_exS (r_store rfl rfl rfl hs (by (repeat (first | exact Cut.head _ _ | apply Cut.tail)); done) in61 sz61 rfl (by rfl)) rfl rfl ?_
        intro w hs
        refine s_nil ?_
        refine hK30 _ _ ?_
        refine wp_seq_k (fun K31 hK31 => ?_)
        refine c_region ?_
        refine sVal (r_move rfl rfl) ?_
        refine sVal (r_build rfl rfl pl93 zr93 (by rfl)) ?_
        refine s_enter (r_call rfl ent72 rfl) rfl ?_
        refine tell_use (a := (a.setMS n)) _ _ _ _ _ (by (try simp only [few_to, few_stop, few_ready, few_heard, few_setMS, few_tell, few_out]); omega) (act_close g ((a.setMS n)) hs (by (try simp only [As.setMS, mkS, mkU, noS, hc5, hc7, Bool.true_or, Bool.false_or, Bool.or_true, Bool.or_false, ↓reduceIte, or_true, true_or, or_false, false_or]); (repeat (first | apply Cut.pair | exact Cut.head _ _ | apply Cut.tail)); done) (by repeat (first | exact Keeps.refl _ | apply Keeps.tail | apply Keeps.drop))) (Cut.head _ _) ?_
        intro g w hs
        replace hs := act_open hs
        refine ⟨_, rfl, a_put (by rfl) ?_⟩
        refine s_nil ?_
        refine hK31 _ _ ?_
        refine c_region ?_
        refine sVal (r_move rfl rfl) ?_
        refine s_enter (r_call rfl ent84 rfl) rfl ?_
        refine ready_use (a := ((a.setMS n).tell (mkS 6 false noS))) (act_close g (((a.setMS n).tell (mkS 6 false noS))) hs (by (try simp only [As.setMS, mkS, mkU, noS, hc5, hc7, Bool.true_or, Bool.false_or, Bool.or_true, Bool.or_false, ↓reduceIte, or_true, true_or, or_false, false_or]); (repeat (first | apply Cut.pair | exact Cut.head _ _ | apply Cut.tail)); done) (by repeat (first | exact Keeps.refl _ | apply Keeps.tail | apply Keeps.drop))) (Cut.head _ _) ?_
        intro g w hs
        replace hs := act_open hs
        refine ⟨_, rfl, a_put (by rfl) ?_⟩
        refine s_nil ?_
        refine f_end (rs := []) rfl .nil rfl ?_
        refine hk g _ (act_close g (a.answer ⟨k, sq, n, ps, mr, self, d⟩) hs (by (try simp only [As.answer, As.setMS, mkS, mkU, noS, hc5, hc7, Bool.true_or, Bool.false_or, Bool.or_true, Bool.or_false, ↓reduceIte, or_true, true_or, or_false, false_or]); repeat (first | apply Cut.pair | exact Cut.head _ _ | apply Cut.tail)) (by repeat (first | exact Keeps.refl _ | apply Keeps.tail | apply Keeps.drop)))))
  case true =>
   replace hc5 := eqT hc5
   try dsimp only at hc5
   first
   | (exfalso; first | omega | (cases hc5; done))
   | (
     refine c_condT rfl ?_
     refine wp_seq_k (fun K32 hK32 => ?_)
     replace hs := hs.drew
     refine d_start (by kernel_rfl) ?_
     refine d_pre [0, 1, 2, 4] (g := 6) (by kernel_rfl) (fun _ _ d _ _ h => by cases d <;> exact h) ?_
     refine pVal rfl (fun w => (r_move rfl rfl)) ?_
     refine pVal rfl (fun w => (r_nil rfl rfl)) ?_
     refine pVal rfl (fun w => (r_field rfl rfl of121_0)) ?_
     refine pVal rfl (fun w => (r_field rfl rfl of85_2)) ?_
     refine p_nil ?_
     refine d_head 6 [(3, true), (5, true)] (Holds _ _) (g := 4) (by kernel_rfl) (fun _ _ d _ _ h => by cases d <;> exact h) (Holds.self hs) ?_
     refine hVal rfl (fun w hS => (r_load rfl rfl (ag58 _) hS.own (by rfl))) ?_
     refine hVal rfl (fun w hS => (r_load rfl rfl (ag61 _) hS.own (by rfl))) ?_
     refine h_nil ?_
     refine d_tail 6 (by kernel_rfl) ?_
     refine sVal (r_nil rfl rfl) ?_
     refine sVal (r_field rfl rfl of108_1) ?_
     refine sVal (r_field rfl rfl of80_4) ?_
     refine s_exS (r_store rfl rfl rfl hs (by (repeat (first | exact Cut.head _ _ | apply Cut.tail)); done) in61 sz61 rfl (by rfl)) rfl rfl ?_
     intro w hs
     refine s_nil ?_
     refine hK32 _ _ ?_
     refine wp_seq_k (fun K33 hK33 => ?_)
     refine c_region ?_
     refine sVal (r_move rfl rfl) ?_
     refine sVal (r_build rfl rfl pl93 zr93 (by rfl)) ?_
     refine s_enter (r_call rfl ent72 rfl) rfl ?_
     refine tell_use (a := (a.setMS n)) _ _ _ _ _ (by (try simp only [few_to, few_stop, few_ready, few_heard, few_setMS, few_tell, few_out]); omega) (act_close g ((a.setMS n)) hs (by (try simp only [As.setMS, mkS, mkU, noS, hc5, Bool.true_or, Bool.false_or, Bool.or_true, Bool.or_false, ↓reduceIte, or_true, true_or, or_false, false_or]); (repeat (first | apply Cut.pair | exact Cut.head _ _ | apply Cut.tail)); done) (by repeat (first | exact Keeps.refl _ | apply Keeps.tail | apply Keeps.drop))) (Cut.head _ _) ?_
     intro g w hs
     replace hs := act_open hs
     refine ⟨_, rfl, a_put (by rfl) ?_⟩
     refine s_nil ?_
     refine hK33 _ _ ?_
     refine c_region ?_
     refine sVal (r_move rfl rfl) ?_
     refine s_enter (r_call rfl ent84 rfl) rfl ?_
     refine ready_use (a := ((a.setMS n).tell (mkS 2 false noS))) (act_close g (((a.setMS n).tell (mkS 2 false noS))) hs (by (try simp only [As.setMS, mkS, mkU, noS, hc5, Bool.true_or, Bool.false_or, Bool.or_true, Bool.or_false, ↓reduceIte, or_true, true_or, or_false, false_or]); (repeat (first | apply Cut.pair | exact Cut.head _ _ | apply Cut.tail)); done) (by repeat (first | exact Keeps.refl _ | apply Keeps.tail | apply Keeps.drop))) (Cut.head _ _) ?_
     intro g w hs
     replace hs := act_open hs
     refine ⟨_, rfl, a_put (by rfl) ?_⟩
     refine s_nil ?_
     refine f_end (rs := []) rfl .nil rfl ?_
     refine hk g _ (act_close g (a.answer ⟨k, sq, n, ps, mr, self, d⟩) hs (by (try simp only [As.answer, As.setMS, mkS, mkU, noS, hc5, Bool.true_or, Bool.false_or, Bool.or_true, Bool.or_false, ↓reduceIte, or_true, true_or, or_false, false_or]); repeat (first | apply Cut.pair | exact Cut.head _ _ | apply Cut.tail)) (by repeat (first | exact Keeps.refl _ | apply Keeps.tail | apply Keeps.drop))))

theorem handle_use (k sq n ps mr : Int) (self : Bool) (d : ByteArray) (hb : a.few ≤ 60000) (hs : Sat E H w) (c : Cut H (actP ba bc g a) R) (hk : ∀ g' w', Sat E (R * actP ba bc g' (a.handle ⟨k, sq, n, ps, mr, self, d⟩)) w' → Q (.returned (.tuple #[])) w') :
    Calls Try.prog 69 #[.pointer (some ⟨ba, 0, none⟩), .agg #[.int .i64 k, .int .i64 sq, .int .u32 n, .int .u32 ps, .int .u32 mr, .slice none 0 0, .bool self, .string d]] w Q := by
  replace hs := act_open (hs.cut c)
  refine f_enter Try.func69 rfl rfl ?_
  show Code.wp _ _ _ (Fr _) _
  refine wp_seq_k (fun K1 hK1 => ?_)
  refine c_region ?_
  refine s_ex (r_box rfl rfl rfl hs) rfl rfl (fun _ => by rfl) ?_
  intro b2 w hs
  refine s_nil ?_
  refine hK1 _ _ ?_
  refine wp_seq_k (fun K3 hK3 => ?_)
  replace hs := hs.drew
  refine d_start (by kernel_rfl) ?_
  refine d_pre [0, 2, 3, 4, 11, 13, 14, 15] (g := 16) (by kernel_rfl) (fun _ _ d _ _ h => by cases d <;> exact h) ?_
  refine pVal rfl (fun w => (r_field rfl rfl of85_1)) ?_
  refine pVal rfl (fun w => (r_move rfl rfl)) ?_
  refine pVal rfl (fun w => (r_nil rfl rfl)) ?_
  refine pVal rfl (fun w => (r_field rfl rfl of121_0)) ?_
  refine pVal rfl (fun w => (r_field rfl rfl of85_1)) ?_
  refine pVal rfl (fun w => (r_move rfl rfl)) ?_
  refine pVal rfl (fun w => (r_nil rfl rfl)) ?_
  refine pVal rfl (fun w => (r_field rfl rfl of121_0)) ?_
  refine p_nil ?_
  refine d_head 23 [(1, true), (5, true), (6, true), (7, true), (8, true), (9, true), (10, true), (12, true), (16, true), (17, true), (18, true), (19, true), (20, true), (21, true), (22, true)] (Holds _ _) (g := 1) (by kernel_rfl) (fun _ _ d _ _ h => by cases d <;> exact h) (Holds.self hs) ?_
  refine hVal rfl (fun w hS => (r_load rfl rfl (ag3 _) hS.own (by rfl))) ?_
  refine hVal rfl (fun w hS => (r_load rfl rfl (ag58 _) hS.own (by rfl))) ?_
  refine hVal rfl (fun w hS => (r_nil rfl rfl)) ?_
  refine hVal rfl (fun w hS => (r_field rfl rfl of108_1)) ?_
  refine hVal rfl (fun w hS => (r_field rfl rfl of80_2)) ?_
  refine hVal rfl (fun w hS => (r_load rfl rfl (ag3 _) hS.own (by rfl))) ?_
  refine h_bool rfl rfl rfl (fun w hS => (r_cmp rfl rfl rfl rfl)) (fun _ => by rfl) ?_
  intro c4 hc4
  refine hVal rfl (fun w hS => (r_load rfl rfl (ag3 _) hS.own (by rfl))) ?_
  refine hVal rfl (fun w hS => (r_load rfl rfl (ag58 _) hS.own (by rfl))) ?_
  refine hVal rfl (fun w hS => (r_nil rfl rfl)) ?_
  refine hVal rfl (fun w hS => (r_field rfl rfl of108_1)) ?_
  refine hVal rfl (fun w hS => (r_field rfl rfl of80_1)) ?_
  refine hVal rfl (fun w hS => (r_load rfl rfl (ag3 _) hS.own (by rfl))) ?_
  refine h_bool rfl rfl rfl (fun w hS => (r_cmp rfl rfl rfl rfl)) (fun _ => by rfl) ?_
  intro c5 hc5
  refine hVal rfl (fun w hS => (r_assign rfl rfl)) ?_
  refine h_nil ?_
  refine d_tail 23 (by kernel_rfl) ?_
  refine sVal (r_assign rfl rfl) ?_
  refine s_nil ?_
  refine hK3 _ _ ?_
  refine wp_seq_k (fun K6 hK6 => ?_)
  refine c_region ?_
  refine sVal (r_field rfl rfl of85_0) ?_
  refine sVal (r_load rfl rfl (ag3 _) hs.own (by rfl)) ?_
  refine s_nil ?_
  refine hK6 _ _ ?_
  refine wp_block ?_
  refine wp_seq_k (fun K7 hK7 => ?_)
  refine c_region ?_
  refine s_bool (r_cmp rfl rfl rfl rfl) rfl rfl (fun _ => by rfl) ?_
  intro c8 hc8
  refine sVal (r_assign rfl rfl) ?_
  refine s_nil ?_
  refine hK7 _ _ ?_
  cases c8
  case false =>
   replace hc8 := eqF hc8
   try dsimp only at hc8
   first
   | (exfalso; first | omega | (cases hc8; done))
   | (
     refine c_condF rfl ?_
     refine wp_seq_k (fun K9 hK9 => ?_)
     refine c_region ?_
     refine s_bool (r_cmp rfl rfl rfl rfl) rfl rfl (fun _ => by rfl) ?_
     intro c10 hc10
     refine sVal (r_assign rfl rfl) ?_
     refine s_nil ?_
     refine hK9 _ _ ?_
     cases c10
     case false =>
      replace hc10 := eqF hc10
      try dsimp only at hc10
      first
      | (exfalso; first | omega | (cases hc10; done))
      | (
        refine c_condF rfl ?_
        refine wp_seq_k (fun K11 hK11 => ?_)
        refine c_region ?_
        refine s_bool (r_cmp rfl rfl rfl rfl) rfl rfl (fun _ => by rfl) ?_
        intro c12 hc12
        refine sVal (r_assign rfl rfl) ?_
        refine s_nil ?_
        refine hK11 _ _ ?_
        cases c12
        case false =>
         replace hc12 := eqF hc12
         try dsimp only at hc12
         first
         | (exfalso; first | omega | (cases hc12; done))
         | (
           refine c_condF rfl ?_
           refine wp_seq_k (fun K13 hK13 => ?_)
           refine c_region ?_
           refine s_bool (r_cmp rfl rfl rfl rfl) rfl rfl (fun _ => by rfl) ?_
           intro c14 hc14
           refine sVal (r_assign rfl rfl) ?_
           refine s_nil ?_
           refine hK13 _ _ ?_
           cases c14
           case false =>
            replace hc14 := eqF hc14
            try dsimp only at hc14
            first
            | (exfalso; first | omega | (cases hc14; done))
            | (
              refine c_condF rfl ?_
              refine wp_seq_k (fun K15 hK15 => ?_)
              refine c_region ?_
              refine sVal (r_move rfl rfl) ?_
              refine s_nil ?_
              refine hK15 _ _ ?_
              cases c5
              case false =>
               replace hc5 := eqF hc5
               try dsimp only at hc5
               first
               | (exfalso; first | omega | (cases hc5; done))
               | (
                 refine c_condF rfl ?_
                 refine wp_skip ?_
                 refine f_end (rs := []) rfl .nil rfl ?_
                 subst c4
                 refine hk g _ (act_close g (a.handle ⟨k, sq, n, ps, mr, self, d⟩) hs (by (try simp only [As.handle, hc8, hc10, hc12, hc14, hc5, Bool.true_or, Bool.false_or, Bool.or_true, Bool.or_false, ↓reduceIte, or_true, true_or, or_false, false_or]); repeat (first | apply Cut.pair | exact Cut.head _ _ | apply Cut.tail)) (by repeat (first | exact Keeps.refl _ | apply Keeps.tail | apply Keeps.drop))))
              case true =>
               replace hc5 := eqT hc5
               try dsimp only at hc5
               first
               | (exfalso; first | omega | (cases hc5; done))
               | (
                 refine c_condT rfl ?_
                 refine c_region ?_
                 refine sVal (r_move rfl rfl) ?_
                 refine sVal (r_loadA rfl rfl (ag85 _) hs.own in85 sz85 (by rfl)) ?_
                 refine s_enter (r_call rfl ent93 rfl) rfl ?_
                 subst c4
                 refine answer_use (a := (a)) _ _ _ _ _ _ _ (by omega) (act_close g ((a)) hs (by (try simp only [mkS, mkU, noS, hc8, hc10, hc12, hc14, hc5, Bool.true_or, Bool.false_or, Bool.or_true, Bool.or_false, ↓reduceIte, or_true, true_or, or_false, false_or]); (repeat (first | apply Cut.pair | exact Cut.head _ _ | apply Cut.tail)); done) (by repeat (first | exact Keeps.refl _ | apply Keeps.tail | apply Keeps.drop))) (Cut.head _ _) ?_
                 intro g w hs
                 replace hs := act_open hs
                 refine ⟨_, rfl, a_put (by rfl) ?_⟩
                 refine s_nil ?_
                 refine f_end (rs := []) rfl .nil rfl ?_
                 refine hk g _ (act_close g (a.handle ⟨k, sq, n, ps, mr, self, d⟩) hs (by (try simp only [As.handle, hc8, hc10, hc12, hc14, hc5, Bool.true_or, Bool.false_or, Bool.or_true, Bool.or_false, ↓reduceIte, or_true, true_or, or_false, false_or]); repeat (first | apply Cut.pair | exact Cut.head _ _ | apply Cut.tail)) (by repeat (first | exact Keeps.refl _ | apply Keeps.tail | apply Keeps.drop)))))
           case true =>
            replace hc14 := eqT hc14
            try dsimp only at hc14
            first
            | (exfalso; first | omega | (cases hc14; done))
            | (
              refine c_condT rfl ?_
              refine wp_seq_k (fun K16 hK16 => ?_)
              refine c_region ?_
              refine sVal (r_move rfl rfl) ?_
              refine s_nil ?_
              refine hK16 _ _ ?_
              cases c4
              case false =>
               replace hc4 := eqF hc4
               try dsimp only at hc4
               first
               | (exfalso; first | omega | (cases hc4; done))
               | (
                 refine c_condF rfl ?_
                 refine c_region ?_
                 refine sVal (r_move rfl rfl) ?_
                 refine sVal (r_loadA rfl rfl (ag85 _) hs.own in85 sz85 (by rfl)) ?_
                 refine s_enter (r_call rfl ent92 rfl) rfl ?_
                 subst c5
                 refine recover_use (a := (a)) _ _ _ _ _ _ _ (by omega) (act_close g ((a)) hs (by (try simp only [mkS, mkU, noS, hc8, hc10, hc12, hc14, hc4, Bool.true_or, Bool.false_or, Bool.or_true, Bool.or_false, ↓reduceIte, or_true, true_or, or_false, false_or]); (repeat (first | apply Cut.pair | exact Cut.head _ _ | apply Cut.tail)); done) (by repeat (first | exact Keeps.refl _ | apply Keeps.tail | apply Keeps.drop))) (Cut.head _ _) ?_
                 intro g w hs
                 replace hs := act_open hs
                 refine ⟨_, rfl, a_put (by rfl) ?_⟩
                 refine s_nil ?_
                 refine f_end (rs := []) rfl .nil rfl ?_
                 refine hk g _ (act_close g (a.handle ⟨k, sq, n, ps, mr, self, d⟩) hs (by (try simp only [As.handle, hc8, hc10, hc12, hc14, hc4, Bool.true_or, Bool.false_or, Bool.or_true, Bool.or_false, ↓reduceIte, or_true, true_or, or_false, false_or]); repeat (first | apply Cut.pair | exact Cut.head _ _ | apply Cut.tail)) (by repeat (first | exact Keeps.refl _ | apply Keeps.tail | apply Keeps.drop))))
              case true =>
               replace hc4 := eqT hc4
               try dsimp only at hc4
               first
               | (exfalso; first | omega | (cases hc4; done))
               | (
                 refine c_condT rfl ?_
                 refine c_region ?_
                 refine sVal (r_move rfl rfl) ?_
                 refine sVal (r_loadA rfl rfl (ag85 _) hs.own in85 sz85 (by rfl)) ?_
                 refine s_ex (r_lit intC [_, _] rfl rfl rfl hs Try.underlying22 (by kernel_rfl) sz3 rfl (by decide) (fun _ => rfl)) rfl rfl (fun _ => by rfl) ?_
                 intro b17 w hs
                 refine s_enter (r_call rfl ent90 rfl) rfl ?_
                 subst c5
                 refine back_use (a := (a)) _ _ _ _ _ _ _ _ [8, 10] _ _ (by omega) (by decide) (act_close g ((a)) hs (by (try simp only [mkS, mkU, noS, hc8, hc10, hc12, hc14, hc4, Bool.true_or, Bool.false_or, Bool.or_true, Bool.or_false, ↓reduceIte, or_true, true_or, or_false, false_or]); (repeat (first | apply Cut.pair | exact Cut.head _ _ | apply Cut.tail)); done) (by repeat (first | exact Keeps.refl _ | apply Keeps.tail | apply Keeps.drop))) (by (repeat (first | exact Cut.head _ _ | apply Cut.tail)); done) (Cut.head _ _) ?_
                 intro g w hs
                 replace hs := act_open hs
                 refine ⟨_, rfl, a_put (by rfl) ?_⟩
                 refine s_nil ?_
                 refine f_end (rs := []) rfl .nil rfl ?_
                 refine hk g _ (act_close g (a.handle ⟨k, sq, n, ps, mr, self, d⟩) hs (by (try simp only [As.handle, hc8, hc10, hc12, hc14, hc4, Bool.true_or, Bool.false_or, Bool.or_true, Bool.or_false, ↓reduceIte, or_true, true_or, or_false, false_or]); repeat (first | apply Cut.pair | exact Cut.head _ _ | apply Cut.tail)) (by repeat (first | exact Keeps.refl _ | apply Keeps.tail | apply Keeps.drop))))))
        case true =>
         replace hc12 := eqT hc12
         try dsimp only at hc12
         first
         | (exfalso; first | omega | (cases hc12; done))
         | (
           refine c_condT rfl ?_
           refine wp_seq_k (fun K18 hK18 => ?_)
           refine c_region ?_
           refine sVal (r_move rfl rfl) ?_
           refine s_nil ?_
           refine hK18 _ _ ?_
           cases c4
           case false =>
            replace hc4 := eqF hc4
            try dsimp only at hc4
            first
            | (exfalso; first | omega | (cases hc4; done))
            | (
              refine c_condF rfl ?_
              refine c_region ?_
              refine sVal (r_move rfl rfl) ?_
              refine sVal (r_loadA rfl rfl (ag85 _) hs.own in85 sz85 (by rfl)) ?_
              refine s_enter (r_call rfl ent91 rfl) rfl ?_
              subst c5
              refine resync_use (a := (a)) _ _ _ _ _ _ _ (by omega) (act_close g ((a)) hs (by (try simp only [mkS, mkU, noS, hc8, hc10, hc12, hc4, Bool.true_or, Bool.false_or, Bool.or_true, Bool.or_false, ↓reduceIte, or_true, true_or, or_false, false_or]); (repeat (first | apply Cut.pair | exact Cut.head _ _ | apply Cut.tail)); done) (by repeat (first | exact Keeps.refl _ | apply Keeps.tail | apply Keeps.drop))) (Cut.head _ _) ?_
              intro g w hs
              replace hs := act_open hs
              refine ⟨_, rfl, a_put (by rfl) ?_⟩
              refine s_nil ?_
              refine f_end (rs := []) rfl .nil rfl ?_
              refine hk g _ (act_close g (a.handle ⟨k, sq, n, ps, mr, self, d⟩) hs (by (try simp only [As.handle, hc8, hc10, hc12, hc4, Bool.true_or, Bool.false_or, Bool.or_true, Bool.or_false, ↓reduceIte, or_true, true_or, or_false, false_or]); repeat (first | apply Cut.pair | exact Cut.head _ _ | apply Cut.tail)) (by repeat (first | exact Keeps.refl _ | apply Keeps.tail | apply Keeps.drop))))
           case true =>
            replace hc4 := eqT hc4
            try dsimp only at hc4
            first
            | (exfalso; first | omega | (cases hc4; done))
            | (
              refine c_condT rfl ?_
              refine c_region ?_
              refine sVal (r_move rfl rfl) ?_
              refine sVal (r_loadA rfl rfl (ag85 _) hs.own in85 sz85 (by rfl)) ?_
              refine s_ex (r_lit intC [_, _, _, _] rfl rfl rfl hs Try.underlying22 (by kernel_rfl) sz3 rfl (by decide) (fun _ => rfl)) rfl rfl (fun _ => by rfl) ?_
              intro b19 w hs
              refine s_enter (r_call rfl ent90 rfl) rfl ?_
              subst c5
              refine back_use (a := (a)) _ _ _ _ _ _ _ _ [7, 8, 9, 10] _ _ (by omega) (by decide) (act_close g ((a)) hs (by (try simp only [mkS, mkU, noS, hc8, hc10, hc12, hc4, Bool.true_or, Bool.false_or, Bool.or_true, Bool.or_false, ↓reduceIte, or_true, true_or, or_false, false_or]); (repeat (first | apply Cut.pair | exact Cut.head _ _ | apply Cut.tail)); done) (by repeat (first | exact Keeps.refl _ | apply Keeps.tail | apply Keeps.drop))) (by (repeat (first | exact Cut.head _ _ | apply Cut.tail)); done) (Cut.head _ _) ?_
              intro g w hs
              replace hs := act_open hs
              refine ⟨_, rfl, a_put (by rfl) ?_⟩
              refine s_nil ?_
              refine f_end (rs := []) rfl .nil rfl ?_
              refine hk g _ (act_close g (a.handle ⟨k, sq, n, ps, mr, self, d⟩) hs (by (try simp only [As.handle, hc8, hc10, hc12, hc4, Bool.true_or, Bool.false_or, Bool.or_true, Bool.or_false, ↓reduceIte, or_true, true_or, or_false, false_or]); repeat (first | apply Cut.pair | exact Cut.head _ _ | apply Cut.tail)) (by repeat (first | exact Keeps.refl _ | apply Keeps.tail | apply Keeps.drop))))))
     case true =>
      replace hc10 := eqT hc10
      try dsimp only at hc10
      first
      | (exfalso; first | omega | (cases hc10; done))
      | (
        refine c_condT rfl ?_
        refine c_region ?_
        refine sVal (r_move rfl rfl) ?_
        refine sVal (r_loadA rfl rfl (ag85 _) hs.own in85 sz85 (by rfl)) ?_
        refine s_enter (r_call rfl ent89 rfl) rfl ?_
        subst c4
        subst c5
        refine fin_use (a := (a)) _ _ _ _ _ _ _ (by omega) (act_close g ((a)) hs (by (try simp only [mkS, mkU, noS, hc8, hc10, Bool.true_or, Bool.false_or, Bool.or_true, Bool.or_false, ↓reduceIte, or_true, true_or, or_false, false_or]); (repeat (first | apply Cut.pair | exact Cut.head _ _ | apply Cut.tail)); done) (by repeat (first | exact Keeps.refl _ | apply Keeps.tail | apply Keeps.drop))) (Cut.head _ _) ?_
        intro g w hs
        replace hs := act_open hs
        refine ⟨_, rfl, a_put (by rfl) ?_⟩
        refine s_nil ?_
        refine f_end (rs := []) rfl .nil rfl ?_
        refine hk g _ (act_close g (a.handle ⟨k, sq, n, ps, mr, self, d⟩) hs (by (try simp only [As.handle, hc8, hc10, Bool.true_or, Bool.false_or, Bool.or_true, Bool.or_false, ↓reduceIte, or_true, true_or, or_false, false_or]); repeat (first | apply Cut.pair | exact Cut.head _ _ | apply Cut.tail)) (by repeat (first | exact Keeps.refl _ | apply Keeps.tail | apply Keeps.drop)))))
  case true =>
   replace hc8 := eqT hc8
   try dsimp only at hc8
   first
   | (exfalso; first | omega | (cases hc8; done))
   | (
     refine c_condT rfl ?_
     refine wp_seq_k (fun K20 hK20 => ?_)
     refine c_region ?_
     refine sVal (r_move rfl rfl) ?_
     refine s_nil ?_
     refine hK20 _ _ ?_
     cases c4
     case false =>
      replace hc4 := eqF hc4
      try dsimp only at hc4
      first
      | (exfalso; first | omega | (cases hc4; done))
      | (
        refine c_condF rfl ?_
        refine c_region ?_
        refine sVal (r_move rfl rfl) ?_
        refine sVal (r_loadA rfl rfl (ag85 _) hs.own in85 sz85 (by rfl)) ?_
        refine s_enter (r_call rfl ent88 rfl) rfl ?_
        subst c5
        refine newBegin_use (a := (a)) _ _ _ _ _ _ _ (by omega) (act_close g ((a)) hs (by (try simp only [mkS, mkU, noS, hc8, hc4, Bool.true_or, Bool.false_or, Bool.or_true, Bool.or_false, ↓reduceIte, or_true, true_or, or_false, false_or]); (repeat (first | apply Cut.pair | exact Cut.head _ _ | apply Cut.tail)); done) (by repeat (first | exact Keeps.refl _ | apply Keeps.tail | apply Keeps.drop))) (Cut.head _ _) ?_
        intro g w hs
        replace hs := act_open hs
        refine ⟨_, rfl, a_put (by rfl) ?_⟩
        refine s_nil ?_
        refine f_end (rs := []) rfl .nil rfl ?_
        refine hk g _ (act_close g (a.handle ⟨k, sq, n, ps, mr, self, d⟩) hs (by (try simp only [As.handle, hc8, hc4, Bool.true_or, Bool.false_or, Bool.or_true, Bool.or_false, ↓reduceIte, or_true, true_or, or_false, false_or]); repeat (first | apply Cut.pair | exact Cut.head _ _ | apply Cut.tail)) (by repeat (first | exact Keeps.refl _ | apply Keeps.tail | apply Keeps.drop))))
     case true =>
      replace hc4 := eqT hc4
      try dsimp only at hc4
      first
      | (exfalso; first | omega | (cases hc4; done))
      | (
        refine c_condT rfl ?_
        refine c_region ?_
        refine sVal (r_move rfl rfl) ?_
        refine sVal (r_loadA rfl rfl (ag85 _) hs.own in85 sz85 (by rfl)) ?_
        refine s_enter (r_call rfl ent87 rfl) rfl ?_
        subst c5
        refine oldBegin_use (a := (a)) _ _ _ _ _ _ _ (by omega) (act_close g ((a)) hs (by (try simp only [mkS, mkU, noS, hc8, hc4, Bool.true_or, Bool.false_or, Bool.or_true, Bool.or_false, ↓reduceIte, or_true, true_or, or_false, false_or]); (repeat (first | apply Cut.pair | exact Cut.head _ _ | apply Cut.tail)); done) (by repeat (first | exact Keeps.refl _ | apply Keeps.tail | apply Keeps.drop))) (Cut.head _ _) ?_
        intro g w hs
        replace hs := act_open hs
        refine ⟨_, rfl, a_put (by rfl) ?_⟩
        refine s_nil ?_
        refine f_end (rs := []) rfl .nil rfl ?_
        refine hk g _ (act_close g (a.handle ⟨k, sq, n, ps, mr, self, d⟩) hs (by (try simp only [As.handle, hc8, hc4, Bool.true_or, Bool.false_or, Bool.or_true, Bool.or_false, ↓reduceIte, or_true, true_or, or_false, false_or]); repeat (first | apply Cut.pair | exact Cut.head _ _ | apply Cut.tail)) (by repeat (first | exact Keeps.refl _ | apply Keeps.tail | apply Keeps.drop)))))

theorem ask_use (k : Int) (d : ByteArray) (hv : CnOk a.c) (hb : a.few ≤ 60000) (hs : Sat E H w) (c : Cut H (actP ba bc g a) R) (hk : ∀ g' w', Sat E (R * actP ba bc g' (a.ask k d)) w' → Q (.returned (.tuple #[])) w') :
    Calls Try.prog 66 #[.pointer (some ⟨ba, 0, none⟩), .int .i64 k, .string d] w Q := by
  replace hs := act_open (hs.cut c)
  refine f_enter Try.func66 rfl rfl ?_
  show Code.wp _ _ _ (Fr _) _
  refine wp_seq_k (fun K1 hK1 => ?_)
  refine c_region ?_
  refine sVal (r_move rfl rfl) ?_
  refine s_nil ?_
  refine hK1 _ _ ?_
  refine wp_block ?_
  refine wp_seq_k (fun K2 hK2 => ?_)
  refine c_region ?_
  refine s_bool (r_cmp rfl rfl rfl rfl) rfl rfl (fun _ => by rfl) ?_
  intro c3 hc3
  refine sVal (r_assign rfl rfl) ?_
  refine s_nil ?_
  refine hK2 _ _ ?_
  cases c3
  case false =>
   replace hc3 := eqF hc3
   try dsimp only at hc3
   first
   | (exfalso; first | omega | (cases hc3; done))
   | (
     refine c_condF rfl ?_
     refine wp_seq_k (fun K4 hK4 => ?_)
     refine c_region ?_
     refine s_bool (r_cmp rfl rfl rfl rfl) rfl rfl (fun _ => by rfl) ?_
     intro c5 hc5
     refine sVal (r_assign rfl rfl) ?_
     refine s_nil ?_
     refine hK4 _ _ ?_
     cases c5
     case false =>
      replace hc5 := eqF hc5
      try dsimp only at hc5
      first
      | (exfalso; first | omega | (cases hc5; done))
      | (
        refine c_condF rfl ?_
        refine wp_seq_k (fun K6 hK6 => ?_)
        refine c_region ?_
        refine s_bool (r_cmp rfl rfl rfl rfl) rfl rfl (fun _ => by rfl) ?_
        intro c7 hc7
        refine sVal (r_assign rfl rfl) ?_
        refine s_nil ?_
        refine hK6 _ _ ?_
        cases c7
        case false =>
         replace hc7 := eqF hc7
         try dsimp only at hc7
         first
         | (exfalso; first | omega | (cases hc7; done))
         | (
           refine c_condF rfl ?_
           refine wp_seq_k (fun K8 hK8 => ?_)
           refine c_region ?_
           refine s_bool (r_cmp rfl rfl rfl rfl) rfl rfl (fun _ => by rfl) ?_
           intro c9 hc9
           refine sVal (r_assign rfl rfl) ?_
           refine s_nil ?_
           refine hK8 _ _ ?_
           cases c9
           case false =>
            replace hc9 := eqF hc9
            try dsimp only at hc9
            first
            | (exfalso; first | omega | (cases hc9; done))
            | (
              refine c_condF rfl ?_
              refine wp_seq_k (fun K10 hK10 => ?_)
              refine c_region ?_
              refine s_bool (r_cmp rfl rfl rfl rfl) rfl rfl (fun _ => by rfl) ?_
              intro c11 hc11
              refine sVal (r_assign rfl rfl) ?_
              refine s_nil ?_
              refine hK10 _ _ ?_
              cases c11
              case false =>
               replace hc11 := eqF hc11
               try dsimp only at hc11
               first
               | (exfalso; first | omega | (cases hc11; done))
               | (
                 refine c_condF rfl ?_
                 refine wp_seq_k (fun K12 hK12 => ?_)
                 refine c_region ?_
                 refine s_bool (r_cmp rfl rfl rfl rfl) rfl rfl (fun _ => by rfl) ?_
                 intro c13 hc13
                 refine sVal (r_assign rfl rfl) ?_
                 refine s_nil ?_
                 refine hK12 _ _ ?_
                 cases c13
                 case false =>
                  replace hc13 := eqF hc13
                  try dsimp only at hc13
                  first
                  | (exfalso; first | omega | (cases hc13; done))
                  | (
                    refine c_condF rfl ?_
                    refine wp_skip ?_
                    refine f_end (rs := []) rfl .nil rfl ?_
                    refine hk g _ (act_close g (a.ask k d) hs (by (try simp only [As.ask, mkS, mkU, noS, hc3, hc5, hc7, hc9, hc11, hc13, Bool.true_or, Bool.false_or, Bool.or_true, Bool.or_false, ↓reduceIte, or_true, true_or, or_false, false_or]); repeat (first | apply Cut.pair | exact Cut.head _ _ | apply Cut.tail)) (by repeat (first | exact Keeps.refl _ | apply Keeps.tail | apply Keeps.drop))))
                 case true =>
                  replace hc13 := eqT hc13
                  try dsimp only at hc13
                  first
                  | (exfalso; first | omega | (cases hc13; done))
                  | (
                    refine c_condT rfl ?_
                    refine wp_seq_k (fun K14 hK14 => ?_)
                    refine wp_seq_k (fun K15 hK15 => ?_)
                    refine c_region ?_
                    refine sVal (r_move rfl rfl) ?_
                    refine sVal (r_nil rfl rfl) ?_
                    refine sVal (r_field rfl rfl of121_0) ?_
                    refine sVal (r_load rfl rfl (ag58 _) hs.own (by rfl)) ?_
                    refine sVal (r_nil rfl rfl) ?_
                    refine sVal (r_field rfl rfl of108_1) ?_
                    refine sVal (r_field rfl rfl of80_0) ?_
                    refine sVal (r_load rfl rfl (ag3 _) hs.own (by rfl)) ?_
                    refine s_bool (r_cmp rfl rfl rfl rfl) rfl rfl (fun _ => by rfl) ?_
                    intro c16 hc16
                    refine s_nil ?_
                    refine hK15 _ _ ?_
                    cases c16
                    case false =>
                     replace hc16 := eqF hc16
                     try dsimp only at hc16
                     first
                     | (exfalso; first | omega | (cases hc16; done))
                     | (
                       refine c_condF rfl ?_
                       refine wp_skip ?_
                       refine hK14 _ _ ?_
                       refine c_region ?_
                       refine sVal (r_move rfl rfl) ?_
                       refine s_enter (r_call rfl ent84 rfl) rfl ?_
                       first
                       | (refine ready_use (a := (a.out (mkU 15 a.c.peer false noS))) (act_close g ((a.out (mkU 15 a.c.peer false noS))) hs (by (try simp only [mkS, mkU, noS, hc3, hc5, hc7, hc9, hc11, hc13, hc16, Bool.true_or, Bool.false_or, Bool.or_true, Bool.or_false, ↓reduceIte, or_true, true_or, or_false, false_or]); (repeat (first | apply Cut.pair | exact Cut.head _ _ | apply Cut.tail)); done) (by repeat (first | exact Keeps.refl _ | apply Keeps.tail | apply Keeps.drop))) (Cut.head _ _) ?_; intro g w hs; replace hs := act_open hs)
                       | (refine ready_use (a := (a)) (act_close g ((a)) hs (by (try simp only [mkS, mkU, noS, hc3, hc5, hc7, hc9, hc11, hc13, hc16, Bool.true_or, Bool.false_or, Bool.or_true, Bool.or_false, ↓reduceIte, or_true, true_or, or_false, false_or]); (repeat (first | apply Cut.pair | exact Cut.head _ _ | apply Cut.tail)); done) (by repeat (first | exact Keeps.refl _ | apply Keeps.tail | apply Keeps.drop))) (Cut.head _ _) ?_; intro g w hs; replace hs := act_open hs)
                       try skip
                       refine ⟨_, rfl, a_put (by rfl) ?_⟩
                       refine s_nil ?_
                       refine f_end (rs := []) rfl .nil rfl ?_
                       refine hk g _ (act_close g (a.ask k d) hs (by (try simp only [As.ask, mkS, mkU, noS, hc3, hc5, hc7, hc9, hc11, hc13, hc16, Bool.true_or, Bool.false_or, Bool.or_true, Bool.or_false, ↓reduceIte, or_true, true_or, or_false, false_or]); repeat (first | apply Cut.pair | exact Cut.head _ _ | apply Cut.tail)) (by repeat (first | exact Keeps.refl _ | apply Keeps.tail | apply Keeps.drop))))
                    case true =>
                     replace hc16 := eqT hc16
                     try dsimp only at hc16
                     first
                     | (exfalso; first | omega | (cases hc16; done))
                     | (
                       refine c_condT rfl ?_
                       refine c_region ?_
                       refine sVal (r_move rfl rfl) ?_
                       refine sVal (r_move rfl rfl) ?_
                       refine sVal (r_nil rfl rfl) ?_
                       refine sVal (r_field rfl rfl of121_0) ?_
                       refine sVal (r_load rfl rfl (ag58 _) hs.own (by rfl)) ?_
                       refine sVal (r_nil rfl rfl) ?_
                       refine sVal (r_field rfl rfl of108_1) ?_
                       refine sVal (r_field rfl rfl of80_2) ?_
                       refine sVal (r_load rfl rfl (ag3 _) hs.own (by rfl)) ?_
                       refine sVal (r_build rfl rfl pl85 zr85 (by rfl)) ?_
                       refine s_enter (r_call rfl ent83 rfl) rfl ?_
                       refine out_use (a := (a)) _ _ _ _ _ _ _ (by (try simp only [few_to, few_stop, few_ready, few_heard, few_setMS, few_tell, few_out]); omega) (act_close g ((a)) hs (by (try simp only [mkS, mkU, noS, hc3, hc5, hc7, hc9, hc11, hc13, hc16, Bool.true_or, Bool.false_or, Bool.or_true, Bool.or_false, ↓reduceIte, or_true, true_or, or_false, false_or]); (repeat (first | apply Cut.pair | exact Cut.head _ _ | apply Cut.tail)); done) (by repeat (first | exact Keeps.refl _ | apply Keeps.tail | apply Keeps.drop))) (Cut.head _ _) ?_
                       intro g w hs
                       replace hs := act_open hs
                       refine ⟨_, rfl, a_put (by rfl) ?_⟩
                       refine s_nil ?_
                       refine hK14 _ _ ?_
                       refine c_region ?_
                       refine sVal (r_move rfl rfl) ?_
                       refine s_enter (r_call rfl ent84 rfl) rfl ?_
                       first
                       | (refine ready_use (a := (a.out (mkU 15 a.c.peer false noS))) (act_close g ((a.out (mkU 15 a.c.peer false noS))) hs (by (try simp only [mkS, mkU, noS, hc3, hc5, hc7, hc9, hc11, hc13, hc16, Bool.true_or, Bool.false_or, Bool.or_true, Bool.or_false, ↓reduceIte, or_true, true_or, or_false, false_or]); (repeat (first | apply Cut.pair | exact Cut.head _ _ | apply Cut.tail)); done) (by repeat (first | exact Keeps.refl _ | apply Keeps.tail | apply Keeps.drop))) (Cut.head _ _) ?_; intro g w hs; replace hs := act_open hs)
                       | (refine ready_use (a := (a)) (act_close g ((a)) hs (by (try simp only [mkS, mkU, noS, hc3, hc5, hc7, hc9, hc11, hc13, hc16, Bool.true_or, Bool.false_or, Bool.or_true, Bool.or_false, ↓reduceIte, or_true, true_or, or_false, false_or]); (repeat (first | apply Cut.pair | exact Cut.head _ _ | apply Cut.tail)); done) (by repeat (first | exact Keeps.refl _ | apply Keeps.tail | apply Keeps.drop))) (Cut.head _ _) ?_; intro g w hs; replace hs := act_open hs)
                       try skip
                       refine ⟨_, rfl, a_put (by rfl) ?_⟩
                       refine s_nil ?_
                       refine f_end (rs := []) rfl .nil rfl ?_
                       refine hk g _ (act_close g (a.ask k d) hs (by (try simp only [As.ask, mkS, mkU, noS, hc3, hc5, hc7, hc9, hc11, hc13, hc16, Bool.true_or, Bool.false_or, Bool.or_true, Bool.or_false, ↓reduceIte, or_true, true_or, or_false, false_or]); repeat (first | apply Cut.pair | exact Cut.head _ _ | apply Cut.tail)) (by repeat (first | exact Keeps.refl _ | apply Keeps.tail | apply Keeps.drop))))))
              case true =>
               replace hc11 := eqT hc11
               try dsimp only at hc11
               first
               | (exfalso; first | omega | (cases hc11; done))
               | (
                 refine c_condT rfl ?_
                 refine wp_seq_k (fun K17 hK17 => ?_)
                 refine c_region ?_
                 refine sVal (r_move rfl rfl) ?_
                 refine sVal (r_move rfl rfl) ?_
                 refine sVal (r_nil rfl rfl) ?_
                 refine sVal (r_field rfl rfl of121_0) ?_
                 refine sVal (r_load rfl rfl (ag58 _) hs.own (by rfl)) ?_
                 refine sVal (r_nil rfl rfl) ?_
                 refine sVal (r_field rfl rfl of108_1) ?_
                 refine sVal (r_field rfl rfl of80_2) ?_
                 refine sVal (r_load rfl rfl (ag3 _) hs.own (by rfl)) ?_
                 refine sVal (r_build rfl rfl pl85 zr85 (by rfl)) ?_
                 refine s_enter (r_call rfl ent83 rfl) rfl ?_
                 refine out_use (a := (a)) _ _ _ _ _ _ _ (by (try simp only [few_to, few_stop, few_ready, few_heard, few_setMS, few_tell, few_out]); omega) (act_close g ((a)) hs (by (try simp only [mkS, mkU, noS, hc3, hc5, hc7, hc9, hc11, Bool.true_or, Bool.false_or, Bool.or_true, Bool.or_false, ↓reduceIte, or_true, true_or, or_false, false_or]); (repeat (first | apply Cut.pair | exact Cut.head _ _ | apply Cut.tail)); done) (by repeat (first | exact Keeps.refl _ | apply Keeps.tail | apply Keeps.drop))) (Cut.head _ _) ?_
                 intro g w hs
                 replace hs := act_open hs
                 refine ⟨_, rfl, a_put (by rfl) ?_⟩
                 refine s_nil ?_
                 refine hK17 _ _ ?_
                 refine c_region ?_
                 refine sVal (r_move rfl rfl) ?_
                 refine s_enter (r_call rfl ent84 rfl) rfl ?_
                 refine ready_use (a := (a.out (mkU 6 a.c.peer false noS))) (act_close g ((a.out (mkU 6 a.c.peer false noS))) hs (by (try simp only [mkS, mkU, noS, hc3, hc5, hc7, hc9, hc11, Bool.true_or, Bool.false_or, Bool.or_true, Bool.or_false, ↓reduceIte, or_true, true_or, or_false, false_or]); (repeat (first | apply Cut.pair | exact Cut.head _ _ | apply Cut.tail)); done) (by repeat (first | exact Keeps.refl _ | apply Keeps.tail | apply Keeps.drop))) (Cut.head _ _) ?_
                 intro g w hs
                 replace hs := act_open hs
                 refine ⟨_, rfl, a_put (by rfl) ?_⟩
                 refine s_nil ?_
                 refine f_end (rs := []) rfl .nil rfl ?_
                 refine hk g _ (act_close g (a.ask k d) hs (by (try simp only [As.ask, mkS, mkU, noS, hc3, hc5, hc7, hc9, hc11, Bool.true_or, Bool.false_or, Bool.or_true, Bool.or_false, ↓reduceIte, or_true, true_or, or_false, false_or]); repeat (first | apply Cut.pair | exact Cut.head _ _ | apply Cut.tail)) (by repeat (first | exact Keeps.refl _ | apply Keeps.tail | apply Keeps.drop)))))
           case true =>
            replace hc9 := eqT hc9
            try dsimp only at hc9
            first
            | (exfalso; first | omega | (cases hc9; done))
            | (
              refine c_condT rfl ?_
              refine c_region ?_
              refine sVal (r_move rfl rfl) ?_
              refine sVal (r_move rfl rfl) ?_
              refine s_enter (r_call rfl ent63 rfl) rfl ?_
              refine begin_use (a := (a)) _ _ hv (by omega) (act_close g ((a)) hs (by (try simp only [mkS, mkU, noS, hc3, hc5, hc7, hc9, Bool.true_or, Bool.false_or, Bool.or_true, Bool.or_false, ↓reduceIte, or_true, true_or, or_false, false_or]); (repeat (first | apply Cut.pair | exact Cut.head _ _ | apply Cut.tail)); done) (by repeat (first | exact Keeps.refl _ | apply Keeps.tail | apply Keeps.drop))) (Cut.head _ _) ?_
              intro g w hs
              replace hs := act_open hs
              refine ⟨_, rfl, a_put (by rfl) ?_⟩
              refine s_nil ?_
              refine f_end (rs := []) rfl .nil rfl ?_
              refine hk g _ (act_close g (a.ask k d) hs (by (try simp only [As.ask, mkS, mkU, noS, hc3, hc5, hc7, hc9, Bool.true_or, Bool.false_or, Bool.or_true, Bool.or_false, ↓reduceIte, or_true, true_or, or_false, false_or]); repeat (first | apply Cut.pair | exact Cut.head _ _ | apply Cut.tail)) (by repeat (first | exact Keeps.refl _ | apply Keeps.tail | apply Keeps.drop)))))
        case true =>
         replace hc7 := eqT hc7
         try dsimp only at hc7
         first
         | (exfalso; first | omega | (cases hc7; done))
         | (
           refine c_condT rfl ?_
           refine wp_seq_k (fun K18 hK18 => ?_)
           refine wp_seq_k (fun K19 hK19 => ?_)
           refine c_region ?_
           refine sVal (r_move rfl rfl) ?_
           refine sVal (r_nil rfl rfl) ?_
           refine sVal (r_field rfl rfl of121_0) ?_
           refine sVal (r_load rfl rfl (ag58 _) hs.own (by rfl)) ?_
           refine sVal (r_nil rfl rfl) ?_
           refine sVal (r_field rfl rfl of108_1) ?_
           refine sVal (r_field rfl rfl of80_0) ?_
           refine sVal (r_load rfl rfl (ag3 _) hs.own (by rfl)) ?_
           refine s_bool (r_cmp rfl rfl rfl rfl) rfl rfl (fun _ => by rfl) ?_
           intro c20 hc20
           refine s_nil ?_
           refine hK19 _ _ ?_
           cases c20
           case false =>
            replace hc20 := eqF hc20
            try dsimp only at hc20
            first
            | (exfalso; first | omega | (cases hc20; done))
            | (
              refine c_condF rfl ?_
              refine wp_skip ?_
              refine hK18 _ _ ?_
              refine c_region ?_
              refine sVal (r_move rfl rfl) ?_
              refine sVal (r_move rfl rfl) ?_
              refine s_enter (r_call rfl ent85 rfl) rfl ?_
              refine leave_use (a := (a)) _ (by omega) (act_close g ((a)) hs (by (try simp only [mkS, mkU, noS, hc3, hc5, hc7, hc20, Bool.true_or, Bool.false_or, Bool.or_true, Bool.or_false, ↓reduceIte, or_true, true_or, or_false, false_or]); (repeat (first | apply Cut.pair | exact Cut.head _ _ | apply Cut.tail)); done) (by repeat (first | exact Keeps.refl _ | apply Keeps.tail | apply Keeps.drop))) (Cut.head _ _) ?_
              intro g w hs
              replace hs := act_open hs
              refine ⟨_, rfl, a_put (by rfl) ?_⟩
              refine s_nil ?_
              refine f_end (rs := []) rfl .nil rfl ?_
              refine hk g _ (act_close g (a.ask k d) hs (by (try simp only [As.ask, mkS, mkU, noS, hc3, hc5, hc7, hc20, Bool.true_or, Bool.false_or, Bool.or_true, Bool.or_false, ↓reduceIte, or_true, true_or, or_false, false_or]); repeat (first | apply Cut.pair | exact Cut.head _ _ | apply Cut.tail)) (by repeat (first | exact Keeps.refl _ | apply Keeps.tail | apply Keeps.drop))))
           case true =>
            replace hc20 := eqT hc20
            try dsimp only at hc20
            first
            | (exfalso; first | omega | (cases hc20; done))
            | (
              refine c_condT rfl ?_
              refine wp_seq_k (fun K21 hK21 => ?_)
              refine c_region ?_
              refine sVal (r_move rfl rfl) ?_
              refine sVal (r_move rfl rfl) ?_
              refine sVal (r_nil rfl rfl) ?_
              refine sVal (r_field rfl rfl of121_0) ?_
              refine sVal (r_load rfl rfl (ag58 _) hs.own (by rfl)) ?_
              refine sVal (r_nil rfl rfl) ?_
              refine sVal (r_field rfl rfl of108_1) ?_
              refine sVal (r_field rfl rfl of80_2) ?_
              refine sVal (r_load rfl rfl (ag3 _) hs.own (by rfl)) ?_
              refine sVal (r_move rfl rfl) ?_
              refine sVal (r_build rfl rfl pl85 zr85 (by rfl)) ?_
              refine s_enter (r_call rfl ent83 rfl) rfl ?_
              refine out_use (a := (a)) _ _ _ _ _ _ _ (by (try simp only [few_to, few_stop, few_ready, few_heard, few_setMS, few_tell, few_out]); omega) (act_close g ((a)) hs (by (try simp only [mkS, mkU, noS, hc3, hc5, hc7, hc20, Bool.true_or, Bool.false_or, Bool.or_true, Bool.or_false, ↓reduceIte, or_true, true_or, or_false, false_or]); (repeat (first | apply Cut.pair | exact Cut.head _ _ | apply Cut.tail)); done) (by repeat (first | exact Keeps.refl _ | apply Keeps.tail | apply Keeps.drop))) (Cut.head _ _) ?_
              intro g w hs
              replace hs := act_open hs
              refine ⟨_, rfl, a_put (by rfl) ?_⟩
              refine s_nil ?_
              refine hK21 _ _ ?_
              refine wp_seq_k (fun K22 hK22 => ?_)
              refine c_region ?_
              refine sVal (r_move rfl rfl) ?_
              refine s_enter (r_call rfl ent79 rfl) rfl ?_
              refine to_use (a := (a.out (mkU 7 a.c.peer false d))) _ (act_close g ((a.out (mkU 7 a.c.peer false d))) hs (by (try simp only [mkS, mkU, noS, hc3, hc5, hc7, hc20, Bool.true_or, Bool.false_or, Bool.or_true, Bool.or_false, ↓reduceIte, or_true, true_or, or_false, false_or]); (repeat (first | apply Cut.pair | exact Cut.head _ _ | apply Cut.tail)); done) (by repeat (first | exact Keeps.refl _ | apply Keeps.tail | apply Keeps.drop))) (Cut.head _ _) ?_
              intro g w hs
              replace hs := act_open hs
              refine ⟨_, rfl, a_put (by rfl) ?_⟩
              refine s_nil ?_
              refine hK22 _ _ ?_
              refine wp_ret ?_
              refine f_ret (rs := []) rfl .nil rfl ?_
              refine hk g _ (act_close g (a.ask k d) hs (by (try simp only [As.ask, mkS, mkU, noS, hc3, hc5, hc7, hc20, Bool.true_or, Bool.false_or, Bool.or_true, Bool.or_false, ↓reduceIte, or_true, true_or, or_false, false_or]); repeat (first | apply Cut.pair | exact Cut.head _ _ | apply Cut.tail)) (by repeat (first | exact Keeps.refl _ | apply Keeps.tail | apply Keeps.drop))))))
     case true =>
      replace hc5 := eqT hc5
      try dsimp only at hc5
      first
      | (exfalso; first | omega | (cases hc5; done))
      | (
        refine c_condT rfl ?_
        refine wp_seq_k (fun K23 hK23 => ?_)
        refine c_region ?_
        refine sVal (r_move rfl rfl) ?_
        refine sVal (r_move rfl rfl) ?_
        refine sVal (r_nil rfl rfl) ?_
        refine sVal (r_field rfl rfl of121_0) ?_
        refine sVal (r_load rfl rfl (ag58 _) hs.own (by rfl)) ?_
        refine sVal (r_nil rfl rfl) ?_
        refine sVal (r_field rfl rfl of108_1) ?_
        refine sVal (r_field rfl rfl of80_2) ?_
        refine sVal (r_load rfl rfl (ag3 _) hs.own (by rfl)) ?_
        refine sVal (r_build rfl rfl pl85 zr85 (by rfl)) ?_
        refine s_enter (r_call rfl ent83 rfl) rfl ?_
        refine out_use (a := (a)) _ _ _ _ _ _ _ (by (try simp only [few_to, few_stop, few_ready, few_heard, few_setMS, few_tell, few_out]); omega) (act_close g ((a)) hs (by (try simp only [mkS, mkU, noS, hc3, hc5, Bool.true_or, Bool.false_or, Bool.or_true, Bool.or_false, ↓reduceIte, or_true, true_or, or_false, false_or]); (repeat (first | apply Cut.pair | exact Cut.head _ _ | apply Cut.tail)); done) (by repeat (first | exact Keeps.refl _ | apply Keeps.tail | apply Keeps.drop))) (Cut.head _ _) ?_
        intro g w hs
        replace hs := act_open hs
        refine ⟨_, rfl, a_put (by rfl) ?_⟩
        refine s_nil ?_
        refine hK23 _ _ ?_
        refine c_region ?_
        refine sVal (r_move rfl rfl) ?_
        refine s_enter (r_call rfl ent84 rfl) rfl ?_
        refine ready_use (a := (a.out (mkU 2 a.c.peer false noS))) (act_close g ((a.out (mkU 2 a.c.peer false noS))) hs (by (try simp only [mkS, mkU, noS, hc3, hc5, Bool.true_or, Bool.false_or, Bool.or_true, Bool.or_false, ↓reduceIte, or_true, true_or, or_false, false_or]); (repeat (first | apply Cut.pair | exact Cut.head _ _ | apply Cut.tail)); done) (by repeat (first | exact Keeps.refl _ | apply Keeps.tail | apply Keeps.drop))) (Cut.head _ _) ?_
        intro g w hs
        replace hs := act_open hs
        refine ⟨_, rfl, a_put (by rfl) ?_⟩
        refine s_nil ?_
        refine f_end (rs := []) rfl .nil rfl ?_
        refine hk g _ (act_close g (a.ask k d) hs (by (try simp only [As.ask, mkS, mkU, noS, hc3, hc5, Bool.true_or, Bool.false_or, Bool.or_true, Bool.or_false, ↓reduceIte, or_true, true_or, or_false, false_or]); repeat (first | apply Cut.pair | exact Cut.head _ _ | apply Cut.tail)) (by repeat (first | exact Keeps.refl _ | apply Keeps.tail | apply Keeps.drop)))))
  case true =>
   replace hc3 := eqT hc3
   try dsimp only at hc3
   first
   | (exfalso; first | omega | (cases hc3; done))
   | (
     refine c_condT rfl ?_
     refine c_region ?_
     refine sVal (r_move rfl rfl) ?_
     refine sVal (r_move rfl rfl) ?_
     refine s_enter (r_call rfl ent63 rfl) rfl ?_
     refine begin_use (a := (a)) _ _ hv (by omega) (act_close g ((a)) hs (by (try simp only [mkS, mkU, noS, hc3, Bool.true_or, Bool.false_or, Bool.or_true, Bool.or_false, ↓reduceIte, or_true, true_or, or_false, false_or]); (repeat (first | apply Cut.pair | exact Cut.head _ _ | apply Cut.tail)); done) (by repeat (first | exact Keeps.refl _ | apply Keeps.tail | apply Keeps.drop))) (Cut.head _ _) ?_
     intro g w hs
     replace hs := act_open hs
     refine ⟨_, rfl, a_put (by rfl) ?_⟩
     refine s_nil ?_
     refine f_end (rs := []) rfl .nil rfl ?_
     refine hk g _ (act_close g (a.ask k d) hs (by (try simp only [As.ask, mkS, mkU, noS, hc3, Bool.true_or, Bool.false_or, Bool.or_true, Bool.or_false, ↓reduceIte, or_true, true_or, or_false, false_or]); repeat (first | apply Cut.pair | exact Cut.head _ _ | apply Cut.tail)) (by repeat (first | exact Keeps.refl _ | apply Keeps.tail | apply Keeps.drop))))

end
end Go.Proofs.Ytoeaamohchpjdaa
