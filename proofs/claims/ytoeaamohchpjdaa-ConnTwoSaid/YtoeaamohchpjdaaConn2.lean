/-
  A connection: contracts of a call in the making, continued.
-/
import Derived.Test.YtoeaamohchpjdaaConn
namespace Go.Proofs.Ytoeaamohchpjdaa
open Go Go.RowKit
set_option linter.unusedVariables false
set_option linter.unusedSimpArgs false
set_option maxRecDepth 100000
attribute [local irreducible] own fix oL rL osl rsl fact some' wpList wpHi wpPre wpAny After AfterH

def intC (n : Int) : List Value := [.int .i64 n]
theorem back_snoc {a : As} {p : Un} {k : Int} {st : List Int} {j : Nat} {x : Int} (h : st[j]? = some x) : a.back p k (st.take (j + 1)) = As.back1 k p.sq (a.back p k (st.take j)) x := by
  obtain ⟨hlt, rfl⟩ := List.getElem?_eq_some_iff.1 h
  unfold As.back
  rw [List.take_succ_eq_append_getElem hlt, List.foldl_append]; rfl
section
variable {E : World} {H R : HP} {w : World} {Q : Ending → World → Prop} {ba bc : Nat} {g : Gh} {a : As}

theorem begin_use (s : Int) (d : ByteArray) (hv : CnOk a.c) (hb : a.few ≤ 80000) (hs : Sat E H w) (c : Cut H (actP ba bc g a) R) (hk : ∀ g' w', Sat E (R * actP ba bc g' (a.begin s d)) w' → Q (.returned (.tuple #[])) w') :
    Calls Try.prog 63 #[.pointer (some ⟨ba, 0, none⟩), .int .i64 s, .string d] w Q := by
  replace hs := act_open (hs.cut c)
  have hv2 : 0 ≤ (a.to s).c.sq ∧ (a.to s).c.sq ≤ 255 := hv.sq
  refine f_enter Try.func63 rfl rfl ?_
  show Code.wp _ _ _ (Fr _) _
  refine wp_seq_k (fun K1 hK1 => ?_)
  refine c_region ?_
  refine sVal (r_move rfl rfl) ?_
  refine sVal (r_move rfl rfl) ?_
  refine s_enter (r_call rfl ent79 rfl) rfl ?_
  refine to_use (a := a) _ (act_close g (a) hs (by (try simp only [As.begin, As.renew, Bool.true_or, Bool.false_or, Bool.or_true, Bool.or_false, ↓reduceIte, or_true, true_or, or_false, false_or]); (repeat (first | apply Cut.pair | exact Cut.head _ _ | apply Cut.tail)); done) (by repeat (first | exact Keeps.refl _ | apply Keeps.tail | apply Keeps.drop))) (Cut.head _ _) ?_
  intro g w hs
  replace hs := act_open hs
  refine ⟨_, rfl, a_put (by rfl) ?_⟩
  refine s_nil ?_
  refine hK1 _ _ ?_
  refine wp_seq_k (fun K2 hK2 => ?_)
  replace hs := hs.drew
  refine d_start (by kernel_rfl) ?_
  refine d_pre [0, 1, 2, 4, 5, 6, 8, 9, 10, 12, 13, 14, 22] (g := 21) (by kernel_rfl) (fun _ _ d _ _ h => by cases d <;> exact h) ?_
  refine pVal rfl (fun w => (r_move rfl rfl)) ?_
  refine pVal rfl (fun w => (r_nil rfl rfl)) ?_
  refine pVal rfl (fun w => (r_field rfl rfl of121_0)) ?_
  refine pVal rfl (fun w => (r_move rfl rfl)) ?_
  refine pVal rfl (fun w => (r_nil rfl rfl)) ?_
  refine pVal rfl (fun w => (r_field rfl rfl of121_0)) ?_
  refine pVal rfl (fun w => (r_move rfl rfl)) ?_
  refine pVal rfl (fun w => (r_nil rfl rfl)) ?_
  refine pVal rfl (fun w => (r_field rfl rfl of121_0)) ?_
  refine pVal rfl (fun w => (r_move rfl rfl)) ?_
  refine pVal rfl (fun w => (r_nil rfl rfl)) ?_
  refine pVal rfl (fun w => (r_field rfl rfl of121_0)) ?_
  refine pVal rfl (fun w => (r_move rfl rfl)) ?_
  refine p_nil ?_
  refine d_head 23 [(3, true), (7, true), (11, true), (15, true), (16, true), (17, true), (18, true), (19, true), (20, true), (21, true)] (Holds _ _) (g := 11) (by kernel_rfl) (fun _ _ d _ _ h => by cases d <;> exact h) (Holds.self hs) ?_
  refine hVal rfl (fun w hS => (r_load rfl rfl (ag58 _) hS.own (by rfl))) ?_
  refine hVal rfl (fun w hS => (r_load rfl rfl (ag58 _) hS.own (by rfl))) ?_
  refine hVal rfl (fun w hS => (r_load rfl rfl (ag58 _) hS.own (by rfl))) ?_
  refine hVal rfl (fun w hS => (r_load rfl rfl (ag58 _) hS.own (by rfl))) ?_
  refine hVal rfl (fun w hS => (r_nil rfl rfl)) ?_
  refine hVal rfl (fun w hS => (r_field rfl rfl of108_1)) ?_
  refine hVal rfl (fun w hS => (r_field rfl rfl of80_1)) ?_
  refine hVal rfl (fun w hS => (r_load rfl rfl (ag3 _) hS.own (by rfl))) ?_
  refine hVal rfl (fun w hS => (r_ari rfl rfl rfl rfl (by first | exact wrapI (by omega) | rfl))) ?_
  refine hVal rfl (fun w hS => (r_div rfl rfl rfl (by decide) rfl (Int.tmod_eq_emod_of_nonneg (by omega)))) ?_
  refine h_nil ?_
  refine d_tail 23 (by kernel_rfl) ?_
  refine sVal (r_nil rfl rfl) ?_
  refine sVal (r_field rfl rfl of108_1) ?_
  refine sVal (r_field rfl rfl of80_1) ?_
  refine s_exS (r_store rfl rfl rfl hs (by (repeat (first | exact Cut.head _ _ | apply Cut.tail)); done) in3 sz3 rfl (by rfl)) rfl rfl ?_
  intro w hs
  refine sVal (r_nil rfl rfl) ?_
  refine sVal (r_field rfl rfl of108_1) ?_
  refine sVal (r_field rfl rfl of80_3) ?_
  refine s_exS (r_store rfl rfl rfl hs (by (repeat (first | exact Cut.head _ _ | apply Cut.tail)); done) in3 sz3 rfl (by rfl)) rfl rfl ?_
  intro w hs
  refine sVal (r_nil rfl rfl) ?_
  refine sVal (r_field rfl rfl of108_2) ?_
  refine s_exS (r_store rfl rfl rfl hs (by (repeat (first | exact Cut.head _ _ | apply Cut.tail)); done) in9 sz9 rfl (by rfl)) rfl rfl ?_
  intro w hs
  refine s_nil ?_
  refine hK2 _ _ ?_
  refine c_region ?_
  refine sVal (r_move rfl rfl) ?_
  refine s_enter (r_call rfl ent75 rfl) rfl ?_
  refine again_use (a := (a.to s).renew d) (by show (a.to s).few ≤ _; rw [few_to]; omega) (act_close g ((a.to s).renew d) hs (by (try simp only [As.begin, As.renew, Bool.true_or, Bool.false_or, Bool.or_true, Bool.or_false, ↓reduceIte, or_true, true_or, or_false, false_or]); (repeat (first | apply Cut.pair | exact Cut.head _ _ | apply Cut.tail)); done) (by repeat (first | exact Keeps.refl _ | apply Keeps.tail | apply Keeps.drop))) (Cut.head _ _) ?_
  intro g w hs
  replace hs := act_open hs
  refine ⟨_, rfl, a_put (by rfl) ?_⟩
  refine s_nil ?_
  refine f_end (rs := []) rfl .nil rfl ?_
  refine hk g _ (act_close g (a.begin s d) hs (by (try simp only [As.begin, As.renew, Bool.true_or, Bool.false_or, Bool.or_true, Bool.or_false, ↓reduceIte, or_true, true_or, or_false, false_or]); repeat (first | apply Cut.pair | exact Cut.head _ _ | apply Cut.tail)) (by repeat (first | exact Keeps.refl _ | apply Keeps.tail | apply Keeps.drop)))

theorem leave_use (d : ByteArray) (hb : a.few ≤ 80000) (hs : Sat E H w) (c : Cut H (actP ba bc g a) R) (hk : ∀ g' w', Sat E (R * actP ba bc g' (a.leave d)) w' → Q (.returned (.tuple #[])) w') :
    Calls Try.prog 85 #[.pointer (some ⟨ba, 0, none⟩), .string d] w Q := by
  replace hs := act_open (hs.cut c)
  refine f_enter Try.func85 rfl rfl ?_
  show Code.wp _ _ _ (Fr _) _
  refine wp_seq_k (fun K1 hK1 => ?_)
  refine c_region ?_
  refine sVal (r_move rfl rfl) ?_
  refine s_enter (r_call rfl ent79 rfl) rfl ?_
  refine to_use (a := a) _ (act_close g (a) hs (by (try simp only [As.leave, As.first, Bool.true_or, Bool.false_or, Bool.or_true, Bool.or_false, ↓reduceIte, or_true, true_or, or_false, false_or]); (repeat (first | apply Cut.pair | exact Cut.head _ _ | apply Cut.tail)); done) (by repeat (first | exact Keeps.refl _ | apply Keeps.tail | apply Keeps.drop))) (Cut.head _ _) ?_
  intro g w hs
  replace hs := act_open hs
  refine ⟨_, rfl, a_put (by rfl) ?_⟩
  refine s_nil ?_
  refine hK1 _ _ ?_
  refine wp_seq_k (fun K2 hK2 => ?_)
  replace hs := hs.drew
  refine d_start (by kernel_rfl) ?_
  refine d_pre [0, 1, 2, 4, 5, 6, 8] (g := 9) (by kernel_rfl) (fun _ _ d _ _ h => by cases d <;> exact h) ?_
  refine pVal rfl (fun w => (r_move rfl rfl)) ?_
  refine pVal rfl (fun w => (r_nil rfl rfl)) ?_
  refine pVal rfl (fun w => (r_field rfl rfl of121_0)) ?_
  refine pVal rfl (fun w => (r_move rfl rfl)) ?_
  refine pVal rfl (fun w => (r_nil rfl rfl)) ?_
  refine pVal rfl (fun w => (r_field rfl rfl of121_0)) ?_
  refine pVal rfl (fun w => (r_move rfl rfl)) ?_
  refine p_nil ?_
  refine d_head 9 [(3, true), (7, true)] (Holds _ _) (g := 7) (by kernel_rfl) (fun _ _ d _ _ h => by cases d <;> exact h) (Holds.self hs) ?_
  refine hVal rfl (fun w hS => (r_load rfl rfl (ag58 _) hS.own (by rfl))) ?_
  refine hVal rfl (fun w hS => (r_load rfl rfl (ag58 _) hS.own (by rfl))) ?_
  refine h_nil ?_
  refine d_tail 9 (by kernel_rfl) ?_
  refine sVal (r_nil rfl rfl) ?_
  refine sVal (r_field rfl rfl of108_1) ?_
  refine sVal (r_field rfl rfl of80_3) ?_
  refine s_exS (r_store rfl rfl rfl hs (by (repeat (first | exact Cut.head _ _ | apply Cut.tail)); done) in3 sz3 rfl (by rfl)) rfl rfl ?_
  intro w hs
  refine sVal (r_nil rfl rfl) ?_
  refine sVal (r_field rfl rfl of108_2) ?_
  refine s_exS (r_store rfl rfl rfl hs (by (repeat (first | exact Cut.head _ _ | apply Cut.tail)); done) in9 sz9 rfl (by rfl)) rfl rfl ?_
  intro w hs
  refine s_nil ?_
  refine hK2 _ _ ?_
  refine c_region ?_
  refine sVal (r_move rfl rfl) ?_
  refine s_enter (r_call rfl ent75 rfl) rfl ?_
  refine again_use (a := (a.to 4).first d) (by show (a.to 4).few ≤ _; rw [few_to]; omega) (act_close g ((a.to 4).first d) hs (by (try simp only [As.leave, As.first, Bool.true_or, Bool.false_or, Bool.or_true, Bool.or_false, ↓reduceIte, or_true, true_or, or_false, false_or]); (repeat (first | apply Cut.pair | exact Cut.head _ _ | apply Cut.tail)); done) (by repeat (first | exact Keeps.refl _ | apply Keeps.tail | apply Keeps.drop))) (Cut.head _ _) ?_
  intro g w hs
  replace hs := act_open hs
  refine ⟨_, rfl, a_put (by rfl) ?_⟩
  refine s_nil ?_
  refine f_end (rs := []) rfl .nil rfl ?_
  refine hk g _ (act_close g (a.leave d) hs (by (try simp only [As.leave, As.first, Bool.true_or, Bool.false_or, Bool.or_true, Bool.or_false, ↓reduceIte, or_true, true_or, or_false, false_or]); repeat (first | apply Cut.pair | exact Cut.head _ _ | apply Cut.tail)) (by repeat (first | exact Keeps.refl _ | apply Keeps.tail | apply Keeps.drop)))

theorem heard_use (k sq n ps mr : Int) (self : Bool) (d : ByteArray)  (hs : Sat E H w) (c : Cut H (actP ba bc g a) R) (hk : ∀ g' w', Sat E (R * actP ba bc g' (a.heard ⟨k, sq, n, ps, mr, self, d⟩)) w' → Q (.returned (.tuple #[])) w') :
    Calls Try.prog 106 #[.pointer (some ⟨ba, 0, none⟩), .agg #[.int .i64 k, .int .i64 sq, .int .u32 n, .int .u32 ps, .int .u32 mr, .slice none 0 0, .bool self, .string d]] w Q := by
  replace hs := act_open (hs.cut c)
  refine f_enter Try.func106 rfl rfl ?_
  show Code.wp _ _ _ (Fr _) _
  refine wp_seq_k (fun K1 hK1 => ?_)
  refine c_region ?_
  refine s_ex (r_box rfl rfl rfl hs) rfl rfl (fun _ => by rfl) ?_
  intro b2 w hs
  refine s_nil ?_
  refine hK1 _ _ ?_
  replace hs := hs.drew
  refine d_start (by kernel_rfl) ?_
  refine d_pre [0, 1, 2, 4, 5, 6, 8, 10] (g := 12) (by kernel_rfl) (fun _ _ d _ _ h => by cases d <;> exact h) ?_
  refine pVal rfl (fun w => (r_move rfl rfl)) ?_
  refine pVal rfl (fun w => (r_nil rfl rfl)) ?_
  refine pVal rfl (fun w => (r_field rfl rfl of121_0)) ?_
  refine pVal rfl (fun w => (r_move rfl rfl)) ?_
  refine pVal rfl (fun w => (r_nil rfl rfl)) ?_
  refine pVal rfl (fun w => (r_field rfl rfl of121_0)) ?_
  refine pVal rfl (fun w => (r_field rfl rfl of85_1)) ?_
  refine pVal rfl (fun w => (r_field rfl rfl of85_2)) ?_
  refine p_nil ?_
  refine d_head 16 [(3, true), (7, true), (9, true), (11, true), (12, true), (13, true), (14, true), (15, false)] (Holds _ _) (g := 4) (by kernel_rfl) (fun _ _ d _ _ h => by cases d <;> exact h) (Holds.but (A := own bc _) hs (by (repeat (first | apply Cut.pair | exact Cut.head _ _ | apply Cut.tail)); done)) ?_
  refine hVal rfl (fun w hS => (r_load rfl rfl (ag58 _) hS.own (by rfl))) ?_
  refine hVal rfl (fun w hS => (r_load rfl rfl (ag58 _) hS.own (by rfl))) ?_
  refine hVal rfl (fun w hS => (r_load rfl rfl (ag3 _) hS.own (by rfl))) ?_
  refine hVal rfl (fun w hS => (r_load rfl rfl (ag61 _) hS.own (by rfl))) ?_
  refine hVal rfl (fun w hS => (r_nil rfl rfl)) ?_
  refine hVal rfl (fun w hS => (r_field rfl rfl of108_1)) ?_
  refine hVal rfl (fun w hS => (r_field rfl rfl of80_2)) ?_
  refine h_exS rfl (r_store rfl rfl rfl hs (by (repeat (first | exact Cut.head _ _ | apply Cut.tail)); done) in3 sz3 rfl (by rfl)) rfl rfl ?_
  intro w hs
  refine ⟨(Holds.mono (Holds.but (A := own bc _) hs (by (repeat (first | apply Cut.pair | exact Cut.head _ _ | apply Cut.tail)); done)) (by repeat (first | exact Keeps.refl _ | apply Keeps.tail | apply Keeps.drop))), ?_⟩
  refine h_nil ?_
  refine d_tail 16 (by kernel_rfl) ?_
  refine sVal (r_nil rfl rfl) ?_
  refine sVal (r_field rfl rfl of108_1) ?_
  refine sVal (r_field rfl rfl of80_4) ?_
  refine s_exS (r_store rfl rfl rfl hs (by (repeat (first | exact Cut.head _ _ | apply Cut.tail)); done) in61 sz61 rfl (by rfl)) rfl rfl ?_
  intro w hs
  refine s_nil ?_
  refine f_end (rs := []) rfl .nil rfl ?_
  refine hk g _ (act_close g (a.heard ⟨k, sq, n, ps, mr, self, d⟩) hs (by (try simp only [As.heard, Bool.true_or, Bool.false_or, Bool.or_true, Bool.or_false, ↓reduceIte, or_true, true_or, or_false, false_or]); repeat (first | apply Cut.pair | exact Cut.head _ _ | apply Cut.tail)) (by repeat (first | exact Keeps.refl _ | apply Keeps.tail | apply Keeps.drop)))

theorem back_use (k sq n ps mr : Int) (self : Bool) (d : ByteArray) (kk : Int) (st : List Int) (pp : Option Addr) (cc : Nat) {R1 : HP} (hb : a.few ≤ 80000) (hl : st.length ≤ 10) (hs : Sat E H w) (c1 : Cut H (oL 3 1 intC (.slice pp st.length cc) st) R1) (c : Cut R1 (actP ba bc g a) R)
    (hk : ∀ g' w', Sat E (R * actP ba bc g' (a.back ⟨k, sq, n, ps, mr, self, d⟩ kk st)) w' → Q (.returned (.tuple #[])) w') :
    Calls Try.prog 90 #[.pointer (some ⟨ba, 0, none⟩), .agg #[.int .i64 k, .int .i64 sq, .int .u32 n, .int .u32 ps, .int .u32 mr, .slice none 0 0, .bool self, .string d], .int .i64 kk, .slice pp st.length cc] w Q := by
  replace hs := hs.cut (Cut.pair c1 c)
  rw [← star_assoc] at hs
  replace hs := hs.eq (star_right_comm _ _ _)
  refine f_enter Try.func90 rfl rfl ?_
  show Code.wp _ _ _ (Fr _) _
  refine wp_seq_k (fun K1 hK1 => ?_)
  refine c_region ?_
  refine s_ex (r_box rfl rfl rfl hs) rfl rfl (fun _ => by rfl) ?_
  intro bp w hs
  refine s_nil ?_
  refine hK1 _ _ ?_
  refine wp_seq_k (fun K2 hK2 => ?_)
  refine c_region ?_
  refine sVal (r_move rfl rfl) ?_
  refine sVal (r_len rfl rfl Try.underlying22) ?_
  refine sVal (r_move rfl rfl) ?_
  refine s_nil ?_
  refine hK2 _ _ ?_
  refine wp_block ?_
  refine c_loop (9 :: 12 :: 13 :: 14 :: 15 :: 16 :: 17 :: 18 :: 19 :: 20 :: 21 :: 22 :: 23 :: 24 :: 25 :: 26 :: 27 :: 28 :: 29 :: 30 :: 31 :: 32 :: []) (fun xs w => ∃ (j : Nat) (g : Gh), xs = (xAt xs 0 :: .int .i64 (j : Int) :: xAt xs 2 :: xAt xs 3 :: xAt xs 4 :: xAt xs 5 :: xAt xs 6 :: xAt xs 7 :: xAt xs 8 :: xAt xs 9 :: xAt xs 10 :: xAt xs 11 :: xAt xs 12 :: xAt xs 13 :: xAt xs 14 :: xAt xs 15 :: xAt xs 16 :: xAt xs 17 :: xAt xs 18 :: xAt xs 19 :: xAt xs 20 :: xAt xs 21 :: []) ∧ j ≤ st.length ∧ Sat E (R * oL 3 1 intC (.slice pp st.length cc) st * own bp (.cells #[.int .i64 k, .int .i64 sq, .int .u32 n, .int .u32 ps, .int .u32 mr, .slice none 0 0, .bool self, .string d] 85 (0, 0)) * actP ba bc g (a.back ⟨k, sq, n, ps, mr, self, d⟩ kk (st.take j))) w) (fun xs _ => st.length - (intOf (xAt xs 1)).toNat) rfl (by rfl) ?_ ?_
  · exact ⟨0, g, rfl, by omega, hs.eq (by simp only [List.take_zero]; exact (star_right_comm _ _ _))⟩
  clear hs
  rintro xs w ⟨j, g, hxs, hj, hs⟩
  obtain ⟨D3, hD3⟩ : ∃ D, D = xAt xs := ⟨_, rfl⟩
  rw [← hD3] at hxs
  clear hD3
  subst hxs
  refine ⟨_, rfl, fun KL4 hKL4 => ?_⟩
  refine wp_seq_k (fun K5 hK5 => ?_)
  refine c_region ?_
  refine s_bool (r_cmp rfl rfl rfl rfl) rfl rfl (fun _ => by rfl) ?_
  intro c6 hc6
  refine s_nil ?_
  refine hK5 _ _ ?_
  refine wp_seq_k (fun K7 hK7 => ?_)
  cases c6
  case false =>
   replace hc6 := decF' hc6
   try dsimp only at hc6
   first
   | (exfalso; first | omega | (cases hc6; done))
   | (
     refine c_condF rfl ?_
     refine wp_exit ?_
     refine f_end (rs := []) rfl .nil rfl ?_
     obtain rfl : j = st.length := by omega
     rw [List.take_length] at hs
     exact hk g _ ((Keeps.drop (Keeps.drop (Keeps.refl R))) _ _ _ hs))
  case true =>
   replace hc6 := decT' hc6
   try dsimp only at hc6
   first
   | (exfalso; first | omega | (cases hc6; done))
   | (
     refine c_condT rfl ?_
     refine wp_skip ?_
     refine hK7 _ _ ?_
     refine wp_seq_k (fun K8 hK8 => ?_)
     refine wp_block ?_
     refine wp_seq_k (fun K9 hK9 => ?_)
     refine c_region ?_
     obtain ⟨x, hx⟩ : ∃ x, st[j]? = some x := ⟨_, List.getElem?_eq_getElem (by omega)⟩
     replace hs := act_open hs
     refine s_exQ (r_idx (f := intC) rfl rfl rfl hs.rd (rfl) (hx) Try.underlying22 in3 sz3) rfl rfl (fun _ => by rfl) ?_
     intro ad11 he10
     refine sVal (r_loadEl rfl rfl hs.rd he10 (hx) (fun _ => rfl) (ag3 _) (by rfl)) ?_
     refine sVal (r_assign rfl rfl) ?_
     refine s_nil ?_
     refine hK9 _ _ ?_
     refine wp_seq_k (fun K12 hK12 => ?_)
     refine c_region ?_
     refine sVal (r_move rfl rfl) ?_
     refine sVal (r_move rfl rfl) ?_
     refine sVal (r_nil rfl rfl) ?_
     refine sVal (r_field rfl rfl of121_0) ?_
     refine sVal (r_load rfl rfl (ag58 _) hs.own (by rfl)) ?_
     refine sVal (r_nil rfl rfl) ?_
     refine sVal (r_field rfl rfl of108_1) ?_
     refine sVal (r_field rfl rfl of80_0) ?_
     refine sVal (r_load rfl rfl (ag3 _) hs.own (by rfl)) ?_
     refine s_bool (r_cmp rfl rfl rfl rfl) rfl rfl (fun _ => by rfl) ?_
     intro c13 hc13
     refine s_nil ?_
     refine hK12 _ _ ?_
     cases c13
     case false =>
      replace hc13 := eqF hc13
      try dsimp only at hc13
      first
      | (exfalso; first | omega | (cases hc13; done))
      | (
        refine c_condF rfl ?_
        refine wp_skip ?_
        refine hK8 _ _ ?_
        refine c_region ?_
        refine sVal (r_ari rfl rfl rfl rfl (by first | exact wrapI (by omega) | rfl)) ?_
        refine sVal (r_move rfl rfl) ?_
        refine s_nil ?_
        refine hKL4 _ _ _ (by rfl) (by rfl) ?_ ?_
        · exact ⟨j + 1, g, rfl, by omega, by rw [back_snoc hx]; exact act_close g _ hs (by (try simp only [As.back1, mkU, hc6, hc13, Bool.true_or, Bool.false_or, Bool.or_true, Bool.or_false, ↓reduceIte, or_true, true_or, or_false, false_or]); repeat (first | apply Cut.pair | exact Cut.head _ _ | apply Cut.tail)) (by repeat (first | exact Keeps.refl _ | apply Keeps.tail | apply Keeps.drop))⟩
        · (show _ < _; simp [intOf, xAt]; omega))
     case true =>
      replace hc13 := eqT hc13
      try dsimp only at hc13
      first
      | (exfalso; first | omega | (cases hc13; done))
      | (
        refine c_condT rfl ?_
        refine c_region ?_
        refine sVal (r_move rfl rfl) ?_
        refine sVal (r_move rfl rfl) ?_
        refine sVal (r_field rfl rfl of85_1) ?_
        refine sVal (r_load rfl rfl (ag3 _) hs.own (by rfl)) ?_
        refine sVal (r_build rfl rfl pl85 zr85 (by rfl)) ?_
        refine s_enter (r_call rfl ent83 rfl) rfl ?_
        refine out_use (a := a.back ⟨k, sq, n, ps, mr, self, d⟩ kk (st.take j)) _ _ _ _ _ _ _ (by have := few_back ⟨k, sq, n, ps, mr, self, d⟩ kk (st.take j) a; rw [List.length_take] at this; omega) (act_close g (a.back ⟨k, sq, n, ps, mr, self, d⟩ kk (st.take j)) hs (by (try simp only [As.to, hc6, hc13, Bool.true_or, Bool.false_or, Bool.or_true, Bool.or_false, ↓reduceIte, or_true, true_or, or_false, false_or]); (repeat (first | apply Cut.pair | exact Cut.head _ _ | apply Cut.tail)); done) (by repeat (first | exact Keeps.refl _ | apply Keeps.tail | apply Keeps.drop))) (Cut.head _ _) ?_
        intro g w hs
        replace hs := act_open hs
        refine ⟨_, rfl, a_put (by rfl) ?_⟩
        refine s_nil ?_
        refine hK8 _ _ ?_
        refine c_region ?_
        refine sVal (r_ari rfl rfl rfl rfl (by first | exact wrapI (by omega) | rfl)) ?_
        refine sVal (r_move rfl rfl) ?_
        refine s_nil ?_
        refine hKL4 _ _ _ (by rfl) (by rfl) ?_ ?_
        · exact ⟨j + 1, g, rfl, by omega, by rw [back_snoc hx]; exact act_close g _ hs (by (try simp only [As.back1, mkU, hc6, hc13, Bool.true_or, Bool.false_or, Bool.or_true, Bool.or_false, ↓reduceIte, or_true, true_or, or_false, false_or]); repeat (first | apply Cut.pair | exact Cut.head _ _ | apply Cut.tail)) (by repeat (first | exact Keeps.refl _ | apply Keeps.tail | apply Keeps.drop))⟩
        · (show _ < _; simp [intOf, xAt]; omega)))

end
end Go.Proofs.Ytoeaamohchpjdaa
