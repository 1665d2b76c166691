/-
  A connection's calls with what they bring told; awake; ConnNumbers.
-/
import Derived.Test.YtoeaamohchpjdaaConn6
import Derived.Test.YtoeaamohchpjdaaRow
namespace Go.Proofs.Ytoeaamohchpjdaa
open Go Go.RowKit
set_option linter.unusedVariables false
set_option linter.unusedSimpArgs false
set_option maxRecDepth 100000

theorem rest_open {E : World} {R : HP} {w : World} {bc : Nat} {g : Gh} {a : As} (h : Sat E (R * restP bc g a) w) :
    Sat E (R * own bc (.cells (cnC a.c).toArray 108 (0, 0)) * oL 93 5 sigC (.slice g.p a.r.sigs.length g.c) a.r.sigs * oL 85 8 unC (.slice g.q a.r.units.length g.e) a.r.units) w := by
  unfold restP at h
  simpa only [← star_assoc] using h
attribute [local irreducible] restP own fix oL rL osl rsl fact some' wpList wpHi wpPre wpAny After AfterH

section
variable {E : World} {H R : HP} {w : World} {Q : Ending → World → Prop} {bc : Nat} {c : Cn}
/-- What a call leaves: the connection, its signals, its units. -/
abbrev restO (R : HP) (bc : Nat) (g : Gh) (a : As) : HP := R * own bc (.cells (cnC a.c).toArray 108 (0, 0)) * oL 93 5 sigC (.slice g.p a.r.sigs.length g.c) a.r.sigs * oL 85 8 unC (.slice g.q a.r.units.length g.e) a.r.units
theorem request_of {k : Int} {d : ByteArray} (a : As) (x : Int) (e : c.request k d = a) (ex : c.reqErr k d = x) (hv : CnOk c) (hs : Sat E H w) (cu : Cut H (own bc (.cells (cnC c).toArray 108 (0, 0))) R)
    (hk : ∀ g w', Sat E (restO R bc g a) w' → Q (.returned (.tuple #[.agg (rsC g a.r).toArray, .int .i64 x])) w') :
    Calls Try.prog 34 #[.pointer (some ⟨bc, 0, none⟩), .int .i64 k, .string d] w Q := by
  subst e ex
  exact request_use k d hv hs cu (fun g w' h => hk g w' (rest_open h))
theorem receive_of {k sq n ps mr : Int} {self : Bool} {d : ByteArray} (a : As) (e : c.receive ⟨k, sq, n, ps, mr, self, d⟩ = a) (hv : CnOk c) (hk15 : 1 ≤ k ∧ k ≤ 15) (hs : Sat E H w) (cu : Cut H (own bc (.cells (cnC c).toArray 108 (0, 0))) R)
    (hk : ∀ g w', Sat E (restO R bc g a) w' → Q (.returned (.agg (rsC g a.r).toArray)) w') :
    Calls Try.prog 38 #[.pointer (some ⟨bc, 0, none⟩), .agg #[.int .i64 k, .int .i64 sq, .int .u32 n, .int .u32 ps, .int .u32 mr, .slice none 0 0, .bool self, .string d]] w Q := by
  subst e
  exact receive_use k sq n ps mr self d hv hk15 hs cu (fun g w' h => hk g w' (rest_open h))
theorem expire_of (a : As) (e : c.expire = a) (hv : CnOk c) (hs : Sat E H w) (cu : Cut H (own bc (.cells (cnC c).toArray 108 (0, 0))) R)
    (hk : ∀ g w', Sat E (restO R bc g a) w' → Q (.returned (.agg (rsC g a.r).toArray)) w') :
    Calls Try.prog 39 #[.pointer (some ⟨bc, 0, none⟩)] w Q := by
  subst e
  exact expire_use hv hs cu (fun g w' h => hk g w' (rest_open h))

theorem fin0 {R' : HP} (h : Sat E R' w) (k : Keeps R' R) : Sat E R w := (k _ emp _ h.mkEmp).eq (star_emp _)
/-- Request Establish in Idle. -/
def est (c : Cn) : As := ⟨⟨c.most, c.credit, 2, (c.sq + 1) % 256, c.peer, 1, c.ms, noS⟩, ⟨[], [⟨1, (c.sq + 1) % 256, c.credit, 0, 0, false, noS⟩], false, false, 0, 1⟩⟩
theorem request_est (m cr sq p cc ms : Int) (d : ByteArray) : Cn.request ⟨m, cr, 1, sq, p, cc, ms, d⟩ 1 noS = est ⟨m, cr, 1, sq, p, cc, ms, d⟩ := by rfl
theorem reqErr_est (m cr sq p cc ms : Int) (d : ByteArray) : Cn.reqErr ⟨m, cr, 1, sq, p, cc, ms, d⟩ 1 noS = 0 := by rfl

theorem awake_use (hs : Sat E H w) (hk : ∀ w', Sat E H w' → Q (.returned (.bool true)) w') : Calls Try.prog 30 #[] w Q := by
  refine f_enter Try.func30 rfl rfl ?_
  show Code.wp _ _ _ (Fr _) _
  refine wp_seq_k (fun K1 hK1 => ?_)
  refine c_region ?_
  refine sVal (r_assign rfl rfl) ?_
  refine s_nil ?_
  refine hK1 _ _ ?_
  refine wp_seq_k (fun K2 hK2 => ?_)
  refine c_region ?_
  refine sVal (r_build rfl rfl pl63 zr63 (by rfl)) ?_
  refine s_enter (r_call rfl ent31 rfl) rfl ?_
  refine new_use _ _ hs ?_
  intro bc w hs
  refine ⟨_, rfl, a_put (by rfl) ?_⟩
  refine sVal (r_assign rfl rfl) ?_
  refine s_nil ?_
  refine hK2 _ _ ?_
  refine wp_seq_k (fun K3 hK3 => ?_)
  refine wp_seq_k (fun K4 hK4 => ?_)
  refine c_region ?_
  refine sVal (r_move rfl rfl) ?_
  refine s_bool (r_cmpP rfl rfl rfl (by kernel_rfl) rfl) rfl rfl (fun _ => by rfl) ?_
  intro c5 hc5
  refine s_nil ?_
  refine hK4 _ _ ?_
  cases c5
  case false =>
   replace hc5 := Eq.symm hc5
   try dsimp only at hc5
   first
   | (exfalso; first | omega | (cases hc5; done))
   | (
     refine c_condF rfl ?_
     refine wp_skip ?_
     refine hK3 _ _ ?_
     refine wp_seq_k (fun K6 hK6 => ?_)
     refine c_region ?_
     refine sVal (r_move rfl rfl) ?_
     refine s_enter (r_call rfl ent34 rfl) rfl ?_
     refine request_of (c := ⟨3, 8, 1, 0, -1, 0, 8, noS⟩) (a := est ⟨3, 8, 1, 0, -1, 0, 8, noS⟩) 0 (by rfl) (by rfl) ⟨by decide, by decide, by decide, by decide⟩ hs (by (repeat (first | exact Cut.head _ _ | apply Cut.tail)); done) ?_
     intro g1 w hs
     dsimp only [restO, est, cnC, rsC, sigC, unC, List.length_cons, List.length_nil] at hs ⊢
     refine ⟨_, rfl, a_put (by rfl) ?_⟩
     refine sVal (r_move rfl rfl) ?_
     refine sVal (r_extract rfl rfl (by rfl)) ?_
     refine sVal (r_extract rfl rfl (by rfl)) ?_
     refine s_ex (r_alloc rfl zr74 hs) rfl rfl (fun _ => by rfl) ?_
     intro b7 w hs
     refine s_exS (r_storeA rfl rfl rfl hs (by (repeat (first | exact Cut.head _ _ | apply Cut.tail)); done) in74 sz74 rfl (fun h => by cases h) rfl (by rfl)) rfl rfl ?_
     intro w hs
     refine sVal (r_assign rfl rfl) ?_
     refine s_nil ?_
     refine hK6 _ _ ?_
     refine wp_seq_k (fun K8 hK8 => ?_)
     refine c_region ?_
     refine sVal (r_move rfl rfl) ?_
     refine sVal (r_build rfl rfl pl85 zr85 (by rfl)) ?_
     refine s_enter (r_call rfl ent38 rfl) rfl ?_
     refine receive_of (c := ⟨3, 8, 2, 1, -1, 1, 8, noS⟩) (a := ⟨⟨3, 8, 10, 1, -1, 1, 5, noS⟩, ⟨[⟨2, noS, false, 0, 0⟩], [], true, false, 5, 2⟩⟩) (by rfl) ⟨by decide, by decide, by decide, by decide⟩ (by decide) hs (by (repeat (first | exact Cut.head _ _ | apply Cut.tail)); done) ?_
     intro g2 w hs
     dsimp only [restO, est, cnC, rsC, sigC, unC, List.length_cons, List.length_nil] at hs ⊢
     refine ⟨_, rfl, a_put (by rfl) ?_⟩
     refine s_ex (r_alloc rfl zr74 hs) rfl rfl (fun _ => by rfl) ?_
     intro b9 w hs
     refine s_exS (r_storeA rfl rfl rfl hs (by (repeat (first | exact Cut.head _ _ | apply Cut.tail)); done) in74 sz74 rfl (fun h => by cases h) rfl (by rfl)) rfl rfl ?_
     intro w hs
     refine s_nil ?_
     refine hK8 _ _ ?_
     refine wp_seq_k (fun K10 hK10 => ?_)
     refine c_region ?_
     refine sVal (r_move rfl rfl) ?_
     refine s_bool (r_cmp rfl rfl rfl rfl) rfl rfl (fun _ => by rfl) ?_
     intro c11 hc11
     refine sVal (r_move rfl rfl) ?_
     cases c11
     case false =>
      replace hc11 := eqF hc11
      try dsimp only at hc11
      first
      | (exfalso; first | omega | (cases hc11; done))
      | (
        refine @s_pass _ _ _ _ _ _ _ _ 20 (by rfl) (want_no rfl rfl rfl rfl) (by rfl) ?_
        refine @s_pass _ _ _ _ _ _ _ _ 21 (by rfl) (want_no rfl rfl rfl rfl) (by rfl) ?_
        refine @s_pass _ _ _ _ _ _ _ _ 22 (by rfl) (want_no rfl rfl rfl rfl) (by rfl) ?_
        refine @s_pass _ _ _ _ _ _ _ _ 23 (by rfl) (want_no rfl rfl rfl rfl) (by rfl) ?_
        refine sVal (r_pickF rfl rfl rfl) ?_
        refine sVal (r_move rfl rfl) ?_
        refine @s_pass _ _ _ _ _ _ _ _ 26 (by rfl) (want_no rfl rfl rfl rfl) (by rfl) ?_
        refine @s_pass _ _ _ _ _ _ _ _ 27 (by rfl) (want_no rfl rfl rfl rfl) (by rfl) ?_
        refine @s_pass _ _ _ _ _ _ _ _ 28 (by rfl) (want_no rfl rfl rfl rfl) (by rfl) ?_
        refine @s_pass _ _ _ _ _ _ _ _ 29 (by rfl) (want_no rfl rfl rfl rfl) (by rfl) ?_
        refine @s_pass _ _ _ _ _ _ _ _ 30 (by rfl) (want_no rfl rfl rfl rfl) (by rfl) ?_
        refine @s_pass _ _ _ _ _ _ _ _ 31 (by rfl) (want_no rfl rfl rfl rfl) (by rfl) ?_
        refine sVal (r_pickF rfl rfl rfl) ?_
        refine sVal (r_move rfl rfl) ?_
        refine @s_pass _ _ _ _ _ _ _ _ 34 (by rfl) (want_no rfl rfl rfl rfl) (by rfl) ?_
        refine @s_pass _ _ _ _ _ _ _ _ 35 (by rfl) (want_no rfl rfl rfl rfl) (by rfl) ?_
        refine @s_pass _ _ _ _ _ _ _ _ 36 (by rfl) (want_no rfl rfl rfl rfl) (by rfl) ?_
        refine @s_pass _ _ _ _ _ _ _ _ 37 (by rfl) (want_no rfl rfl rfl rfl) (by rfl) ?_
        refine @s_pass _ _ _ _ _ _ _ _ 38 (by rfl) (want_no rfl rfl rfl rfl) (by rfl) ?_
        refine @s_pass _ _ _ _ _ _ _ _ 39 (by rfl) (want_no rfl rfl rfl rfl) (by rfl) ?_
        refine sVal (r_pickF rfl rfl rfl) ?_
        refine sVal (r_move rfl rfl) ?_
        refine @s_pass _ _ _ _ _ _ _ _ 42 (by rfl) (want_no rfl rfl rfl rfl) (by rfl) ?_
        refine @s_pass _ _ _ _ _ _ _ _ 43 (by rfl) (want_no rfl rfl rfl rfl) (by rfl) ?_
        refine @s_pass _ _ _ _ _ _ _ _ 44 (by rfl) (want_no rfl rfl rfl rfl) (by rfl) ?_
        refine sVal (r_pickF rfl rfl rfl) ?_
        refine sVal (r_move rfl rfl) ?_
        refine @s_pass _ _ _ _ _ _ _ _ 47 (by rfl) (want_no rfl rfl rfl rfl) (by rfl) ?_
        refine @s_pass _ _ _ _ _ _ _ _ 48 (by rfl) (want_no rfl rfl rfl rfl) (by rfl) ?_
        refine sVal (r_pickF rfl rfl rfl) ?_
        refine sVal (r_move rfl rfl) ?_
        refine @s_pass _ _ _ _ _ _ _ _ 51 (by rfl) (want_no rfl rfl rfl rfl) (by rfl) ?_
        refine @s_pass _ _ _ _ _ _ _ _ 52 (by rfl) (want_no rfl rfl rfl rfl) (by rfl) ?_
        refine @s_pass _ _ _ _ _ _ _ _ 53 (by rfl) (want_no rfl rfl rfl rfl) (by rfl) ?_
        refine sVal (r_pickF rfl rfl rfl) ?_
        refine sVal (r_move rfl rfl) ?_
        refine @s_pass _ _ _ _ _ _ _ _ 56 (by rfl) (want_no rfl rfl rfl rfl) (by rfl) ?_
        refine @s_pass _ _ _ _ _ _ _ _ 57 (by rfl) (want_no rfl rfl rfl rfl) (by rfl) ?_
        refine @s_pass _ _ _ _ _ _ _ _ 58 (by rfl) (want_no rfl rfl rfl rfl) (by rfl) ?_
        refine @s_pass _ _ _ _ _ _ _ _ 59 (by rfl) (want_no rfl rfl rfl rfl) (by rfl) ?_
        refine sVal (r_pickF rfl rfl rfl) ?_
        refine sVal (r_assign rfl rfl) ?_
        refine s_nil ?_
        refine hK10 _ _ ?_
        refine wp_ret ?_
        refine f_ret (rs := [.tmp 0]) rfl (.tmp rfl .nil) rfl ?_
        exact hk _ (fin0 hs (by repeat (first | exact Keeps.refl _ | apply Keeps.tail | apply Keeps.drop))))
     case true =>
      replace hc11 := eqT hc11
      try dsimp only at hc11
      first
      | (exfalso; first | omega | (cases hc11; done))
      | (
        refine sVal (r_field rfl rfl of74_1) ?_
        refine sVal (r_load rfl rfl (ag72 _) hs.own (by rfl)) ?_
        refine sVal (r_len rfl rfl Try.underlying72) ?_
        refine s_bool (r_cmp rfl rfl rfl rfl) rfl rfl (fun _ => by rfl) ?_
        intro c12 hc12
        refine sVal (r_pickT rfl rfl rfl) ?_
        refine sVal (r_move rfl rfl) ?_
        cases c12
        case false =>
         replace hc12 := eqF hc12
         try dsimp only at hc12
         first
         | (exfalso; first | omega | (cases hc12; done))
         | (
           refine @s_pass _ _ _ _ _ _ _ _ 26 (by rfl) (want_no rfl rfl rfl rfl) (by rfl) ?_
           refine @s_pass _ _ _ _ _ _ _ _ 27 (by rfl) (want_no rfl rfl rfl rfl) (by rfl) ?_
           refine @s_pass _ _ _ _ _ _ _ _ 28 (by rfl) (want_no rfl rfl rfl rfl) (by rfl) ?_
           refine @s_pass _ _ _ _ _ _ _ _ 29 (by rfl) (want_no rfl rfl rfl rfl) (by rfl) ?_
           refine @s_pass _ _ _ _ _ _ _ _ 30 (by rfl) (want_no rfl rfl rfl rfl) (by rfl) ?_
           refine @s_pass _ _ _ _ _ _ _ _ 31 (by rfl) (want_no rfl rfl rfl rfl) (by rfl) ?_
           refine sVal (r_pickF rfl rfl rfl) ?_
           refine sVal (r_move rfl rfl) ?_
           refine @s_pass _ _ _ _ _ _ _ _ 34 (by rfl) (want_no rfl rfl rfl rfl) (by rfl) ?_
           refine @s_pass _ _ _ _ _ _ _ _ 35 (by rfl) (want_no rfl rfl rfl rfl) (by rfl) ?_
           refine @s_pass _ _ _ _ _ _ _ _ 36 (by rfl) (want_no rfl rfl rfl rfl) (by rfl) ?_
           refine @s_pass _ _ _ _ _ _ _ _ 37 (by rfl) (want_no rfl rfl rfl rfl) (by rfl) ?_
           refine @s_pass _ _ _ _ _ _ _ _ 38 (by rfl) (want_no rfl rfl rfl rfl) (by rfl) ?_
           refine @s_pass _ _ _ _ _ _ _ _ 39 (by rfl) (want_no rfl rfl rfl rfl) (by rfl) ?_
           refine sVal (r_pickF rfl rfl rfl) ?_
           refine sVal (r_move rfl rfl) ?_
           refine @s_pass _ _ _ _ _ _ _ _ 42 (by rfl) (want_no rfl rfl rfl rfl) (by rfl) ?_
           refine @s_pass _ _ _ _ _ _ _ _ 43 (by rfl) (want_no rfl rfl rfl rfl) (by rfl) ?_
           refine @s_pass _ _ _ _ _ _ _ _ 44 (by rfl) (want_no rfl rfl rfl rfl) (by rfl) ?_
           refine sVal (r_pickF rfl rfl rfl) ?_
           refine sVal (r_move rfl rfl) ?_
           refine @s_pass _ _ _ _ _ _ _ _ 47 (by rfl) (want_no rfl rfl rfl rfl) (by rfl) ?_
           refine @s_pass _ _ _ _ _ _ _ _ 48 (by rfl) (want_no rfl rfl rfl rfl) (by rfl) ?_
           refine sVal (r_pickF rfl rfl rfl) ?_
           refine sVal (r_move rfl rfl) ?_
           refine @s_pass _ _ _ _ _ _ _ _ 51 (by rfl) (want_no rfl rfl rfl rfl) (by rfl) ?_
           refine @s_pass _ _ _ _ _ _ _ _ 52 (by rfl) (want_no rfl rfl rfl rfl) (by rfl) ?_
           refine @s_pass _ _ _ _ _ _ _ _ 53 (by rfl) (want_no rfl rfl rfl rfl) (by rfl) ?_
           refine sVal (r_pickF rfl rfl rfl) ?_
           refine sVal (r_move rfl rfl) ?_
           refine @s_pass _ _ _ _ _ _ _ _ 56 (by rfl) (want_no rfl rfl rfl rfl) (by rfl) ?_
           refine @s_pass _ _ _ _ _ _ _ _ 57 (by rfl) (want_no rfl rfl rfl rfl) (by rfl) ?_
           refine @s_pass _ _ _ _ _ _ _ _ 58 (by rfl) (want_no rfl rfl rfl rfl) (by rfl) ?_
           refine @s_pass _ _ _ _ _ _ _ _ 59 (by rfl) (want_no rfl rfl rfl rfl) (by rfl) ?_
           refine sVal (r_pickF rfl rfl rfl) ?_
           refine sVal (r_assign rfl rfl) ?_
           refine s_nil ?_
           refine hK10 _ _ ?_
           refine wp_ret ?_
           refine f_ret (rs := [.tmp 0]) rfl (.tmp rfl .nil) rfl ?_
           exact hk _ (fin0 hs (by repeat (first | exact Keeps.refl _ | apply Keeps.tail | apply Keeps.drop))))
        case true =>
         replace hc12 := eqT hc12
         try dsimp only at hc12
         first
         | (exfalso; first | omega | (cases hc12; done))
         | (
           refine sVal (r_field rfl rfl of74_1) ?_
           refine sVal (r_load rfl rfl (ag72 _) hs.own (by rfl)) ?_
           refine s_exQ (r_idx (f := unC) rfl rfl rfl hs.rd (rfl) (by first | assumption | rfl) Try.underlying72 in85 sz85) rfl rfl (fun _ => by rfl) ?_
           intro ad14 he13
           refine sVal (r_fieldG rfl rfl of85_1) ?_
           refine sVal (r_loadEl rfl rfl hs.rd (isEl_add he13) (by first | assumption | rfl) (fun _ => rfl) (ag3 _) (by rfl)) ?_
           refine s_bool (r_cmp rfl rfl rfl rfl) rfl rfl (fun _ => by rfl) ?_
           intro c15 hc15
           refine sVal (r_pickT rfl rfl rfl) ?_
           refine sVal (r_move rfl rfl) ?_
           cases c15
           case false =>
            replace hc15 := eqF hc15
            try dsimp only at hc15
            first
            | (exfalso; first | omega | (cases hc15; done))
            | (
              refine @s_pass _ _ _ _ _ _ _ _ 34 (by rfl) (want_no rfl rfl rfl rfl) (by rfl) ?_
              refine @s_pass _ _ _ _ _ _ _ _ 35 (by rfl) (want_no rfl rfl rfl rfl) (by rfl) ?_
              refine @s_pass _ _ _ _ _ _ _ _ 36 (by rfl) (want_no rfl rfl rfl rfl) (by rfl) ?_
              refine @s_pass _ _ _ _ _ _ _ _ 37 (by rfl) (want_no rfl rfl rfl rfl) (by rfl) ?_
              refine @s_pass _ _ _ _ _ _ _ _ 38 (by rfl) (want_no rfl rfl rfl rfl) (by rfl) ?_
              refine @s_pass _ _ _ _ _ _ _ _ 39 (by rfl) (want_no rfl rfl rfl rfl) (by rfl) ?_
              refine sVal (r_pickF rfl rfl rfl) ?_
              refine sVal (r_move rfl rfl) ?_
              refine @s_pass _ _ _ _ _ _ _ _ 42 (by rfl) (want_no rfl rfl rfl rfl) (by rfl) ?_
              refine @s_pass _ _ _ _ _ _ _ _ 43 (by rfl) (want_no rfl rfl rfl rfl) (by rfl) ?_
              refine @s_pass _ _ _ _ _ _ _ _ 44 (by rfl) (want_no rfl rfl rfl rfl) (by rfl) ?_
              refine sVal (r_pickF rfl rfl rfl) ?_
              refine sVal (r_move rfl rfl) ?_
              refine @s_pass _ _ _ _ _ _ _ _ 47 (by rfl) (want_no rfl rfl rfl rfl) (by rfl) ?_
              refine @s_pass _ _ _ _ _ _ _ _ 48 (by rfl) (want_no rfl rfl rfl rfl) (by rfl) ?_
              refine sVal (r_pickF rfl rfl rfl) ?_
              refine sVal (r_move rfl rfl) ?_
              refine @s_pass _ _ _ _ _ _ _ _ 51 (by rfl) (want_no rfl rfl rfl rfl) (by rfl) ?_
              refine @s_pass _ _ _ _ _ _ _ _ 52 (by rfl) (want_no rfl rfl rfl rfl) (by rfl) ?_
              refine @s_pass _ _ _ _ _ _ _ _ 53 (by rfl) (want_no rfl rfl rfl rfl) (by rfl) ?_
              refine sVal (r_pickF rfl rfl rfl) ?_
              refine sVal (r_move rfl rfl) ?_
              refine @s_pass _ _ _ _ _ _ _ _ 56 (by rfl) (want_no rfl rfl rfl rfl) (by rfl) ?_
              refine @s_pass _ _ _ _ _ _ _ _ 57 (by rfl) (want_no rfl rfl rfl rfl) (by rfl) ?_
              refine @s_pass _ _ _ _ _ _ _ _ 58 (by rfl) (want_no rfl rfl rfl rfl) (by rfl) ?_
              refine @s_pass _ _ _ _ _ _ _ _ 59 (by rfl) (want_no rfl rfl rfl rfl) (by rfl) ?_
              refine sVal (r_pickF rfl rfl rfl) ?_
              refine sVal (r_assign rfl rfl) ?_
              refine s_nil ?_
              refine hK10 _ _ ?_
              refine wp_ret ?_
              refine f_ret (rs := [.tmp 0]) rfl (.tmp rfl .nil) rfl ?_
              exact hk _ (fin0 hs (by repeat (first | exact Keeps.refl _ | apply Keeps.tail | apply Keeps.drop))))
           case true =>
            replace hc15 := eqT hc15
            try dsimp only at hc15
            first
            | (exfalso; first | omega | (cases hc15; done))
            | (
              refine sVal (r_field rfl rfl of74_1) ?_
              refine sVal (r_load rfl rfl (ag72 _) hs.own (by rfl)) ?_
              refine s_exQ (r_idx (f := unC) rfl rfl rfl hs.rd (rfl) (by first | assumption | rfl) Try.underlying72 in85 sz85) rfl rfl (fun _ => by rfl) ?_
              intro ad17 he16
              refine sVal (r_fieldG rfl rfl of85_2) ?_
              refine sVal (r_loadEl rfl rfl hs.rd (isEl_add he16) (by first | assumption | rfl) (fun _ => rfl) (ag61 _) (by rfl)) ?_
              refine s_bool (r_cmp rfl rfl rfl rfl) rfl rfl (fun _ => by rfl) ?_
              intro c18 hc18
              refine sVal (r_pickT rfl rfl rfl) ?_
              refine sVal (r_move rfl rfl) ?_
              cases c18
              case false =>
               replace hc18 := eqF hc18
               try dsimp only at hc18
               first
               | (exfalso; first | omega | (cases hc18; done))
               | (
                 refine @s_pass _ _ _ _ _ _ _ _ 42 (by rfl) (want_no rfl rfl rfl rfl) (by rfl) ?_
                 refine @s_pass _ _ _ _ _ _ _ _ 43 (by rfl) (want_no rfl rfl rfl rfl) (by rfl) ?_
                 refine @s_pass _ _ _ _ _ _ _ _ 44 (by rfl) (want_no rfl rfl rfl rfl) (by rfl) ?_
                 refine sVal (r_pickF rfl rfl rfl) ?_
                 refine sVal (r_move rfl rfl) ?_
                 refine @s_pass _ _ _ _ _ _ _ _ 47 (by rfl) (want_no rfl rfl rfl rfl) (by rfl) ?_
                 refine @s_pass _ _ _ _ _ _ _ _ 48 (by rfl) (want_no rfl rfl rfl rfl) (by rfl) ?_
                 refine sVal (r_pickF rfl rfl rfl) ?_
                 refine sVal (r_move rfl rfl) ?_
                 refine @s_pass _ _ _ _ _ _ _ _ 51 (by rfl) (want_no rfl rfl rfl rfl) (by rfl) ?_
                 refine @s_pass _ _ _ _ _ _ _ _ 52 (by rfl) (want_no rfl rfl rfl rfl) (by rfl) ?_
                 refine @s_pass _ _ _ _ _ _ _ _ 53 (by rfl) (want_no rfl rfl rfl rfl) (by rfl) ?_
                 refine sVal (r_pickF rfl rfl rfl) ?_
                 refine sVal (r_move rfl rfl) ?_
                 refine @s_pass _ _ _ _ _ _ _ _ 56 (by rfl) (want_no rfl rfl rfl rfl) (by rfl) ?_
                 refine @s_pass _ _ _ _ _ _ _ _ 57 (by rfl) (want_no rfl rfl rfl rfl) (by rfl) ?_
                 refine @s_pass _ _ _ _ _ _ _ _ 58 (by rfl) (want_no rfl rfl rfl rfl) (by rfl) ?_
                 refine @s_pass _ _ _ _ _ _ _ _ 59 (by rfl) (want_no rfl rfl rfl rfl) (by rfl) ?_
                 refine sVal (r_pickF rfl rfl rfl) ?_
                 refine sVal (r_assign rfl rfl) ?_
                 refine s_nil ?_
                 refine hK10 _ _ ?_
                 refine wp_ret ?_
                 refine f_ret (rs := [.tmp 0]) rfl (.tmp rfl .nil) rfl ?_
                 exact hk _ (fin0 hs (by repeat (first | exact Keeps.refl _ | apply Keeps.tail | apply Keeps.drop))))
              case true =>
               replace hc18 := eqT hc18
               try dsimp only at hc18
               first
               | (exfalso; first | omega | (cases hc18; done))
               | (
                 refine sVal (r_field rfl rfl of74_5) ?_
                 refine sVal (r_load rfl rfl (ag3 _) hs.own (by rfl)) ?_
                 refine s_bool (r_cmp rfl rfl rfl rfl) rfl rfl (fun _ => by rfl) ?_
                 intro c19 hc19
                 refine sVal (r_pickT rfl rfl rfl) ?_
                 refine sVal (r_move rfl rfl) ?_
                 cases c19
                 case false =>
                  replace hc19 := eqF hc19
                  try dsimp only at hc19
                  first
                  | (exfalso; first | omega | (cases hc19; done))
                  | (
                    refine @s_pass _ _ _ _ _ _ _ _ 47 (by rfl) (want_no rfl rfl rfl rfl) (by rfl) ?_
                    refine @s_pass _ _ _ _ _ _ _ _ 48 (by rfl) (want_no rfl rfl rfl rfl) (by rfl) ?_
                    refine sVal (r_pickF rfl rfl rfl) ?_
                    refine sVal (r_move rfl rfl) ?_
                    refine @s_pass _ _ _ _ _ _ _ _ 51 (by rfl) (want_no rfl rfl rfl rfl) (by rfl) ?_
                    refine @s_pass _ _ _ _ _ _ _ _ 52 (by rfl) (want_no rfl rfl rfl rfl) (by rfl) ?_
                    refine @s_pass _ _ _ _ _ _ _ _ 53 (by rfl) (want_no rfl rfl rfl rfl) (by rfl) ?_
                    refine sVal (r_pickF rfl rfl rfl) ?_
                    refine sVal (r_move rfl rfl) ?_
                    refine @s_pass _ _ _ _ _ _ _ _ 56 (by rfl) (want_no rfl rfl rfl rfl) (by rfl) ?_
                    refine @s_pass _ _ _ _ _ _ _ _ 57 (by rfl) (want_no rfl rfl rfl rfl) (by rfl) ?_
                    refine @s_pass _ _ _ _ _ _ _ _ 58 (by rfl) (want_no rfl rfl rfl rfl) (by rfl) ?_
                    refine @s_pass _ _ _ _ _ _ _ _ 59 (by rfl) (want_no rfl rfl rfl rfl) (by rfl) ?_
                    refine sVal (r_pickF rfl rfl rfl) ?_
                    refine sVal (r_assign rfl rfl) ?_
                    refine s_nil ?_
                    refine hK10 _ _ ?_
                    refine wp_ret ?_
                    refine f_ret (rs := [.tmp 0]) rfl (.tmp rfl .nil) rfl ?_
                    exact hk _ (fin0 hs (by repeat (first | exact Keeps.refl _ | apply Keeps.tail | apply Keeps.drop))))
                 case true =>
                  replace hc19 := eqT hc19
                  try dsimp only at hc19
                  first
                  | (exfalso; first | omega | (cases hc19; done))
                  | (
                    refine sVal (r_field rfl rfl of74_2) ?_
                    refine s_bool (r_load rfl rfl (ag4 _) hs.own (by rfl)) rfl rfl (fun _ => by rfl) ?_
                    intro c20 hc20
                    refine sVal (r_pickT rfl rfl rfl) ?_
                    refine sVal (r_move rfl rfl) ?_
                    cases c20
                    case false =>
                     replace hc20 := Eq.symm hc20
                     try dsimp only at hc20
                     first
                     | (exfalso; first | omega | (cases hc20; done))
                     | (
                       refine @s_pass _ _ _ _ _ _ _ _ 51 (by rfl) (want_no rfl rfl rfl rfl) (by rfl) ?_
                       refine @s_pass _ _ _ _ _ _ _ _ 52 (by rfl) (want_no rfl rfl rfl rfl) (by rfl) ?_
                       refine @s_pass _ _ _ _ _ _ _ _ 53 (by rfl) (want_no rfl rfl rfl rfl) (by rfl) ?_
                       refine sVal (r_pickF rfl rfl rfl) ?_
                       refine sVal (r_move rfl rfl) ?_
                       refine @s_pass _ _ _ _ _ _ _ _ 56 (by rfl) (want_no rfl rfl rfl rfl) (by rfl) ?_
                       refine @s_pass _ _ _ _ _ _ _ _ 57 (by rfl) (want_no rfl rfl rfl rfl) (by rfl) ?_
                       refine @s_pass _ _ _ _ _ _ _ _ 58 (by rfl) (want_no rfl rfl rfl rfl) (by rfl) ?_
                       refine @s_pass _ _ _ _ _ _ _ _ 59 (by rfl) (want_no rfl rfl rfl rfl) (by rfl) ?_
                       refine sVal (r_pickF rfl rfl rfl) ?_
                       refine sVal (r_assign rfl rfl) ?_
                       refine s_nil ?_
                       refine hK10 _ _ ?_
                       refine wp_ret ?_
                       refine f_ret (rs := [.tmp 0]) rfl (.tmp rfl .nil) rfl ?_
                       exact hk _ (fin0 hs (by repeat (first | exact Keeps.refl _ | apply Keeps.tail | apply Keeps.drop))))
                    case true =>
                     replace hc20 := Eq.symm hc20
                     try dsimp only at hc20
                     first
                     | (exfalso; first | omega | (cases hc20; done))
                     | (
                       refine sVal (r_field rfl rfl of74_4) ?_
                       refine sVal (r_load rfl rfl (ag61 _) hs.own (by rfl)) ?_
                       refine s_bool (r_cmp rfl rfl rfl rfl) rfl rfl (fun _ => by rfl) ?_
                       intro c21 hc21
                       refine sVal (r_pickT rfl rfl rfl) ?_
                       refine sVal (r_move rfl rfl) ?_
                       cases c21
                       case false =>
                        replace hc21 := eqF hc21
                        try dsimp only at hc21
                        first
                        | (exfalso; first | omega | (cases hc21; done))
                        | (
                          refine @s_pass _ _ _ _ _ _ _ _ 56 (by rfl) (want_no rfl rfl rfl rfl) (by rfl) ?_
                          refine @s_pass _ _ _ _ _ _ _ _ 57 (by rfl) (want_no rfl rfl rfl rfl) (by rfl) ?_
                          refine @s_pass _ _ _ _ _ _ _ _ 58 (by rfl) (want_no rfl rfl rfl rfl) (by rfl) ?_
                          refine @s_pass _ _ _ _ _ _ _ _ 59 (by rfl) (want_no rfl rfl rfl rfl) (by rfl) ?_
                          refine sVal (r_pickF rfl rfl rfl) ?_
                          refine sVal (r_assign rfl rfl) ?_
                          refine s_nil ?_
                          refine hK10 _ _ ?_
                          refine wp_ret ?_
                          refine f_ret (rs := [.tmp 0]) rfl (.tmp rfl .nil) rfl ?_
                          exact hk _ (fin0 hs (by repeat (first | exact Keeps.refl _ | apply Keeps.tail | apply Keeps.drop))))
                       case true =>
                        replace hc21 := eqT hc21
                        try dsimp only at hc21
                        first
                        | (exfalso; first | omega | (cases hc21; done))
                        | (
                          refine sVal (r_move rfl rfl) ?_
                          refine s_enter (r_call rfl ent36 rfl) rfl ?_
                          refine vars_use (c := ⟨3, 8, 10, 1, -1, 1, 5, noS⟩) hs (by (repeat (first | exact Cut.head _ _ | apply Cut.tail)); done) ?_
                          intro w hs
                          dsimp only [vaC]
                          refine ⟨_, rfl, a_put (by rfl) ?_⟩
                          refine sVal (r_fieldV rfl rfl Try.underlying80 rfl rfl (by rfl)) ?_
                          refine s_bool (r_cmp rfl rfl rfl rfl) rfl rfl (fun _ => by rfl) ?_
                          intro c22 hc22
                          refine sVal (r_pickT rfl rfl rfl) ?_
                          refine sVal (r_assign rfl rfl) ?_
                          refine s_nil ?_
                          refine hK10 _ _ ?_
                          refine wp_ret ?_
                          refine f_ret (rs := [.tmp 0]) rfl (.tmp rfl .nil) rfl ?_
                          subst c22
                          exact hk _ (fin0 hs (by repeat (first | exact Keeps.refl _ | apply Keeps.tail | apply Keeps.drop)))))))))))
  case true =>
   replace hc5 := Eq.symm hc5
   try dsimp only at hc5
   first
   | (exfalso; first | omega | (cases hc5; done))
   | (
     refine c_condT rfl ?_
     refine wp_seq_k (fun K23 hK23 => ?_)
     refine c_region ?_
     refine sVal (r_assign rfl rfl) ?_
     refine s_nil ?_
     refine hK23 _ _ ?_
     refine wp_ret ?_
     refine f_ret (rs := [.tmp 0]) rfl (.tmp rfl .nil) rfl ?_
     exact hk _ (fin0 hs (by repeat (first | exact Keeps.refl _ | apply Keeps.tail | apply Keeps.drop))))

/-- Numbers of a connection that asks anew and anew. -/
def cN (i cc ms : Int) (d : ByteArray) : Cn := ⟨1, 3, 1, (i - 1) % 256, -1, cc, ms, d⟩
def cA (i ms : Int) : Cn := ⟨1, 3, 2, i % 256, -1, 1, ms, noS⟩
theorem num_request (i cc ms : Int) (d : ByteArray) : Cn.request (cN i cc ms d) 1 noS = ⟨cA i ms, ⟨[], [⟨1, i % 256, 3, 0, 0, false, noS⟩], false, false, 0, 1⟩⟩ := by
  have e : ((i - 1) % 256 + 1) % 256 = i % 256 := by omega
  have h : Cn.request (cN i cc ms d) 1 noS = ⟨⟨1, 3, 2, ((i - 1) % 256 + 1) % 256, -1, 1, ms, noS⟩, ⟨[], [⟨1, ((i - 1) % 256 + 1) % 256, 3, 0, 0, false, noS⟩], false, false, 0, 1⟩⟩ := rfl
  rw [h, e]; rfl
theorem num_late (i ms : Int) : Cn.receive (cA i ms) ⟨2, (i + 255) % 256, 9, 0, 0, false, noS⟩ = ⟨cA i ms, rs0⟩ := by
  have h : Cn.receive (cA i ms) ⟨2, (i + 255) % 256, 9, 0, 0, false, noS⟩ = (if (i + 255) % 256 = i % 256 then As.answer ⟨cA i ms, rs0⟩ ⟨2, (i + 255) % 256, 9, 0, 0, false, noS⟩ else ⟨cA i ms, rs0⟩) := rfl
  rw [h, if_neg (by omega)]
theorem num_rej (i ms : Int) : Cn.receive (cA i ms) ⟨7, i % 256, 0, 0, 0, false, noS⟩ = ⟨⟨1, 3, 1, i % 256, -1, 1, ms, noS⟩, ⟨[⟨3, noS, false, 0, 0⟩], [], false, false, 0, 2⟩⟩ := by
  have h : Cn.receive (cA i ms) ⟨7, i % 256, 0, 0, 0, false, noS⟩ = (if i % 256 = i % 256 then As.answer ⟨cA i ms, rs0⟩ ⟨7, i % 256, 0, 0, 0, false, noS⟩ else ⟨cA i ms, rs0⟩) := rfl
  rw [h, if_pos rfl]; rfl
theorem num_expire (i ms : Int) : Cn.expire (cA i ms) = ⟨⟨1, 3, 1, i % 256, -1, 1, ms, noS⟩, ⟨[⟨12, noS, false, 79, 0⟩, ⟨3, noS, true, 0, 0⟩], [⟨3, i % 256, 0, 0, 0, true, noS⟩], false, false, 0, 2⟩⟩ := by rfl
theorem cA_ok (i ms : Int) : CnOk (cA i ms) := ⟨(by decide : (1 : Int) ≤ 1 ∧ (1 : Int) ≤ 16), by show 0 ≤ i % 256 ∧ i % 256 ≤ 255; omega, (by decide : (0 : Int) ≤ 1 ∧ (1 : Int) ≤ 16), (by decide : (1 : Int) ≤ 2 ∧ (2 : Int) ≤ 10)⟩
theorem cN_ok (i cc ms : Int) (d : ByteArray) (h : 0 ≤ cc ∧ cc ≤ 1) : CnOk (cN i cc ms d) := ⟨(by decide : (1 : Int) ≤ 1 ∧ (1 : Int) ≤ 16), by show 0 ≤ (i - 1) % 256 ∧ (i - 1) % 256 ≤ 255; omega, by show 0 ≤ cc ∧ cc ≤ 16; omega, (by decide : (1 : Int) ≤ 1 ∧ (1 : Int) ≤ 10)⟩
theorem cN_next (i ms : Int) : (⟨1, 3, 1, i % 256, -1, 1, ms, noS⟩ : Cn) = cN (i + 1) 1 ms noS := by
  unfold cN; rw [show i + 1 - 1 = i by omega]
theorem tm256 {x : Int} (h : 0 ≤ x) : x.tmod 256 = x % 256 := Int.tmod_eq_emod_of_nonneg h
theorem connNumbers_use (n : Int) (hs : Sat E H w) (hk : ∀ w', Sat E H w' → Q (.returned (.bool true)) w') : Calls Try.prog 8 #[.int .i64 n] w Q := by
  refine f_enter Try.func8 rfl rfl ?_
  show Code.wp _ _ _ (Fr _) _
  refine wp_seq_k (fun K1 hK1 => ?_)
  refine c_region ?_
  refine sVal (r_assign rfl rfl) ?_
  refine s_nil ?_
  refine hK1 _ _ ?_
  refine wp_seq_k (fun K2 hK2 => ?_)
  refine wp_seq_k (fun K3 hK3 => ?_)
  refine c_region ?_
  refine s_enter (r_call rfl ent30 rfl) rfl ?_
  refine awake_use hs ?_
  intro w hs
  refine ⟨_, rfl, a_bool (fun _ => by rfl) ?_⟩
  intro c4 hc4
  cases c4
  case false =>
   replace hc4 := Eq.symm hc4
   try dsimp only at hc4
   first
   | (exfalso; first | omega | (cases hc4; done))
   | (
     refine sVal (r_notF rfl rfl) ?_
     refine s_nil ?_
     refine hK3 _ _ ?_
     refine c_condT rfl ?_
     refine wp_seq_k (fun K5 hK5 => ?_)
     refine c_region ?_
     refine sVal (r_assign rfl rfl) ?_
     refine s_nil ?_
     refine hK5 _ _ ?_
     refine wp_ret ?_
     refine f_ret (rs := [.tmp 2]) rfl (.tmp rfl .nil) rfl ?_
     first | exact hk _ (fin0 hs (by repeat (first | exact Keeps.refl _ | apply Keeps.tail | apply Keeps.drop))) | (have e : ((i - 1) % 256 == max 1 (min n 300) % 256) = true := (by rw [beq_iff_eq, show i - 1 = max 1 (min n 300) by omega]); rw [e]; exact hk _ (fin0 hs (by repeat (first | exact Keeps.refl _ | apply Keeps.tail | apply Keeps.drop)))))
  case true =>
   replace hc4 := Eq.symm hc4
   try dsimp only at hc4
   first
   | (exfalso; first | omega | (cases hc4; done))
   | (
     refine sVal (r_notT rfl rfl) ?_
     refine s_nil ?_
     refine hK3 _ _ ?_
     refine c_condF rfl ?_
     refine wp_skip ?_
     refine hK2 _ _ ?_
     refine wp_seq_k (fun K6 hK6 => ?_)
     refine c_region ?_
     refine sVal (r_move rfl rfl) ?_
     refine sVal (r_min rfl rfl rfl) ?_
     refine sVal (r_max rfl rfl rfl) ?_
     refine sVal (r_assign rfl rfl) ?_
     refine s_nil ?_
     refine hK6 _ _ ?_
     refine wp_seq_k (fun K7 hK7 => ?_)
     refine c_region ?_
     refine sVal (r_build rfl rfl pl63 zr63 (by rfl)) ?_
     refine s_enter (r_call rfl ent31 rfl) rfl ?_
     refine new_use _ _ hs ?_
     intro bc w hs
     refine ⟨_, rfl, a_put (by rfl) ?_⟩
     refine sVal (r_assign rfl rfl) ?_
     refine s_nil ?_
     refine hK7 _ _ ?_
     refine wp_seq_k (fun K8 hK8 => ?_)
     refine wp_seq_k (fun K9 hK9 => ?_)
     refine c_region ?_
     refine sVal (r_move rfl rfl) ?_
     refine s_bool (r_cmpP rfl rfl rfl (by kernel_rfl) rfl) rfl rfl (fun _ => by rfl) ?_
     intro c10 hc10
     refine s_nil ?_
     refine hK9 _ _ ?_
     cases c10
     case false =>
      replace hc10 := Eq.symm hc10
      try dsimp only at hc10
      first
      | (exfalso; first | omega | (cases hc10; done))
      | (
        refine c_condF rfl ?_
        refine wp_skip ?_
        refine hK8 _ _ ?_
        refine wp_seq_k (fun K11 hK11 => ?_)
        refine wp_seq_k (fun K12 hK12 => ?_)
        refine c_region ?_
        refine sVal (r_assign rfl rfl) ?_
        refine s_nil ?_
        refine hK12 _ _ ?_
        refine wp_block ?_
        refine c_loop (2 :: 4 :: 5 :: 6 :: 7 :: 17 :: 18 :: 19 :: 20 :: 21 :: 22 :: 23 :: 24 :: 25 :: 26 :: 27 :: 28 :: 29 :: 30 :: 31 :: 32 :: 33 :: 34 :: 35 :: 36 :: 37 :: 38 :: 39 :: 40 :: 41 :: 42 :: 43 :: 44 :: 45 :: 46 :: 47 :: 48 :: 49 :: 50 :: 51 :: 52 :: 53 :: 54 :: 55 :: 56 :: 57 :: 58 :: 59 :: 60 :: 61 :: 62 :: 63 :: 64 :: 65 :: 66 :: 67 :: 68 :: 69 :: 70 :: 71 :: 72 :: 73 :: 74 :: 75 :: 76 :: 77 :: 78 :: []) (fun xs w => ∃ (i cc : Int) (d : ByteArray), xs = (xAt xs 0 :: .int .i64 i :: xAt xs 2 :: xAt xs 3 :: xAt xs 4 :: xAt xs 5 :: xAt xs 6 :: xAt xs 7 :: xAt xs 8 :: xAt xs 9 :: xAt xs 10 :: xAt xs 11 :: xAt xs 12 :: xAt xs 13 :: xAt xs 14 :: xAt xs 15 :: xAt xs 16 :: xAt xs 17 :: xAt xs 18 :: xAt xs 19 :: xAt xs 20 :: xAt xs 21 :: xAt xs 22 :: xAt xs 23 :: xAt xs 24 :: xAt xs 25 :: xAt xs 26 :: xAt xs 27 :: xAt xs 28 :: xAt xs 29 :: xAt xs 30 :: xAt xs 31 :: xAt xs 32 :: xAt xs 33 :: xAt xs 34 :: xAt xs 35 :: xAt xs 36 :: xAt xs 37 :: xAt xs 38 :: xAt xs 39 :: xAt xs 40 :: xAt xs 41 :: xAt xs 42 :: xAt xs 43 :: xAt xs 44 :: xAt xs 45 :: xAt xs 46 :: xAt xs 47 :: xAt xs 48 :: xAt xs 49 :: xAt xs 50 :: xAt xs 51 :: xAt xs 52 :: xAt xs 53 :: xAt xs 54 :: xAt xs 55 :: xAt xs 56 :: xAt xs 57 :: xAt xs 58 :: xAt xs 59 :: xAt xs 60 :: xAt xs 61 :: xAt xs 62 :: xAt xs 63 :: xAt xs 64 :: xAt xs 65 :: xAt xs 66 :: []) ∧ (1 ≤ i ∧ i ≤ max 1 (min n 300) + 1) ∧ (0 ≤ cc ∧ cc ≤ 1) ∧ Sat E (H * own bc (.cells (cnC (cN i cc 3 d)).toArray 108 (0, 0))) w) (fun xs _ => 301 - (intOf (xAt xs 1)).toNat) rfl (by rfl) ?_ ?_
        · exact ⟨1, 0, noS, rfl, by omega, by omega, hs⟩
        clear hs
        rintro xs w ⟨i, cc, d, hxs, hi, hcc, hs⟩
        obtain ⟨D13, hD13⟩ : ∃ D, D = xAt xs := ⟨_, rfl⟩
        rw [← hD13] at hxs
        clear hD13
        subst hxs
        refine ⟨_, rfl, fun KL14 hKL14 => ?_⟩
        refine wp_seq_k (fun K15 hK15 => ?_)
        refine wp_seq_k (fun K16 hK16 => ?_)
        refine c_region ?_
        refine sVal (r_move rfl rfl) ?_
        refine sVal (r_move rfl rfl) ?_
        refine s_bool (r_cmp rfl rfl rfl rfl) rfl rfl (fun _ => by rfl) ?_
        intro c17 hc17
        refine s_nil ?_
        refine hK16 _ _ ?_
        cases c17
        case false =>
         replace hc17 := decF' hc17
         try dsimp only at hc17
         first
         | (exfalso; first | omega | (cases hc17; done))
         | (
           refine c_condF rfl ?_
           refine wp_exit ?_
           refine hK11 _ _ ?_
           refine wp_seq_k (fun K18 hK18 => ?_)
           refine c_region ?_
           refine sVal (r_move rfl rfl) ?_
           refine s_enter (r_call rfl ent36 rfl) rfl ?_
           refine vars_use (c := cN i cc 3 d) hs (by (repeat (first | exact Cut.head _ _ | apply Cut.tail)); done) ?_
           intro w hs
           dsimp only [vaC, cN]
           refine ⟨_, rfl, a_put (by rfl) ?_⟩
           refine sVal (r_fieldV rfl rfl Try.underlying80 rfl rfl (by rfl)) ?_
           refine sVal (r_move rfl rfl) ?_
           refine sVal (r_div rfl rfl rfl (by decide) rfl (tm256 (by omega))) ?_
           refine s_bool (r_cmp rfl rfl rfl rfl) rfl rfl (fun _ => by rfl) ?_
           intro c19 hc19
           refine sVal (r_assign rfl rfl) ?_
           refine s_nil ?_
           refine hK18 _ _ ?_
           refine wp_ret ?_
           refine f_ret (rs := [.tmp 2]) rfl (.tmp rfl .nil) rfl ?_
           subst c19
           first | exact hk _ (fin0 hs (by repeat (first | exact Keeps.refl _ | apply Keeps.tail | apply Keeps.drop))) | (have e : ((i - 1) % 256 == max 1 (min n 300) % 256) = true := (by rw [beq_iff_eq, show i - 1 = max 1 (min n 300) by omega]); rw [e]; exact hk _ (fin0 hs (by repeat (first | exact Keeps.refl _ | apply Keeps.tail | apply Keeps.drop)))))
        case true =>
         replace hc17 := decT' hc17
         try dsimp only at hc17
         first
         | (exfalso; first | omega | (cases hc17; done))
         | (
           refine c_condT rfl ?_
           refine wp_skip ?_
           refine hK15 _ _ ?_
           refine wp_seq_k (fun K20 hK20 => ?_)
           refine wp_block ?_
           refine wp_seq_k (fun K21 hK21 => ?_)
           refine c_region ?_
           refine sVal (r_move rfl rfl) ?_
           refine s_enter (r_call rfl ent34 rfl) rfl ?_
           refine request_of (c := cN i cc 3 d) (a := ⟨cA i 3, ⟨[], [⟨1, i % 256, 3, 0, 0, false, noS⟩], false, false, 0, 1⟩⟩) 0 (num_request i cc 3 d) (by rfl) (cN_ok i cc 3 d hcc) hs (by (repeat (first | exact Cut.head _ _ | apply Cut.tail)); done) ?_
           intro g1 w hs
           dsimp only [restO, cA, cnC, rsC, sigC, unC, List.length_cons, List.length_nil] at hs ⊢
           refine ⟨_, rfl, a_put (by rfl) ?_⟩
           refine sVal (r_move rfl rfl) ?_
           refine sVal (r_extract rfl rfl (by rfl)) ?_
           refine sVal (r_extract rfl rfl (by rfl)) ?_
           refine s_ex (r_alloc rfl zr74 hs) rfl rfl (fun _ => by rfl) ?_
           intro b22 w hs
           refine s_exS (r_storeA rfl rfl rfl hs (by (repeat (first | exact Cut.head _ _ | apply Cut.tail)); done) in74 sz74 rfl (fun h => by cases h) rfl (by rfl)) rfl rfl ?_
           intro w hs
           refine sVal (r_assign rfl rfl) ?_
           refine s_nil ?_
           refine hK21 _ _ ?_
           refine wp_seq_k (fun K23 hK23 => ?_)
           refine wp_seq_k (fun K24 hK24 => ?_)
           refine c_region ?_
           refine sVal (r_move rfl rfl) ?_
           refine s_bool (r_cmp rfl rfl rfl rfl) rfl rfl (fun _ => by rfl) ?_
           intro c25 hc25
           refine sVal (r_move rfl rfl) ?_
           cases c25
           case false =>
            replace hc25 := neF hc25
            try dsimp only at hc25
            first
            | (exfalso; first | omega | (cases hc25; done))
            | (
              refine sVal (r_field rfl rfl of74_1) ?_
              refine sVal (r_load rfl rfl (ag72 _) hs.own (by rfl)) ?_
              refine sVal (r_len rfl rfl Try.underlying72) ?_
              refine s_bool (r_cmp rfl rfl rfl rfl) rfl rfl (fun _ => by rfl) ?_
              intro c26 hc26
              refine sVal (r_pickF rfl rfl rfl) ?_
              refine sVal (r_move rfl rfl) ?_
              cases c26
              case false =>
               replace hc26 := neF hc26
               try dsimp only at hc26
               first
               | (exfalso; first | omega | (cases hc26; done))
               | (
                 refine sVal (r_field rfl rfl of74_1) ?_
                 refine sVal (r_load rfl rfl (ag72 _) hs.own (by rfl)) ?_
                 refine s_exQ (r_idx (f := unC) rfl rfl rfl hs.rd (rfl) (by first | assumption | rfl) Try.underlying72 in85 sz85) rfl rfl (fun _ => by rfl) ?_
                 intro ad28 he27
                 refine sVal (r_fieldG rfl rfl of85_1) ?_
                 refine sVal (r_loadEl rfl rfl hs.rd (isEl_add he27) (by first | assumption | rfl) (fun _ => rfl) (ag3 _) (by rfl)) ?_
                 refine sVal (r_move rfl rfl) ?_
                 refine sVal (r_div rfl rfl rfl (by decide) rfl (tm256 (by omega))) ?_
                 refine s_bool (r_cmp rfl rfl rfl rfl) rfl rfl (fun _ => by rfl) ?_
                 intro c29 hc29
                 refine sVal (r_pickF rfl rfl rfl) ?_
                 refine s_nil ?_
                 refine hK24 _ _ ?_
                 cases c29
                 case false =>
                  replace hc29 := neF hc29
                  try dsimp only at hc29
                  first
                  | (exfalso; first | omega | (cases hc29; done))
                  | (
                    refine c_condF rfl ?_
                    refine wp_skip ?_
                    refine hK23 _ _ ?_
                    refine wp_seq_k (fun K30 hK30 => ?_)
                    refine wp_seq_k (fun K31 hK31 => ?_)
                    refine c_region ?_
                    refine sVal (r_move rfl rfl) ?_
                    refine sVal (r_move rfl rfl) ?_
                    refine sVal (r_ari rfl rfl rfl rfl (by first | exact wrapI (by omega) | rfl)) ?_
                    refine sVal (r_div rfl rfl rfl (by decide) rfl (tm256 (by omega))) ?_
                    refine sVal (r_build rfl rfl pl85 zr85 (by rfl)) ?_
                    refine s_enter (r_call rfl ent38 rfl) rfl ?_
                    refine receive_of (c := cA i 3) (a := ⟨cA i 3, rs0⟩) (num_late i 3) (cA_ok i 3) (by decide) hs (by (repeat (first | exact Cut.head _ _ | apply Cut.tail)); done) ?_
                    intro g2 w hs
                    dsimp only [restO, rs0, cA, cnC, rsC, sigC, unC, List.length_cons, List.length_nil] at hs ⊢
                    refine ⟨_, rfl, a_put (by rfl) ?_⟩
                    refine s_ex (r_alloc rfl zr74 hs) rfl rfl (fun _ => by rfl) ?_
                    intro b32 w hs
                    refine s_exS (r_storeA rfl rfl rfl hs (by (repeat (first | exact Cut.head _ _ | apply Cut.tail)); done) in74 sz74 rfl (fun h => by cases h) rfl (by rfl)) rfl rfl ?_
                    intro w hs
                    refine s_nil ?_
                    refine hK31 _ _ ?_
                    refine wp_seq_k (fun K33 hK33 => ?_)
                    refine c_region ?_
                    refine sVal (r_field rfl rfl of74_2) ?_
                    refine s_bool (r_load rfl rfl (ag4 _) hs.own (by rfl)) rfl rfl (fun _ => by rfl) ?_
                    intro c34 hc34
                    refine sVal (r_move rfl rfl) ?_
                    cases c34
                    case false =>
                     replace hc34 := Eq.symm hc34
                     try dsimp only at hc34
                     first
                     | (exfalso; first | omega | (cases hc34; done))
                     | (
                       refine sVal (r_field rfl rfl of74_0) ?_
                       refine sVal (r_load rfl rfl (ag71 _) hs.own (by rfl)) ?_
                       refine sVal (r_len rfl rfl Try.underlying71) ?_
                       refine s_bool (r_cmp rfl rfl rfl rfl) rfl rfl (fun _ => by rfl) ?_
                       intro c35 hc35
                       refine sVal (r_pickF rfl rfl rfl) ?_
                       refine sVal (r_move rfl rfl) ?_
                       cases c35
                       case false =>
                        replace hc35 := neF hc35
                        try dsimp only at hc35
                        first
                        | (exfalso; first | omega | (cases hc35; done))
                        | (
                          refine sVal (r_move rfl rfl) ?_
                          refine s_enter (r_call rfl ent36 rfl) rfl ?_
                          refine vars_use (c := cA i 3) hs (by (repeat (first | exact Cut.head _ _ | apply Cut.tail)); done) ?_
                          intro w hs
                          dsimp only [vaC, cA]
                          refine ⟨_, rfl, a_put (by rfl) ?_⟩
                          refine sVal (r_fieldV rfl rfl Try.underlying80 rfl rfl (by rfl)) ?_
                          refine s_bool (r_cmp rfl rfl rfl rfl) rfl rfl (fun _ => by rfl) ?_
                          intro c36 hc36
                          refine sVal (r_pickF rfl rfl rfl) ?_
                          refine s_nil ?_
                          refine hK33 _ _ ?_
                          cases c36
                          case false =>
                           replace hc36 := neF hc36
                           try dsimp only at hc36
                           first
                           | (exfalso; first | omega | (cases hc36; done))
                           | (
                             refine c_condF rfl ?_
                             refine wp_skip ?_
                             refine hK30 _ _ ?_
                             refine wp_seq_k (fun K37 hK37 => ?_)
                             refine wp_seq_k (fun K38 hK38 => ?_)
                             refine c_region ?_
                             refine sVal (r_move rfl rfl) ?_
                             refine sVal (r_div rfl rfl rfl (by decide) rfl (by rfl)) ?_
                             refine s_bool (r_cmp rfl rfl rfl rfl) rfl rfl (fun _ => by rfl) ?_
                             intro c39 hc39
                             refine s_nil ?_
                             refine hK38 _ _ ?_
                             cases c39
                             case false =>
                              replace hc39 := eqF hc39
                              try dsimp only at hc39
                              first
                              | (exfalso; first | omega | (cases hc39; done))
                              | (
                                refine c_condF rfl ?_
                                refine c_region ?_
                                refine sVal (r_move rfl rfl) ?_
                                refine s_enter (r_call rfl ent39 rfl) rfl ?_
                                refine expire_of (c := cA i 3) (a := ⟨⟨1, 3, 1, i % 256, -1, 1, 3, noS⟩, ⟨[⟨12, noS, false, 79, 0⟩, ⟨3, noS, true, 0, 0⟩], [⟨3, i % 256, 0, 0, 0, true, noS⟩], false, false, 0, 2⟩⟩) (num_expire i 3) (cA_ok i 3) hs (by (repeat (first | exact Cut.head _ _ | apply Cut.tail)); done) ?_
                                intro g3 w hs
                                dsimp only [restO] at hs
                                refine ⟨_, rfl, a_put (by rfl) ?_⟩
                                refine s_nil ?_
                                refine hK37 _ _ ?_
                                refine wp_seq_k (fun K40 hK40 => ?_)
                                refine c_region ?_
                                refine sVal (r_move rfl rfl) ?_
                                refine s_enter (r_call rfl ent36 rfl) rfl ?_
                                refine vars_use (c := ⟨1, 3, 1, i % 256, -1, 1, 3, noS⟩) hs (by (repeat (first | exact Cut.head _ _ | apply Cut.tail)); done) ?_
                                intro w hs
                                dsimp only [vaC]
                                refine ⟨_, rfl, a_put (by rfl) ?_⟩
                                refine sVal (r_fieldV rfl rfl Try.underlying80 rfl rfl (by rfl)) ?_
                                refine s_bool (r_cmp rfl rfl rfl rfl) rfl rfl (fun _ => by rfl) ?_
                                intro c41 hc41
                                refine s_nil ?_
                                refine hK40 _ _ ?_
                                cases c41
                                case false =>
                                 replace hc41 := neF hc41
                                 try dsimp only at hc41
                                 first
                                 | (exfalso; first | omega | (cases hc41; done))
                                 | (
                                   refine c_condF rfl ?_
                                   refine wp_skip ?_
                                   refine hK20 _ _ ?_
                                   refine c_region ?_
                                   refine sVal (r_move rfl rfl) ?_
                                   refine sVal (r_ari rfl rfl rfl rfl (by first | exact wrapI (by omega) | rfl)) ?_
                                   refine sVal (r_assign rfl rfl) ?_
                                   refine s_nil ?_
                                   refine hKL14 _ _ _ (by rfl) (by rfl) ?_ ?_
                                   · exact ⟨i + 1, 1, noS, rfl, by omega, by omega, by rw [← cN_next]; exact fin1 hs (by (repeat (first | exact Cut.head _ _ | apply Cut.tail)); done) (by repeat (first | exact Keeps.refl _ | apply Keeps.tail | apply Keeps.drop))⟩
                                   · (show 301 - (i + 1).toNat < 301 - i.toNat; omega))
                                case true =>
                                 replace hc41 := neT hc41
                                 try dsimp only at hc41
                                 first
                                 | (exfalso; first | omega | (cases hc41; done))
                                 | (
                                   refine c_condT rfl ?_
                                   refine wp_seq_k (fun K42 hK42 => ?_)
                                   refine c_region ?_
                                   refine sVal (r_assign rfl rfl) ?_
                                   refine s_nil ?_
                                   refine hK42 _ _ ?_
                                   refine wp_ret ?_
                                   refine f_ret (rs := [.tmp 2]) rfl (.tmp rfl .nil) rfl ?_
                                   first | exact hk _ (fin0 hs (by repeat (first | exact Keeps.refl _ | apply Keeps.tail | apply Keeps.drop))) | (have e : ((i - 1) % 256 == max 1 (min n 300) % 256) = true := (by rw [beq_iff_eq, show i - 1 = max 1 (min n 300) by omega]); rw [e]; exact hk _ (fin0 hs (by repeat (first | exact Keeps.refl _ | apply Keeps.tail | apply Keeps.drop))))))
                             case true =>
                              replace hc39 := eqT hc39
                              try dsimp only at hc39
                              first
                              | (exfalso; first | omega | (cases hc39; done))
                              | (
                                refine c_condT rfl ?_
                                refine c_region ?_
                                refine sVal (r_move rfl rfl) ?_
                                refine sVal (r_move rfl rfl) ?_
                                refine sVal (r_div rfl rfl rfl (by decide) rfl (tm256 (by omega))) ?_
                                refine sVal (r_build rfl rfl pl85 zr85 (by rfl)) ?_
                                refine s_enter (r_call rfl ent38 rfl) rfl ?_
                                refine receive_of (c := cA i 3) (a := ⟨⟨1, 3, 1, i % 256, -1, 1, 3, noS⟩, ⟨[⟨3, noS, false, 0, 0⟩], [], false, false, 0, 2⟩⟩) (num_rej i 3) (cA_ok i 3) (by decide) hs (by (repeat (first | exact Cut.head _ _ | apply Cut.tail)); done) ?_
                                intro g3 w hs
                                dsimp only [restO] at hs
                                refine ⟨_, rfl, a_put (by rfl) ?_⟩
                                refine s_nil ?_
                                refine hK37 _ _ ?_
                                refine wp_seq_k (fun K43 hK43 => ?_)
                                refine c_region ?_
                                refine sVal (r_move rfl rfl) ?_
                                refine s_enter (r_call rfl ent36 rfl) rfl ?_
                                refine vars_use (c := ⟨1, 3, 1, i % 256, -1, 1, 3, noS⟩) hs (by (repeat (first | exact Cut.head _ _ | apply Cut.tail)); done) ?_
                                intro w hs
                                dsimp only [vaC]
                                refine ⟨_, rfl, a_put (by rfl) ?_⟩
                                refine sVal (r_fieldV rfl rfl Try.underlying80 rfl rfl (by rfl)) ?_
                                refine s_bool (r_cmp rfl rfl rfl rfl) rfl rfl (fun _ => by rfl) ?_
                                intro c44 hc44
                                refine s_nil ?_
                                refine hK43 _ _ ?_
                                cases c44
                                case false =>
                                 replace hc44 := neF hc44
                                 try dsimp only at hc44
                                 first
                                 | (exfalso; first | omega | (cases hc44; done))
                                 | (
                                   refine c_condF rfl ?_
                                   refine wp_skip ?_
                                   refine hK20 _ _ ?_
                                   refine c_region ?_
                                   refine sVal (r_move rfl rfl) ?_
                                   refine sVal (r_ari rfl rfl rfl rfl (by first | exact wrapI (by omega) | rfl)) ?_
                                   refine sVal (r_assign rfl rfl) ?_
                                   refine s_nil ?_
                                   refine hKL14 _ _ _ (by rfl) (by rfl) ?_ ?_
                                   · exact ⟨i + 1, 1, noS, rfl, by omega, by omega, by rw [← cN_next]; exact fin1 hs (by (repeat (first | exact Cut.head _ _ | apply Cut.tail)); done) (by repeat (first | exact Keeps.refl _ | apply Keeps.tail | apply Keeps.drop))⟩
                                   · (show 301 - (i + 1).toNat < 301 - i.toNat; omega))
                                case true =>
                                 replace hc44 := neT hc44
                                 try dsimp only at hc44
                                 first
                                 | (exfalso; first | omega | (cases hc44; done))
                                 | (
                                   refine c_condT rfl ?_
                                   refine wp_seq_k (fun K45 hK45 => ?_)
                                   refine c_region ?_
                                   refine sVal (r_assign rfl rfl) ?_
                                   refine s_nil ?_
                                   refine hK45 _ _ ?_
                                   refine wp_ret ?_
                                   refine f_ret (rs := [.tmp 2]) rfl (.tmp rfl .nil) rfl ?_
                                   first | exact hk _ (fin0 hs (by repeat (first | exact Keeps.refl _ | apply Keeps.tail | apply Keeps.drop))) | (have e : ((i - 1) % 256 == max 1 (min n 300) % 256) = true := (by rw [beq_iff_eq, show i - 1 = max 1 (min n 300) by omega]); rw [e]; exact hk _ (fin0 hs (by repeat (first | exact Keeps.refl _ | apply Keeps.tail | apply Keeps.drop)))))))
                          case true =>
                           replace hc36 := neT hc36
                           try dsimp only at hc36
                           first
                           | (exfalso; first | omega | (cases hc36; done))
                           | (
                             refine c_condT rfl ?_
                             refine wp_seq_k (fun K46 hK46 => ?_)
                             refine c_region ?_
                             refine sVal (r_assign rfl rfl) ?_
                             refine s_nil ?_
                             refine hK46 _ _ ?_
                             refine wp_ret ?_
                             refine f_ret (rs := [.tmp 2]) rfl (.tmp rfl .nil) rfl ?_
                             first | exact hk _ (fin0 hs (by repeat (first | exact Keeps.refl _ | apply Keeps.tail | apply Keeps.drop))) | (have e : ((i - 1) % 256 == max 1 (min n 300) % 256) = true := (by rw [beq_iff_eq, show i - 1 = max 1 (min n 300) by omega]); rw [e]; exact hk _ (fin0 hs (by repeat (first | exact Keeps.refl _ | apply Keeps.tail | apply Keeps.drop))))))
                       case true =>
                        replace hc35 := neT hc35
                        try dsimp only at hc35
                        first
                        | (exfalso; first | omega | (cases hc35; done))
                        | (
                          refine @s_pass _ _ _ _ _ _ _ _ 60 (by rfl) (want_no rfl rfl rfl rfl) (by rfl) ?_
                          refine @s_pass _ _ _ _ _ _ _ _ 61 (by rfl) (want_no rfl rfl rfl rfl) (by rfl) ?_
                          refine @s_pass _ _ _ _ _ _ _ _ 62 (by rfl) (want_no rfl rfl rfl rfl) (by rfl) ?_
                          refine @s_pass _ _ _ _ _ _ _ _ 63 (by rfl) (want_no rfl rfl rfl rfl) (by rfl) ?_
                          refine sVal (r_pickT rfl rfl rfl) ?_
                          refine s_nil ?_
                          refine hK33 _ _ ?_
                          refine c_condT rfl ?_
                          refine wp_seq_k (fun K47 hK47 => ?_)
                          refine c_region ?_
                          refine sVal (r_assign rfl rfl) ?_
                          refine s_nil ?_
                          refine hK47 _ _ ?_
                          refine wp_ret ?_
                          refine f_ret (rs := [.tmp 2]) rfl (.tmp rfl .nil) rfl ?_
                          first | exact hk _ (fin0 hs (by repeat (first | exact Keeps.refl _ | apply Keeps.tail | apply Keeps.drop))) | (have e : ((i - 1) % 256 == max 1 (min n 300) % 256) = true := (by rw [beq_iff_eq, show i - 1 = max 1 (min n 300) by omega]); rw [e]; exact hk _ (fin0 hs (by repeat (first | exact Keeps.refl _ | apply Keeps.tail | apply Keeps.drop))))))
                    case true =>
                     replace hc34 := Eq.symm hc34
                     try dsimp only at hc34
                     first
                     | (exfalso; first | omega | (cases hc34; done))
                     | (
                       refine @s_pass _ _ _ _ _ _ _ _ 54 (by rfl) (want_no rfl rfl rfl rfl) (by rfl) ?_
                       refine @s_pass _ _ _ _ _ _ _ _ 55 (by rfl) (want_no rfl rfl rfl rfl) (by rfl) ?_
                       refine @s_pass _ _ _ _ _ _ _ _ 56 (by rfl) (want_no rfl rfl rfl rfl) (by rfl) ?_
                       refine @s_pass _ _ _ _ _ _ _ _ 57 (by rfl) (want_no rfl rfl rfl rfl) (by rfl) ?_
                       refine sVal (r_pickT rfl rfl rfl) ?_
                       refine sVal (r_move rfl rfl) ?_
                       refine @s_pass _ _ _ _ _ _ _ _ 60 (by rfl) (want_no rfl rfl rfl rfl) (by rfl) ?_
                       refine @s_pass _ _ _ _ _ _ _ _ 61 (by rfl) (want_no rfl rfl rfl rfl) (by rfl) ?_
                       refine @s_pass _ _ _ _ _ _ _ _ 62 (by rfl) (want_no rfl rfl rfl rfl) (by rfl) ?_
                       refine @s_pass _ _ _ _ _ _ _ _ 63 (by rfl) (want_no rfl rfl rfl rfl) (by rfl) ?_
                       refine sVal (r_pickT rfl rfl rfl) ?_
                       refine s_nil ?_
                       refine hK33 _ _ ?_
                       refine c_condT rfl ?_
                       refine wp_seq_k (fun K48 hK48 => ?_)
                       refine c_region ?_
                       refine sVal (r_assign rfl rfl) ?_
                       refine s_nil ?_
                       refine hK48 _ _ ?_
                       refine wp_ret ?_
                       refine f_ret (rs := [.tmp 2]) rfl (.tmp rfl .nil) rfl ?_
                       first | exact hk _ (fin0 hs (by repeat (first | exact Keeps.refl _ | apply Keeps.tail | apply Keeps.drop))) | (have e : ((i - 1) % 256 == max 1 (min n 300) % 256) = true := (by rw [beq_iff_eq, show i - 1 = max 1 (min n 300) by omega]); rw [e]; exact hk _ (fin0 hs (by repeat (first | exact Keeps.refl _ | apply Keeps.tail | apply Keeps.drop))))))
                 case true =>
                  replace hc29 := neT hc29
                  try dsimp only at hc29
                  first
                  | (exfalso; first | omega | (cases hc29; done))
                  | (
                    refine c_condT rfl ?_
                    refine wp_seq_k (fun K49 hK49 => ?_)
                    refine c_region ?_
                    refine sVal (r_assign rfl rfl) ?_
                    refine s_nil ?_
                    refine hK49 _ _ ?_
                    refine wp_ret ?_
                    refine f_ret (rs := [.tmp 2]) rfl (.tmp rfl .nil) rfl ?_
                    first | exact hk _ (fin0 hs (by repeat (first | exact Keeps.refl _ | apply Keeps.tail | apply Keeps.drop))) | (have e : ((i - 1) % 256 == max 1 (min n 300) % 256) = true := (by rw [beq_iff_eq, show i - 1 = max 1 (min n 300) by omega]); rw [e]; exact hk _ (fin0 hs (by repeat (first | exact Keeps.refl _ | apply Keeps.tail | apply Keeps.drop))))))
              case true =>
               replace hc26 := neT hc26
               try dsimp only at hc26
               first
               | (exfalso; first | omega | (cases hc26; done))
               | (
                 refine @s_pass _ _ _ _ _ _ _ _ 36 (by rfl) (want_no rfl rfl rfl rfl) (by rfl) ?_
                 refine @s_pass _ _ _ _ _ _ _ _ 37 (by rfl) (want_no rfl rfl rfl rfl) (by rfl) ?_
                 refine @s_pass _ _ _ _ _ _ _ _ 38 (by rfl) (want_no rfl rfl rfl rfl) (by rfl) ?_
                 refine @s_pass _ _ _ _ _ _ _ _ 39 (by rfl) (want_no rfl rfl rfl rfl) (by rfl) ?_
                 refine @s_pass _ _ _ _ _ _ _ _ 40 (by rfl) (want_no rfl rfl rfl rfl) (by rfl) ?_
                 refine @s_pass _ _ _ _ _ _ _ _ 41 (by rfl) (want_no rfl rfl rfl rfl) (by rfl) ?_
                 refine @s_pass _ _ _ _ _ _ _ _ 42 (by rfl) (want_no rfl rfl rfl rfl) (by rfl) ?_
                 refine @s_pass _ _ _ _ _ _ _ _ 43 (by rfl) (want_no rfl rfl rfl rfl) (by rfl) ?_
                 refine sVal (r_pickT rfl rfl rfl) ?_
                 refine s_nil ?_
                 refine hK24 _ _ ?_
                 refine c_condT rfl ?_
                 refine wp_seq_k (fun K50 hK50 => ?_)
                 refine c_region ?_
                 refine sVal (r_assign rfl rfl) ?_
                 refine s_nil ?_
                 refine hK50 _ _ ?_
                 refine wp_ret ?_
                 refine f_ret (rs := [.tmp 2]) rfl (.tmp rfl .nil) rfl ?_
                 first | exact hk _ (fin0 hs (by repeat (first | exact Keeps.refl _ | apply Keeps.tail | apply Keeps.drop))) | (have e : ((i - 1) % 256 == max 1 (min n 300) % 256) = true := (by rw [beq_iff_eq, show i - 1 = max 1 (min n 300) by omega]); rw [e]; exact hk _ (fin0 hs (by repeat (first | exact Keeps.refl _ | apply Keeps.tail | apply Keeps.drop))))))
           case true =>
            replace hc25 := neT hc25
            try dsimp only at hc25
            first
            | (exfalso; first | omega | (cases hc25; done))
            | (
              refine @s_pass _ _ _ _ _ _ _ _ 30 (by rfl) (want_no rfl rfl rfl rfl) (by rfl) ?_
              refine @s_pass _ _ _ _ _ _ _ _ 31 (by rfl) (want_no rfl rfl rfl rfl) (by rfl) ?_
              refine @s_pass _ _ _ _ _ _ _ _ 32 (by rfl) (want_no rfl rfl rfl rfl) (by rfl) ?_
              refine @s_pass _ _ _ _ _ _ _ _ 33 (by rfl) (want_no rfl rfl rfl rfl) (by rfl) ?_
              refine sVal (r_pickT rfl rfl rfl) ?_
              refine sVal (r_move rfl rfl) ?_
              refine @s_pass _ _ _ _ _ _ _ _ 36 (by rfl) (want_no rfl rfl rfl rfl) (by rfl) ?_
              refine @s_pass _ _ _ _ _ _ _ _ 37 (by rfl) (want_no rfl rfl rfl rfl) (by rfl) ?_
              refine @s_pass _ _ _ _ _ _ _ _ 38 (by rfl) (want_no rfl rfl rfl rfl) (by rfl) ?_
              refine @s_pass _ _ _ _ _ _ _ _ 39 (by rfl) (want_no rfl rfl rfl rfl) (by rfl) ?_
              refine @s_pass _ _ _ _ _ _ _ _ 40 (by rfl) (want_no rfl rfl rfl rfl) (by rfl) ?_
              refine @s_pass _ _ _ _ _ _ _ _ 41 (by rfl) (want_no rfl rfl rfl rfl) (by rfl) ?_
              refine @s_pass _ _ _ _ _ _ _ _ 42 (by rfl) (want_no rfl rfl rfl rfl) (by rfl) ?_
              refine @s_pass _ _ _ _ _ _ _ _ 43 (by rfl) (want_no rfl rfl rfl rfl) (by rfl) ?_
              refine sVal (r_pickT rfl rfl rfl) ?_
              refine s_nil ?_
              refine hK24 _ _ ?_
              refine c_condT rfl ?_
              refine wp_seq_k (fun K51 hK51 => ?_)
              refine c_region ?_
              refine sVal (r_assign rfl rfl) ?_
              refine s_nil ?_
              refine hK51 _ _ ?_
              refine wp_ret ?_
              refine f_ret (rs := [.tmp 2]) rfl (.tmp rfl .nil) rfl ?_
              first | exact hk _ (fin0 hs (by repeat (first | exact Keeps.refl _ | apply Keeps.tail | apply Keeps.drop))) | (have e : ((i - 1) % 256 == max 1 (min n 300) % 256) = true := (by rw [beq_iff_eq, show i - 1 = max 1 (min n 300) by omega]); rw [e]; exact hk _ (fin0 hs (by repeat (first | exact Keeps.refl _ | apply Keeps.tail | apply Keeps.drop)))))))
     case true =>
      replace hc10 := Eq.symm hc10
      try dsimp only at hc10
      first
      | (exfalso; first | omega | (cases hc10; done))
      | (
        refine c_condT rfl ?_
        refine wp_seq_k (fun K52 hK52 => ?_)
        refine c_region ?_
        refine sVal (r_assign rfl rfl) ?_
        refine s_nil ?_
        refine hK52 _ _ ?_
        refine wp_ret ?_
        refine f_ret (rs := [.tmp 2]) rfl (.tmp rfl .nil) rfl ?_
        first | exact hk _ (fin0 hs (by repeat (first | exact Keeps.refl _ | apply Keeps.tail | apply Keeps.drop))) | (have e : ((i - 1) % 256 == max 1 (min n 300) % 256) = true := (by rw [beq_iff_eq, show i - 1 = max 1 (min n 300) by omega]); rw [e]; exact hk _ (fin0 hs (by repeat (first | exact Keeps.refl _ | apply Keeps.tail | apply Keeps.drop))))))
end
end Go.Proofs.Ytoeaamohchpjdaa
