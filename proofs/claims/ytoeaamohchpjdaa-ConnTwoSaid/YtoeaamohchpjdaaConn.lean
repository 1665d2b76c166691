/-
  A connection: contracts of a call in the making.
-/
import Derived.Test.YtoeaamohchpjdaaConnM
import Derived.Test.YtoeaamohchpjdaaEnt
namespace Go.Proofs.Ytoeaamohchpjdaa
open Go Go.RowKit
set_option linter.unusedVariables false
set_option linter.unusedSimpArgs false
set_option maxRecDepth 100000

/-- The cells of a signal, of a unit, of a connection, of a call in the making. -/
def sigC (s : Sig) : List Value := [.int .i64 s.kind, .string s.data, .bool s.self, .int .u8 s.code, .int .i64 s.n]
def unC (u : Un) : List Value := [.int .i64 u.kind, .int .i64 u.sq, .int .u32 u.n, .int .u32 u.ps, .int .u32 u.mr, .slice none 0 0, .bool u.self, .string u.data]
def cnC (c : Cn) : List Value := [.int .i64 c.most, .int .u32 c.credit, .int .i64 c.state, .int .i64 c.sq, .int .i64 c.peer, .int .i64 c.cc, .int .u32 c.ms, .string c.data]
def acC (bc : Nat) (sv uv : Value) (r : Rs) : List Value := [.pointer (some ⟨bc, 0, none⟩), sv, uv, .bool r.begins, .bool r.ends, .int .u32 r.ms, .int .i64 r.timer]
/-- Where the lists of a call in the making lie. -/
structure Gh where
  p : Option Addr
  c : Nat
  q : Option Addr
  e : Nat
/-- A call in the making, in memory. -/
def actP (ba bc : Nat) (g : Gh) (a : As) : HP :=
  own ba (.cells (acC bc (.slice g.p a.r.sigs.length g.c) (.slice g.q a.r.units.length g.e) a.r).toArray 121 (0, 0)) * own bc (.cells (cnC a.c).toArray 108 (0, 0)) *
  oL 93 5 sigC (.slice g.p a.r.sigs.length g.c) a.r.sigs * oL 85 8 unC (.slice g.q a.r.units.length g.e) a.r.units
theorem act_open {E : World} {R : HP} {w : World} {ba bc : Nat} {g : Gh} {a : As} (h : Sat E (R * actP ba bc g a) w) :
    Sat E (R * own ba (.cells (acC bc (.slice g.p a.r.sigs.length g.c) (.slice g.q a.r.units.length g.e) a.r).toArray 121 (0, 0)) * own bc (.cells (cnC a.c).toArray 108 (0, 0)) *
      oL 93 5 sigC (.slice g.p a.r.sigs.length g.c) a.r.sigs * oL 85 8 unC (.slice g.q a.r.units.length g.e) a.r.units) w :=
  h.eq (by unfold actP; simp only [star_assoc])
/-- What is left over is let go. -/
def Keeps (R' R : HP) : Prop := ∀ (E : World) (A : HP) (w : World), Sat E (R' * A) w → Sat E (R * A) w
theorem Keeps.refl (R : HP) : Keeps R R := fun _ _ _ h => h
theorem Keeps.drop {R' R B : HP} (h : Keeps R' R) : Keeps (R' * B) R := fun E A w hs => h E A w ((hs.eq (star_right_comm _ _ _)).drop)
theorem Keeps.tail {R' R B : HP} (h : Keeps R' R) : Keeps (R' * B) (R * B) := fun E A w hs => (h E (B * A) w (hs.eq (star_assoc _ _ _))).eq (star_assoc _ _ _).symm
theorem act_close {E : World} {H R R' : HP} {w : World} {ba bc : Nat} (g : Gh) (a : As) (h : Sat E H w)
    (c : Cut H (own ba (.cells (acC bc (.slice g.p a.r.sigs.length g.c) (.slice g.q a.r.units.length g.e) a.r).toArray 121 (0, 0)) * own bc (.cells (cnC a.c).toArray 108 (0, 0)) *
      oL 93 5 sigC (.slice g.p a.r.sigs.length g.c) a.r.sigs * oL 85 8 unC (.slice g.q a.r.units.length g.e) a.r.units) R') (k : Keeps R' R) : Sat E (R * actP ba bc g a) w := k _ _ _ (h.cut c)
attribute [local irreducible] own fix oL rL osl rsl fact some' wpList wpHi wpPre wpAny After AfterH

section
variable {E : World} {H R : HP} {w : World} {Q : Ending → World → Prop} {ba bc : Nat} {g : Gh} {a : As}
theorem to_use (s : Int) (hs : Sat E H w) (c : Cut H (actP ba bc g a) R) (hk : ∀ g' w', Sat E (R * actP ba bc g' (a.to s)) w' → Q (.returned (.tuple #[])) w') :
    Calls Try.prog 79 #[.pointer (some ⟨ba, 0, none⟩), .int .i64 s] w Q := by
  replace hs := act_open (hs.cut c)
  refine f_enter Try.func79 rfl rfl ?_
  show Code.wp _ _ _ (Fr _) _
  refine wp_seq_k (fun K1 hK1 => ?_)
  refine c_region ?_
  refine sVal (r_move rfl rfl) ?_
  refine sVal (r_move rfl rfl) ?_
  refine sVal (r_nil rfl rfl) ?_
  refine sVal (r_field rfl rfl of121_1) ?_
  refine sVal (r_field rfl rfl of74_3) ?_
  refine s_bool (r_load rfl rfl (ag4 _) hs.own (by rfl)) rfl rfl (fun _ => by rfl) ?_
  intro c2 hc2
  refine sVal (r_move rfl rfl) ?_
  cases c2
  case false =>
   replace hc2 := Eq.symm hc2
   try dsimp only at hc2
   first
   | (exfalso; first | omega | (cases hc2; done))
   | (
     refine sVal (r_move rfl rfl) ?_
     refine sVal (r_nil rfl rfl) ?_
     refine sVal (r_field rfl rfl of121_0) ?_
     refine sVal (r_load rfl rfl (ag58 _) hs.own (by rfl)) ?_
     refine sVal (r_nil rfl rfl) ?_
     refine sVal (r_field rfl rfl of108_1) ?_
     refine sVal (r_field rfl rfl of80_0) ?_
     refine sVal (r_load rfl rfl (ag3 _) hs.own (by rfl)) ?_
     refine s_bool (r_cmp rfl rfl rfl rfl) rfl rfl (fun _ => by rfl) ?_
     intro c3 hc3
     refine sVal (r_pickF rfl rfl rfl) ?_
     refine sVal (r_nil rfl rfl) ?_
     refine sVal (r_field rfl rfl of121_1) ?_
     refine sVal (r_field rfl rfl of74_3) ?_
     refine s_exS (r_store rfl rfl rfl hs (by (repeat (first | exact Cut.head _ _ | apply Cut.tail)); done) in4 sz4 rfl (by rfl)) rfl rfl ?_
     intro w hs
     refine s_nil ?_
     refine hK1 _ _ ?_
     refine c_region ?_
     refine sVal (r_move rfl rfl) ?_
     refine sVal (r_nil rfl rfl) ?_
     refine sVal (r_field rfl rfl of121_0) ?_
     refine sVal (r_load rfl rfl (ag58 _) hs.own (by rfl)) ?_
     refine sVal (r_move rfl rfl) ?_
     refine sVal (r_nil rfl rfl) ?_
     refine sVal (r_field rfl rfl of108_1) ?_
     refine sVal (r_field rfl rfl of80_0) ?_
     refine s_exS (r_store rfl rfl rfl hs (by (repeat (first | exact Cut.head _ _ | apply Cut.tail)); done) in3 sz3 rfl (by rfl)) rfl rfl ?_
     intro w hs
     refine s_nil ?_
     refine f_end (rs := []) rfl .nil rfl ?_
     subst c3
     refine hk g _ (act_close g (a.to s) hs (by (try simp only [As.to, hc2, Bool.true_or, Bool.false_or, Bool.or_true, Bool.or_false, ↓reduceIte, or_true, true_or, or_false, false_or]); repeat (first | apply Cut.pair | exact Cut.head _ _ | apply Cut.tail)) (by repeat (first | exact Keeps.refl _ | apply Keeps.tail | apply Keeps.drop))))
  case true =>
   replace hc2 := Eq.symm hc2
   try dsimp only at hc2
   first
   | (exfalso; first | omega | (cases hc2; done))
   | (
     refine @s_pass _ _ _ _ _ _ _ _ 11 (by rfl) (want_no rfl rfl rfl rfl) (by rfl) ?_
     refine @s_pass _ _ _ _ _ _ _ _ 12 (by rfl) (want_no rfl rfl rfl rfl) (by rfl) ?_
     refine @s_pass _ _ _ _ _ _ _ _ 13 (by rfl) (want_no rfl rfl rfl rfl) (by rfl) ?_
     refine @s_pass _ _ _ _ _ _ _ _ 14 (by rfl) (want_no rfl rfl rfl rfl) (by rfl) ?_
     refine @s_pass _ _ _ _ _ _ _ _ 15 (by rfl) (want_no rfl rfl rfl rfl) (by rfl) ?_
     refine @s_pass _ _ _ _ _ _ _ _ 16 (by rfl) (want_no rfl rfl rfl rfl) (by rfl) ?_
     refine @s_pass _ _ _ _ _ _ _ _ 17 (by rfl) (want_no rfl rfl rfl rfl) (by rfl) ?_
     refine @s_pass _ _ _ _ _ _ _ _ 18 (by rfl) (want_no rfl rfl rfl rfl) (by rfl) ?_
     refine @s_pass _ _ _ _ _ _ _ _ 19 (by rfl) (want_no rfl rfl rfl rfl) (by rfl) ?_
     refine sVal (r_pickT rfl rfl rfl) ?_
     refine sVal (r_nil rfl rfl) ?_
     refine sVal (r_field rfl rfl of121_1) ?_
     refine sVal (r_field rfl rfl of74_3) ?_
     refine s_exS (r_store rfl rfl rfl hs (by (repeat (first | exact Cut.head _ _ | apply Cut.tail)); done) in4 sz4 rfl (by rfl)) rfl rfl ?_
     intro w hs
     refine s_nil ?_
     refine hK1 _ _ ?_
     refine c_region ?_
     refine sVal (r_move rfl rfl) ?_
     refine sVal (r_nil rfl rfl) ?_
     refine sVal (r_field rfl rfl of121_0) ?_
     refine sVal (r_load rfl rfl (ag58 _) hs.own (by rfl)) ?_
     refine sVal (r_move rfl rfl) ?_
     refine sVal (r_nil rfl rfl) ?_
     refine sVal (r_field rfl rfl of108_1) ?_
     refine sVal (r_field rfl rfl of80_0) ?_
     refine s_exS (r_store rfl rfl rfl hs (by (repeat (first | exact Cut.head _ _ | apply Cut.tail)); done) in3 sz3 rfl (by rfl)) rfl rfl ?_
     intro w hs
     refine s_nil ?_
     refine f_end (rs := []) rfl .nil rfl ?_
     refine hk g _ (act_close g (a.to s) hs (by (try simp only [As.to, hc2, Bool.true_or, Bool.false_or, Bool.or_true, Bool.or_false, ↓reduceIte, or_true, true_or, or_false, false_or]); repeat (first | apply Cut.pair | exact Cut.head _ _ | apply Cut.tail)) (by repeat (first | exact Keeps.refl _ | apply Keeps.tail | apply Keeps.drop))))
theorem stop_use (s : Int) (hs : Sat E H w) (c : Cut H (actP ba bc g a) R) (hk : ∀ g' w', Sat E (R * actP ba bc g' (a.stop s)) w' → Q (.returned (.tuple #[])) w') :
    Calls Try.prog 73 #[.pointer (some ⟨ba, 0, none⟩), .int .i64 s] w Q := by
  replace hs := act_open (hs.cut c)
  refine f_enter Try.func73 rfl rfl ?_
  show Code.wp _ _ _ (Fr _) _
  refine wp_seq_k (fun K1 hK1 => ?_)
  refine c_region ?_
  refine sVal (r_move rfl rfl) ?_
  refine sVal (r_move rfl rfl) ?_
  refine s_enter (r_call rfl ent79 rfl) rfl ?_
  refine to_use (a := a) _ (act_close g (a) hs (by (try simp only [As.stop, As.setTimer, Bool.true_or, Bool.false_or, Bool.or_true, Bool.or_false, ↓reduceIte, or_true, true_or, or_false, false_or]); (repeat (first | apply Cut.pair | exact Cut.head _ _ | apply Cut.tail)); done) (by repeat (first | exact Keeps.refl _ | apply Keeps.tail | apply Keeps.drop))) (Cut.head _ _) ?_
  intro g w hs
  replace hs := act_open hs
  refine ⟨_, rfl, a_put (by rfl) ?_⟩
  refine s_nil ?_
  refine hK1 _ _ ?_
  refine c_region ?_
  refine sVal (r_move rfl rfl) ?_
  refine sVal (r_nil rfl rfl) ?_
  refine sVal (r_field rfl rfl of121_1) ?_
  refine sVal (r_field rfl rfl of74_5) ?_
  refine s_exS (r_store rfl rfl rfl hs (by (repeat (first | exact Cut.head _ _ | apply Cut.tail)); done) in3 sz3 rfl (by rfl)) rfl rfl ?_
  intro w hs
  refine s_nil ?_
  refine f_end (rs := []) rfl .nil rfl ?_
  refine hk g _ (act_close g (a.stop s) hs (by (try simp only [As.stop, As.setTimer, Bool.true_or, Bool.false_or, Bool.or_true, Bool.or_false, ↓reduceIte, or_true, true_or, or_false, false_or]); repeat (first | apply Cut.pair | exact Cut.head _ _ | apply Cut.tail)) (by repeat (first | exact Keeps.refl _ | apply Keeps.tail | apply Keeps.drop)))
theorem ready_use (hs : Sat E H w) (c : Cut H (actP ba bc g a) R) (hk : ∀ g' w', Sat E (R * actP ba bc g' a.ready) w' → Q (.returned (.tuple #[])) w') :
    Calls Try.prog 84 #[.pointer (some ⟨ba, 0, none⟩)] w Q := by
  replace hs := act_open (hs.cut c)
  refine f_enter Try.func84 rfl rfl ?_
  show Code.wp _ _ _ (Fr _) _
  refine wp_seq_k (fun K1 hK1 => ?_)
  refine c_region ?_
  refine sVal (r_move rfl rfl) ?_
  refine s_enter (r_call rfl ent73 rfl) rfl ?_
  refine stop_use (a := a) _ (act_close g (a) hs (by (try simp only [As.ready, As.begins, Bool.true_or, Bool.false_or, Bool.or_true, Bool.or_false, ↓reduceIte, or_true, true_or, or_false, false_or]); (repeat (first | apply Cut.pair | exact Cut.head _ _ | apply Cut.tail)); done) (by repeat (first | exact Keeps.refl _ | apply Keeps.tail | apply Keeps.drop))) (Cut.head _ _) ?_
  intro g w hs
  replace hs := act_open hs
  refine ⟨_, rfl, a_put (by rfl) ?_⟩
  refine s_nil ?_
  refine hK1 _ _ ?_
  refine c_region ?_
  refine sVal (r_move rfl rfl) ?_
  refine sVal (r_move rfl rfl) ?_
  refine sVal (r_move rfl rfl) ?_
  refine sVal (r_nil rfl rfl) ?_
  refine sVal (r_field rfl rfl of121_0) ?_
  refine sVal (r_load rfl rfl (ag58 _) hs.own (by rfl)) ?_
  refine sVal (r_nil rfl rfl) ?_
  refine sVal (r_field rfl rfl of108_1) ?_
  refine sVal (r_field rfl rfl of80_4) ?_
  refine sVal (r_load rfl rfl (ag61 _) hs.own (by rfl)) ?_
  refine sVal (r_nil rfl rfl) ?_
  refine sVal (r_field rfl rfl of121_1) ?_
  refine sVal (r_field rfl rfl of74_2) ?_
  refine s_exS (r_store rfl rfl rfl hs (by (repeat (first | exact Cut.head _ _ | apply Cut.tail)); done) in4 sz4 rfl (by rfl)) rfl rfl ?_
  intro w hs
  refine sVal (r_nil rfl rfl) ?_
  refine sVal (r_field rfl rfl of121_1) ?_
  refine sVal (r_field rfl rfl of74_4) ?_
  refine s_exS (r_store rfl rfl rfl hs (by (repeat (first | exact Cut.head _ _ | apply Cut.tail)); done) in61 sz61 rfl (by rfl)) rfl rfl ?_
  intro w hs
  refine s_nil ?_
  refine f_end (rs := []) rfl .nil rfl ?_
  refine hk g _ (act_close g (a.ready) hs (by (try simp only [As.ready, As.begins, Bool.true_or, Bool.false_or, Bool.or_true, Bool.or_false, ↓reduceIte, or_true, true_or, or_false, false_or]); repeat (first | apply Cut.pair | exact Cut.head _ _ | apply Cut.tail)) (by repeat (first | exact Keeps.refl _ | apply Keeps.tail | apply Keeps.drop)))
theorem tell_use (k : Int) (d : ByteArray) (self : Bool) (code n : Int) (hb : a.few ≤ 100000) (hs : Sat E H w) (c : Cut H (actP ba bc g a) R) (hk : ∀ g' w', Sat E (R * actP ba bc g' (a.tell ⟨k, d, self, code, n⟩)) w' → Q (.returned (.tuple #[])) w') :
    Calls Try.prog 72 #[.pointer (some ⟨ba, 0, none⟩), .agg #[.int .i64 k, .string d, .bool self, .int .u8 code, .int .i64 n]] w Q := by
  have hb1 : a.r.sigs.length ≤ 100000 := by unfold As.few at hb; omega
  replace hs := act_open (hs.cut c)
  refine f_enter Try.func72 rfl rfl ?_
  show Code.wp _ _ _ (Fr _) _
  refine wp_seq_k (fun K1 hK1 => ?_)
  refine c_region ?_
  refine s_ex (r_box rfl rfl rfl hs) rfl rfl (fun _ => by rfl) ?_
  intro b2 w hs
  refine s_nil ?_
  refine hK1 _ _ ?_
  replace hs := hs.drew
  refine d_start (by kernel_rfl) ?_
  refine d_pre [0, 1, 2, 3, 4] (g := 8) (by kernel_rfl) (fun _ _ d _ _ h => by cases d <;> exact h) ?_
  refine pVal rfl (fun w => (r_move rfl rfl)) ?_
  refine pVal rfl (fun w => (r_move rfl rfl)) ?_
  refine pVal rfl (fun w => (r_nil rfl rfl)) ?_
  refine pVal rfl (fun w => (r_field rfl rfl of121_1)) ?_
  refine pVal rfl (fun w => (r_field rfl rfl of74_0)) ?_
  refine p_nil ?_
  refine d_head 8 [(5, true), (6, true), (7, false)] (Holds _ _) (g := 5) (by kernel_rfl) (fun _ _ d _ _ h => by cases d <;> exact h) (Holds.self hs) ?_
  refine hVal rfl (fun w hS => (r_load rfl rfl (ag71 _) hS.own (by rfl))) ?_
  refine hVal rfl (fun w hS => (r_loadA rfl rfl (ag93 _) hS.own in93 sz93 (by rfl))) ?_
  refine h_ex rfl (r_lit sigC [⟨_, _, _, _, _⟩] rfl rfl rfl hs Try.underlying71 (by kernel_rfl) sz93 rfl (by decide) (fun _ => rfl)) rfl rfl (fun _ => by rfl) ?_
  intro b3 w hs
  refine ⟨(Holds.mono (Holds.self hs) (by repeat (first | exact Keeps.refl _ | apply Keeps.tail | apply Keeps.drop))), ?_⟩
  refine h_nil ?_
  refine d_tail 8 (by kernel_rfl) ?_
  refine s_ex (r_appendO (f := sigC) rfl rfl rfl hs (by (repeat (first | exact Cut.head _ _ | apply Cut.tail)); done) hs.rd Try.underlying71 (by kernel_rfl) sz93 (by decide) (fun _ => rfl) (by simp; omega)) rfl rfl (fun _ => by rfl) ?_
  intro v4 w hs
  obtain ⟨pv4, kv4, rfl⟩ := (hs.oReads (by (repeat (first | exact Cut.head _ _ | apply Cut.tail)); done)).header
  refine sVal (r_nil rfl rfl) ?_
  refine sVal (r_field rfl rfl of121_1) ?_
  refine sVal (r_field rfl rfl of74_0) ?_
  refine s_exS (r_store rfl rfl rfl hs (by (repeat (first | exact Cut.head _ _ | apply Cut.tail)); done) in71 sz71 rfl (by rfl)) rfl rfl ?_
  intro w hs
  refine s_nil ?_
  refine f_end (rs := []) rfl .nil rfl ?_
  refine hk ⟨pv4, kv4, g.q, g.e⟩ _ (act_close _ (a.tell _) hs (by simp only [As.tell]; repeat (first | apply Cut.pair | exact Cut.head _ _ | apply Cut.tail)) (by repeat (first | exact Keeps.refl _ | apply Keeps.drop)))
theorem out_use (k sq n ps mr : Int) (self : Bool) (d : ByteArray) (hb : a.few ≤ 100000) (hs : Sat E H w) (c : Cut H (actP ba bc g a) R) (hk : ∀ g' w', Sat E (R * actP ba bc g' (a.out ⟨k, sq, n, ps, mr, self, d⟩)) w' → Q (.returned (.tuple #[])) w') :
    Calls Try.prog 83 #[.pointer (some ⟨ba, 0, none⟩), .agg #[.int .i64 k, .int .i64 sq, .int .u32 n, .int .u32 ps, .int .u32 mr, .slice none 0 0, .bool self, .string d]] w Q := by
  have hb1 : a.r.units.length ≤ 100000 := by unfold As.few at hb; omega
  replace hs := act_open (hs.cut c)
  refine f_enter Try.func83 rfl rfl ?_
  show Code.wp _ _ _ (Fr _) _
  refine wp_seq_k (fun K1 hK1 => ?_)
  refine c_region ?_
  refine s_ex (r_box rfl rfl rfl hs) rfl rfl (fun _ => by rfl) ?_
  intro b2 w hs
  refine s_nil ?_
  refine hK1 _ _ ?_
  refine wp_seq_k (fun K3 hK3 => ?_)
  refine wp_seq_k (fun K4 hK4 => ?_)
  refine c_region ?_
  refine sVal (r_field rfl rfl of85_0) ?_
  refine sVal (r_load rfl rfl (ag3 _) hs.own (by rfl)) ?_
  refine s_nil ?_
  refine hK4 _ _ ?_
  refine wp_block ?_
  refine wp_seq_k (fun K5 hK5 => ?_)
  refine wp_seq_k (fun K6 hK6 => ?_)
  refine c_region ?_
  refine s_bool (r_cmp rfl rfl rfl rfl) rfl rfl (fun _ => by rfl) ?_
  intro c7 hc7
  refine sVal (r_assign rfl rfl) ?_
  refine s_nil ?_
  refine hK6 _ _ ?_
  cases c7
  case false =>
   replace hc7 := eqF hc7
   try dsimp only at hc7
   first
   | (exfalso; first | omega | (cases hc7; done))
   | (
     refine c_condF rfl ?_
     refine wp_seq_k (fun K8 hK8 => ?_)
     refine c_region ?_
     refine s_bool (r_cmp rfl rfl rfl rfl) rfl rfl (fun _ => by rfl) ?_
     intro c9 hc9
     refine sVal (r_assign rfl rfl) ?_
     refine s_nil ?_
     refine hK8 _ _ ?_
     cases c9
     case false =>
      replace hc9 := eqF hc9
      try dsimp only at hc9
      first
      | (exfalso; first | omega | (cases hc9; done))
      | (
        refine c_condF rfl ?_
        refine wp_seq_k (fun K10 hK10 => ?_)
        refine c_region ?_
        refine s_bool (r_cmp rfl rfl rfl rfl) rfl rfl (fun _ => by rfl) ?_
        intro c11 hc11
        refine sVal (r_assign rfl rfl) ?_
        refine s_nil ?_
        refine hK10 _ _ ?_
        cases c11
        case false =>
         replace hc11 := eqF hc11
         try dsimp only at hc11
         first
         | (exfalso; first | omega | (cases hc11; done))
         | (
           refine c_condF rfl ?_
           refine wp_seq_k (fun K12 hK12 => ?_)
           refine c_region ?_
           refine s_bool (r_cmp rfl rfl rfl rfl) rfl rfl (fun _ => by rfl) ?_
           intro c13 hc13
           refine sVal (r_assign rfl rfl) ?_
           refine s_nil ?_
           refine hK12 _ _ ?_
           cases c13
           case false =>
            replace hc13 := eqF hc13
            try dsimp only at hc13
            first
            | (exfalso; first | omega | (cases hc13; done))
            | (
              refine c_condF rfl ?_
              refine wp_seq_k (fun K14 hK14 => ?_)
              refine c_region ?_
              refine s_bool (r_cmp rfl rfl rfl rfl) rfl rfl (fun _ => by rfl) ?_
              intro c15 hc15
              refine sVal (r_assign rfl rfl) ?_
              refine s_nil ?_
              refine hK14 _ _ ?_
              cases c15
              case false =>
               replace hc15 := eqF hc15
               try dsimp only at hc15
               first
               | (exfalso; first | omega | (cases hc15; done))
               | (
                 refine c_condF rfl ?_
                 refine c_region ?_
                 refine s_bool (r_cmp rfl rfl rfl rfl) rfl rfl (fun _ => by rfl) ?_
                 intro c16 hc16
                 refine sVal (r_assign rfl rfl) ?_
                 refine s_nil ?_
                 refine hK5 _ _ ?_
                 cases c16
                 case false =>
                  replace hc16 := eqF hc16
                  try dsimp only at hc16
                  first
                  | (exfalso; first | omega | (cases hc16; done))
                  | (
                    refine c_condF rfl ?_
                    refine wp_skip ?_
                    refine hK3 _ _ ?_
                    replace hs := hs.drew
                    refine d_start (by kernel_rfl) ?_
                    refine d_pre [0, 1, 2, 3, 4] (g := 8) (by kernel_rfl) (fun _ _ d _ _ h => by cases d <;> exact h) ?_
                    refine pVal rfl (fun w => (r_move rfl rfl)) ?_
                    refine pVal rfl (fun w => (r_move rfl rfl)) ?_
                    refine pVal rfl (fun w => (r_nil rfl rfl)) ?_
                    refine pVal rfl (fun w => (r_field rfl rfl of121_1)) ?_
                    refine pVal rfl (fun w => (r_field rfl rfl of74_1)) ?_
                    refine p_nil ?_
                    refine d_head 8 [(5, true), (6, true), (7, false)] (Holds _ _) (g := 5) (by kernel_rfl) (fun _ _ d _ _ h => by cases d <;> exact h) (Holds.self hs) ?_
                    refine hVal rfl (fun w hS => (r_load rfl rfl (ag72 _) hS.own (by rfl))) ?_
                    refine hVal rfl (fun w hS => (r_loadA rfl rfl (ag85 _) hS.own in85 sz85 (by rfl))) ?_
                    refine h_ex rfl (r_lit unC [⟨_, _, _, _, _, _, _⟩] rfl rfl rfl hs Try.underlying72 (by kernel_rfl) sz85 rfl (by decide) (fun _ => rfl)) rfl rfl (fun _ => by rfl) ?_
                    intro b17 w hs
                    refine ⟨(Holds.mono (Holds.self hs) (by repeat (first | exact Keeps.refl _ | apply Keeps.tail | apply Keeps.drop))), ?_⟩
                    refine h_nil ?_
                    refine d_tail 8 (by kernel_rfl) ?_
                    refine s_ex (r_appendO (f := unC) rfl rfl rfl hs (by (repeat (first | exact Cut.head _ _ | apply Cut.tail)); done) hs.rd Try.underlying72 (by kernel_rfl) sz85 (by decide) (fun _ => rfl) (by simp; omega)) rfl rfl (fun _ => by rfl) ?_
                    intro v w hs
                    obtain ⟨pv, kv, rfl⟩ := (hs.oReads (by (repeat (first | exact Cut.head _ _ | apply Cut.tail)); done)).header
                    refine sVal (r_nil rfl rfl) ?_
                    refine sVal (r_field rfl rfl of121_1) ?_
                    refine sVal (r_field rfl rfl of74_1) ?_
                    refine s_exS (r_store rfl rfl rfl hs (by (repeat (first | exact Cut.head _ _ | apply Cut.tail)); done) in72 sz72 rfl (by rfl)) rfl rfl ?_
                    intro w hs
                    refine s_nil ?_
                    refine f_end (rs := []) rfl .nil rfl ?_
                    refine hk ⟨g.p, g.c, pv, kv⟩ _ (act_close _ (a.out _) hs (by (try simp only [As.out, As.add, hasN, hc7, hc9, hc11, hc13, hc15, hc16, or_true, true_or, or_false, false_or, ↓reduceIte, List.length_append, List.length_singleton]); repeat (first | apply Cut.pair | exact Cut.head _ _ | apply Cut.tail)) (by repeat (first | exact Keeps.refl _ | apply Keeps.drop))))
                 case true =>
                  replace hc16 := eqT hc16
                  try dsimp only at hc16
                  first
                  | (exfalso; first | omega | (cases hc16; done))
                  | (
                    refine c_condT rfl ?_
                    refine c_region ?_
                    refine sVal (r_move rfl rfl) ?_
                    refine sVal (r_nil rfl rfl) ?_
                    refine sVal (r_field rfl rfl of121_0) ?_
                    refine sVal (r_load rfl rfl (ag58 _) hs.own (by rfl)) ?_
                    refine sVal (r_nil rfl rfl) ?_
                    refine sVal (r_field rfl rfl of108_0) ?_
                    refine sVal (r_field rfl rfl of63_1) ?_
                    refine sVal (r_load rfl rfl (ag61 _) hs.own (by rfl)) ?_
                    refine sVal (r_field rfl rfl of85_2) ?_
                    refine s_exS (r_store rfl rfl rfl hs (by (repeat (first | exact Cut.head _ _ | apply Cut.tail)); done) in61 sz61 rfl (by rfl)) rfl rfl ?_
                    intro w hs
                    refine s_nil ?_
                    refine hK3 _ _ ?_
                    replace hs := hs.drew
                    refine d_start (by kernel_rfl) ?_
                    refine d_pre [0, 1, 2, 3, 4] (g := 8) (by kernel_rfl) (fun _ _ d _ _ h => by cases d <;> exact h) ?_
                    refine pVal rfl (fun w => (r_move rfl rfl)) ?_
                    refine pVal rfl (fun w => (r_move rfl rfl)) ?_
                    refine pVal rfl (fun w => (r_nil rfl rfl)) ?_
                    refine pVal rfl (fun w => (r_field rfl rfl of121_1)) ?_
                    refine pVal rfl (fun w => (r_field rfl rfl of74_1)) ?_
                    refine p_nil ?_
                    refine d_head 8 [(5, true), (6, true), (7, false)] (Holds _ _) (g := 5) (by kernel_rfl) (fun _ _ d _ _ h => by cases d <;> exact h) (Holds.self hs) ?_
                    refine hVal rfl (fun w hS => (r_load rfl rfl (ag72 _) hS.own (by rfl))) ?_
                    refine hVal rfl (fun w hS => (r_loadA rfl rfl (ag85 _) hS.own in85 sz85 (by rfl))) ?_
                    refine h_ex rfl (r_lit unC [⟨_, _, _, _, _, _, _⟩] rfl rfl rfl hs Try.underlying72 (by kernel_rfl) sz85 rfl (by decide) (fun _ => rfl)) rfl rfl (fun _ => by rfl) ?_
                    intro b18 w hs
                    refine ⟨(Holds.mono (Holds.self hs) (by repeat (first | exact Keeps.refl _ | apply Keeps.tail | apply Keeps.drop))), ?_⟩
                    refine h_nil ?_
                    refine d_tail 8 (by kernel_rfl) ?_
                    refine s_ex (r_appendO (f := unC) rfl rfl rfl hs (by (repeat (first | exact Cut.head _ _ | apply Cut.tail)); done) hs.rd Try.underlying72 (by kernel_rfl) sz85 (by decide) (fun _ => rfl) (by simp; omega)) rfl rfl (fun _ => by rfl) ?_
                    intro v w hs
                    obtain ⟨pv, kv, rfl⟩ := (hs.oReads (by (repeat (first | exact Cut.head _ _ | apply Cut.tail)); done)).header
                    refine sVal (r_nil rfl rfl) ?_
                    refine sVal (r_field rfl rfl of121_1) ?_
                    refine sVal (r_field rfl rfl of74_1) ?_
                    refine s_exS (r_store rfl rfl rfl hs (by (repeat (first | exact Cut.head _ _ | apply Cut.tail)); done) in72 sz72 rfl (by rfl)) rfl rfl ?_
                    intro w hs
                    refine s_nil ?_
                    refine f_end (rs := []) rfl .nil rfl ?_
                    refine hk ⟨g.p, g.c, pv, kv⟩ _ (act_close _ (a.out _) hs (by (try simp only [As.out, As.add, hasN, hc7, hc9, hc11, hc13, hc15, hc16, or_true, true_or, or_false, false_or, ↓reduceIte, List.length_append, List.length_singleton]); repeat (first | apply Cut.pair | exact Cut.head _ _ | apply Cut.tail)) (by repeat (first | exact Keeps.refl _ | apply Keeps.drop)))))
              case true =>
               replace hc15 := eqT hc15
               try dsimp only at hc15
               first
               | (exfalso; first | omega | (cases hc15; done))
               | (
                 refine c_condT rfl ?_
                 refine wp_skip ?_
                 refine hK5 _ _ ?_
                 refine c_condT rfl ?_
                 refine c_region ?_
                 refine sVal (r_move rfl rfl) ?_
                 refine sVal (r_nil rfl rfl) ?_
                 refine sVal (r_field rfl rfl of121_0) ?_
                 refine sVal (r_load rfl rfl (ag58 _) hs.own (by rfl)) ?_
                 refine sVal (r_nil rfl rfl) ?_
                 refine sVal (r_field rfl rfl of108_0) ?_
                 refine sVal (r_field rfl rfl of63_1) ?_
                 refine sVal (r_load rfl rfl (ag61 _) hs.own (by rfl)) ?_
                 refine sVal (r_field rfl rfl of85_2) ?_
                 refine s_exS (r_store rfl rfl rfl hs (by (repeat (first | exact Cut.head _ _ | apply Cut.tail)); done) in61 sz61 rfl (by rfl)) rfl rfl ?_
                 intro w hs
                 refine s_nil ?_
                 refine hK3 _ _ ?_
                 replace hs := hs.drew
                 refine d_start (by kernel_rfl) ?_
                 refine d_pre [0, 1, 2, 3, 4] (g := 8) (by kernel_rfl) (fun _ _ d _ _ h => by cases d <;> exact h) ?_
                 refine pVal rfl (fun w => (r_move rfl rfl)) ?_
                 refine pVal rfl (fun w => (r_move rfl rfl)) ?_
                 refine pVal rfl (fun w => (r_nil rfl rfl)) ?_
                 refine pVal rfl (fun w => (r_field rfl rfl of121_1)) ?_
                 refine pVal rfl (fun w => (r_field rfl rfl of74_1)) ?_
                 refine p_nil ?_
                 refine d_head 8 [(5, true), (6, true), (7, false)] (Holds _ _) (g := 5) (by kernel_rfl) (fun _ _ d _ _ h => by cases d <;> exact h) (Holds.self hs) ?_
                 refine hVal rfl (fun w hS => (r_load rfl rfl (ag72 _) hS.own (by rfl))) ?_
                 refine hVal rfl (fun w hS => (r_loadA rfl rfl (ag85 _) hS.own in85 sz85 (by rfl))) ?_
                 refine h_ex rfl (r_lit unC [⟨_, _, _, _, _, _, _⟩] rfl rfl rfl hs Try.underlying72 (by kernel_rfl) sz85 rfl (by decide) (fun _ => rfl)) rfl rfl (fun _ => by rfl) ?_
                 intro b19 w hs
                 refine ⟨(Holds.mono (Holds.self hs) (by repeat (first | exact Keeps.refl _ | apply Keeps.tail | apply Keeps.drop))), ?_⟩
                 refine h_nil ?_
                 refine d_tail 8 (by kernel_rfl) ?_
                 refine s_ex (r_appendO (f := unC) rfl rfl rfl hs (by (repeat (first | exact Cut.head _ _ | apply Cut.tail)); done) hs.rd Try.underlying72 (by kernel_rfl) sz85 (by decide) (fun _ => rfl) (by simp; omega)) rfl rfl (fun _ => by rfl) ?_
                 intro v w hs
                 obtain ⟨pv, kv, rfl⟩ := (hs.oReads (by (repeat (first | exact Cut.head _ _ | apply Cut.tail)); done)).header
                 refine sVal (r_nil rfl rfl) ?_
                 refine sVal (r_field rfl rfl of121_1) ?_
                 refine sVal (r_field rfl rfl of74_1) ?_
                 refine s_exS (r_store rfl rfl rfl hs (by (repeat (first | exact Cut.head _ _ | apply Cut.tail)); done) in72 sz72 rfl (by rfl)) rfl rfl ?_
                 intro w hs
                 refine s_nil ?_
                 refine f_end (rs := []) rfl .nil rfl ?_
                 refine hk ⟨g.p, g.c, pv, kv⟩ _ (act_close _ (a.out _) hs (by (try simp only [As.out, As.add, hasN, hc7, hc9, hc11, hc13, hc15, or_true, true_or, or_false, false_or, ↓reduceIte, List.length_append, List.length_singleton]); repeat (first | apply Cut.pair | exact Cut.head _ _ | apply Cut.tail)) (by repeat (first | exact Keeps.refl _ | apply Keeps.drop)))))
           case true =>
            replace hc13 := eqT hc13
            try dsimp only at hc13
            first
            | (exfalso; first | omega | (cases hc13; done))
            | (
              refine c_condT rfl ?_
              refine wp_skip ?_
              refine hK5 _ _ ?_
              refine c_condT rfl ?_
              refine c_region ?_
              refine sVal (r_move rfl rfl) ?_
              refine sVal (r_nil rfl rfl) ?_
              refine sVal (r_field rfl rfl of121_0) ?_
              refine sVal (r_load rfl rfl (ag58 _) hs.own (by rfl)) ?_
              refine sVal (r_nil rfl rfl) ?_
              refine sVal (r_field rfl rfl of108_0) ?_
              refine sVal (r_field rfl rfl of63_1) ?_
              refine sVal (r_load rfl rfl (ag61 _) hs.own (by rfl)) ?_
              refine sVal (r_field rfl rfl of85_2) ?_
              refine s_exS (r_store rfl rfl rfl hs (by (repeat (first | exact Cut.head _ _ | apply Cut.tail)); done) in61 sz61 rfl (by rfl)) rfl rfl ?_
              intro w hs
              refine s_nil ?_
              refine hK3 _ _ ?_
              replace hs := hs.drew
              refine d_start (by kernel_rfl) ?_
              refine d_pre [0, 1, 2, 3, 4] (g := 8) (by kernel_rfl) (fun _ _ d _ _ h => by cases d <;> exact h) ?_
              refine pVal rfl (fun w => (r_move rfl rfl)) ?_
              refine pVal rfl (fun w => (r_move rfl rfl)) ?_
              refine pVal rfl (fun w => (r_nil rfl rfl)) ?_
              refine pVal rfl (fun w => (r_field rfl rfl of121_1)) ?_
              refine pVal rfl (fun w => (r_field rfl rfl of74_1)) ?_
              refine p_nil ?_
              refine d_head 8 [(5, true), (6, true), (7, false)] (Holds _ _) (g := 5) (by kernel_rfl) (fun _ _ d _ _ h => by cases d <;> exact h) (Holds.self hs) ?_
              refine hVal rfl (fun w hS => (r_load rfl rfl (ag72 _) hS.own (by rfl))) ?_
              refine hVal rfl (fun w hS => (r_loadA rfl rfl (ag85 _) hS.own in85 sz85 (by rfl))) ?_
              refine h_ex rfl (r_lit unC [⟨_, _, _, _, _, _, _⟩] rfl rfl rfl hs Try.underlying72 (by kernel_rfl) sz85 rfl (by decide) (fun _ => rfl)) rfl rfl (fun _ => by rfl) ?_
              intro b20 w hs
              refine ⟨(Holds.mono (Holds.self hs) (by repeat (first | exact Keeps.refl _ | apply Keeps.tail | apply Keeps.drop))), ?_⟩
              refine h_nil ?_
              refine d_tail 8 (by kernel_rfl) ?_
              refine s_ex (r_appendO (f := unC) rfl rfl rfl hs (by (repeat (first | exact Cut.head _ _ | apply Cut.tail)); done) hs.rd Try.underlying72 (by kernel_rfl) sz85 (by decide) (fun _ => rfl) (by simp; omega)) rfl rfl (fun _ => by rfl) ?_
              intro v w hs
              obtain ⟨pv, kv, rfl⟩ := (hs.oReads (by (repeat (first | exact Cut.head _ _ | apply Cut.tail)); done)).header
              refine sVal (r_nil rfl rfl) ?_
              refine sVal (r_field rfl rfl of121_1) ?_
              refine sVal (r_field rfl rfl of74_1) ?_
              refine s_exS (r_store rfl rfl rfl hs (by (repeat (first | exact Cut.head _ _ | apply Cut.tail)); done) in72 sz72 rfl (by rfl)) rfl rfl ?_
              intro w hs
              refine s_nil ?_
              refine f_end (rs := []) rfl .nil rfl ?_
              refine hk ⟨g.p, g.c, pv, kv⟩ _ (act_close _ (a.out _) hs (by (try simp only [As.out, As.add, hasN, hc7, hc9, hc11, hc13, or_true, true_or, or_false, false_or, ↓reduceIte, List.length_append, List.length_singleton]); repeat (first | apply Cut.pair | exact Cut.head _ _ | apply Cut.tail)) (by repeat (first | exact Keeps.refl _ | apply Keeps.drop)))))
        case true =>
         replace hc11 := eqT hc11
         try dsimp only at hc11
         first
         | (exfalso; first | omega | (cases hc11; done))
         | (
           refine c_condT rfl ?_
           refine wp_skip ?_
           refine hK5 _ _ ?_
           refine c_condT rfl ?_
           refine c_region ?_
           refine sVal (r_move rfl rfl) ?_
           refine sVal (r_nil rfl rfl) ?_
           refine sVal (r_field rfl rfl of121_0) ?_
           refine sVal (r_load rfl rfl (ag58 _) hs.own (by rfl)) ?_
           refine sVal (r_nil rfl rfl) ?_
           refine sVal (r_field rfl rfl of108_0) ?_
           refine sVal (r_field rfl rfl of63_1) ?_
           refine sVal (r_load rfl rfl (ag61 _) hs.own (by rfl)) ?_
           refine sVal (r_field rfl rfl of85_2) ?_
           refine s_exS (r_store rfl rfl rfl hs (by (repeat (first | exact Cut.head _ _ | apply Cut.tail)); done) in61 sz61 rfl (by rfl)) rfl rfl ?_
           intro w hs
           refine s_nil ?_
           refine hK3 _ _ ?_
           replace hs := hs.drew
           refine d_start (by kernel_rfl) ?_
           refine d_pre [0, 1, 2, 3, 4] (g := 8) (by kernel_rfl) (fun _ _ d _ _ h => by cases d <;> exact h) ?_
           refine pVal rfl (fun w => (r_move rfl rfl)) ?_
           refine pVal rfl (fun w => (r_move rfl rfl)) ?_
           refine pVal rfl (fun w => (r_nil rfl rfl)) ?_
           refine pVal rfl (fun w => (r_field rfl rfl of121_1)) ?_
           refine pVal rfl (fun w => (r_field rfl rfl of74_1)) ?_
           refine p_nil ?_
           refine d_head 8 [(5, true), (6, true), (7, false)] (Holds _ _) (g := 5) (by kernel_rfl) (fun _ _ d _ _ h => by cases d <;> exact h) (Holds.self hs) ?_
           refine hVal rfl (fun w hS => (r_load rfl rfl (ag72 _) hS.own (by rfl))) ?_
           refine hVal rfl (fun w hS => (r_loadA rfl rfl (ag85 _) hS.own in85 sz85 (by rfl))) ?_
           refine h_ex rfl (r_lit unC [⟨_, _, _, _, _, _, _⟩] rfl rfl rfl hs Try.underlying72 (by kernel_rfl) sz85 rfl (by decide) (fun _ => rfl)) rfl rfl (fun _ => by rfl) ?_
           intro b21 w hs
           refine ⟨(Holds.mono (Holds.self hs) (by repeat (first | exact Keeps.refl _ | apply Keeps.tail | apply Keeps.drop))), ?_⟩
           refine h_nil ?_
           refine d_tail 8 (by kernel_rfl) ?_
           refine s_ex (r_appendO (f := unC) rfl rfl rfl hs (by (repeat (first | exact Cut.head _ _ | apply Cut.tail)); done) hs.rd Try.underlying72 (by kernel_rfl) sz85 (by decide) (fun _ => rfl) (by simp; omega)) rfl rfl (fun _ => by rfl) ?_
           intro v w hs
           obtain ⟨pv, kv, rfl⟩ := (hs.oReads (by (repeat (first | exact Cut.head _ _ | apply Cut.tail)); done)).header
           refine sVal (r_nil rfl rfl) ?_
           refine sVal (r_field rfl rfl of121_1) ?_
           refine sVal (r_field rfl rfl of74_1) ?_
           refine s_exS (r_store rfl rfl rfl hs (by (repeat (first | exact Cut.head _ _ | apply Cut.tail)); done) in72 sz72 rfl (by rfl)) rfl rfl ?_
           intro w hs
           refine s_nil ?_
           refine f_end (rs := []) rfl .nil rfl ?_
           refine hk ⟨g.p, g.c, pv, kv⟩ _ (act_close _ (a.out _) hs (by (try simp only [As.out, As.add, hasN, hc7, hc9, hc11, or_true, true_or, or_false, false_or, ↓reduceIte, List.length_append, List.length_singleton]); repeat (first | apply Cut.pair | exact Cut.head _ _ | apply Cut.tail)) (by repeat (first | exact Keeps.refl _ | apply Keeps.drop)))))
     case true =>
      replace hc9 := eqT hc9
      try dsimp only at hc9
      first
      | (exfalso; first | omega | (cases hc9; done))
      | (
        refine c_condT rfl ?_
        refine wp_skip ?_
        refine hK5 _ _ ?_
        refine c_condT rfl ?_
        refine c_region ?_
        refine sVal (r_move rfl rfl) ?_
        refine sVal (r_nil rfl rfl) ?_
        refine sVal (r_field rfl rfl of121_0) ?_
        refine sVal (r_load rfl rfl (ag58 _) hs.own (by rfl)) ?_
        refine sVal (r_nil rfl rfl) ?_
        refine sVal (r_field rfl rfl of108_0) ?_
        refine sVal (r_field rfl rfl of63_1) ?_
        refine sVal (r_load rfl rfl (ag61 _) hs.own (by rfl)) ?_
        refine sVal (r_field rfl rfl of85_2) ?_
        refine s_exS (r_store rfl rfl rfl hs (by (repeat (first | exact Cut.head _ _ | apply Cut.tail)); done) in61 sz61 rfl (by rfl)) rfl rfl ?_
        intro w hs
        refine s_nil ?_
        refine hK3 _ _ ?_
        replace hs := hs.drew
        refine d_start (by kernel_rfl) ?_
        refine d_pre [0, 1, 2, 3, 4] (g := 8) (by kernel_rfl) (fun _ _ d _ _ h => by cases d <;> exact h) ?_
        refine pVal rfl (fun w => (r_move rfl rfl)) ?_
        refine pVal rfl (fun w => (r_move rfl rfl)) ?_
        refine pVal rfl (fun w => (r_nil rfl rfl)) ?_
        refine pVal rfl (fun w => (r_field rfl rfl of121_1)) ?_
        refine pVal rfl (fun w => (r_field rfl rfl of74_1)) ?_
        refine p_nil ?_
        refine d_head 8 [(5, true), (6, true), (7, false)] (Holds _ _) (g := 5) (by kernel_rfl) (fun _ _ d _ _ h => by cases d <;> exact h) (Holds.self hs) ?_
        refine hVal rfl (fun w hS => (r_load rfl rfl (ag72 _) hS.own (by rfl))) ?_
        refine hVal rfl (fun w hS => (r_loadA rfl rfl (ag85 _) hS.own in85 sz85 (by rfl))) ?_
        refine h_ex rfl (r_lit unC [⟨_, _, _, _, _, _, _⟩] rfl rfl rfl hs Try.underlying72 (by kernel_rfl) sz85 rfl (by decide) (fun _ => rfl)) rfl rfl (fun _ => by rfl) ?_
        intro b22 w hs
        refine ⟨(Holds.mono (Holds.self hs) (by repeat (first | exact Keeps.refl _ | apply Keeps.tail | apply Keeps.drop))), ?_⟩
        refine h_nil ?_
        refine d_tail 8 (by kernel_rfl) ?_
        refine s_ex (r_appendO (f := unC) rfl rfl rfl hs (by (repeat (first | exact Cut.head _ _ | apply Cut.tail)); done) hs.rd Try.underlying72 (by kernel_rfl) sz85 (by decide) (fun _ => rfl) (by simp; omega)) rfl rfl (fun _ => by rfl) ?_
        intro v w hs
        obtain ⟨pv, kv, rfl⟩ := (hs.oReads (by (repeat (first | exact Cut.head _ _ | apply Cut.tail)); done)).header
        refine sVal (r_nil rfl rfl) ?_
        refine sVal (r_field rfl rfl of121_1) ?_
        refine sVal (r_field rfl rfl of74_1) ?_
        refine s_exS (r_store rfl rfl rfl hs (by (repeat (first | exact Cut.head _ _ | apply Cut.tail)); done) in72 sz72 rfl (by rfl)) rfl rfl ?_
        intro w hs
        refine s_nil ?_
        refine f_end (rs := []) rfl .nil rfl ?_
        refine hk ⟨g.p, g.c, pv, kv⟩ _ (act_close _ (a.out _) hs (by (try simp only [As.out, As.add, hasN, hc7, hc9, or_true, true_or, or_false, false_or, ↓reduceIte, List.length_append, List.length_singleton]); repeat (first | apply Cut.pair | exact Cut.head _ _ | apply Cut.tail)) (by repeat (first | exact Keeps.refl _ | apply Keeps.drop)))))
  case true =>
   replace hc7 := eqT hc7
   try dsimp only at hc7
   first
   | (exfalso; first | omega | (cases hc7; done))
   | (
     refine c_condT rfl ?_
     refine wp_skip ?_
     refine hK5 _ _ ?_
     refine c_condT rfl ?_
     refine c_region ?_
     refine sVal (r_move rfl rfl) ?_
     refine sVal (r_nil rfl rfl) ?_
     refine sVal (r_field rfl rfl of121_0) ?_
     refine sVal (r_load rfl rfl (ag58 _) hs.own (by rfl)) ?_
     refine sVal (r_nil rfl rfl) ?_
     refine sVal (r_field rfl rfl of108_0) ?_
     refine sVal (r_field rfl rfl of63_1) ?_
     refine sVal (r_load rfl rfl (ag61 _) hs.own (by rfl)) ?_
     refine sVal (r_field rfl rfl of85_2) ?_
     refine s_exS (r_store rfl rfl rfl hs (by (repeat (first | exact Cut.head _ _ | apply Cut.tail)); done) in61 sz61 rfl (by rfl)) rfl rfl ?_
     intro w hs
     refine s_nil ?_
     refine hK3 _ _ ?_
     replace hs := hs.drew
     refine d_start (by kernel_rfl) ?_
     refine d_pre [0, 1, 2, 3, 4] (g := 8) (by kernel_rfl) (fun _ _ d _ _ h => by cases d <;> exact h) ?_
     refine pVal rfl (fun w => (r_move rfl rfl)) ?_
     refine pVal rfl (fun w => (r_move rfl rfl)) ?_
     refine pVal rfl (fun w => (r_nil rfl rfl)) ?_
     refine pVal rfl (fun w => (r_field rfl rfl of121_1)) ?_
     refine pVal rfl (fun w => (r_field rfl rfl of74_1)) ?_
     refine p_nil ?_
     refine d_head 8 [(5, true), (6, true), (7, false)] (Holds _ _) (g := 5) (by kernel_rfl) (fun _ _ d _ _ h => by cases d <;> exact h) (Holds.self hs) ?_
     refine hVal rfl (fun w hS => (r_load rfl rfl (ag72 _) hS.own (by rfl))) ?_
     refine hVal rfl (fun w hS => (r_loadA rfl rfl (ag85 _) hS.own in85 sz85 (by rfl))) ?_
     refine h_ex rfl (r_lit unC [⟨_, _, _, _, _, _, _⟩] rfl rfl rfl hs Try.underlying72 (by kernel_rfl) sz85 rfl (by decide) (fun _ => rfl)) rfl rfl (fun _ => by rfl) ?_
     intro b23 w hs
     refine ⟨(Holds.mono (Holds.self hs) (by repeat (first | exact Keeps.refl _ | apply Keeps.tail | apply Keeps.drop))), ?_⟩
     refine h_nil ?_
     refine d_tail 8 (by kernel_rfl) ?_
     refine s_ex (r_appendO (f := unC) rfl rfl rfl hs (by (repeat (first | exact Cut.head _ _ | apply Cut.tail)); done) hs.rd Try.underlying72 (by kernel_rfl) sz85 (by decide) (fun _ => rfl) (by simp; omega)) rfl rfl (fun _ => by rfl) ?_
     intro v w hs
     obtain ⟨pv, kv, rfl⟩ := (hs.oReads (by (repeat (first | exact Cut.head _ _ | apply Cut.tail)); done)).header
     refine sVal (r_nil rfl rfl) ?_
     refine sVal (r_field rfl rfl of121_1) ?_
     refine sVal (r_field rfl rfl of74_1) ?_
     refine s_exS (r_store rfl rfl rfl hs (by (repeat (first | exact Cut.head _ _ | apply Cut.tail)); done) in72 sz72 rfl (by rfl)) rfl rfl ?_
     intro w hs
     refine s_nil ?_
     refine f_end (rs := []) rfl .nil rfl ?_
     refine hk ⟨g.p, g.c, pv, kv⟩ _ (act_close _ (a.out _) hs (by (try simp only [As.out, As.add, hasN, hc7, or_true, true_or, or_false, false_or, ↓reduceIte, List.length_append, List.length_singleton]); repeat (first | apply Cut.pair | exact Cut.head _ _ | apply Cut.tail)) (by repeat (first | exact Keeps.refl _ | apply Keeps.drop))))

theorem again_use  (hb : a.few ≤ 90000) (hs : Sat E H w) (c : Cut H (actP ba bc g a) R) (hk : ∀ g' w', Sat E (R * actP ba bc g' (a.again)) w' → Q (.returned (.tuple #[])) w') :
    Calls Try.prog 75 #[.pointer (some ⟨ba, 0, none⟩)] w Q := by
  replace hs := act_open (hs.cut c)
  refine f_enter Try.func75 rfl rfl ?_
  show Code.wp _ _ _ (Fr _) _
  refine wp_seq_k (fun K1 hK1 => ?_)
  replace hs := hs.drew
  refine d_start (by kernel_rfl) ?_
  refine d_pre [0, 1, 2, 8, 9, 10] (g := 12) (by kernel_rfl) (fun _ _ d _ _ h => by cases d <;> exact h) ?_
  refine pVal rfl (fun w => (r_move rfl rfl)) ?_
  refine pVal rfl (fun w => (r_nil rfl rfl)) ?_
  refine pVal rfl (fun w => (r_field rfl rfl of121_0)) ?_
  refine pVal rfl (fun w => (r_move rfl rfl)) ?_
  refine pVal rfl (fun w => (r_nil rfl rfl)) ?_
  refine pVal rfl (fun w => (r_field rfl rfl of121_0)) ?_
  refine p_nil ?_
  refine d_head 17 [(3, true), (4, true), (5, true), (6, true), (7, true), (11, true), (12, true), (13, true), (14, true), (15, true), (16, false)] (Holds _ _) (g := 1) (by kernel_rfl) (fun _ _ d _ _ h => by cases d <;> exact h) (Holds.self hs) ?_
  refine hVal rfl (fun w hS => (r_load rfl rfl (ag58 _) hS.own (by rfl))) ?_
  refine hVal rfl (fun w hS => (r_nil rfl rfl)) ?_
  refine hVal rfl (fun w hS => (r_field rfl rfl of108_1)) ?_
  refine hVal rfl (fun w hS => (r_field rfl rfl of80_1)) ?_
  refine hVal rfl (fun w hS => (r_load rfl rfl (ag3 _) hS.own (by rfl))) ?_
  refine hVal rfl (fun w hS => (r_load rfl rfl (ag58 _) hS.own (by rfl))) ?_
  refine hVal rfl (fun w hS => (r_nil rfl rfl)) ?_
  refine hVal rfl (fun w hS => (r_field rfl rfl of108_2)) ?_
  refine hVal rfl (fun w hS => (r_load rfl rfl (ag9 _) hS.own (by rfl))) ?_
  refine hVal rfl (fun w hS => (r_build rfl rfl pl85 zr85 (by rfl))) ?_
  refine h_ex rfl (r_alloc rfl zr85 hs) rfl rfl (fun _ => by rfl) ?_
  intro b2 w hs
  refine ⟨(Holds.mono (Holds.self hs) (by repeat (first | exact Keeps.refl _ | apply Keeps.tail | apply Keeps.drop))), ?_⟩
  refine h_nil ?_
  refine d_tail 17 (by kernel_rfl) ?_
  refine s_exS (r_storeA rfl rfl rfl hs (by (repeat (first | exact Cut.head _ _ | apply Cut.tail)); done) in85 sz85 rfl (fun h => by cases h) rfl (by rfl)) rfl rfl ?_
  intro w hs
  refine s_nil ?_
  refine hK1 _ _ ?_
  refine wp_seq_k (fun K3 hK3 => ?_)
  refine wp_seq_k (fun K4 hK4 => ?_)
  refine c_region ?_
  refine sVal (r_move rfl rfl) ?_
  refine sVal (r_nil rfl rfl) ?_
  refine sVal (r_field rfl rfl of121_0) ?_
  refine sVal (r_load rfl rfl (ag58 _) hs.own (by rfl)) ?_
  refine sVal (r_nil rfl rfl) ?_
  refine sVal (r_field rfl rfl of108_1) ?_
  refine sVal (r_field rfl rfl of80_0) ?_
  refine sVal (r_load rfl rfl (ag3 _) hs.own (by rfl)) ?_
  refine s_nil ?_
  refine hK4 _ _ ?_
  refine wp_block ?_
  refine wp_seq_k (fun K5 hK5 => ?_)
  refine c_region ?_
  refine s_bool (r_cmp rfl rfl rfl rfl) rfl rfl (fun _ => by rfl) ?_
  intro c6 hc6
  refine sVal (r_assign rfl rfl) ?_
  refine s_nil ?_
  refine hK5 _ _ ?_
  cases c6
  case false =>
   replace hc6 := eqF hc6
   try dsimp only at hc6
   first
   | (exfalso; first | omega | (cases hc6; done))
   | (
     refine c_condF rfl ?_
     refine wp_seq_k (fun K7 hK7 => ?_)
     refine c_region ?_
     refine s_bool (r_cmp rfl rfl rfl rfl) rfl rfl (fun _ => by rfl) ?_
     intro c8 hc8
     refine sVal (r_assign rfl rfl) ?_
     refine s_nil ?_
     refine hK7 _ _ ?_
     cases c8
     case false =>
      replace hc8 := eqF hc8
      try dsimp only at hc8
      first
      | (exfalso; first | omega | (cases hc8; done))
      | (
        refine c_condF rfl ?_
        refine wp_seq_k (fun K9 hK9 => ?_)
        refine c_region ?_
        refine s_bool (r_cmp rfl rfl rfl rfl) rfl rfl (fun _ => by rfl) ?_
        intro c10 hc10
        refine sVal (r_assign rfl rfl) ?_
        refine s_nil ?_
        refine hK9 _ _ ?_
        cases c10
        case false =>
         replace hc10 := eqF hc10
         try dsimp only at hc10
         first
         | (exfalso; first | omega | (cases hc10; done))
         | (
           refine c_condF rfl ?_
           refine c_region ?_
           refine sVal (r_field rfl rfl of85_0) ?_
           refine s_exS (r_store rfl rfl rfl hs (by (repeat (first | exact Cut.head _ _ | apply Cut.tail)); done) in3 sz3 rfl (by rfl)) rfl rfl ?_
           intro w hs
           refine s_nil ?_
           refine hK3 _ _ ?_
           refine wp_seq_k (fun K11 hK11 => ?_)
           refine c_region ?_
           refine sVal (r_move rfl rfl) ?_
           refine sVal (r_loadA rfl rfl (ag85 _) hs.own in85 sz85 (by rfl)) ?_
           refine s_enter (r_call rfl ent83 rfl) rfl ?_
           refine out_use (a := a) _ _ _ _ _ _ _ (by omega) (act_close g (a) hs (by (try simp only [As.again, againK, mkU, As.setTimer, ↓reduceIte, hc6, hc8, hc10, Bool.true_or, Bool.false_or, Bool.or_true, Bool.or_false, ↓reduceIte, or_true, true_or, or_false, false_or]); (repeat (first | apply Cut.pair | exact Cut.head _ _ | apply Cut.tail)); done) (by repeat (first | exact Keeps.refl _ | apply Keeps.tail | apply Keeps.drop))) (Cut.head _ _) ?_
           intro g w hs
           replace hs := act_open hs
           refine ⟨_, rfl, a_put (by rfl) ?_⟩
           refine s_nil ?_
           refine hK11 _ _ ?_
           refine c_region ?_
           refine sVal (r_move rfl rfl) ?_
           refine sVal (r_nil rfl rfl) ?_
           refine sVal (r_field rfl rfl of121_1) ?_
           refine sVal (r_field rfl rfl of74_5) ?_
           refine s_exS (r_store rfl rfl rfl hs (by (repeat (first | exact Cut.head _ _ | apply Cut.tail)); done) in3 sz3 rfl (by rfl)) rfl rfl ?_
           intro w hs
           refine s_nil ?_
           refine f_end (rs := []) rfl .nil rfl ?_
           refine hk g _ (act_close g (a.again) hs (by (try simp only [As.again, againK, mkU, As.setTimer, ↓reduceIte, hc6, hc8, hc10, Bool.true_or, Bool.false_or, Bool.or_true, Bool.or_false, ↓reduceIte, or_true, true_or, or_false, false_or]); repeat (first | apply Cut.pair | exact Cut.head _ _ | apply Cut.tail)) (by repeat (first | exact Keeps.refl _ | apply Keeps.tail | apply Keeps.drop))))
        case true =>
         replace hc10 := eqT hc10
         try dsimp only at hc10
         first
         | (exfalso; first | omega | (cases hc10; done))
         | (
           refine c_condT rfl ?_
           refine c_region ?_
           refine sVal (r_field rfl rfl of85_0) ?_
           refine s_exS (r_store rfl rfl rfl hs (by (repeat (first | exact Cut.head _ _ | apply Cut.tail)); done) in3 sz3 rfl (by rfl)) rfl rfl ?_
           intro w hs
           refine s_nil ?_
           refine hK3 _ _ ?_
           refine wp_seq_k (fun K12 hK12 => ?_)
           refine c_region ?_
           refine sVal (r_move rfl rfl) ?_
           refine sVal (r_loadA rfl rfl (ag85 _) hs.own in85 sz85 (by rfl)) ?_
           refine s_enter (r_call rfl ent83 rfl) rfl ?_
           refine out_use (a := a) _ _ _ _ _ _ _ (by omega) (act_close g (a) hs (by (try simp only [As.again, againK, mkU, As.setTimer, ↓reduceIte, hc6, hc8, hc10, Bool.true_or, Bool.false_or, Bool.or_true, Bool.or_false, ↓reduceIte, or_true, true_or, or_false, false_or]); (repeat (first | apply Cut.pair | exact Cut.head _ _ | apply Cut.tail)); done) (by repeat (first | exact Keeps.refl _ | apply Keeps.tail | apply Keeps.drop))) (Cut.head _ _) ?_
           intro g w hs
           replace hs := act_open hs
           refine ⟨_, rfl, a_put (by rfl) ?_⟩
           refine s_nil ?_
           refine hK12 _ _ ?_
           refine c_region ?_
           refine sVal (r_move rfl rfl) ?_
           refine sVal (r_nil rfl rfl) ?_
           refine sVal (r_field rfl rfl of121_1) ?_
           refine sVal (r_field rfl rfl of74_5) ?_
           refine s_exS (r_store rfl rfl rfl hs (by (repeat (first | exact Cut.head _ _ | apply Cut.tail)); done) in3 sz3 rfl (by rfl)) rfl rfl ?_
           intro w hs
           refine s_nil ?_
           refine f_end (rs := []) rfl .nil rfl ?_
           refine hk g _ (act_close g (a.again) hs (by (try simp only [As.again, againK, mkU, As.setTimer, ↓reduceIte, hc6, hc8, hc10, Bool.true_or, Bool.false_or, Bool.or_true, Bool.or_false, ↓reduceIte, or_true, true_or, or_false, false_or]); repeat (first | apply Cut.pair | exact Cut.head _ _ | apply Cut.tail)) (by repeat (first | exact Keeps.refl _ | apply Keeps.tail | apply Keeps.drop)))))
     case true =>
      replace hc8 := eqT hc8
      try dsimp only at hc8
      first
      | (exfalso; first | omega | (cases hc8; done))
      | (
        refine c_condT rfl ?_
        refine c_region ?_
        refine sVal (r_field rfl rfl of85_0) ?_
        refine s_exS (r_store rfl rfl rfl hs (by (repeat (first | exact Cut.head _ _ | apply Cut.tail)); done) in3 sz3 rfl (by rfl)) rfl rfl ?_
        intro w hs
        refine s_nil ?_
        refine hK3 _ _ ?_
        refine wp_seq_k (fun K13 hK13 => ?_)
        refine c_region ?_
        refine sVal (r_move rfl rfl) ?_
        refine sVal (r_loadA rfl rfl (ag85 _) hs.own in85 sz85 (by rfl)) ?_
        refine s_enter (r_call rfl ent83 rfl) rfl ?_
        refine out_use (a := a) _ _ _ _ _ _ _ (by omega) (act_close g (a) hs (by (try simp only [As.again, againK, mkU, As.setTimer, ↓reduceIte, hc6, hc8, Bool.true_or, Bool.false_or, Bool.or_true, Bool.or_false, ↓reduceIte, or_true, true_or, or_false, false_or]); (repeat (first | apply Cut.pair | exact Cut.head _ _ | apply Cut.tail)); done) (by repeat (first | exact Keeps.refl _ | apply Keeps.tail | apply Keeps.drop))) (Cut.head _ _) ?_
        intro g w hs
        replace hs := act_open hs
        refine ⟨_, rfl, a_put (by rfl) ?_⟩
        refine s_nil ?_
        refine hK13 _ _ ?_
        refine c_region ?_
        refine sVal (r_move rfl rfl) ?_
        refine sVal (r_nil rfl rfl) ?_
        refine sVal (r_field rfl rfl of121_1) ?_
        refine sVal (r_field rfl rfl of74_5) ?_
        refine s_exS (r_store rfl rfl rfl hs (by (repeat (first | exact Cut.head _ _ | apply Cut.tail)); done) in3 sz3 rfl (by rfl)) rfl rfl ?_
        intro w hs
        refine s_nil ?_
        refine f_end (rs := []) rfl .nil rfl ?_
        refine hk g _ (act_close g (a.again) hs (by (try simp only [As.again, againK, mkU, As.setTimer, ↓reduceIte, hc6, hc8, Bool.true_or, Bool.false_or, Bool.or_true, Bool.or_false, ↓reduceIte, or_true, true_or, or_false, false_or]); repeat (first | apply Cut.pair | exact Cut.head _ _ | apply Cut.tail)) (by repeat (first | exact Keeps.refl _ | apply Keeps.tail | apply Keeps.drop)))))
  case true =>
   replace hc6 := eqT hc6
   try dsimp only at hc6
   first
   | (exfalso; first | omega | (cases hc6; done))
   | (
     refine c_condT rfl ?_
     refine c_region ?_
     refine sVal (r_field rfl rfl of85_0) ?_
     refine s_exS (r_store rfl rfl rfl hs (by (repeat (first | exact Cut.head _ _ | apply Cut.tail)); done) in3 sz3 rfl (by rfl)) rfl rfl ?_
     intro w hs
     refine s_nil ?_
     refine hK3 _ _ ?_
     refine wp_seq_k (fun K14 hK14 => ?_)
     refine c_region ?_
     refine sVal (r_move rfl rfl) ?_
     refine sVal (r_loadA rfl rfl (ag85 _) hs.own in85 sz85 (by rfl)) ?_
     refine s_enter (r_call rfl ent83 rfl) rfl ?_
     refine out_use (a := a) _ _ _ _ _ _ _ (by omega) (act_close g (a) hs (by (try simp only [As.again, againK, mkU, As.setTimer, ↓reduceIte, hc6, Bool.true_or, Bool.false_or, Bool.or_true, Bool.or_false, ↓reduceIte, or_true, true_or, or_false, false_or]); (repeat (first | apply Cut.pair | exact Cut.head _ _ | apply Cut.tail)); done) (by repeat (first | exact Keeps.refl _ | apply Keeps.tail | apply Keeps.drop))) (Cut.head _ _) ?_
     intro g w hs
     replace hs := act_open hs
     refine ⟨_, rfl, a_put (by rfl) ?_⟩
     refine s_nil ?_
     refine hK14 _ _ ?_
     refine c_region ?_
     refine sVal (r_move rfl rfl) ?_
     refine sVal (r_nil rfl rfl) ?_
     refine sVal (r_field rfl rfl of121_1) ?_
     refine sVal (r_field rfl rfl of74_5) ?_
     refine s_exS (r_store rfl rfl rfl hs (by (repeat (first | exact Cut.head _ _ | apply Cut.tail)); done) in3 sz3 rfl (by rfl)) rfl rfl ?_
     intro w hs
     refine s_nil ?_
     refine f_end (rs := []) rfl .nil rfl ?_
     refine hk g _ (act_close g (a.again) hs (by (try simp only [As.again, againK, mkU, As.setTimer, ↓reduceIte, hc6, Bool.true_or, Bool.false_or, Bool.or_true, Bool.or_false, ↓reduceIte, or_true, true_or, or_false, false_or]); repeat (first | apply Cut.pair | exact Cut.head _ _ | apply Cut.tail)) (by repeat (first | exact Keeps.refl _ | apply Keeps.tail | apply Keeps.drop))))

theorem report_use (code : Int) (hb : a.few ≤ 90000) (hs : Sat E H w) (c : Cut H (actP ba bc g a) R) (hk : ∀ g' w', Sat E (R * actP ba bc g' (a.report code)) w' → Q (.returned (.tuple #[])) w') :
    Calls Try.prog 62 #[.pointer (some ⟨ba, 0, none⟩), .int .u8 code] w Q := by
  replace hs := act_open (hs.cut c)
  refine f_enter Try.func62 rfl rfl ?_
  show Code.wp _ _ _ (Fr _) _
  refine c_region ?_
  refine sVal (r_move rfl rfl) ?_
  refine sVal (r_move rfl rfl) ?_
  refine sVal (r_build rfl rfl pl93 zr93 (by rfl)) ?_
  refine s_enter (r_call rfl ent72 rfl) rfl ?_
  refine tell_use (a := a) _ _ _ _ _ (by omega) (act_close g (a) hs (by (try simp only [As.report, Bool.true_or, Bool.false_or, Bool.or_true, Bool.or_false, ↓reduceIte, or_true, true_or, or_false, false_or]); (repeat (first | apply Cut.pair | exact Cut.head _ _ | apply Cut.tail)); done) (by repeat (first | exact Keeps.refl _ | apply Keeps.tail | apply Keeps.drop))) (Cut.head _ _) ?_
  intro g w hs
  replace hs := act_open hs
  refine ⟨_, rfl, a_put (by rfl) ?_⟩
  refine s_nil ?_
  refine f_end (rs := []) rfl .nil rfl ?_
  refine hk g _ (act_close g (a.report code) hs (by (try simp only [As.report, Bool.true_or, Bool.false_or, Bool.or_true, Bool.or_false, ↓reduceIte, or_true, true_or, or_false, false_or]); repeat (first | apply Cut.pair | exact Cut.head _ _ | apply Cut.tail)) (by repeat (first | exact Keeps.refl _ | apply Keeps.tail | apply Keeps.drop)))

theorem quit_use  (hb : a.few ≤ 90000) (hs : Sat E H w) (c : Cut H (actP ba bc g a) R) (hk : ∀ g' w', Sat E (R * actP ba bc g' (a.quit)) w' → Q (.returned (.tuple #[])) w') :
    Calls Try.prog 71 #[.pointer (some ⟨ba, 0, none⟩)] w Q := by
  replace hs := act_open (hs.cut c)
  refine f_enter Try.func71 rfl rfl ?_
  show Code.wp _ _ _ (Fr _) _
  refine c_region ?_
  refine sVal (r_move rfl rfl) ?_
  refine sVal (r_move rfl rfl) ?_
  refine sVal (r_nil rfl rfl) ?_
  refine sVal (r_field rfl rfl of121_0) ?_
  refine sVal (r_load rfl rfl (ag58 _) hs.own (by rfl)) ?_
  refine sVal (r_nil rfl rfl) ?_
  refine sVal (r_field rfl rfl of108_1) ?_
  refine sVal (r_field rfl rfl of80_1) ?_
  refine sVal (r_load rfl rfl (ag3 _) hs.own (by rfl)) ?_
  refine sVal (r_build rfl rfl pl85 zr85 (by rfl)) ?_
  refine s_enter (r_call rfl ent83 rfl) rfl ?_
  refine out_use (a := a) _ _ _ _ _ _ _ (by omega) (act_close g (a) hs (by (try simp only [As.quit, mkU, Bool.true_or, Bool.false_or, Bool.or_true, Bool.or_false, ↓reduceIte, or_true, true_or, or_false, false_or]); (repeat (first | apply Cut.pair | exact Cut.head _ _ | apply Cut.tail)); done) (by repeat (first | exact Keeps.refl _ | apply Keeps.tail | apply Keeps.drop))) (Cut.head _ _) ?_
  intro g w hs
  replace hs := act_open hs
  refine ⟨_, rfl, a_put (by rfl) ?_⟩
  refine s_nil ?_
  refine f_end (rs := []) rfl .nil rfl ?_
  refine hk g _ (act_close g (a.quit) hs (by (try simp only [As.quit, mkU, Bool.true_or, Bool.false_or, Bool.or_true, Bool.or_false, ↓reduceIte, or_true, true_or, or_false, false_or]); repeat (first | apply Cut.pair | exact Cut.head _ _ | apply Cut.tail)) (by repeat (first | exact Keeps.refl _ | apply Keeps.tail | apply Keeps.drop)))
end
end Go.Proofs.Ytoeaamohchpjdaa
