/-
  A connection's calls: what they bring.
-/
import Derived.Test.YtoeaamohchpjdaaConn4
import Derived.Test.YtoeaamohchpjdaaRules13
namespace Go.Proofs.Ytoeaamohchpjdaa
open Go Go.RowKit
set_option linter.unusedVariables false
set_option linter.unusedSimpArgs false
set_option maxRecDepth 100000

/-- What a call brings, as its cells; what it leaves in memory. -/
def rsC (g : Gh) (r : Rs) : List Value := [.slice g.p r.sigs.length g.c, .slice g.q r.units.length g.e, .bool r.begins, .bool r.ends, .int .u32 r.ms, .int .i64 r.timer]
def restP (bc : Nat) (g : Gh) (a : As) : HP :=
  own bc (.cells (cnC a.c).toArray 108 (0, 0)) * oL 93 5 sigC (.slice g.p a.r.sigs.length g.c) a.r.sigs * oL 85 8 unC (.slice g.q a.r.units.length g.e) a.r.units
def g0 : Gh := ⟨none, 0, none, 0⟩
theorem rest_close {E : World} {H R R' : HP} {w : World} {bc : Nat} (g : Gh) (a : As) (h : Sat E H w)
    (c : Cut H (own bc (.cells (cnC a.c).toArray 108 (0, 0)) * oL 93 5 sigC (.slice g.p a.r.sigs.length g.c) a.r.sigs * oL 85 8 unC (.slice g.q a.r.units.length g.e) a.r.units) R') (k : Keeps R' R) : Sat E (R * restP bc g a) w := k _ _ _ (h.cut c)
theorem rest_zero {E : World} {H R R' : HP} {w : World} {bc : Nat} {c : Cn} (h : Sat E H w) (cu : Cut H (own bc (.cells (cnC c).toArray 108 (0, 0))) R') (k : Keeps R' R) : Sat E (R * restP bc g0 ⟨c, rs0⟩) w :=
  rest_close g0 ⟨c, rs0⟩ (((h.cut cu).mkNilL 93 5 sigC).mkNilL 85 8 unC) (by (repeat (first | apply Cut.pair | exact Cut.head _ _ | apply Cut.tail)); done) k
theorem fin1 {E : World} {H R R' A : HP} {w : World} (h : Sat E H w) (c : Cut H A R') (k : Keeps R' R) : Sat E (R * A) w := k _ _ _ (h.cut c)
attribute [local irreducible] restP own fix oL rL osl rsl fact some' wpList wpHi wpPre wpAny After AfterH

section
variable {E : World} {H R R1 cp : HP} {w : World} {Q : Ending → World → Prop} {bc : Nat} {c : Cn}
theorem done_use {f : FuncId} {cap : List Value} {a1 : As} (hen : Enters Try.prog f) (hs : Sat E H w) (c1 : Cut H (own bc (.cells (cnC c).toArray 108 (0, 0))) R1) (c2 : Cut R1 cp R)
    (hcl : ∀ {F : HP} {ba : Nat} {g : Gh} {w : World} {Q : Ending → World → Prop}, Sat E (F * cp * actP ba bc g ⟨c, rs0⟩) w → (∀ g' w', Sat E (F * cp * actP ba bc g' a1) w' → Q (.returned (.tuple #[])) w') → Calls Try.prog f (.pointer (some ⟨ba, 0, none⟩) :: cap).toArray w Q)
    (hk : ∀ g w', Sat E (R * cp * restP bc g a1) w' → Q (.returned (.agg (rsC g a1.r).toArray)) w') :
    Calls Try.prog 60 #[.pointer (some ⟨bc, 0, none⟩), .func (.func f) #[] cap.toArray] w Q := by
  replace hs := (hs.cut c1)
  replace hs : Sat E (R * cp * own bc (.cells (cnC c).toArray 108 (0, 0))) w := hs.eq (by rw [c2.eq])
  refine f_enter Try.func60 rfl rfl ?_
  show Code.wp _ _ _ (Fr _) _
  refine wp_seq_k (fun K1 hK1 => ?_)
  refine c_region ?_
  refine s_ex (r_alloc rfl zr74 hs) rfl rfl (fun _ => by rfl) ?_
  intro br w hs
  refine s_nil ?_
  refine hK1 _ _ ?_
  refine wp_seq_k (fun K2 hK2 => ?_)
  refine c_region ?_
  refine sVal (r_move rfl rfl) ?_
  refine sVal (r_build rfl rfl pl121 zr121 (by rfl)) ?_
  refine s_ex (r_box rfl rfl rfl hs) rfl rfl (fun _ => by rfl) ?_
  intro ba w hs
  refine sVal (r_assign rfl rfl) ?_
  refine s_nil ?_
  refine hK2 _ _ ?_
  refine wp_seq_k (fun K3 hK3 => ?_)
  refine c_region ?_
  refine sVal (r_move rfl rfl) ?_
  refine sVal (r_move rfl rfl) ?_
  refine s_enter (r_callV rfl rfl hen rfl) rfl ?_
  replace hs := (hs.mkNilL 93 5 sigC).mkNilL 85 8 unC
  replace hs := act_close (R := R * cp * own br _) g0 ⟨c, rs0⟩ hs (by (repeat (first | apply Cut.pair | exact Cut.head _ _ | apply Cut.tail)); done) (Keeps.refl _)
  replace hs := hs.eq (by rw [star_right_comm R cp])
  refine hcl hs ?_
  intro g w hs
  replace hs := act_open hs
  refine ⟨_, rfl, a_put (by rfl) ?_⟩
  refine s_nil ?_
  refine hK3 _ _ ?_
  refine wp_seq_k (fun K4 hK4 => ?_)
  refine c_region ?_
  refine sVal (r_move rfl rfl) ?_
  refine sVal (r_nil rfl rfl) ?_
  refine sVal (r_field rfl rfl of121_1) ?_
  refine sVal (r_loadA rfl rfl (ag74 _) hs.own in74 sz74 (by rfl)) ?_
  refine s_exS (r_storeA rfl rfl rfl hs (by (repeat (first | exact Cut.head _ _ | apply Cut.tail)); done) in74 sz74 rfl (fun h => by cases h) rfl (by rfl)) rfl rfl ?_
  intro w hs
  refine s_nil ?_
  refine hK4 _ _ ?_
  refine wp_ret ?_
  refine f_ret (rs := [.cell 4 74]) rfl (.cell rfl (run_loadL hs.own (ag74 _) in74 sz74 (by rfl)) .nil) rfl ?_
  exact hk g _ (rest_close g a1 hs (by (repeat (first | apply Cut.pair | exact Cut.head _ _ | apply Cut.tail)); done) (by repeat (first | exact Keeps.refl _ | apply Keeps.tail | apply Keeps.drop)))

/-- What a failure, silence, the timer bring. -/
def Cn.fail (c : Cn) (code : Int) : As := if c.state = 10 then ((As.report ⟨c, rs0⟩ code).begin 7 noS) else ⟨c, rs0⟩
def Cn.silent (c : Cn) : As := if c.state = 10 then ((((As.report ⟨c, rs0⟩ 80).quit).tell (mkS 3 true noS)).to 1) else ⟨c, rs0⟩
def As.more (a : As) : As := ⟨⟨a.c.most, a.c.credit, a.c.state, a.c.sq, a.c.peer, a.c.cc + 1, a.c.ms, a.c.data⟩, a.r⟩
def Cn.expire (c : Cn) : As :=
  if c.state = 2 ∨ c.state = 4 ∨ c.state = 5 ∨ c.state = 7 then
    (if c.cc < c.most then (As.more ⟨c, rs0⟩).again
     else if c.state = 4 then ((As.report ⟨c, rs0⟩ 79).tell (mkS 4 false noS)).stop 1
     else (((As.report ⟨c, rs0⟩ 79).quit).tell (mkS 3 true noS)).stop 1)
  else ⟨c, rs0⟩
section
variable {ba : Nat} {g : Gh}
theorem failC_use (bx : Nat) (code : Int) (hv : CnOk c) (hs : Sat E (R * own bx (.cells [.int .u8 code].toArray 5 (0, 0)) * actP ba bc g ⟨c, rs0⟩) w)
    (hk : ∀ g' w', Sat E (R * own bx (.cells [.int .u8 code].toArray 5 (0, 0)) * actP ba bc g' ((As.report ⟨c, rs0⟩ code).begin 7 noS)) w' → Q (.returned (.tuple #[])) w') :
    Calls Try.prog 61 (.pointer (some ⟨ba, 0, none⟩) :: [.pointer (some ⟨bx, 0, none⟩)]).toArray w Q := by
  replace hs := act_open hs
  refine f_enter Try.func61 rfl rfl ?_
  show Code.wp _ _ _ (Fr _) _
  refine wp_seq_k (fun K1 hK1 => ?_)
  refine c_region ?_
  refine sVal (r_move rfl rfl) ?_
  refine sVal (r_load rfl rfl (ag5 _) hs.own (by rfl)) ?_
  refine s_enter (r_call rfl ent62 rfl) rfl ?_
  refine report_use (a := ⟨c, rs0⟩) _ (by rw [few0]; omega) (act_close g (⟨c, rs0⟩) hs (by (try simp only [noS, Bool.true_or, Bool.false_or, Bool.or_true, Bool.or_false, ↓reduceIte, or_true, true_or, or_false, false_or]); (repeat (first | apply Cut.pair | exact Cut.head _ _ | apply Cut.tail)); done) (by repeat (first | exact Keeps.refl _ | apply Keeps.tail | apply Keeps.drop))) (Cut.head _ _) ?_
  intro g w hs
  replace hs := act_open hs
  refine ⟨_, rfl, a_put (by rfl) ?_⟩
  refine s_nil ?_
  refine hK1 _ _ ?_
  refine c_region ?_
  refine sVal (r_move rfl rfl) ?_
  refine s_enter (r_call rfl ent63 rfl) rfl ?_
  refine begin_use (a := As.report ⟨c, rs0⟩ code) _ _ hv (by rw [few_report, few0]; omega) (act_close g (As.report ⟨c, rs0⟩ code) hs (by (try simp only [noS, Bool.true_or, Bool.false_or, Bool.or_true, Bool.or_false, ↓reduceIte, or_true, true_or, or_false, false_or]); (repeat (first | apply Cut.pair | exact Cut.head _ _ | apply Cut.tail)); done) (by repeat (first | exact Keeps.refl _ | apply Keeps.tail | apply Keeps.drop))) (Cut.head _ _) ?_
  intro g w hs
  replace hs := act_open hs
  refine ⟨_, rfl, a_put (by rfl) ?_⟩
  refine s_nil ?_
  refine f_end (rs := []) rfl .nil rfl ?_
  refine hk g _ (act_close g (((As.report ⟨c, rs0⟩ code).begin 7 noS)) hs (by (try simp only [noS, Bool.true_or, Bool.false_or, Bool.or_true, Bool.or_false, ↓reduceIte, or_true, true_or, or_false, false_or]); repeat (first | apply Cut.pair | exact Cut.head _ _ | apply Cut.tail)) (by repeat (first | exact Keeps.refl _ | apply Keeps.tail | apply Keeps.drop)))
theorem silentC_use (hs : Sat E (R * actP ba bc g ⟨c, rs0⟩) w) (hk : ∀ g' w', Sat E (R * actP ba bc g' ((((As.report ⟨c, rs0⟩ 80).quit).tell (mkS 3 true noS)).to 1)) w' → Q (.returned (.tuple #[])) w') :
    Calls Try.prog 78 (.pointer (some ⟨ba, 0, none⟩) :: []).toArray w Q := by
  replace hs := act_open hs
  refine f_enter Try.func78 rfl rfl ?_
  show Code.wp _ _ _ (Fr _) _
  refine wp_seq_k (fun K1 hK1 => ?_)
  refine c_region ?_
  refine sVal (r_move rfl rfl) ?_
  refine s_enter (r_call rfl ent62 rfl) rfl ?_
  refine report_use (a := (⟨c, rs0⟩ : As)) _ (by rw [few0]; omega) (act_close g ((⟨c, rs0⟩ : As)) hs (by (try simp only [mkS, noS, Bool.true_or, Bool.false_or, Bool.or_true, Bool.or_false, ↓reduceIte, or_true, true_or, or_false, false_or]); (repeat (first | apply Cut.pair | exact Cut.head _ _ | apply Cut.tail)); done) (by repeat (first | exact Keeps.refl _ | apply Keeps.tail | apply Keeps.drop))) (Cut.head _ _) ?_
  intro g w hs
  replace hs := act_open hs
  refine ⟨_, rfl, a_put (by rfl) ?_⟩
  refine s_nil ?_
  refine hK1 _ _ ?_
  refine wp_seq_k (fun K2 hK2 => ?_)
  refine c_region ?_
  refine sVal (r_move rfl rfl) ?_
  refine s_enter (r_call rfl ent71 rfl) rfl ?_
  refine quit_use (a := (As.report ⟨c, rs0⟩ 80)) (by rw [few_report, few0]; omega) (act_close g ((As.report ⟨c, rs0⟩ 80)) hs (by (try simp only [mkS, noS, Bool.true_or, Bool.false_or, Bool.or_true, Bool.or_false, ↓reduceIte, or_true, true_or, or_false, false_or]); (repeat (first | apply Cut.pair | exact Cut.head _ _ | apply Cut.tail)); done) (by repeat (first | exact Keeps.refl _ | apply Keeps.tail | apply Keeps.drop))) (Cut.head _ _) ?_
  intro g w hs
  replace hs := act_open hs
  refine ⟨_, rfl, a_put (by rfl) ?_⟩
  refine s_nil ?_
  refine hK2 _ _ ?_
  refine wp_seq_k (fun K3 hK3 => ?_)
  refine c_region ?_
  refine sVal (r_move rfl rfl) ?_
  refine sVal (r_build rfl rfl pl93 zr93 (by rfl)) ?_
  refine s_enter (r_call rfl ent72 rfl) rfl ?_
  refine tell_use (a := ((As.report ⟨c, rs0⟩ 80).quit)) _ _ _ _ _ (by rw [few_quit, few_report, few0]; omega) (act_close g (((As.report ⟨c, rs0⟩ 80).quit)) hs (by (try simp only [mkS, noS, Bool.true_or, Bool.false_or, Bool.or_true, Bool.or_false, ↓reduceIte, or_true, true_or, or_false, false_or]); (repeat (first | apply Cut.pair | exact Cut.head _ _ | apply Cut.tail)); done) (by repeat (first | exact Keeps.refl _ | apply Keeps.tail | apply Keeps.drop))) (Cut.head _ _) ?_
  intro g w hs
  replace hs := act_open hs
  refine ⟨_, rfl, a_put (by rfl) ?_⟩
  refine s_nil ?_
  refine hK3 _ _ ?_
  refine c_region ?_
  refine sVal (r_move rfl rfl) ?_
  refine s_enter (r_call rfl ent79 rfl) rfl ?_
  refine to_use (a := (((As.report ⟨c, rs0⟩ 80).quit).tell (mkS 3 true noS))) _ (act_close g ((((As.report ⟨c, rs0⟩ 80).quit).tell (mkS 3 true noS))) hs (by (try simp only [mkS, noS, Bool.true_or, Bool.false_or, Bool.or_true, Bool.or_false, ↓reduceIte, or_true, true_or, or_false, false_or]); (repeat (first | apply Cut.pair | exact Cut.head _ _ | apply Cut.tail)); done) (by repeat (first | exact Keeps.refl _ | apply Keeps.tail | apply Keeps.drop))) (Cut.head _ _) ?_
  intro g w hs
  replace hs := act_open hs
  refine ⟨_, rfl, a_put (by rfl) ?_⟩
  refine s_nil ?_
  refine f_end (rs := []) rfl .nil rfl ?_
  refine hk g _ (act_close g (((((As.report ⟨c, rs0⟩ 80).quit).tell (mkS 3 true noS)).to 1)) hs (by (try simp only [mkS, noS, Bool.true_or, Bool.false_or, Bool.or_true, Bool.or_false, ↓reduceIte, or_true, true_or, or_false, false_or]); repeat (first | apply Cut.pair | exact Cut.head _ _ | apply Cut.tail)) (by repeat (first | exact Keeps.refl _ | apply Keeps.tail | apply Keeps.drop)))
theorem expireC_use (hv : CnOk c) (hs : Sat E (R * actP ba bc g ⟨c, rs0⟩) w) (hk : ∀ g' w', Sat E (R * actP ba bc g' c.expire) w' → Q (.returned (.tuple #[])) w') :
    Calls Try.prog 74 (.pointer (some ⟨ba, 0, none⟩) :: []).toArray w Q := by
  replace hs := act_open hs
  have hv2 : 0 ≤ (⟨c, rs0⟩ : As).c.cc ∧ (⟨c, rs0⟩ : As).c.cc ≤ 16 := hv.cc
  refine f_enter Try.func74 rfl rfl ?_
  show Code.wp _ _ _ (Fr _) _
  refine wp_seq_k (fun K1 hK1 => ?_)
  refine wp_seq_k (fun K2 hK2 => ?_)
  refine c_region ?_
  refine sVal (r_move rfl rfl) ?_
  refine sVal (r_nil rfl rfl) ?_
  refine sVal (r_field rfl rfl of121_0) ?_
  refine sVal (r_load rfl rfl (ag58 _) hs.own (by rfl)) ?_
  refine sVal (r_nil rfl rfl) ?_
  refine sVal (r_field rfl rfl of108_1) ?_
  refine sVal (r_field rfl rfl of80_0) ?_
  refine sVal (r_load rfl rfl (ag3 _) hs.own (by rfl)) ?_
  refine s_nil ?_
  refine hK2 _ _ ?_
  refine wp_block ?_
  refine wp_seq_k (fun K3 hK3 => ?_)
  refine wp_seq_k (fun K4 hK4 => ?_)
  refine c_region ?_
  refine s_bool (r_cmp rfl rfl rfl rfl) rfl rfl (fun _ => by rfl) ?_
  intro c5 hc5
  refine sVal (r_assign rfl rfl) ?_
  refine s_nil ?_
  refine hK4 _ _ ?_
  cases c5
  case false =>
   replace hc5 := eqF hc5
   try dsimp only at hc5
   try simp only [cn_report, cn_quit, cn_tell] at hc5
   first
   | (exfalso; first | omega | (cases hc5; done))
   | (
     refine c_condF rfl ?_
     refine wp_seq_k (fun K6 hK6 => ?_)
     refine c_region ?_
     refine s_bool (r_cmp rfl rfl rfl rfl) rfl rfl (fun _ => by rfl) ?_
     intro c7 hc7
     refine sVal (r_assign rfl rfl) ?_
     refine s_nil ?_
     refine hK6 _ _ ?_
     cases c7
     case false =>
      replace hc7 := eqF hc7
      try dsimp only at hc7
      try simp only [cn_report, cn_quit, cn_tell] at hc7
      first
      | (exfalso; first | omega | (cases hc7; done))
      | (
        refine c_condF rfl ?_
        refine wp_seq_k (fun K8 hK8 => ?_)
        refine c_region ?_
        refine s_bool (r_cmp rfl rfl rfl rfl) rfl rfl (fun _ => by rfl) ?_
        intro c9 hc9
        refine sVal (r_assign rfl rfl) ?_
        refine s_nil ?_
        refine hK8 _ _ ?_
        cases c9
        case false =>
         replace hc9 := eqF hc9
         try dsimp only at hc9
         try simp only [cn_report, cn_quit, cn_tell] at hc9
         first
         | (exfalso; first | omega | (cases hc9; done))
         | (
           refine c_condF rfl ?_
           refine c_region ?_
           refine s_bool (r_cmp rfl rfl rfl rfl) rfl rfl (fun _ => by rfl) ?_
           intro c10 hc10
           refine sVal (r_assign rfl rfl) ?_
           refine s_nil ?_
           refine hK3 _ _ ?_
           cases c10
           case false =>
            replace hc10 := eqF hc10
            try dsimp only at hc10
            try simp only [cn_report, cn_quit, cn_tell] at hc10
            first
            | (exfalso; first | omega | (cases hc10; done))
            | (
              refine c_condF rfl ?_
              refine wp_ret ?_
              refine f_ret (rs := []) rfl .nil rfl ?_
              refine hk g _ (act_close g (c.expire) hs (by (try simp only [Cn.expire, As.more, mkS, noS, hc5, hc7, hc9, hc10, Bool.true_or, Bool.false_or, Bool.or_true, Bool.or_false, ↓reduceIte, or_true, true_or, or_false, false_or]); repeat (first | apply Cut.pair | exact Cut.head _ _ | apply Cut.tail)) (by repeat (first | exact Keeps.refl _ | apply Keeps.tail | apply Keeps.drop))))
           case true =>
            replace hc10 := eqT hc10
            try dsimp only at hc10
            try simp only [cn_report, cn_quit, cn_tell] at hc10
            first
            | (exfalso; first | omega | (cases hc10; done))
            | (
              refine c_condT rfl ?_
              refine wp_skip ?_
              refine hK1 _ _ ?_
              refine wp_seq_k (fun K11 hK11 => ?_)
              refine wp_seq_k (fun K12 hK12 => ?_)
              replace hs := hs.drew
              refine d_start (by kernel_rfl) ?_
              refine d_pre [0, 1, 2, 8, 9, 10] (g := 11) (by kernel_rfl) (fun _ _ d _ _ h => by cases d <;> exact h) ?_
              refine pVal rfl (fun w => (r_move rfl rfl)) ?_
              refine pVal rfl (fun w => (r_nil rfl rfl)) ?_
              refine pVal rfl (fun w => (r_field rfl rfl of121_0)) ?_
              refine pVal rfl (fun w => (r_move rfl rfl)) ?_
              refine pVal rfl (fun w => (r_nil rfl rfl)) ?_
              refine pVal rfl (fun w => (r_field rfl rfl of121_0)) ?_
              refine p_nil ?_
              refine d_head 16 [(3, true), (4, true), (5, true), (6, true), (7, true), (11, true), (12, true), (13, true), (14, true), (15, true)] (Holds _ _) (g := 1) (by kernel_rfl) (fun _ _ d _ _ h => by cases d <;> exact h) (Holds.self hs) ?_
              refine hVal rfl (fun w hS => (r_load rfl rfl (ag58 _) hS.own (by rfl))) ?_
              refine hVal rfl (fun w hS => (r_nil rfl rfl)) ?_
              refine hVal rfl (fun w hS => (r_field rfl rfl of108_1)) ?_
              refine hVal rfl (fun w hS => (r_field rfl rfl of80_3)) ?_
              refine hVal rfl (fun w hS => (r_load rfl rfl (ag3 _) hS.own (by rfl))) ?_
              refine hVal rfl (fun w hS => (r_load rfl rfl (ag58 _) hS.own (by rfl))) ?_
              refine hVal rfl (fun w hS => (r_nil rfl rfl)) ?_
              refine hVal rfl (fun w hS => (r_field rfl rfl of108_0)) ?_
              refine hVal rfl (fun w hS => (r_field rfl rfl of63_0)) ?_
              refine hVal rfl (fun w hS => (r_load rfl rfl (ag3 _) hS.own (by rfl))) ?_
              refine h_nil ?_
              refine d_tail 16 (by kernel_rfl) ?_
              refine s_bool (r_cmp rfl rfl rfl rfl) rfl rfl (fun _ => by rfl) ?_
              intro c13 hc13
              refine s_nil ?_
              refine hK12 _ _ ?_
              cases c13
              case false =>
               replace hc13 := decF' hc13
               try dsimp only at hc13
               try simp only [cn_report, cn_quit, cn_tell] at hc13
               first
               | (exfalso; first | omega | (cases hc13; done))
               | (
                 refine c_condF rfl ?_
                 refine wp_skip ?_
                 refine hK11 _ _ ?_
                 refine wp_seq_k (fun K14 hK14 => ?_)
                 refine c_region ?_
                 refine sVal (r_move rfl rfl) ?_
                 refine s_enter (r_call rfl ent62 rfl) rfl ?_
                 refine report_use (a := (⟨c, rs0⟩ : As)) _ (by rw [few0]; omega) (act_close g ((⟨c, rs0⟩ : As)) hs (by (try simp only [As.more, mkS, noS, hc5, hc7, hc9, hc10, hc13, Bool.true_or, Bool.false_or, Bool.or_true, Bool.or_false, ↓reduceIte, or_true, true_or, or_false, false_or]); (repeat (first | apply Cut.pair | exact Cut.head _ _ | apply Cut.tail)); done) (by repeat (first | exact Keeps.refl _ | apply Keeps.tail | apply Keeps.drop))) (Cut.head _ _) ?_
                 intro g w hs
                 replace hs := act_open hs
                 refine ⟨_, rfl, a_put (by rfl) ?_⟩
                 refine s_nil ?_
                 refine hK14 _ _ ?_
                 refine wp_seq_k (fun K15 hK15 => ?_)
                 refine wp_seq_k (fun K16 hK16 => ?_)
                 refine c_region ?_
                 refine sVal (r_move rfl rfl) ?_
                 refine sVal (r_nil rfl rfl) ?_
                 refine sVal (r_field rfl rfl of121_0) ?_
                 refine sVal (r_load rfl rfl (ag58 _) hs.own (by rfl)) ?_
                 refine sVal (r_nil rfl rfl) ?_
                 refine sVal (r_field rfl rfl of108_1) ?_
                 refine sVal (r_field rfl rfl of80_0) ?_
                 refine sVal (r_load rfl rfl (ag3 _) hs.own (by rfl)) ?_
                 refine s_bool (r_cmp rfl rfl rfl rfl) rfl rfl (fun _ => by rfl) ?_
                 intro c17 hc17
                 refine s_nil ?_
                 refine hK16 _ _ ?_
                 cases c17
                 case false =>
                  replace hc17 := eqF hc17
                  try dsimp only at hc17
                  try simp only [cn_report, cn_quit, cn_tell] at hc17
                  first
                  | (exfalso; first | omega | (cases hc17; done))
                  | (
                    refine c_condF rfl ?_
                    refine wp_seq_k (fun K18 hK18 => ?_)
                    refine c_region ?_
                    refine sVal (r_move rfl rfl) ?_
                    refine s_enter (r_call rfl ent71 rfl) rfl ?_
                    refine quit_use (a := (As.report ⟨c, rs0⟩ 79)) (by rw [few_report, few0]; omega) (act_close g ((As.report ⟨c, rs0⟩ 79)) hs (by (try simp only [As.more, mkS, noS, hc5, hc7, hc9, hc10, hc13, hc17, Bool.true_or, Bool.false_or, Bool.or_true, Bool.or_false, ↓reduceIte, or_true, true_or, or_false, false_or]); (repeat (first | apply Cut.pair | exact Cut.head _ _ | apply Cut.tail)); done) (by repeat (first | exact Keeps.refl _ | apply Keeps.tail | apply Keeps.drop))) (Cut.head _ _) ?_
                    intro g w hs
                    replace hs := act_open hs
                    refine ⟨_, rfl, a_put (by rfl) ?_⟩
                    refine s_nil ?_
                    refine hK18 _ _ ?_
                    refine c_region ?_
                    refine sVal (r_move rfl rfl) ?_
                    refine sVal (r_build rfl rfl pl93 zr93 (by rfl)) ?_
                    refine s_enter (r_call rfl ent72 rfl) rfl ?_
                    refine tell_use (a := ((As.report ⟨c, rs0⟩ 79).quit)) _ _ _ _ _ (by rw [few_quit, few_report, few0]; omega) (act_close g (((As.report ⟨c, rs0⟩ 79).quit)) hs (by (try simp only [As.more, mkS, noS, hc5, hc7, hc9, hc10, hc13, hc17, Bool.true_or, Bool.false_or, Bool.or_true, Bool.or_false, ↓reduceIte, or_true, true_or, or_false, false_or]); (repeat (first | apply Cut.pair | exact Cut.head _ _ | apply Cut.tail)); done) (by repeat (first | exact Keeps.refl _ | apply Keeps.tail | apply Keeps.drop))) (Cut.head _ _) ?_
                    intro g w hs
                    replace hs := act_open hs
                    refine ⟨_, rfl, a_put (by rfl) ?_⟩
                    refine s_nil ?_
                    refine hK15 _ _ ?_
                    refine c_region ?_
                    refine sVal (r_move rfl rfl) ?_
                    refine s_enter (r_call rfl ent73 rfl) rfl ?_
                    first
                    | (refine stop_use (a := ((As.report ⟨c, rs0⟩ 79).tell (mkS 4 false noS))) _ (act_close g (((As.report ⟨c, rs0⟩ 79).tell (mkS 4 false noS))) hs (by (try simp only [As.more, mkS, noS, hc5, hc7, hc9, hc10, hc13, hc17, Bool.true_or, Bool.false_or, Bool.or_true, Bool.or_false, ↓reduceIte, or_true, true_or, or_false, false_or]); (repeat (first | apply Cut.pair | exact Cut.head _ _ | apply Cut.tail)); done) (by repeat (first | exact Keeps.refl _ | apply Keeps.tail | apply Keeps.drop))) (Cut.head _ _) ?_; intro g w hs; replace hs := act_open hs)
                    | (refine stop_use (a := (((As.report ⟨c, rs0⟩ 79).quit).tell (mkS 3 true noS))) _ (act_close g ((((As.report ⟨c, rs0⟩ 79).quit).tell (mkS 3 true noS))) hs (by (try simp only [As.more, mkS, noS, hc5, hc7, hc9, hc10, hc13, hc17, Bool.true_or, Bool.false_or, Bool.or_true, Bool.or_false, ↓reduceIte, or_true, true_or, or_false, false_or]); (repeat (first | apply Cut.pair | exact Cut.head _ _ | apply Cut.tail)); done) (by repeat (first | exact Keeps.refl _ | apply Keeps.tail | apply Keeps.drop))) (Cut.head _ _) ?_; intro g w hs; replace hs := act_open hs)
                    try skip
                    refine ⟨_, rfl, a_put (by rfl) ?_⟩
                    refine s_nil ?_
                    refine f_end (rs := []) rfl .nil rfl ?_
                    refine hk g _ (act_close g (c.expire) hs (by (try simp only [Cn.expire, As.more, mkS, noS, hc5, hc7, hc9, hc10, hc13, hc17, Bool.true_or, Bool.false_or, Bool.or_true, Bool.or_false, ↓reduceIte, or_true, true_or, or_false, false_or]); repeat (first | apply Cut.pair | exact Cut.head _ _ | apply Cut.tail)) (by repeat (first | exact Keeps.refl _ | apply Keeps.tail | apply Keeps.drop))))
                 case true =>
                  replace hc17 := eqT hc17
                  try dsimp only at hc17
                  try simp only [cn_report, cn_quit, cn_tell] at hc17
                  first
                  | (exfalso; first | omega | (cases hc17; done))
                  | (
                    refine c_condT rfl ?_
                    refine c_region ?_
                    refine sVal (r_move rfl rfl) ?_
                    refine sVal (r_build rfl rfl pl93 zr93 (by rfl)) ?_
                    refine s_enter (r_call rfl ent72 rfl) rfl ?_
                    refine tell_use (a := (As.report ⟨c, rs0⟩ 79)) _ _ _ _ _ (by rw [few_report, few0]; omega) (act_close g ((As.report ⟨c, rs0⟩ 79)) hs (by (try simp only [As.more, mkS, noS, hc5, hc7, hc9, hc10, hc13, hc17, Bool.true_or, Bool.false_or, Bool.or_true, Bool.or_false, ↓reduceIte, or_true, true_or, or_false, false_or]); (repeat (first | apply Cut.pair | exact Cut.head _ _ | apply Cut.tail)); done) (by repeat (first | exact Keeps.refl _ | apply Keeps.tail | apply Keeps.drop))) (Cut.head _ _) ?_
                    intro g w hs
                    replace hs := act_open hs
                    refine ⟨_, rfl, a_put (by rfl) ?_⟩
                    refine s_nil ?_
                    refine hK15 _ _ ?_
                    refine c_region ?_
                    refine sVal (r_move rfl rfl) ?_
                    refine s_enter (r_call rfl ent73 rfl) rfl ?_
                    first
                    | (refine stop_use (a := ((As.report ⟨c, rs0⟩ 79).tell (mkS 4 false noS))) _ (act_close g (((As.report ⟨c, rs0⟩ 79).tell (mkS 4 false noS))) hs (by (try simp only [As.more, mkS, noS, hc5, hc7, hc9, hc10, hc13, hc17, Bool.true_or, Bool.false_or, Bool.or_true, Bool.or_false, ↓reduceIte, or_true, true_or, or_false, false_or]); (repeat (first | apply Cut.pair | exact Cut.head _ _ | apply Cut.tail)); done) (by repeat (first | exact Keeps.refl _ | apply Keeps.tail | apply Keeps.drop))) (Cut.head _ _) ?_; intro g w hs; replace hs := act_open hs)
                    | (refine stop_use (a := (((As.report ⟨c, rs0⟩ 79).quit).tell (mkS 3 true noS))) _ (act_close g ((((As.report ⟨c, rs0⟩ 79).quit).tell (mkS 3 true noS))) hs (by (try simp only [As.more, mkS, noS, hc5, hc7, hc9, hc10, hc13, hc17, Bool.true_or, Bool.false_or, Bool.or_true, Bool.or_false, ↓reduceIte, or_true, true_or, or_false, false_or]); (repeat (first | apply Cut.pair | exact Cut.head _ _ | apply Cut.tail)); done) (by repeat (first | exact Keeps.refl _ | apply Keeps.tail | apply Keeps.drop))) (Cut.head _ _) ?_; intro g w hs; replace hs := act_open hs)
                    try skip
                    refine ⟨_, rfl, a_put (by rfl) ?_⟩
                    refine s_nil ?_
                    refine f_end (rs := []) rfl .nil rfl ?_
                    refine hk g _ (act_close g (c.expire) hs (by (try simp only [Cn.expire, As.more, mkS, noS, hc5, hc7, hc9, hc10, hc13, hc17, Bool.true_or, Bool.false_or, Bool.or_true, Bool.or_false, ↓reduceIte, or_true, true_or, or_false, false_or]); repeat (first | apply Cut.pair | exact Cut.head _ _ | apply Cut.tail)) (by repeat (first | exact Keeps.refl _ | apply Keeps.tail | apply Keeps.drop)))))
              case true =>
               replace hc13 := decT' hc13
               try dsimp only at hc13
               try simp only [cn_report, cn_quit, cn_tell] at hc13
               first
               | (exfalso; first | omega | (cases hc13; done))
               | (
                 refine c_condT rfl ?_
                 refine wp_seq_k (fun K19 hK19 => ?_)
                 refine c_region ?_
                 refine sVal (r_move rfl rfl) ?_
                 refine sVal (r_nil rfl rfl) ?_
                 refine sVal (r_field rfl rfl of121_0) ?_
                 refine sVal (r_load rfl rfl (ag58 _) hs.own (by rfl)) ?_
                 refine sVal (r_nil rfl rfl) ?_
                 refine sVal (r_field rfl rfl of108_1) ?_
                 refine sVal (r_field rfl rfl of80_3) ?_
                 refine sVal (r_load rfl rfl (ag3 _) hs.own (by rfl)) ?_
                 refine sVal (r_ari rfl rfl rfl rfl (by first | exact wrapI (by omega) | rfl)) ?_
                 refine sVal (r_nil rfl rfl) ?_
                 refine sVal (r_field rfl rfl of108_1) ?_
                 refine sVal (r_field rfl rfl of80_3) ?_
                 refine s_exS (r_store rfl rfl rfl hs (by (repeat (first | exact Cut.head _ _ | apply Cut.tail)); done) in3 sz3 rfl (by rfl)) rfl rfl ?_
                 intro w hs
                 refine s_nil ?_
                 refine hK19 _ _ ?_
                 refine wp_seq_k (fun K20 hK20 => ?_)
                 refine c_region ?_
                 refine sVal (r_move rfl rfl) ?_
                 refine s_enter (r_call rfl ent75 rfl) rfl ?_
                 refine again_use (a := (As.more ⟨c, rs0⟩)) (by show (⟨c, rs0⟩ : As).few ≤ _; rw [few0]; omega) (act_close g ((As.more ⟨c, rs0⟩)) hs (by (try simp only [As.more, mkS, noS, hc5, hc7, hc9, hc10, hc13, Bool.true_or, Bool.false_or, Bool.or_true, Bool.or_false, ↓reduceIte, or_true, true_or, or_false, false_or]); (repeat (first | apply Cut.pair | exact Cut.head _ _ | apply Cut.tail)); done) (by repeat (first | exact Keeps.refl _ | apply Keeps.tail | apply Keeps.drop))) (Cut.head _ _) ?_
                 intro g w hs
                 replace hs := act_open hs
                 refine ⟨_, rfl, a_put (by rfl) ?_⟩
                 refine s_nil ?_
                 refine hK20 _ _ ?_
                 refine wp_ret ?_
                 refine f_ret (rs := []) rfl .nil rfl ?_
                 refine hk g _ (act_close g (c.expire) hs (by (try simp only [Cn.expire, As.more, mkS, noS, hc5, hc7, hc9, hc10, hc13, Bool.true_or, Bool.false_or, Bool.or_true, Bool.or_false, ↓reduceIte, or_true, true_or, or_false, false_or]); repeat (first | apply Cut.pair | exact Cut.head _ _ | apply Cut.tail)) (by repeat (first | exact Keeps.refl _ | apply Keeps.tail | apply Keeps.drop))))))
        case true =>
         replace hc9 := eqT hc9
         try dsimp only at hc9
         try simp only [cn_report, cn_quit, cn_tell] at hc9
         first
         | (exfalso; first | omega | (cases hc9; done))
         | (
           refine c_condT rfl ?_
           refine wp_skip ?_
           refine hK3 _ _ ?_
           refine c_condT rfl ?_
           refine wp_skip ?_
           refine hK1 _ _ ?_
           refine wp_seq_k (fun K21 hK21 => ?_)
           refine wp_seq_k (fun K22 hK22 => ?_)
           replace hs := hs.drew
           refine d_start (by kernel_rfl) ?_
           refine d_pre [0, 1, 2, 8, 9, 10] (g := 11) (by kernel_rfl) (fun _ _ d _ _ h => by cases d <;> exact h) ?_
           refine pVal rfl (fun w => (r_move rfl rfl)) ?_
           refine pVal rfl (fun w => (r_nil rfl rfl)) ?_
           refine pVal rfl (fun w => (r_field rfl rfl of121_0)) ?_
           refine pVal rfl (fun w => (r_move rfl rfl)) ?_
           refine pVal rfl (fun w => (r_nil rfl rfl)) ?_
           refine pVal rfl (fun w => (r_field rfl rfl of121_0)) ?_
           refine p_nil ?_
           refine d_head 16 [(3, true), (4, true), (5, true), (6, true), (7, true), (11, true), (12, true), (13, true), (14, true), (15, true)] (Holds _ _) (g := 1) (by kernel_rfl) (fun _ _ d _ _ h => by cases d <;> exact h) (Holds.self hs) ?_
           refine hVal rfl (fun w hS => (r_load rfl rfl (ag58 _) hS.own (by rfl))) ?_
           refine hVal rfl (fun w hS => (r_nil rfl rfl)) ?_
           refine hVal rfl (fun w hS => (r_field rfl rfl of108_1)) ?_
           refine hVal rfl (fun w hS => (r_field rfl rfl of80_3)) ?_
           refine hVal rfl (fun w hS => (r_load rfl rfl (ag3 _) hS.own (by rfl))) ?_
           refine hVal rfl (fun w hS => (r_load rfl rfl (ag58 _) hS.own (by rfl))) ?_
           refine hVal rfl (fun w hS => (r_nil rfl rfl)) ?_
           refine hVal rfl (fun w hS => (r_field rfl rfl of108_0)) ?_
           refine hVal rfl (fun w hS => (r_field rfl rfl of63_0)) ?_
           refine hVal rfl (fun w hS => (r_load rfl rfl (ag3 _) hS.own (by rfl))) ?_
           refine h_nil ?_
           refine d_tail 16 (by kernel_rfl) ?_
           refine s_bool (r_cmp rfl rfl rfl rfl) rfl rfl (fun _ => by rfl) ?_
           intro c23 hc23
           refine s_nil ?_
           refine hK22 _ _ ?_
           cases c23
           case false =>
            replace hc23 := decF' hc23
            try dsimp only at hc23
            try simp only [cn_report, cn_quit, cn_tell] at hc23
            first
            | (exfalso; first | omega | (cases hc23; done))
            | (
              refine c_condF rfl ?_
              refine wp_skip ?_
              refine hK21 _ _ ?_
              refine wp_seq_k (fun K24 hK24 => ?_)
              refine c_region ?_
              refine sVal (r_move rfl rfl) ?_
              refine s_enter (r_call rfl ent62 rfl) rfl ?_
              refine report_use (a := (⟨c, rs0⟩ : As)) _ (by rw [few0]; omega) (act_close g ((⟨c, rs0⟩ : As)) hs (by (try simp only [As.more, mkS, noS, hc5, hc7, hc9, hc23, Bool.true_or, Bool.false_or, Bool.or_true, Bool.or_false, ↓reduceIte, or_true, true_or, or_false, false_or]); (repeat (first | apply Cut.pair | exact Cut.head _ _ | apply Cut.tail)); done) (by repeat (first | exact Keeps.refl _ | apply Keeps.tail | apply Keeps.drop))) (Cut.head _ _) ?_
              intro g w hs
              replace hs := act_open hs
              refine ⟨_, rfl, a_put (by rfl) ?_⟩
              refine s_nil ?_
              refine hK24 _ _ ?_
              refine wp_seq_k (fun K25 hK25 => ?_)
              refine wp_seq_k (fun K26 hK26 => ?_)
              refine c_region ?_
              refine sVal (r_move rfl rfl) ?_
              refine sVal (r_nil rfl rfl) ?_
              refine sVal (r_field rfl rfl of121_0) ?_
              refine sVal (r_load rfl rfl (ag58 _) hs.own (by rfl)) ?_
              refine sVal (r_nil rfl rfl) ?_
              refine sVal (r_field rfl rfl of108_1) ?_
              refine sVal (r_field rfl rfl of80_0) ?_
              refine sVal (r_load rfl rfl (ag3 _) hs.own (by rfl)) ?_
              refine s_bool (r_cmp rfl rfl rfl rfl) rfl rfl (fun _ => by rfl) ?_
              intro c27 hc27
              refine s_nil ?_
              refine hK26 _ _ ?_
              cases c27
              case false =>
               replace hc27 := eqF hc27
               try dsimp only at hc27
               try simp only [cn_report, cn_quit, cn_tell] at hc27
               first
               | (exfalso; first | omega | (cases hc27; done))
               | (
                 refine c_condF rfl ?_
                 refine wp_seq_k (fun K28 hK28 => ?_)
                 refine c_region ?_
                 refine sVal (r_move rfl rfl) ?_
                 refine s_enter (r_call rfl ent71 rfl) rfl ?_
                 refine quit_use (a := (As.report ⟨c, rs0⟩ 79)) (by rw [few_report, few0]; omega) (act_close g ((As.report ⟨c, rs0⟩ 79)) hs (by (try simp only [As.more, mkS, noS, hc5, hc7, hc9, hc23, hc27, Bool.true_or, Bool.false_or, Bool.or_true, Bool.or_false, ↓reduceIte, or_true, true_or, or_false, false_or]); (repeat (first | apply Cut.pair | exact Cut.head _ _ | apply Cut.tail)); done) (by repeat (first | exact Keeps.refl _ | apply Keeps.tail | apply Keeps.drop))) (Cut.head _ _) ?_
                 intro g w hs
                 replace hs := act_open hs
                 refine ⟨_, rfl, a_put (by rfl) ?_⟩
                 refine s_nil ?_
                 refine hK28 _ _ ?_
                 refine c_region ?_
                 refine sVal (r_move rfl rfl) ?_
                 refine sVal (r_build rfl rfl pl93 zr93 (by rfl)) ?_
                 refine s_enter (r_call rfl ent72 rfl) rfl ?_
                 refine tell_use (a := ((As.report ⟨c, rs0⟩ 79).quit)) _ _ _ _ _ (by rw [few_quit, few_report, few0]; omega) (act_close g (((As.report ⟨c, rs0⟩ 79).quit)) hs (by (try simp only [As.more, mkS, noS, hc5, hc7, hc9, hc23, hc27, Bool.true_or, Bool.false_or, Bool.or_true, Bool.or_false, ↓reduceIte, or_true, true_or, or_false, false_or]); (repeat (first | apply Cut.pair | exact Cut.head _ _ | apply Cut.tail)); done) (by repeat (first | exact Keeps.refl _ | apply Keeps.tail | apply Keeps.drop))) (Cut.head _ _) ?_
                 intro g w hs
                 replace hs := act_open hs
                 refine ⟨_, rfl, a_put (by rfl) ?_⟩
                 refine s_nil ?_
                 refine hK25 _ _ ?_
                 refine c_region ?_
                 refine sVal (r_move rfl rfl) ?_
                 refine s_enter (r_call rfl ent73 rfl) rfl ?_
                 first
                 | (refine stop_use (a := ((As.report ⟨c, rs0⟩ 79).tell (mkS 4 false noS))) _ (act_close g (((As.report ⟨c, rs0⟩ 79).tell (mkS 4 false noS))) hs (by (try simp only [As.more, mkS, noS, hc5, hc7, hc9, hc23, hc27, Bool.true_or, Bool.false_or, Bool.or_true, Bool.or_false, ↓reduceIte, or_true, true_or, or_false, false_or]); (repeat (first | apply Cut.pair | exact Cut.head _ _ | apply Cut.tail)); done) (by repeat (first | exact Keeps.refl _ | apply Keeps.tail | apply Keeps.drop))) (Cut.head _ _) ?_; intro g w hs; replace hs := act_open hs)
                 | (refine stop_use (a := (((As.report ⟨c, rs0⟩ 79).quit).tell (mkS 3 true noS))) _ (act_close g ((((As.report ⟨c, rs0⟩ 79).quit).tell (mkS 3 true noS))) hs (by (try simp only [As.more, mkS, noS, hc5, hc7, hc9, hc23, hc27, Bool.true_or, Bool.false_or, Bool.or_true, Bool.or_false, ↓reduceIte, or_true, true_or, or_false, false_or]); (repeat (first | apply Cut.pair | exact Cut.head _ _ | apply Cut.tail)); done) (by repeat (first | exact Keeps.refl _ | apply Keeps.tail | apply Keeps.drop))) (Cut.head _ _) ?_; intro g w hs; replace hs := act_open hs)
                 try skip
                 refine ⟨_, rfl, a_put (by rfl) ?_⟩
                 refine s_nil ?_
                 refine f_end (rs := []) rfl .nil rfl ?_
                 refine hk g _ (act_close g (c.expire) hs (by (try simp only [Cn.expire, As.more, mkS, noS, hc5, hc7, hc9, hc23, hc27, Bool.true_or, Bool.false_or, Bool.or_true, Bool.or_false, ↓reduceIte, or_true, true_or, or_false, false_or]); repeat (first | apply Cut.pair | exact Cut.head _ _ | apply Cut.tail)) (by repeat (first | exact Keeps.refl _ | apply Keeps.tail | apply Keeps.drop))))
              case true =>
               replace hc27 := eqT hc27
               try dsimp only at hc27
               try simp only [cn_report, cn_quit, cn_tell] at hc27
               first
               | (exfalso; first | omega | (cases hc27; done))
               | (
                 refine c_condT rfl ?_
                 refine c_region ?_
                 refine sVal (r_move rfl rfl) ?_
                 refine sVal (r_build rfl rfl pl93 zr93 (by rfl)) ?_
                 refine s_enter (r_call rfl ent72 rfl) rfl ?_
                 refine tell_use (a := (As.report ⟨c, rs0⟩ 79)) _ _ _ _ _ (by rw [few_report, few0]; omega) (act_close g ((As.report ⟨c, rs0⟩ 79)) hs (by (try simp only [As.more, mkS, noS, hc5, hc7, hc9, hc23, hc27, Bool.true_or, Bool.false_or, Bool.or_true, Bool.or_false, ↓reduceIte, or_true, true_or, or_false, false_or]); (repeat (first | apply Cut.pair | exact Cut.head _ _ | apply Cut.tail)); done) (by repeat (first | exact Keeps.refl _ | apply Keeps.tail | apply Keeps.drop))) (Cut.head _ _) ?_
                 intro g w hs
                 replace hs := act_open hs
                 refine ⟨_, rfl, a_put (by rfl) ?_⟩
                 refine s_nil ?_
                 refine hK25 _ _ ?_
                 refine c_region ?_
                 refine sVal (r_move rfl rfl) ?_
                 refine s_enter (r_call rfl ent73 rfl) rfl ?_
                 first
                 | (refine stop_use (a := ((As.report ⟨c, rs0⟩ 79).tell (mkS 4 false noS))) _ (act_close g (((As.report ⟨c, rs0⟩ 79).tell (mkS 4 false noS))) hs (by (try simp only [As.more, mkS, noS, hc5, hc7, hc9, hc23, hc27, Bool.true_or, Bool.false_or, Bool.or_true, Bool.or_false, ↓reduceIte, or_true, true_or, or_false, false_or]); (repeat (first | apply Cut.pair | exact Cut.head _ _ | apply Cut.tail)); done) (by repeat (first | exact Keeps.refl _ | apply Keeps.tail | apply Keeps.drop))) (Cut.head _ _) ?_; intro g w hs; replace hs := act_open hs)
                 | (refine stop_use (a := (((As.report ⟨c, rs0⟩ 79).quit).tell (mkS 3 true noS))) _ (act_close g ((((As.report ⟨c, rs0⟩ 79).quit).tell (mkS 3 true noS))) hs (by (try simp only [As.more, mkS, noS, hc5, hc7, hc9, hc23, hc27, Bool.true_or, Bool.false_or, Bool.or_true, Bool.or_false, ↓reduceIte, or_true, true_or, or_false, false_or]); (repeat (first | apply Cut.pair | exact Cut.head _ _ | apply Cut.tail)); done) (by repeat (first | exact Keeps.refl _ | apply Keeps.tail | apply Keeps.drop))) (Cut.head _ _) ?_; intro g w hs; replace hs := act_open hs)
                 try skip
                 refine ⟨_, rfl, a_put (by rfl) ?_⟩
                 refine s_nil ?_
                 refine f_end (rs := []) rfl .nil rfl ?_
                 refine hk g _ (act_close g (c.expire) hs (by (try simp only [Cn.expire, As.more, mkS, noS, hc5, hc7, hc9, hc23, hc27, Bool.true_or, Bool.false_or, Bool.or_true, Bool.or_false, ↓reduceIte, or_true, true_or, or_false, false_or]); repeat (first | apply Cut.pair | exact Cut.head _ _ | apply Cut.tail)) (by repeat (first | exact Keeps.refl _ | apply Keeps.tail | apply Keeps.drop)))))
           case true =>
            replace hc23 := decT' hc23
            try dsimp only at hc23
            try simp only [cn_report, cn_quit, cn_tell] at hc23
            first
            | (exfalso; first | omega | (cases hc23; done))
            | (
              refine c_condT rfl ?_
              refine wp_seq_k (fun K29 hK29 => ?_)
              refine c_region ?_
              refine sVal (r_move rfl rfl) ?_
              refine sVal (r_nil rfl rfl) ?_
              refine sVal (r_field rfl rfl of121_0) ?_
              refine sVal (r_load rfl rfl (ag58 _) hs.own (by rfl)) ?_
              refine sVal (r_nil rfl rfl) ?_
              refine sVal (r_field rfl rfl of108_1) ?_
              refine sVal (r_field rfl rfl of80_3) ?_
              refine sVal (r_load rfl rfl (ag3 _) hs.own (by rfl)) ?_
              refine sVal (r_ari rfl rfl rfl rfl (by first | exact wrapI (by omega) | rfl)) ?_
              refine sVal (r_nil rfl rfl) ?_
              refine sVal (r_field rfl rfl of108_1) ?_
              refine sVal (r_field rfl rfl of80_3) ?_
              refine s_exS (r_store rfl rfl rfl hs (by (repeat (first | exact Cut.head _ _ | apply Cut.tail)); done) in3 sz3 rfl (by rfl)) rfl rfl ?_
              intro w hs
              refine s_nil ?_
              refine hK29 _ _ ?_
              refine wp_seq_k (fun K30 hK30 => ?_)
              refine c_region ?_
              refine sVal (r_move rfl rfl) ?_
              refine s_enter (r_call rfl ent75 rfl) rfl ?_
              refine again_use (a := (As.more ⟨c, rs0⟩)) (by show (⟨c, rs0⟩ : As).few ≤ _; rw [few0]; omega) (act_close g ((As.more ⟨c, rs0⟩)) hs (by (try simp only [As.more, mkS, noS, hc5, hc7, hc9, hc23, Bool.true_or, Bool.false_or, Bool.or_true, Bool.or_false, ↓reduceIte, or_true, true_or, or_false, false_or]); (repeat (first | apply Cut.pair | exact Cut.head _ _ | apply Cut.tail)); done) (by repeat (first | exact Keeps.refl _ | apply Keeps.tail | apply Keeps.drop))) (Cut.head _ _) ?_
              intro g w hs
              replace hs := act_open hs
              refine ⟨_, rfl, a_put (by rfl) ?_⟩
              refine s_nil ?_
              refine hK30 _ _ ?_
              refine wp_ret ?_
              refine f_ret (rs := []) rfl .nil rfl ?_
              refine hk g _ (act_close g (c.expire) hs (by (try simp only [Cn.expire, As.more, mkS, noS, hc5, hc7, hc9, hc23, Bool.true_or, Bool.false_or, Bool.or_true, Bool.or_false, ↓reduceIte, or_true, true_or, or_false, false_or]); repeat (first | apply Cut.pair | exact Cut.head _ _ | apply Cut.tail)) (by repeat (first | exact Keeps.refl _ | apply Keeps.tail | apply Keeps.drop))))))
     case true =>
      replace hc7 := eqT hc7
      try dsimp only at hc7
      try simp only [cn_report, cn_quit, cn_tell] at hc7
      first
      | (exfalso; first | omega | (cases hc7; done))
      | (
        refine c_condT rfl ?_
        refine wp_skip ?_
        refine hK3 _ _ ?_
        refine c_condT rfl ?_
        refine wp_skip ?_
        refine hK1 _ _ ?_
        refine wp_seq_k (fun K31 hK31 => ?_)
        refine wp_seq_k (fun K32 hK32 => ?_)
        replace hs := hs.drew
        refine d_start (by kernel_rfl) ?_
        refine d_pre [0, 1, 2, 8, 9, 10] (g := 11) (by kernel_rfl) (fun _ _ d _ _ h => by cases d <;> exact h) ?_
        refine pVal rfl (fun w => (r_move rfl rfl)) ?_
        refine pVal rfl (fun w => (r_nil rfl rfl)) ?_
        refine pVal rfl (fun w => (r_field rfl rfl of121_0)) ?_
        refine pVal rfl (fun w => (r_move rfl rfl)) ?_
        refine pVal rfl (fun w => (r_nil rfl rfl)) ?_
        refine pVal rfl (fun w => (r_field rfl rfl of121_0)) ?_
        refine p_nil ?_
        refine d_head 16 [(3, true), (4, true), (5, true), (6, true), (7, true), (11, true), (12, true), (13, true), (14, true), (15, true)] (Holds _ _) (g := 1) (by kernel_rfl) (fun _ _ d _ _ h => by cases d <;> exact h) (Holds.self hs) ?_
        refine hVal rfl (fun w hS => (r_load rfl rfl (ag58 _) hS.own (by rfl))) ?_
        refine hVal rfl (fun w hS => (r_nil rfl rfl)) ?_
        refine hVal rfl (fun w hS => (r_field rfl rfl of108_1)) ?_
        refine hVal rfl (fun w hS => (r_field rfl rfl of80_3)) ?_
        refine hVal rfl (fun w hS => (r_load rfl rfl (ag3 _) hS.own (by rfl))) ?_
        refine hVal rfl (fun w hS => (r_load rfl rfl (ag58 _) hS.own (by rfl))) ?_
        refine hVal rfl (fun w hS => (r_nil rfl rfl)) ?_
        refine hVal rfl (fun w hS => (r_field rfl rfl of108_0)) ?_
        refine hVal rfl (fun w hS => (r_field rfl rfl of63_0)) ?_
        refine hVal rfl (fun w hS => (r_load rfl rfl (ag3 _) hS.own (by rfl))) ?_
        refine h_nil ?_
        refine d_tail 16 (by kernel_rfl) ?_
        refine s_bool (r_cmp rfl rfl rfl rfl) rfl rfl (fun _ => by rfl) ?_
        intro c33 hc33
        refine s_nil ?_
        refine hK32 _ _ ?_
        cases c33
        case false =>
         replace hc33 := decF' hc33
         try dsimp only at hc33
         try simp only [cn_report, cn_quit, cn_tell] at hc33
         first
         | (exfalso; first | omega | (cases hc33; done))
         | (
           refine c_condF rfl ?_
           refine wp_skip ?_
           refine hK31 _ _ ?_
           refine wp_seq_k (fun K34 hK34 => ?_)
           refine c_region ?_
           refine sVal (r_move rfl rfl) ?_
           refine s_enter (r_call rfl ent62 rfl) rfl ?_
           refine report_use (a := (⟨c, rs0⟩ : As)) _ (by rw [few0]; omega) (act_close g ((⟨c, rs0⟩ : As)) hs (by (try simp only [As.more, mkS, noS, hc5, hc7, hc33, Bool.true_or, Bool.false_or, Bool.or_true, Bool.or_false, ↓reduceIte, or_true, true_or, or_false, false_or]); (repeat (first | apply Cut.pair | exact Cut.head _ _ | apply Cut.tail)); done) (by repeat (first | exact Keeps.refl _ | apply Keeps.tail | apply Keeps.drop))) (Cut.head _ _) ?_
           intro g w hs
           replace hs := act_open hs
           refine ⟨_, rfl, a_put (by rfl) ?_⟩
           refine s_nil ?_
           refine hK34 _ _ ?_
           refine wp_seq_k (fun K35 hK35 => ?_)
           refine wp_seq_k (fun K36 hK36 => ?_)
           refine c_region ?_
           refine sVal (r_move rfl rfl) ?_
           refine sVal (r_nil rfl rfl) ?_
           refine sVal (r_field rfl rfl of121_0) ?_
           refine sVal (r_load rfl rfl (ag58 _) hs.own (by rfl)) ?_
           refine sVal (r_nil rfl rfl) ?_
           refine sVal (r_field rfl rfl of108_1) ?_
           refine sVal (r_field rfl rfl of80_0) ?_
           refine sVal (r_load rfl rfl (ag3 _) hs.own (by rfl)) ?_
           refine s_bool (r_cmp rfl rfl rfl rfl) rfl rfl (fun _ => by rfl) ?_
           intro c37 hc37
           refine s_nil ?_
           refine hK36 _ _ ?_
           cases c37
           case false =>
            replace hc37 := eqF hc37
            try dsimp only at hc37
            try simp only [cn_report, cn_quit, cn_tell] at hc37
            first
            | (exfalso; first | omega | (cases hc37; done))
            | (
              refine c_condF rfl ?_
              refine wp_seq_k (fun K38 hK38 => ?_)
              refine c_region ?_
              refine sVal (r_move rfl rfl) ?_
              refine s_enter (r_call rfl ent71 rfl) rfl ?_
              refine quit_use (a := (As.report ⟨c, rs0⟩ 79)) (by rw [few_report, few0]; omega) (act_close g ((As.report ⟨c, rs0⟩ 79)) hs (by (try simp only [As.more, mkS, noS, hc5, hc7, hc33, hc37, Bool.true_or, Bool.false_or, Bool.or_true, Bool.or_false, ↓reduceIte, or_true, true_or, or_false, false_or]); (repeat (first | apply Cut.pair | exact Cut.head _ _ | apply Cut.tail)); done) (by repeat (first | exact Keeps.refl _ | apply Keeps.tail | apply Keeps.drop))) (Cut.head _ _) ?_
              intro g w hs
              replace hs := act_open hs
              refine ⟨_, rfl, a_put (by rfl) ?_⟩
              refine s_nil ?_
              refine hK38 _ _ ?_
              refine c_region ?_
              refine sVal (r_move rfl rfl) ?_
              refine sVal (r_build rfl rfl pl93 zr93 (by rfl)) ?_
              refine s_enter (r_call rfl ent72 rfl) rfl ?_
              refine tell_use (a := ((As.report ⟨c, rs0⟩ 79).quit)) _ _ _ _ _ (by rw [few_quit, few_report, few0]; omega) (act_close g (((As.report ⟨c, rs0⟩ 79).quit)) hs (by (try simp only [As.more, mkS, noS, hc5, hc7, hc33, hc37, Bool.true_or, Bool.false_or, Bool.or_true, Bool.or_false, ↓reduceIte, or_true, true_or, or_false, false_or]); (repeat (first | apply Cut.pair | exact Cut.head _ _ | apply Cut.tail)); done) (by repeat (first | exact Keeps.refl _ | apply Keeps.tail | apply Keeps.drop))) (Cut.head _ _) ?_
              intro g w hs
              replace hs := act_open hs
              refine ⟨_, rfl, a_put (by rfl) ?_⟩
              refine s_nil ?_
              refine hK35 _ _ ?_
              refine c_region ?_
              refine sVal (r_move rfl rfl) ?_
              refine s_enter (r_call rfl ent73 rfl) rfl ?_
              first
              | (refine stop_use (a := ((As.report ⟨c, rs0⟩ 79).tell (mkS 4 false noS))) _ (act_close g (((As.report ⟨c, rs0⟩ 79).tell (mkS 4 false noS))) hs (by (try simp only [As.more, mkS, noS, hc5, hc7, hc33, hc37, Bool.true_or, Bool.false_or, Bool.or_true, Bool.or_false, ↓reduceIte, or_true, true_or, or_false, false_or]); (repeat (first | apply Cut.pair | exact Cut.head _ _ | apply Cut.tail)); done) (by repeat (first | exact Keeps.refl _ | apply Keeps.tail | apply Keeps.drop))) (Cut.head _ _) ?_; intro g w hs; replace hs := act_open hs)
              | (refine stop_use (a := (((As.report ⟨c, rs0⟩ 79).quit).tell (mkS 3 true noS))) _ (act_close g ((((As.report ⟨c, rs0⟩ 79).quit).tell (mkS 3 true noS))) hs (by (try simp only [As.more, mkS, noS, hc5, hc7, hc33, hc37, Bool.true_or, Bool.false_or, Bool.or_true, Bool.or_false, ↓reduceIte, or_true, true_or, or_false, false_or]); (repeat (first | apply Cut.pair | exact Cut.head _ _ | apply Cut.tail)); done) (by repeat (first | exact Keeps.refl _ | apply Keeps.tail | apply Keeps.drop))) (Cut.head _ _) ?_; intro g w hs; replace hs := act_open hs)
              try skip
              refine ⟨_, rfl, a_put (by rfl) ?_⟩
              refine s_nil ?_
              refine f_end (rs := []) rfl .nil rfl ?_
              refine hk g _ (act_close g (c.expire) hs (by (try simp only [Cn.expire, As.more, mkS, noS, hc5, hc7, hc33, hc37, Bool.true_or, Bool.false_or, Bool.or_true, Bool.or_false, ↓reduceIte, or_true, true_or, or_false, false_or]); repeat (first | apply Cut.pair | exact Cut.head _ _ | apply Cut.tail)) (by repeat (first | exact Keeps.refl _ | apply Keeps.tail | apply Keeps.drop))))
           case true =>
            replace hc37 := eqT hc37
            try dsimp only at hc37
            try simp only [cn_report, cn_quit, cn_tell] at hc37
            first
            | (exfalso; first | omega | (cases hc37; done))
            | (
              refine c_condT rfl ?_
              refine c_region ?_
              refine sVal (r_move rfl rfl) ?_
              refine sVal (r_build rfl rfl pl93 zr93 (by rfl)) ?_
              refine s_enter (r_call rfl ent72 rfl) rfl ?_
              refine tell_use (a := (As.report ⟨c, rs0⟩ 79)) _ _ _ _ _ (by rw [few_report, few0]; omega) (act_close g ((As.report ⟨c, rs0⟩ 79)) hs (by (try simp only [As.more, mkS, noS, hc5, hc7, hc33, hc37, Bool.true_or, Bool.false_or, Bool.or_true, Bool.or_false, ↓reduceIte, or_true, true_or, or_false, false_or]); (repeat (first | apply Cut.pair | exact Cut.head _ _ | apply Cut.tail)); done) (by repeat (first | exact Keeps.refl _ | apply Keeps.tail | apply Keeps.drop))) (Cut.head _ _) ?_
              intro g w hs
              replace hs := act_open hs
              refine ⟨_, rfl, a_put (by rfl) ?_⟩
              refine s_nil ?_
              refine hK35 _ _ ?_
              refine c_region ?_
              refine sVal (r_move rfl rfl) ?_
              refine s_enter (r_call rfl ent73 rfl) rfl ?_
              first
              | (refine stop_use (a := ((As.report ⟨c, rs0⟩ 79).tell (mkS 4 false noS))) _ (act_close g (((As.report ⟨c, rs0⟩ 79).tell (mkS 4 false noS))) hs (by (try simp only [As.more, mkS, noS, hc5, hc7, hc33, hc37, Bool.true_or, Bool.false_or, Bool.or_true, Bool.or_false, ↓reduceIte, or_true, true_or, or_false, false_or]); (repeat (first | apply Cut.pair | exact Cut.head _ _ | apply Cut.tail)); done) (by repeat (first | exact Keeps.refl _ | apply Keeps.tail | apply Keeps.drop))) (Cut.head _ _) ?_; intro g w hs; replace hs := act_open hs)
              | (refine stop_use (a := (((As.report ⟨c, rs0⟩ 79).quit).tell (mkS 3 true noS))) _ (act_close g ((((As.report ⟨c, rs0⟩ 79).quit).tell (mkS 3 true noS))) hs (by (try simp only [As.more, mkS, noS, hc5, hc7, hc33, hc37, Bool.true_or, Bool.false_or, Bool.or_true, Bool.or_false, ↓reduceIte, or_true, true_or, or_false, false_or]); (repeat (first | apply Cut.pair | exact Cut.head _ _ | apply Cut.tail)); done) (by repeat (first | exact Keeps.refl _ | apply Keeps.tail | apply Keeps.drop))) (Cut.head _ _) ?_; intro g w hs; replace hs := act_open hs)
              try skip
              refine ⟨_, rfl, a_put (by rfl) ?_⟩
              refine s_nil ?_
              refine f_end (rs := []) rfl .nil rfl ?_
              refine hk g _ (act_close g (c.expire) hs (by (try simp only [Cn.expire, As.more, mkS, noS, hc5, hc7, hc33, hc37, Bool.true_or, Bool.false_or, Bool.or_true, Bool.or_false, ↓reduceIte, or_true, true_or, or_false, false_or]); repeat (first | apply Cut.pair | exact Cut.head _ _ | apply Cut.tail)) (by repeat (first | exact Keeps.refl _ | apply Keeps.tail | apply Keeps.drop)))))
        case true =>
         replace hc33 := decT' hc33
         try dsimp only at hc33
         try simp only [cn_report, cn_quit, cn_tell] at hc33
         first
         | (exfalso; first | omega | (cases hc33; done))
         | (
           refine c_condT rfl ?_
           refine wp_seq_k (fun K39 hK39 => ?_)
           refine c_region ?_
           refine sVal (r_move rfl rfl) ?_
           refine sVal (r_nil rfl rfl) ?_
           refine sVal (r_field rfl rfl of121_0) ?_
           refine sVal (r_load rfl rfl (ag58 _) hs.own (by rfl)) ?_
           refine sVal (r_nil rfl rfl) ?_
           refine sVal (r_field rfl rfl of108_1) ?_
           refine sVal (r_field rfl rfl of80_3) ?_
           refine sVal (r_load rfl rfl (ag3 _) hs.own (by rfl)) ?_
           refine sVal (r_ari rfl rfl rfl rfl (by first | exact wrapI (by omega) | rfl)) ?_
           refine sVal (r_nil rfl rfl) ?_
           refine sVal (r_field rfl rfl of108_1) ?_
           refine sVal (r_field rfl rfl of80_3) ?_
           refine s_exS (r_store rfl rfl rfl hs (by (repeat (first | exact Cut.head _ _ | apply Cut.tail)); done) in3 sz3 rfl (by rfl)) rfl rfl ?_
           intro w hs
           refine s_nil ?_
           refine hK39 _ _ ?_
           refine wp_seq_k (fun K40 hK40 => ?_)
           refine c_region ?_
           refine sVal (r_move rfl rfl) ?_
           refine s_enter (r_call rfl ent75 rfl) rfl ?_
           refine again_use (a := (As.more ⟨c, rs0⟩)) (by show (⟨c, rs0⟩ : As).few ≤ _; rw [few0]; omega) (act_close g ((As.more ⟨c, rs0⟩)) hs (by (try simp only [As.more, mkS, noS, hc5, hc7, hc33, Bool.true_or, Bool.false_or, Bool.or_true, Bool.or_false, ↓reduceIte, or_true, true_or, or_false, false_or]); (repeat (first | apply Cut.pair | exact Cut.head _ _ | apply Cut.tail)); done) (by repeat (first | exact Keeps.refl _ | apply Keeps.tail | apply Keeps.drop))) (Cut.head _ _) ?_
           intro g w hs
           replace hs := act_open hs
           refine ⟨_, rfl, a_put (by rfl) ?_⟩
           refine s_nil ?_
           refine hK40 _ _ ?_
           refine wp_ret ?_
           refine f_ret (rs := []) rfl .nil rfl ?_
           refine hk g _ (act_close g (c.expire) hs (by (try simp only [Cn.expire, As.more, mkS, noS, hc5, hc7, hc33, Bool.true_or, Bool.false_or, Bool.or_true, Bool.or_false, ↓reduceIte, or_true, true_or, or_false, false_or]); repeat (first | apply Cut.pair | exact Cut.head _ _ | apply Cut.tail)) (by repeat (first | exact Keeps.refl _ | apply Keeps.tail | apply Keeps.drop))))))
  case true =>
   replace hc5 := eqT hc5
   try dsimp only at hc5
   try simp only [cn_report, cn_quit, cn_tell] at hc5
   first
   | (exfalso; first | omega | (cases hc5; done))
   | (
     refine c_condT rfl ?_
     refine wp_skip ?_
     refine hK3 _ _ ?_
     refine c_condT rfl ?_
     refine wp_skip ?_
     refine hK1 _ _ ?_
     refine wp_seq_k (fun K41 hK41 => ?_)
     refine wp_seq_k (fun K42 hK42 => ?_)
     replace hs := hs.drew
     refine d_start (by kernel_rfl) ?_
     refine d_pre [0, 1, 2, 8, 9, 10] (g := 11) (by kernel_rfl) (fun _ _ d _ _ h => by cases d <;> exact h) ?_
     refine pVal rfl (fun w => (r_move rfl rfl)) ?_
     refine pVal rfl (fun w => (r_nil rfl rfl)) ?_
     refine pVal rfl (fun w => (r_field rfl rfl of121_0)) ?_
     refine pVal rfl (fun w => (r_move rfl rfl)) ?_
     refine pVal rfl (fun w => (r_nil rfl rfl)) ?_
     refine pVal rfl (fun w => (r_field rfl rfl of121_0)) ?_
     refine p_nil ?_
     refine d_head 16 [(3, true), (4, true), (5, true), (6, true), (7, true), (11, true), (12, true), (13, true), (14, true), (15, true)] (Holds _ _) (g := 1) (by kernel_rfl) (fun _ _ d _ _ h => by cases d <;> exact h) (Holds.self hs) ?_
     refine hVal rfl (fun w hS => (r_load rfl rfl (ag58 _) hS.own (by rfl))) ?_
     refine hVal rfl (fun w hS => (r_nil rfl rfl)) ?_
     refine hVal rfl (fun w hS => (r_field rfl rfl of108_1)) ?_
     refine hVal rfl (fun w hS => (r_field rfl rfl of80_3)) ?_
     refine hVal rfl (fun w hS => (r_load rfl rfl (ag3 _) hS.own (by rfl))) ?_
     refine hVal rfl (fun w hS => (r_load rfl rfl (ag58 _) hS.own (by rfl))) ?_
     refine hVal rfl (fun w hS => (r_nil rfl rfl)) ?_
     refine hVal rfl (fun w hS => (r_field rfl rfl of108_0)) ?_
     refine hVal rfl (fun w hS => (r_field rfl rfl of63_0)) ?_
     refine hVal rfl (fun w hS => (r_load rfl rfl (ag3 _) hS.own (by rfl))) ?_
     refine h_nil ?_
     refine d_tail 16 (by kernel_rfl) ?_
     refine s_bool (r_cmp rfl rfl rfl rfl) rfl rfl (fun _ => by rfl) ?_
     intro c43 hc43
     refine s_nil ?_
     refine hK42 _ _ ?_
     cases c43
     case false =>
      replace hc43 := decF' hc43
      try dsimp only at hc43
      try simp only [cn_report, cn_quit, cn_tell] at hc43
      first
      | (exfalso; first | omega | (cases hc43; done))
      | (
        refine c_condF rfl ?_
        refine wp_skip ?_
        refine hK41 _ _ ?_
        refine wp_seq_k (fun K44 hK44 => ?_)
        refine c_region ?_
        refine sVal (r_move rfl rfl) ?_
        refine s_enter (r_call rfl ent62 rfl) rfl ?_
        refine report_use (a := (⟨c, rs0⟩ : As)) _ (by rw [few0]; omega) (act_close g ((⟨c, rs0⟩ : As)) hs (by (try simp only [As.more, mkS, noS, hc5, hc43, Bool.true_or, Bool.false_or, Bool.or_true, Bool.or_false, ↓reduceIte, or_true, true_or, or_false, false_or]); (repeat (first | apply Cut.pair | exact Cut.head _ _ | apply Cut.tail)); done) (by repeat (first | exact Keeps.refl _ | apply Keeps.tail | apply Keeps.drop))) (Cut.head _ _) ?_
        intro g w hs
        replace hs := act_open hs
        refine ⟨_, rfl, a_put (by rfl) ?_⟩
        refine s_nil ?_
        refine hK44 _ _ ?_
        refine wp_seq_k (fun K45 hK45 => ?_)
        refine wp_seq_k (fun K46 hK46 => ?_)
        refine c_region ?_
        refine sVal (r_move rfl rfl) ?_
        refine sVal (r_nil rfl rfl) ?_
        refine sVal (r_field rfl rfl of121_0) ?_
        refine sVal (r_load rfl rfl (ag58 _) hs.own (by rfl)) ?_
        refine sVal (r_nil rfl rfl) ?_
        refine sVal (r_field rfl rfl of108_1) ?_
        refine sVal (r_field rfl rfl of80_0) ?_
        refine sVal (r_load rfl rfl (ag3 _) hs.own (by rfl)) ?_
        refine s_bool (r_cmp rfl rfl rfl rfl) rfl rfl (fun _ => by rfl) ?_
        intro c47 hc47
        refine s_nil ?_
        refine hK46 _ _ ?_
        cases c47
        case false =>
         replace hc47 := eqF hc47
         try dsimp only at hc47
         try simp only [cn_report, cn_quit, cn_tell] at hc47
         first
         | (exfalso; first | omega | (cases hc47; done))
         | (
           refine c_condF rfl ?_
           refine wp_seq_k (fun K48 hK48 => ?_)
           refine c_region ?_
           refine sVal (r_move rfl rfl) ?_
           refine s_enter (r_call rfl ent71 rfl) rfl ?_
           refine quit_use (a := (As.report ⟨c, rs0⟩ 79)) (by rw [few_report, few0]; omega) (act_close g ((As.report ⟨c, rs0⟩ 79)) hs (by (try simp only [As.more, mkS, noS, hc5, hc43, hc47, Bool.true_or, Bool.false_or, Bool.or_true, Bool.or_false, ↓reduceIte, or_true, true_or, or_false, false_or]); (repeat (first | apply Cut.pair | exact Cut.head _ _ | apply Cut.tail)); done) (by repeat (first | exact Keeps.refl _ | apply Keeps.tail | apply Keeps.drop))) (Cut.head _ _) ?_
           intro g w hs
           replace hs := act_open hs
           refine ⟨_, rfl, a_put (by rfl) ?_⟩
           refine s_nil ?_
           refine hK48 _ _ ?_
           refine c_region ?_
           refine sVal (r_move rfl rfl) ?_
           refine sVal (r_build rfl rfl pl93 zr93 (by rfl)) ?_
           refine s_enter (r_call rfl ent72 rfl) rfl ?_
           refine tell_use (a := ((As.report ⟨c, rs0⟩ 79).quit)) _ _ _ _ _ (by rw [few_quit, few_report, few0]; omega) (act_close g (((As.report ⟨c, rs0⟩ 79).quit)) hs (by (try simp only [As.more, mkS, noS, hc5, hc43, hc47, Bool.true_or, Bool.false_or, Bool.or_true, Bool.or_false, ↓reduceIte, or_true, true_or, or_false, false_or]); (repeat (first | apply Cut.pair | exact Cut.head _ _ | apply Cut.tail)); done) (by repeat (first | exact Keeps.refl _ | apply Keeps.tail | apply Keeps.drop))) (Cut.head _ _) ?_
           intro g w hs
           replace hs := act_open hs
           refine ⟨_, rfl, a_put (by rfl) ?_⟩
           refine s_nil ?_
           refine hK45 _ _ ?_
           refine c_region ?_
           refine sVal (r_move rfl rfl) ?_
           refine s_enter (r_call rfl ent73 rfl) rfl ?_
           first
           | (refine stop_use (a := ((As.report ⟨c, rs0⟩ 79).tell (mkS 4 false noS))) _ (act_close g (((As.report ⟨c, rs0⟩ 79).tell (mkS 4 false noS))) hs (by (try simp only [As.more, mkS, noS, hc5, hc43, hc47, Bool.true_or, Bool.false_or, Bool.or_true, Bool.or_false, ↓reduceIte, or_true, true_or, or_false, false_or]); (repeat (first | apply Cut.pair | exact Cut.head _ _ | apply Cut.tail)); done) (by repeat (first | exact Keeps.refl _ | apply Keeps.tail | apply Keeps.drop))) (Cut.head _ _) ?_; intro g w hs; replace hs := act_open hs)
           | (refine stop_use (a := (((As.report ⟨c, rs0⟩ 79).quit).tell (mkS 3 true noS))) _ (act_close g ((((As.report ⟨c, rs0⟩ 79).quit).tell (mkS 3 true noS))) hs (by (try simp only [As.more, mkS, noS, hc5, hc43, hc47, Bool.true_or, Bool.false_or, Bool.or_true, Bool.or_false, ↓reduceIte, or_true, true_or, or_false, false_or]); (repeat (first | apply Cut.pair | exact Cut.head _ _ | apply Cut.tail)); done) (by repeat (first | exact Keeps.refl _ | apply Keeps.tail | apply Keeps.drop))) (Cut.head _ _) ?_; intro g w hs; replace hs := act_open hs)
           try skip
           refine ⟨_, rfl, a_put (by rfl) ?_⟩
           refine s_nil ?_
           refine f_end (rs := []) rfl .nil rfl ?_
           refine hk g _ (act_close g (c.expire) hs (by (try simp only [Cn.expire, As.more, mkS, noS, hc5, hc43, hc47, Bool.true_or, Bool.false_or, Bool.or_true, Bool.or_false, ↓reduceIte, or_true, true_or, or_false, false_or]); repeat (first | apply Cut.pair | exact Cut.head _ _ | apply Cut.tail)) (by repeat (first | exact Keeps.refl _ | apply Keeps.tail | apply Keeps.drop))))
        case true =>
         replace hc47 := eqT hc47
         try dsimp only at hc47
         try simp only [cn_report, cn_quit, cn_tell] at hc47
         first
         | (exfalso; first | omega | (cases hc47; done))
         | (
           refine c_condT rfl ?_
           refine c_region ?_
           refine sVal (r_move rfl rfl) ?_
           refine sVal (r_build rfl rfl pl93 zr93 (by rfl)) ?_
           refine s_enter (r_call rfl ent72 rfl) rfl ?_
           refine tell_use (a := (As.report ⟨c, rs0⟩ 79)) _ _ _ _ _ (by rw [few_report, few0]; omega) (act_close g ((As.report ⟨c, rs0⟩ 79)) hs (by (try simp only [As.more, mkS, noS, hc5, hc43, hc47, Bool.true_or, Bool.false_or, Bool.or_true, Bool.or_false, ↓reduceIte, or_true, true_or, or_false, false_or]); (repeat (first | apply Cut.pair | exact Cut.head _ _ | apply Cut.tail)); done) (by repeat (first | exact Keeps.refl _ | apply Keeps.tail | apply Keeps.drop))) (Cut.head _ _) ?_
           intro g w hs
           replace hs := act_open hs
           refine ⟨_, rfl, a_put (by rfl) ?_⟩
           refine s_nil ?_
           refine hK45 _ _ ?_
           refine c_region ?_
           refine sVal (r_move rfl rfl) ?_
           refine s_enter (r_call rfl ent73 rfl) rfl ?_
           first
           | (refine stop_use (a := ((As.report ⟨c, rs0⟩ 79).tell (mkS 4 false noS))) _ (act_close g (((As.report ⟨c, rs0⟩ 79).tell (mkS 4 false noS))) hs (by (try simp only [As.more, mkS, noS, hc5, hc43, hc47, Bool.true_or, Bool.false_or, Bool.or_true, Bool.or_false, ↓reduceIte, or_true, true_or, or_false, false_or]); (repeat (first | apply Cut.pair | exact Cut.head _ _ | apply Cut.tail)); done) (by repeat (first | exact Keeps.refl _ | apply Keeps.tail | apply Keeps.drop))) (Cut.head _ _) ?_; intro g w hs; replace hs := act_open hs)
           | (refine stop_use (a := (((As.report ⟨c, rs0⟩ 79).quit).tell (mkS 3 true noS))) _ (act_close g ((((As.report ⟨c, rs0⟩ 79).quit).tell (mkS 3 true noS))) hs (by (try simp only [As.more, mkS, noS, hc5, hc43, hc47, Bool.true_or, Bool.false_or, Bool.or_true, Bool.or_false, ↓reduceIte, or_true, true_or, or_false, false_or]); (repeat (first | apply Cut.pair | exact Cut.head _ _ | apply Cut.tail)); done) (by repeat (first | exact Keeps.refl _ | apply Keeps.tail | apply Keeps.drop))) (Cut.head _ _) ?_; intro g w hs; replace hs := act_open hs)
           try skip
           refine ⟨_, rfl, a_put (by rfl) ?_⟩
           refine s_nil ?_
           refine f_end (rs := []) rfl .nil rfl ?_
           refine hk g _ (act_close g (c.expire) hs (by (try simp only [Cn.expire, As.more, mkS, noS, hc5, hc43, hc47, Bool.true_or, Bool.false_or, Bool.or_true, Bool.or_false, ↓reduceIte, or_true, true_or, or_false, false_or]); repeat (first | apply Cut.pair | exact Cut.head _ _ | apply Cut.tail)) (by repeat (first | exact Keeps.refl _ | apply Keeps.tail | apply Keeps.drop)))))
     case true =>
      replace hc43 := decT' hc43
      try dsimp only at hc43
      try simp only [cn_report, cn_quit, cn_tell] at hc43
      first
      | (exfalso; first | omega | (cases hc43; done))
      | (
        refine c_condT rfl ?_
        refine wp_seq_k (fun K49 hK49 => ?_)
        refine c_region ?_
        refine sVal (r_move rfl rfl) ?_
        refine sVal (r_nil rfl rfl) ?_
        refine sVal (r_field rfl rfl of121_0) ?_
        refine sVal (r_load rfl rfl (ag58 _) hs.own (by rfl)) ?_
        refine sVal (r_nil rfl rfl) ?_
        refine sVal (r_field rfl rfl of108_1) ?_
        refine sVal (r_field rfl rfl of80_3) ?_
        refine sVal (r_load rfl rfl (ag3 _) hs.own (by rfl)) ?_
        refine sVal (r_ari rfl rfl rfl rfl (by first | exact wrapI (by omega) | rfl)) ?_
        refine sVal (r_nil rfl rfl) ?_
        refine sVal (r_field rfl rfl of108_1) ?_
        refine sVal (r_field rfl rfl of80_3) ?_
        refine s_exS (r_store rfl rfl rfl hs (by (repeat (first | exact Cut.head _ _ | apply Cut.tail)); done) in3 sz3 rfl (by rfl)) rfl rfl ?_
        intro w hs
        refine s_nil ?_
        refine hK49 _ _ ?_
        refine wp_seq_k (fun K50 hK50 => ?_)
        refine c_region ?_
        refine sVal (r_move rfl rfl) ?_
        refine s_enter (r_call rfl ent75 rfl) rfl ?_
        refine again_use (a := (As.more ⟨c, rs0⟩)) (by show (⟨c, rs0⟩ : As).few ≤ _; rw [few0]; omega) (act_close g ((As.more ⟨c, rs0⟩)) hs (by (try simp only [As.more, mkS, noS, hc5, hc43, Bool.true_or, Bool.false_or, Bool.or_true, Bool.or_false, ↓reduceIte, or_true, true_or, or_false, false_or]); (repeat (first | apply Cut.pair | exact Cut.head _ _ | apply Cut.tail)); done) (by repeat (first | exact Keeps.refl _ | apply Keeps.tail | apply Keeps.drop))) (Cut.head _ _) ?_
        intro g w hs
        replace hs := act_open hs
        refine ⟨_, rfl, a_put (by rfl) ?_⟩
        refine s_nil ?_
        refine hK50 _ _ ?_
        refine wp_ret ?_
        refine f_ret (rs := []) rfl .nil rfl ?_
        refine hk g _ (act_close g (c.expire) hs (by (try simp only [Cn.expire, As.more, mkS, noS, hc5, hc43, Bool.true_or, Bool.false_or, Bool.or_true, Bool.or_false, ↓reduceIte, or_true, true_or, or_false, false_or]); repeat (first | apply Cut.pair | exact Cut.head _ _ | apply Cut.tail)) (by repeat (first | exact Keeps.refl _ | apply Keeps.tail | apply Keeps.drop)))))
end
/-- A connection's numbers. -/
def vaC (c : Cn) : List Value := [.int .i64 c.state, .int .i64 c.sq, .int .i64 c.peer, .int .i64 c.cc, .int .u32 c.ms]
theorem vars_use (hs : Sat E H w) (cu : Cut H (own bc (.cells (cnC c).toArray 108 (0, 0))) R) (hk : ∀ w', Sat E (R * own bc (.cells (cnC c).toArray 108 (0, 0))) w' → Q (.returned (.agg (vaC c).toArray)) w') :
    Calls Try.prog 36 #[.pointer (some ⟨bc, 0, none⟩)] w Q := by
  replace hs := hs.cut cu
  refine f_enter Try.func36 rfl rfl ?_
  show Code.wp _ _ _ (Fr _) _
  refine wp_seq_k (fun K1 hK1 => ?_)
  refine c_region ?_
  refine s_ex (r_alloc rfl zr80 hs) rfl rfl (fun _ => by rfl) ?_
  intro b2 w hs
  refine s_nil ?_
  refine hK1 _ _ ?_
  refine wp_seq_k (fun K3 hK3 => ?_)
  refine c_region ?_
  refine sVal (r_move rfl rfl) ?_
  refine sVal (r_nil rfl rfl) ?_
  refine sVal (r_field rfl rfl of108_1) ?_
  refine sVal (r_loadA rfl rfl (ag80 _) hs.own in80 sz80 (by rfl)) ?_
  refine s_exS (r_storeA rfl rfl rfl hs (by (repeat (first | exact Cut.head _ _ | apply Cut.tail)); done) in80 sz80 rfl (fun h => by cases h) rfl (by rfl)) rfl rfl ?_
  intro w hs
  refine s_nil ?_
  refine hK3 _ _ ?_
  refine wp_ret ?_
  refine f_ret (rs := [.cell 2 80]) rfl (.cell rfl (run_loadL hs.own (ag80 _) in80 sz80 (by rfl)) .nil) rfl ?_
  exact hk _ (hs.drop)
theorem clone_use (hs : Sat E H w) (cu : Cut H (own bc (.cells (cnC c).toArray 108 (0, 0))) R) (hk : ∀ b w', Sat E (R * own bc (.cells (cnC c).toArray 108 (0, 0)) * own b (.cells (cnC c).toArray 108 (0, 0))) w' → Q (.returned (.pointer (some ⟨b, 0, none⟩))) w') :
    Calls Try.prog 100 #[.pointer (some ⟨bc, 0, none⟩)] w Q := by
  replace hs := hs.cut cu
  refine f_enter Try.func100 rfl rfl ?_
  show Code.wp _ _ _ (Fr _) _
  refine wp_seq_k (fun K1 hK1 => ?_)
  refine c_region ?_
  refine sVal (r_assign rfl rfl) ?_
  refine s_nil ?_
  refine hK1 _ _ ?_
  refine wp_seq_k (fun K2 hK2 => ?_)
  refine c_region ?_
  refine sVal (r_move rfl rfl) ?_
  refine sVal (r_nil rfl rfl) ?_
  refine sVal (r_loadA rfl rfl (ag108 _) hs.own in108 sz108 (by rfl)) ?_
  refine s_ex (r_alloc rfl zr108 hs) rfl rfl (fun _ => by rfl) ?_
  intro b3 w hs
  refine s_exS (r_storeA rfl rfl rfl hs (by (repeat (first | exact Cut.head _ _ | apply Cut.tail)); done) in108 sz108 rfl (fun h => by cases h) rfl (by rfl)) rfl rfl ?_
  intro w hs
  refine s_nil ?_
  refine hK2 _ _ ?_
  refine wp_seq_k (fun K4 hK4 => ?_)
  refine c_region ?_
  refine sVal (r_assign rfl rfl) ?_
  refine s_nil ?_
  refine hK4 _ _ ?_
  refine wp_ret ?_
  refine f_ret (rs := [.tmp 2]) rfl (.tmp rfl .nil) rfl ?_
  exact hk _ _ hs
theorem fail_use (code : Int) (hv : CnOk c) (hs : Sat E H w) (cu : Cut H (own bc (.cells (cnC c).toArray 108 (0, 0))) R) (hk : ∀ g w', Sat E (R * restP bc g (c.fail code)) w' → Q (.returned (.agg (rsC g (c.fail code).r).toArray)) w') :
    Calls Try.prog 33 #[.pointer (some ⟨bc, 0, none⟩), .int .u8 code] w Q := by
  replace hs := hs.cut cu
  refine f_enter Try.func33 rfl rfl ?_
  show Code.wp _ _ _ (Fr _) _
  refine wp_seq_k (fun K1 hK1 => ?_)
  refine c_region ?_
  refine s_ex (r_box rfl rfl rfl hs) rfl rfl (fun _ => by rfl) ?_
  intro bx w hs
  refine s_ex (r_alloc rfl zr74 hs) rfl rfl (fun _ => by rfl) ?_
  intro b2 w hs
  refine s_nil ?_
  refine hK1 _ _ ?_
  refine wp_seq_k (fun K3 hK3 => ?_)
  refine wp_seq_k (fun K4 hK4 => ?_)
  refine c_region ?_
  refine sVal (r_move rfl rfl) ?_
  refine sVal (r_nil rfl rfl) ?_
  refine sVal (r_field rfl rfl of108_1) ?_
  refine sVal (r_field rfl rfl of80_0) ?_
  refine sVal (r_load rfl rfl (ag3 _) hs.own (by rfl)) ?_
  refine s_bool (r_cmp rfl rfl rfl rfl) rfl rfl (fun _ => by rfl) ?_
  intro c5 hc5
  refine s_nil ?_
  refine hK4 _ _ ?_
  cases c5
  case false =>
   replace hc5 := neF hc5
   try dsimp only at hc5
   first
   | (exfalso; first | omega | (cases hc5; done))
   | (
     refine c_condF rfl ?_
     refine wp_skip ?_
     refine hK3 _ _ ?_
     refine wp_seq_k (fun K6 hK6 => ?_)
     refine c_region ?_
     refine sVal (r_move rfl rfl) ?_
     refine sVal (r_makeFunc rfl rfl) ?_
     refine s_enter (r_call rfl ent60 rfl) rfl ?_
     refine done_use (c := c) (a1 := ((As.report ⟨c, rs0⟩ code).begin 7 noS)) ent61 hs (by (repeat (first | exact Cut.head _ _ | apply Cut.tail)); done) (cp := own bx _) (by (repeat (first | exact Cut.head _ _ | apply Cut.tail)); done) (fun hs hk => failC_use bx code hv hs hk) ?_
     intro g w hs
     refine ⟨_, rfl, a_put (by rfl) ?_⟩
     refine s_exS (r_storeA rfl rfl rfl hs (by (repeat (first | exact Cut.head _ _ | apply Cut.tail)); done) in74 sz74 rfl (fun h => by cases h) rfl (by rfl)) rfl rfl ?_
     intro w hs
     refine s_nil ?_
     refine hK6 _ _ ?_
     refine wp_ret ?_
     refine f_ret (rs := [.cell 4 74]) rfl (.cell rfl (run_loadL hs.own (ag74 _) in74 sz74 (by rfl)) .nil) rfl ?_
     first | (have e : c.fail code = ⟨c, rs0⟩ := if_neg hc5; rw [e] at hk; exact hk g0 _ (rest_zero hs (by (repeat (first | exact Cut.head _ _ | apply Cut.tail)); done) (by repeat (first | exact Keeps.refl _ | apply Keeps.tail | apply Keeps.drop)))) | (have e : c.fail code = ((As.report ⟨c, rs0⟩ code).begin 7 noS) := if_pos hc5; rw [e] at hk; exact hk g _ (fin1 hs (by (repeat (first | exact Cut.head _ _ | apply Cut.tail)); done) (by repeat (first | exact Keeps.refl _ | apply Keeps.tail | apply Keeps.drop)))))
  case true =>
   replace hc5 := neT hc5
   try dsimp only at hc5
   first
   | (exfalso; first | omega | (cases hc5; done))
   | (
     refine c_condT rfl ?_
     refine wp_seq_k (fun K7 hK7 => ?_)
     refine c_region ?_
     refine sVal (r_build rfl rfl pl74 zr74 (by rfl)) ?_
     refine s_exS (r_storeA rfl rfl rfl hs (by (repeat (first | exact Cut.head _ _ | apply Cut.tail)); done) in74 sz74 rfl (fun h => by cases h) rfl (by rfl)) rfl rfl ?_
     intro w hs
     refine s_nil ?_
     refine hK7 _ _ ?_
     refine wp_ret ?_
     refine f_ret (rs := [.cell 4 74]) rfl (.cell rfl (run_loadL hs.own (ag74 _) in74 sz74 (by rfl)) .nil) rfl ?_
     first | (have e : c.fail code = ⟨c, rs0⟩ := if_neg hc5; rw [e] at hk; exact hk g0 _ (rest_zero hs (by (repeat (first | exact Cut.head _ _ | apply Cut.tail)); done) (by repeat (first | exact Keeps.refl _ | apply Keeps.tail | apply Keeps.drop)))) | (have e : c.fail code = ((As.report ⟨c, rs0⟩ code).begin 7 noS) := if_pos hc5; rw [e] at hk; exact hk g _ (fin1 hs (by (repeat (first | exact Cut.head _ _ | apply Cut.tail)); done) (by repeat (first | exact Keeps.refl _ | apply Keeps.tail | apply Keeps.drop)))))
theorem silent_use (hs : Sat E H w) (cu : Cut H (own bc (.cells (cnC c).toArray 108 (0, 0))) R) (hk : ∀ g w', Sat E (R * restP bc g c.silent) w' → Q (.returned (.agg (rsC g c.silent.r).toArray)) w') :
    Calls Try.prog 41 #[.pointer (some ⟨bc, 0, none⟩)] w Q := by
  replace hs := hs.cut cu
  refine f_enter Try.func41 rfl rfl ?_
  show Code.wp _ _ _ (Fr _) _
  refine wp_seq_k (fun K1 hK1 => ?_)
  refine c_region ?_
  refine s_ex (r_alloc rfl zr74 hs) rfl rfl (fun _ => by rfl) ?_
  intro b2 w hs
  refine s_nil ?_
  refine hK1 _ _ ?_
  refine wp_seq_k (fun K3 hK3 => ?_)
  refine wp_seq_k (fun K4 hK4 => ?_)
  refine c_region ?_
  refine sVal (r_move rfl rfl) ?_
  refine sVal (r_nil rfl rfl) ?_
  refine sVal (r_field rfl rfl of108_1) ?_
  refine sVal (r_field rfl rfl of80_0) ?_
  refine sVal (r_load rfl rfl (ag3 _) hs.own (by rfl)) ?_
  refine s_bool (r_cmp rfl rfl rfl rfl) rfl rfl (fun _ => by rfl) ?_
  intro c5 hc5
  refine s_nil ?_
  refine hK4 _ _ ?_
  cases c5
  case false =>
   replace hc5 := neF hc5
   try dsimp only at hc5
   first
   | (exfalso; first | omega | (cases hc5; done))
   | (
     refine c_condF rfl ?_
     refine wp_skip ?_
     refine hK3 _ _ ?_
     refine wp_seq_k (fun K6 hK6 => ?_)
     refine c_region ?_
     refine sVal (r_move rfl rfl) ?_
     refine s_enter (r_call rfl ent60 rfl) rfl ?_
     refine done_use (cap := []) (c := c) (a1 := ((((As.report ⟨c, rs0⟩ 80).quit).tell (mkS 3 true noS)).to 1)) ent78 hs (by (repeat (first | exact Cut.head _ _ | apply Cut.tail)); done) (Cut.nothing _) (fun hs hk => silentC_use (hs.eq (by rw [star_emp])) (fun g w hs => hk g w (hs.eq (by rw [star_emp])))) ?_
     intro g w hs
     rw [star_emp] at hs
     refine ⟨_, rfl, a_put (by rfl) ?_⟩
     refine s_exS (r_storeA rfl rfl rfl hs (by (repeat (first | exact Cut.head _ _ | apply Cut.tail)); done) in74 sz74 rfl (fun h => by cases h) rfl (by rfl)) rfl rfl ?_
     intro w hs
     refine s_nil ?_
     refine hK6 _ _ ?_
     refine wp_ret ?_
     refine f_ret (rs := [.cell 2 74]) rfl (.cell rfl (run_loadL hs.own (ag74 _) in74 sz74 (by rfl)) .nil) rfl ?_
     first | (have e : c.silent = ⟨c, rs0⟩ := if_neg hc5; rw [e] at hk; exact hk g0 _ (rest_zero hs (by (repeat (first | exact Cut.head _ _ | apply Cut.tail)); done) (by repeat (first | exact Keeps.refl _ | apply Keeps.tail | apply Keeps.drop)))) | (have e : c.silent = ((((As.report ⟨c, rs0⟩ 80).quit).tell (mkS 3 true noS)).to 1) := if_pos hc5; rw [e] at hk; exact hk g _ (fin1 hs (by (repeat (first | exact Cut.head _ _ | apply Cut.tail)); done) (by repeat (first | exact Keeps.refl _ | apply Keeps.tail | apply Keeps.drop)))))
  case true =>
   replace hc5 := neT hc5
   try dsimp only at hc5
   first
   | (exfalso; first | omega | (cases hc5; done))
   | (
     refine c_condT rfl ?_
     refine wp_seq_k (fun K7 hK7 => ?_)
     refine c_region ?_
     refine sVal (r_build rfl rfl pl74 zr74 (by rfl)) ?_
     refine s_exS (r_storeA rfl rfl rfl hs (by (repeat (first | exact Cut.head _ _ | apply Cut.tail)); done) in74 sz74 rfl (fun h => by cases h) rfl (by rfl)) rfl rfl ?_
     intro w hs
     refine s_nil ?_
     refine hK7 _ _ ?_
     refine wp_ret ?_
     refine f_ret (rs := [.cell 2 74]) rfl (.cell rfl (run_loadL hs.own (ag74 _) in74 sz74 (by rfl)) .nil) rfl ?_
     first | (have e : c.silent = ⟨c, rs0⟩ := if_neg hc5; rw [e] at hk; exact hk g0 _ (rest_zero hs (by (repeat (first | exact Cut.head _ _ | apply Cut.tail)); done) (by repeat (first | exact Keeps.refl _ | apply Keeps.tail | apply Keeps.drop)))) | (have e : c.silent = ((((As.report ⟨c, rs0⟩ 80).quit).tell (mkS 3 true noS)).to 1) := if_pos hc5; rw [e] at hk; exact hk g _ (fin1 hs (by (repeat (first | exact Cut.head _ _ | apply Cut.tail)); done) (by repeat (first | exact Keeps.refl _ | apply Keeps.tail | apply Keeps.drop)))))
theorem expire_use (hv : CnOk c) (hs : Sat E H w) (cu : Cut H (own bc (.cells (cnC c).toArray 108 (0, 0))) R) (hk : ∀ g w', Sat E (R * restP bc g c.expire) w' → Q (.returned (.agg (rsC g c.expire.r).toArray)) w') :
    Calls Try.prog 39 #[.pointer (some ⟨bc, 0, none⟩)] w Q := by
  replace hs := hs.cut cu
  refine f_enter Try.func39 rfl rfl ?_
  show Code.wp _ _ _ (Fr _) _
  refine wp_seq_k (fun K1 hK1 => ?_)
  refine c_region ?_
  refine s_ex (r_alloc rfl zr74 hs) rfl rfl (fun _ => by rfl) ?_
  intro b2 w hs
  refine s_nil ?_
  refine hK1 _ _ ?_
  refine wp_seq_k (fun K3 hK3 => ?_)
  refine c_region ?_
  refine sVal (r_move rfl rfl) ?_
  refine s_enter (r_call rfl ent60 rfl) rfl ?_
  refine done_use (cap := []) (c := c) (a1 := c.expire) ent74 hs (by (repeat (first | exact Cut.head _ _ | apply Cut.tail)); done) (Cut.nothing _) (fun hs hk => expireC_use hv (hs.eq (by rw [star_emp])) (fun g w hs => hk g w (hs.eq (by rw [star_emp])))) ?_
  intro g w hs
  rw [star_emp] at hs
  refine ⟨_, rfl, a_put (by rfl) ?_⟩
  refine s_exS (r_storeA rfl rfl rfl hs (by (repeat (first | exact Cut.head _ _ | apply Cut.tail)); done) in74 sz74 rfl (fun h => by cases h) rfl (by rfl)) rfl rfl ?_
  intro w hs
  refine s_nil ?_
  refine hK3 _ _ ?_
  refine wp_ret ?_
  refine f_ret (rs := [.cell 2 74]) rfl (.cell rfl (run_loadL hs.own (ag74 _) in74 sz74 (by rfl)) .nil) rfl ?_
  exact hk g _ (fin1 hs (by (repeat (first | exact Cut.head _ _ | apply Cut.tail)); done) (by repeat (first | exact Keeps.refl _ | apply Keeps.tail | apply Keeps.drop)))
end
end Go.Proofs.Ytoeaamohchpjdaa
