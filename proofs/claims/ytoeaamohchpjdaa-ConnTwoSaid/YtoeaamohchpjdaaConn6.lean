/-
  A connection's calls: New, Receive, Request.
-/
import Derived.Test.YtoeaamohchpjdaaConn5
namespace Go.Proofs.Ytoeaamohchpjdaa
open Go Go.RowKit
set_option linter.unusedVariables false
set_option linter.unusedSimpArgs false
set_option maxRecDepth 100000
attribute [local irreducible] restP own fix oL rL osl rsl fact some' wpList wpHi wpPre wpAny After AfterH

/-- The lowest n bits of a number of 32 bits. -/
theorem mask_u32 (x : Int) (n : Nat) (hn : n ≤ 31) : bits .and .u32 x ((2 ^ n - 1 : Nat) : Int) = x % ((2 ^ n : Nat) : Int) := by
  have hp : 2 ^ n ≤ 2 ^ 31 := Nat.pow_le_pow_right (by decide) hn
  have h2 : 0 < 2 ^ n := Nat.two_pow_pos n
  have hb : (BitVec.ofInt 32 ((2 ^ n - 1 : Nat) : Int)).toNat = 2 ^ n - 1 := by
    rw [BitVec.toNat_ofInt]
    omega
  have ha : ((BitVec.ofInt 32 x).toNat : Int) = x % (2 ^ 32 : Nat) := by
    rw [BitVec.toNat_ofInt]
    have : 0 ≤ x % ((2 ^ 32 : Nat) : Int) := Int.emod_nonneg _ (by decide)
    omega
  have e : bits .and .u32 x ((2 ^ n - 1 : Nat) : Int) = IntKind.u32.wrap (((BitVec.ofInt 32 x) &&& (BitVec.ofInt 32 ((2 ^ n - 1 : Nat) : Int))).toNat : Int) := rfl
  rw [e, BitVec.toNat_and, hb, Nat.and_two_pow_sub_one_eq_mod]
  have hd : ((BitVec.ofInt 32 x).toNat % 2 ^ n : Nat) = (x % ((2 ^ n : Nat) : Int)) := by
    rw [Int.natCast_emod, ha]
    refine Int.emod_emod_of_dvd _ ?_
    exact Int.natCast_dvd_natCast.2 (Nat.pow_dvd_pow 2 (by omega))
  have hlt : x % ((2 ^ n : Nat) : Int) < ((2 ^ n : Nat) : Int) := Int.emod_lt_of_pos _ (by omega)
  have hge : 0 ≤ x % ((2 ^ n : Nat) : Int) := Int.emod_nonneg _ (by omega)
  rw [hd]
  show (x % ((2 ^ n : Nat) : Int)) % 2 ^ 32 = _
  omega
theorem mask24 (x : Int) : bits .and .u32 x 16777215 = x % 16777216 := mask_u32 x 24 (by decide)

/-- A connection just made. -/
def Cn.new (most credit : Int) : Cn := ⟨max 1 (min most 16), credit % 16777216, 1, 0, -1, 0, credit % 16777216, noS⟩
/-- What a unit brings. -/
def Cn.receive (c : Cn) (p : Un) : As :=
  if tableM c.state p.kind = 1 then As.handle ⟨c, rs0⟩ p
  else if tableM c.state p.kind = 2 then As.report ⟨c, rs0⟩ (letterN p.kind)
  else if tableM c.state p.kind = 3 then (As.report ⟨c, rs0⟩ (letterN p.kind)).quit
  else if tableM c.state p.kind = 4 then ((As.report ⟨c, rs0⟩ (letterN p.kind)).tell (mkS 3 true noS)).stop 1
  else ⟨c, rs0⟩
/-- What a request brings; the error's number. -/
def Cn.reqErr (c : Cn) (k : Int) (d : ByteArray) : Int :=
  if k < 1 ∨ 6 < k then 10 else if 64 < (d.size : Int) ∧ (k = 1 ∨ k = 3 ∨ k = 4) then 6 else if ¬ requestsM c.state k = 1 then 8 else 0
def Cn.request (c : Cn) (k : Int) (d : ByteArray) : As := if c.reqErr k d = 0 then As.ask ⟨c, rs0⟩ k d else ⟨c, rs0⟩

section
variable {E : World} {H R R1 cp : HP} {w : World} {Q : Ending → World → Prop} {bc : Nat} {c : Cn}
theorem of_use (s k : Int) (hw1 : 1 ≤ s ∧ s ≤ 10) (hw2 : 1 ≤ k ∧ k ≤ 15) (hs : Sat E H w) (hk : ∀ w', Sat E H w' → Q (.returned (.int .i64 (tableM s k))) w') : Calls Try.prog 68 #[.int .i64 s, .int .i64 k] w Q :=
  (of_spec s k (WalkArith.wf_i64 (by omega)) (WalkArith.wf_i64 (by omega))).use hs (Cut.nothing _) (fun w hs => hk w (hs.eq (star_emp _)))
theorem may_use (s k : Int) (hw1 : 1 ≤ s ∧ s ≤ 10) (hw2 : 1 ≤ k ∧ k ≤ 15) (hs : Sat E H w) (hk : ∀ w', Sat E H w' → Q (.returned (.bool (requestsM s k == 1))) w') : Calls Try.prog 64 #[.int .i64 s, .int .i64 k] w Q :=
  (may_spec s k (WalkArith.wf_i64 (by omega)) (WalkArith.wf_i64 (by omega))).use hs (Cut.nothing _) (fun w hs => hk w (hs.eq (star_emp _)))
theorem letter_use (k : Int) (hw2 : 1 ≤ k ∧ k ≤ 15) (hs : Sat E H w) (hk : ∀ w', Sat E H w' → Q (.returned (.int .u8 (letterN k))) w') : Calls Try.prog 70 #[.int .i64 k] w Q :=
  (letter_spec k (WalkArith.wf_i64 (by omega))).use hs (Cut.nothing _) (fun w hs => hk w (hs.eq (star_emp _)))
theorem low_use (x : Int) (hs : Sat E H w) (hk : ∀ w', Sat E H w' → Q (.returned (.int .u32 (x % 16777216))) w') : Calls Try.prog 59 #[.int .u32 x] w Q := by
  refine f_enter Try.func59 rfl rfl ?_
  show Code.wp _ _ _ (Fr _) _
  refine wp_seq_k (fun K1 hK1 => ?_)
  refine c_region ?_
  refine sVal (r_assign rfl rfl) ?_
  refine s_nil ?_
  refine hK1 _ _ ?_
  refine wp_seq_k (fun K2 hK2 => ?_)
  refine c_region ?_
  refine sVal (r_move rfl rfl) ?_
  refine sVal (r_bits rfl (by simp) rfl rfl (mask24 _)) ?_
  refine sVal (r_assign rfl rfl) ?_
  refine s_nil ?_
  refine hK2 _ _ ?_
  refine wp_ret ?_
  refine f_ret (rs := [.tmp 2]) rfl (.tmp rfl .nil) rfl ?_
  exact hk _ hs
theorem new_use (most credit : Int) (hs : Sat E H w) (hk : ∀ b w', Sat E (H * own b (.cells (cnC (Cn.new most credit)).toArray 108 (0, 0))) w' → Q (.returned (.pointer (some ⟨b, 0, none⟩))) w') :
    Calls Try.prog 31 #[.agg #[.int .i64 most, .int .u32 credit]] w Q := by
  refine f_enter Try.func31 rfl rfl ?_
  show Code.wp _ _ _ (Fr _) _
  refine wp_seq_k (fun K1 hK1 => ?_)
  refine c_region ?_
  refine s_ex (r_box rfl rfl rfl hs) rfl rfl (fun _ => by rfl) ?_
  intro b2 w hs
  refine sVal (r_assign rfl rfl) ?_
  refine s_nil ?_
  refine hK1 _ _ ?_
  refine wp_seq_k (fun K3 hK3 => ?_)
  replace hs := hs.drew
  refine d_start (by kernel_rfl) ?_
  refine d_pre [0, 4] (g := 9) (by kernel_rfl) (fun _ _ d _ _ h => by cases d <;> exact h) ?_
  refine pVal rfl (fun w => (r_field rfl rfl of63_0)) ?_
  refine pVal rfl (fun w => (r_field rfl rfl of63_1)) ?_
  refine p_nil ?_
  refine d_head 8 [(1, true), (2, true), (3, true), (5, true), (7, true), (6, false)] (Holds _ _) (g := 3) (by kernel_rfl) (fun _ _ d _ _ h => by cases d <;> exact h) (Holds.self hs) ?_
  refine hVal rfl (fun w hS => (r_load rfl rfl (ag3 _) hS.own (by rfl))) ?_
  refine hVal rfl (fun w hS => (r_min rfl rfl rfl)) ?_
  refine hVal rfl (fun w hS => (r_max rfl rfl rfl)) ?_
  refine hVal rfl (fun w hS => (r_load rfl rfl (ag61 _) hS.own (by rfl))) ?_
  refine hVal rfl (fun w hS => (r_field rfl rfl of63_0)) ?_
  refine h_enter rfl (r_call rfl ent59 rfl) rfl ?_
  refine low_use _ hs ?_
  intro w hs
  refine ⟨_, rfl, ah_put (Holds.mono (Holds.self hs) (by repeat (first | exact Keeps.refl _ | apply Keeps.tail | apply Keeps.drop))) (by rfl) ?_⟩
  refine h_nil ?_
  refine d_tail 8 (by kernel_rfl) ?_
  refine s_exS (r_store rfl rfl rfl hs (by (repeat (first | exact Cut.head _ _ | apply Cut.tail)); done) in3 sz3 rfl (by rfl)) rfl rfl ?_
  intro w hs
  refine sVal (r_field rfl rfl of63_1) ?_
  refine s_exS (r_store rfl rfl rfl hs (by (repeat (first | exact Cut.head _ _ | apply Cut.tail)); done) in61 sz61 rfl (by rfl)) rfl rfl ?_
  intro w hs
  refine s_nil ?_
  refine hK3 _ _ ?_
  refine wp_seq_k (fun K4 hK4 => ?_)
  refine c_region ?_
  refine sVal (r_loadA rfl rfl (ag63 _) hs.own in63 sz63 (by rfl)) ?_
  refine sVal (r_field rfl rfl of63_1) ?_
  refine sVal (r_load rfl rfl (ag61 _) hs.own (by rfl)) ?_
  refine sVal (r_build rfl rfl pl80 zr80 (by rfl)) ?_
  refine sVal (r_build rfl rfl pl108 zr108 (by rfl)) ?_
  refine s_ex (r_box rfl rfl rfl hs) rfl rfl (fun _ => by rfl) ?_
  intro bn w hs
  refine sVal (r_assign rfl rfl) ?_
  refine s_nil ?_
  refine hK4 _ _ ?_
  refine wp_ret ?_
  refine f_ret (rs := [.tmp 2]) rfl (.tmp rfl .nil) rfl ?_
  exact hk bn _ (fin1 hs (by (repeat (first | exact Cut.head _ _ | apply Cut.tail)); done) (by repeat (first | exact Keeps.refl _ | apply Keeps.tail | apply Keeps.drop)))

section
variable {ba : Nat} {g : Gh}
theorem receiveC_use (bx bp : Nat) (k sq n ps mr : Int) (self : Bool) (d : ByteArray) (hv : CnOk c) (hk15 : 1 ≤ k ∧ k ≤ 15)
    (hs : Sat E (R * (own bx (.cells [.pointer (some ⟨bc, 0, none⟩)].toArray 58 (0, 0)) * own bp (.cells (unC ⟨k, sq, n, ps, mr, self, d⟩).toArray 85 (0, 0))) * actP ba bc g ⟨c, rs0⟩) w)
    (hk : ∀ g' w', Sat E (R * (own bx (.cells [.pointer (some ⟨bc, 0, none⟩)].toArray 58 (0, 0)) * own bp (.cells (unC ⟨k, sq, n, ps, mr, self, d⟩).toArray 85 (0, 0))) * actP ba bc g' (c.receive ⟨k, sq, n, ps, mr, self, d⟩)) w' → Q (.returned (.tuple #[])) w') :
    Calls Try.prog 67 (.pointer (some ⟨ba, 0, none⟩) :: [.pointer (some ⟨bx, 0, none⟩), .pointer (some ⟨bp, 0, none⟩)]).toArray w Q := by
  replace hs := act_open hs
  rw [← star_assoc] at hs
  replace hk : ∀ g' w', Sat E (R * own bx (.cells [.pointer (some ⟨bc, 0, none⟩)].toArray 58 (0, 0)) * own bp (.cells (unC ⟨k, sq, n, ps, mr, self, d⟩).toArray 85 (0, 0)) * actP ba bc g' (c.receive ⟨k, sq, n, ps, mr, self, d⟩)) w' → Q (.returned (.tuple #[])) w' := fun g' w' h => hk g' w' (h.eq (by rw [star_assoc R]))
  have hst := hv.st
  refine f_enter Try.func67 rfl rfl ?_
  show Code.wp _ _ _ (Fr _) _
  refine wp_seq_k (fun K1 hK1 => ?_)
  replace hs := hs.drew
  refine d_start (by kernel_rfl) ?_
  refine d_pre [5] (g := 8) (by kernel_rfl) (fun _ _ d _ _ h => by cases d <;> exact h) ?_
  refine pVal rfl (fun w => (r_field rfl rfl of85_0)) ?_
  refine p_nil ?_
  refine d_head 7 [(0, true), (1, true), (2, true), (3, true), (4, true), (6, true)] (Holds _ _) (g := 2) (by kernel_rfl) (fun _ _ d _ _ h => by cases d <;> exact h) (Holds.self hs) ?_
  refine hVal rfl (fun w hS => (r_load rfl rfl (ag58 _) hS.own (by rfl))) ?_
  refine hVal rfl (fun w hS => (r_nil rfl rfl)) ?_
  refine hVal rfl (fun w hS => (r_field rfl rfl of108_1)) ?_
  refine hVal rfl (fun w hS => (r_field rfl rfl of80_0)) ?_
  refine hVal rfl (fun w hS => (r_load rfl rfl (ag3 _) hS.own (by rfl))) ?_
  refine hVal rfl (fun w hS => (r_load rfl rfl (ag3 _) hS.own (by rfl))) ?_
  refine h_nil ?_
  refine d_tail 7 (by kernel_rfl) ?_
  refine s_enter (r_call rfl ent68 rfl) rfl ?_
  refine of_use _ _ hst hk15 hs ?_
  intro w hs
  refine ⟨_, rfl, a_put (by rfl) ?_⟩
  refine sVal (r_assign rfl rfl) ?_
  refine s_nil ?_
  refine hK1 _ _ ?_
  refine wp_seq_k (fun K2 hK2 => ?_)
  refine c_region ?_
  refine sVal (r_move rfl rfl) ?_
  refine s_nil ?_
  refine hK2 _ _ ?_
  refine wp_block ?_
  refine wp_seq_k (fun K3 hK3 => ?_)
  refine c_region ?_
  refine s_bool (r_cmp rfl rfl rfl rfl) rfl rfl (fun _ => by rfl) ?_
  intro c4 hc4
  refine sVal (r_assign rfl rfl) ?_
  refine s_nil ?_
  refine hK3 _ _ ?_
  cases c4
  case false =>
   replace hc4 := eqF hc4
   try dsimp only at hc4
   try simp only [cn_report, cn_quit, cn_tell] at hc4
   first
   | (exfalso; first | omega | (cases hc4; done))
   | (
     refine c_condF rfl ?_
     refine wp_seq_k (fun K5 hK5 => ?_)
     refine wp_seq_k (fun K6 hK6 => ?_)
     refine c_region ?_
     refine s_bool (r_cmp rfl rfl rfl rfl) rfl rfl (fun _ => by rfl) ?_
     intro c7 hc7
     refine sVal (r_assign rfl rfl) ?_
     refine s_nil ?_
     refine hK6 _ _ ?_
     cases c7
     case false =>
      replace hc7 := eqF hc7
      try dsimp only at hc7
      try simp only [cn_report, cn_quit, cn_tell] at hc7
      first
      | (exfalso; first | omega | (cases hc7; done))
      | (
        refine c_condF rfl ?_
        refine c_region ?_
        refine s_bool (r_cmp rfl rfl rfl rfl) rfl rfl (fun _ => by rfl) ?_
        intro c8 hc8
        refine sVal (r_assign rfl rfl) ?_
        refine s_nil ?_
        refine hK5 _ _ ?_
        cases c8
        case false =>
         replace hc8 := eqF hc8
         try dsimp only at hc8
         try simp only [cn_report, cn_quit, cn_tell] at hc8
         first
         | (exfalso; first | omega | (cases hc8; done))
         | (
           refine c_condF rfl ?_
           refine wp_seq_k (fun K9 hK9 => ?_)
           refine c_region ?_
           refine s_bool (r_cmp rfl rfl rfl rfl) rfl rfl (fun _ => by rfl) ?_
           intro c10 hc10
           refine sVal (r_assign rfl rfl) ?_
           refine s_nil ?_
           refine hK9 _ _ ?_
           cases c10
           case false =>
            replace hc10 := eqF hc10
            try dsimp only at hc10
            try simp only [cn_report, cn_quit, cn_tell] at hc10
            first
            | (exfalso; first | omega | (cases hc10; done))
            | (
              refine c_condF rfl ?_
              refine wp_skip ?_
              refine f_end (rs := []) rfl .nil rfl ?_
              refine hk g _ (act_close g ((c.receive ⟨k, sq, n, ps, mr, self, d⟩)) hs (by (try simp only [Cn.receive, mkS, noS, hc4, hc7, hc8, hc10, Bool.true_or, Bool.false_or, Bool.or_true, Bool.or_false, ↓reduceIte, or_true, true_or, or_false, false_or]); repeat (first | apply Cut.pair | exact Cut.head _ _ | apply Cut.tail)) (by repeat (first | exact Keeps.refl _ | apply Keeps.tail | apply Keeps.drop))))
           case true =>
            replace hc10 := eqT hc10
            try dsimp only at hc10
            try simp only [cn_report, cn_quit, cn_tell] at hc10
            first
            | (exfalso; first | omega | (cases hc10; done))
            | (
              refine c_condT rfl ?_
              refine wp_seq_k (fun K11 hK11 => ?_)
              refine c_region ?_
              refine sVal (r_move rfl rfl) ?_
              refine sVal (r_field rfl rfl of85_0) ?_
              refine sVal (r_load rfl rfl (ag3 _) hs.own (by rfl)) ?_
              refine s_enter (r_call rfl ent70 rfl) rfl ?_
              refine letter_use _ hk15 hs ?_
              intro w hs
              refine ⟨_, rfl, a_put (by rfl) ?_⟩
              refine s_enter (r_call rfl ent62 rfl) rfl ?_
              refine report_use (a := (⟨c, rs0⟩ : As)) _ (by rw [few0]; omega) (act_close g ((⟨c, rs0⟩ : As)) hs (by (try simp only [mkS, noS, hc4, hc7, hc8, hc10, Bool.true_or, Bool.false_or, Bool.or_true, Bool.or_false, ↓reduceIte, or_true, true_or, or_false, false_or]); (repeat (first | apply Cut.pair | exact Cut.head _ _ | apply Cut.tail)); done) (by repeat (first | exact Keeps.refl _ | apply Keeps.tail | apply Keeps.drop))) (Cut.head _ _) ?_
              intro g w hs
              replace hs := act_open hs
              refine ⟨_, rfl, a_put (by rfl) ?_⟩
              refine s_nil ?_
              refine hK11 _ _ ?_
              refine wp_seq_k (fun K12 hK12 => ?_)
              refine c_region ?_
              refine sVal (r_move rfl rfl) ?_
              refine sVal (r_build rfl rfl pl93 zr93 (by rfl)) ?_
              refine s_enter (r_call rfl ent72 rfl) rfl ?_
              refine tell_use (a := (As.report ⟨c, rs0⟩ (letterN k))) _ _ _ _ _ (by rw [few_report, few0]; omega) (act_close g ((As.report ⟨c, rs0⟩ (letterN k))) hs (by (try simp only [mkS, noS, hc4, hc7, hc8, hc10, Bool.true_or, Bool.false_or, Bool.or_true, Bool.or_false, ↓reduceIte, or_true, true_or, or_false, false_or]); (repeat (first | apply Cut.pair | exact Cut.head _ _ | apply Cut.tail)); done) (by repeat (first | exact Keeps.refl _ | apply Keeps.tail | apply Keeps.drop))) (Cut.head _ _) ?_
              intro g w hs
              replace hs := act_open hs
              refine ⟨_, rfl, a_put (by rfl) ?_⟩
              refine s_nil ?_
              refine hK12 _ _ ?_
              refine c_region ?_
              refine sVal (r_move rfl rfl) ?_
              refine s_enter (r_call rfl ent73 rfl) rfl ?_
              refine stop_use (a := ((As.report ⟨c, rs0⟩ (letterN k)).tell (mkS 3 true noS))) _ (act_close g (((As.report ⟨c, rs0⟩ (letterN k)).tell (mkS 3 true noS))) hs (by (try simp only [mkS, noS, hc4, hc7, hc8, hc10, Bool.true_or, Bool.false_or, Bool.or_true, Bool.or_false, ↓reduceIte, or_true, true_or, or_false, false_or]); (repeat (first | apply Cut.pair | exact Cut.head _ _ | apply Cut.tail)); done) (by repeat (first | exact Keeps.refl _ | apply Keeps.tail | apply Keeps.drop))) (Cut.head _ _) ?_
              intro g w hs
              replace hs := act_open hs
              refine ⟨_, rfl, a_put (by rfl) ?_⟩
              refine s_nil ?_
              refine f_end (rs := []) rfl .nil rfl ?_
              refine hk g _ (act_close g ((c.receive ⟨k, sq, n, ps, mr, self, d⟩)) hs (by (try simp only [Cn.receive, mkS, noS, hc4, hc7, hc8, hc10, Bool.true_or, Bool.false_or, Bool.or_true, Bool.or_false, ↓reduceIte, or_true, true_or, or_false, false_or]); repeat (first | apply Cut.pair | exact Cut.head _ _ | apply Cut.tail)) (by repeat (first | exact Keeps.refl _ | apply Keeps.tail | apply Keeps.drop)))))
        case true =>
         replace hc8 := eqT hc8
         try dsimp only at hc8
         try simp only [cn_report, cn_quit, cn_tell] at hc8
         first
         | (exfalso; first | omega | (cases hc8; done))
         | (
           refine c_condT rfl ?_
           refine wp_seq_k (fun K13 hK13 => ?_)
           refine c_region ?_
           refine sVal (r_move rfl rfl) ?_
           refine sVal (r_field rfl rfl of85_0) ?_
           refine sVal (r_load rfl rfl (ag3 _) hs.own (by rfl)) ?_
           refine s_enter (r_call rfl ent70 rfl) rfl ?_
           refine letter_use _ hk15 hs ?_
           intro w hs
           refine ⟨_, rfl, a_put (by rfl) ?_⟩
           refine s_enter (r_call rfl ent62 rfl) rfl ?_
           refine report_use (a := (⟨c, rs0⟩ : As)) _ (by rw [few0]; omega) (act_close g ((⟨c, rs0⟩ : As)) hs (by (try simp only [mkS, noS, hc4, hc7, hc8, Bool.true_or, Bool.false_or, Bool.or_true, Bool.or_false, ↓reduceIte, or_true, true_or, or_false, false_or]); (repeat (first | apply Cut.pair | exact Cut.head _ _ | apply Cut.tail)); done) (by repeat (first | exact Keeps.refl _ | apply Keeps.tail | apply Keeps.drop))) (Cut.head _ _) ?_
           intro g w hs
           replace hs := act_open hs
           refine ⟨_, rfl, a_put (by rfl) ?_⟩
           refine s_nil ?_
           refine hK13 _ _ ?_
           refine wp_seq_k (fun K14 hK14 => ?_)
           refine c_region ?_
           refine sVal (r_move rfl rfl) ?_
           refine s_bool (r_cmp rfl rfl rfl rfl) rfl rfl (fun _ => by rfl) ?_
           intro c15 hc15
           refine s_nil ?_
           refine hK14 _ _ ?_
           cases c15
           case false =>
            replace hc15 := eqF hc15
            try dsimp only at hc15
            try simp only [cn_report, cn_quit, cn_tell] at hc15
            first
            | (exfalso; first | omega | (cases hc15; done))
            | (
              refine c_condF rfl ?_
              refine wp_skip ?_
              refine f_end (rs := []) rfl .nil rfl ?_
              refine hk g _ (act_close g ((c.receive ⟨k, sq, n, ps, mr, self, d⟩)) hs (by (try simp only [Cn.receive, mkS, noS, hc4, hc7, hc8, hc15, Bool.true_or, Bool.false_or, Bool.or_true, Bool.or_false, ↓reduceIte, or_true, true_or, or_false, false_or]); repeat (first | apply Cut.pair | exact Cut.head _ _ | apply Cut.tail)) (by repeat (first | exact Keeps.refl _ | apply Keeps.tail | apply Keeps.drop))))
           case true =>
            replace hc15 := eqT hc15
            try dsimp only at hc15
            try simp only [cn_report, cn_quit, cn_tell] at hc15
            first
            | (exfalso; first | omega | (cases hc15; done))
            | (
              refine c_condT rfl ?_
              refine c_region ?_
              refine sVal (r_move rfl rfl) ?_
              refine s_enter (r_call rfl ent71 rfl) rfl ?_
              refine quit_use (a := (As.report ⟨c, rs0⟩ (letterN k))) (by rw [few_report, few0]; omega) (act_close g ((As.report ⟨c, rs0⟩ (letterN k))) hs (by (try simp only [mkS, noS, hc4, hc7, hc8, hc15, Bool.true_or, Bool.false_or, Bool.or_true, Bool.or_false, ↓reduceIte, or_true, true_or, or_false, false_or]); (repeat (first | apply Cut.pair | exact Cut.head _ _ | apply Cut.tail)); done) (by repeat (first | exact Keeps.refl _ | apply Keeps.tail | apply Keeps.drop))) (Cut.head _ _) ?_
              intro g w hs
              replace hs := act_open hs
              refine ⟨_, rfl, a_put (by rfl) ?_⟩
              refine s_nil ?_
              refine f_end (rs := []) rfl .nil rfl ?_
              refine hk g _ (act_close g ((c.receive ⟨k, sq, n, ps, mr, self, d⟩)) hs (by (try simp only [Cn.receive, mkS, noS, hc4, hc7, hc8, hc15, Bool.true_or, Bool.false_or, Bool.or_true, Bool.or_false, ↓reduceIte, or_true, true_or, or_false, false_or]); repeat (first | apply Cut.pair | exact Cut.head _ _ | apply Cut.tail)) (by repeat (first | exact Keeps.refl _ | apply Keeps.tail | apply Keeps.drop))))))
     case true =>
      replace hc7 := eqT hc7
      try dsimp only at hc7
      try simp only [cn_report, cn_quit, cn_tell] at hc7
      first
      | (exfalso; first | omega | (cases hc7; done))
      | (
        refine c_condT rfl ?_
        refine wp_skip ?_
        refine hK5 _ _ ?_
        refine c_condT rfl ?_
        refine wp_seq_k (fun K16 hK16 => ?_)
        refine c_region ?_
        refine sVal (r_move rfl rfl) ?_
        refine sVal (r_field rfl rfl of85_0) ?_
        refine sVal (r_load rfl rfl (ag3 _) hs.own (by rfl)) ?_
        refine s_enter (r_call rfl ent70 rfl) rfl ?_
        refine letter_use _ hk15 hs ?_
        intro w hs
        refine ⟨_, rfl, a_put (by rfl) ?_⟩
        refine s_enter (r_call rfl ent62 rfl) rfl ?_
        refine report_use (a := (⟨c, rs0⟩ : As)) _ (by rw [few0]; omega) (act_close g ((⟨c, rs0⟩ : As)) hs (by (try simp only [mkS, noS, hc4, hc7, Bool.true_or, Bool.false_or, Bool.or_true, Bool.or_false, ↓reduceIte, or_true, true_or, or_false, false_or]); (repeat (first | apply Cut.pair | exact Cut.head _ _ | apply Cut.tail)); done) (by repeat (first | exact Keeps.refl _ | apply Keeps.tail | apply Keeps.drop))) (Cut.head _ _) ?_
        intro g w hs
        replace hs := act_open hs
        refine ⟨_, rfl, a_put (by rfl) ?_⟩
        refine s_nil ?_
        refine hK16 _ _ ?_
        refine wp_seq_k (fun K17 hK17 => ?_)
        refine c_region ?_
        refine sVal (r_move rfl rfl) ?_
        refine s_bool (r_cmp rfl rfl rfl rfl) rfl rfl (fun _ => by rfl) ?_
        intro c18 hc18
        refine s_nil ?_
        refine hK17 _ _ ?_
        cases c18
        case false =>
         replace hc18 := eqF hc18
         try dsimp only at hc18
         try simp only [cn_report, cn_quit, cn_tell] at hc18
         first
         | (exfalso; first | omega | (cases hc18; done))
         | (
           refine c_condF rfl ?_
           refine wp_skip ?_
           refine f_end (rs := []) rfl .nil rfl ?_
           refine hk g _ (act_close g ((c.receive ⟨k, sq, n, ps, mr, self, d⟩)) hs (by (try simp only [Cn.receive, mkS, noS, hc4, hc7, hc18, Bool.true_or, Bool.false_or, Bool.or_true, Bool.or_false, ↓reduceIte, or_true, true_or, or_false, false_or]); repeat (first | apply Cut.pair | exact Cut.head _ _ | apply Cut.tail)) (by repeat (first | exact Keeps.refl _ | apply Keeps.tail | apply Keeps.drop))))
        case true =>
         replace hc18 := eqT hc18
         try dsimp only at hc18
         try simp only [cn_report, cn_quit, cn_tell] at hc18
         first
         | (exfalso; first | omega | (cases hc18; done))
         | (
           refine c_condT rfl ?_
           refine c_region ?_
           refine sVal (r_move rfl rfl) ?_
           refine s_enter (r_call rfl ent71 rfl) rfl ?_
           refine quit_use (a := (As.report ⟨c, rs0⟩ (letterN k))) (by rw [few_report, few0]; omega) (act_close g ((As.report ⟨c, rs0⟩ (letterN k))) hs (by (try simp only [mkS, noS, hc4, hc7, hc18, Bool.true_or, Bool.false_or, Bool.or_true, Bool.or_false, ↓reduceIte, or_true, true_or, or_false, false_or]); (repeat (first | apply Cut.pair | exact Cut.head _ _ | apply Cut.tail)); done) (by repeat (first | exact Keeps.refl _ | apply Keeps.tail | apply Keeps.drop))) (Cut.head _ _) ?_
           intro g w hs
           replace hs := act_open hs
           refine ⟨_, rfl, a_put (by rfl) ?_⟩
           refine s_nil ?_
           refine f_end (rs := []) rfl .nil rfl ?_
           refine hk g _ (act_close g ((c.receive ⟨k, sq, n, ps, mr, self, d⟩)) hs (by (try simp only [Cn.receive, mkS, noS, hc4, hc7, hc18, Bool.true_or, Bool.false_or, Bool.or_true, Bool.or_false, ↓reduceIte, or_true, true_or, or_false, false_or]); repeat (first | apply Cut.pair | exact Cut.head _ _ | apply Cut.tail)) (by repeat (first | exact Keeps.refl _ | apply Keeps.tail | apply Keeps.drop))))))
  case true =>
   replace hc4 := eqT hc4
   try dsimp only at hc4
   try simp only [cn_report, cn_quit, cn_tell] at hc4
   first
   | (exfalso; first | omega | (cases hc4; done))
   | (
     refine c_condT rfl ?_
     refine c_region ?_
     refine sVal (r_move rfl rfl) ?_
     refine sVal (r_loadA rfl rfl (ag85 _) hs.own in85 sz85 (by rfl)) ?_
     refine s_enter (r_call rfl ent69 rfl) rfl ?_
     refine handle_use (a := (⟨c, rs0⟩ : As)) _ _ _ _ _ _ _ (by rw [few0]; omega) (act_close g ((⟨c, rs0⟩ : As)) hs (by (try simp only [mkS, noS, hc4, Bool.true_or, Bool.false_or, Bool.or_true, Bool.or_false, ↓reduceIte, or_true, true_or, or_false, false_or]); (repeat (first | apply Cut.pair | exact Cut.head _ _ | apply Cut.tail)); done) (by repeat (first | exact Keeps.refl _ | apply Keeps.tail | apply Keeps.drop))) (Cut.head _ _) ?_
     intro g w hs
     replace hs := act_open hs
     refine ⟨_, rfl, a_put (by rfl) ?_⟩
     refine s_nil ?_
     refine f_end (rs := []) rfl .nil rfl ?_
     refine hk g _ (act_close g ((c.receive ⟨k, sq, n, ps, mr, self, d⟩)) hs (by (try simp only [Cn.receive, mkS, noS, hc4, Bool.true_or, Bool.false_or, Bool.or_true, Bool.or_false, ↓reduceIte, or_true, true_or, or_false, false_or]); repeat (first | apply Cut.pair | exact Cut.head _ _ | apply Cut.tail)) (by repeat (first | exact Keeps.refl _ | apply Keeps.tail | apply Keeps.drop))))
end
end

section
variable {E : World} {H R R1 cp : HP} {w : World} {Q : Ending → World → Prop} {bc : Nat} {c : Cn}
theorem receive_use (k sq n ps mr : Int) (self : Bool) (d : ByteArray) (hv : CnOk c) (hk15 : 1 ≤ k ∧ k ≤ 15) (hs : Sat E H w) (cu : Cut H (own bc (.cells (cnC c).toArray 108 (0, 0))) R)
    (hk : ∀ g w', Sat E (R * restP bc g (c.receive ⟨k, sq, n, ps, mr, self, d⟩)) w' → Q (.returned (.agg (rsC g (c.receive ⟨k, sq, n, ps, mr, self, d⟩).r).toArray)) w') :
    Calls Try.prog 38 #[.pointer (some ⟨bc, 0, none⟩), .agg #[.int .i64 k, .int .i64 sq, .int .u32 n, .int .u32 ps, .int .u32 mr, .slice none 0 0, .bool self, .string d]] w Q := by
  replace hs := hs.cut cu
  refine f_enter Try.func38 rfl rfl ?_
  show Code.wp _ _ _ (Fr _) _
  refine wp_seq_k (fun K1 hK1 => ?_)
  refine c_region ?_
  refine s_ex (r_box rfl rfl rfl hs) rfl rfl (fun _ => by rfl) ?_
  intro bx w hs
  refine s_ex (r_box rfl rfl rfl hs) rfl rfl (fun _ => by rfl) ?_
  intro bp w hs
  refine s_ex (r_alloc rfl zr74 hs) rfl rfl (fun _ => by rfl) ?_
  intro b2 w hs
  refine s_nil ?_
  refine hK1 _ _ ?_
  refine wp_seq_k (fun K3 hK3 => ?_)
  refine c_region ?_
  refine sVal (r_load rfl rfl (ag58 _) hs.own (by rfl)) ?_
  refine sVal (r_makeFunc rfl rfl) ?_
  refine s_enter (r_call rfl ent60 rfl) rfl ?_
  refine done_use (c := c) (a1 := (c.receive ⟨k, sq, n, ps, mr, self, d⟩)) ent67 hs (by (repeat (first | exact Cut.head _ _ | apply Cut.tail)); done) (cp := own bx _ * own bp _) (by (repeat (first | apply Cut.pair | exact Cut.head _ _ | apply Cut.tail)); done) (fun hs hk => receiveC_use bx bp k sq n ps mr self d hv hk15 hs hk) ?_
  intro g w hs
  refine ⟨_, rfl, a_put (by rfl) ?_⟩
  refine s_exS (r_storeA rfl rfl rfl hs (by (repeat (first | exact Cut.head _ _ | apply Cut.tail)); done) in74 sz74 rfl (fun h => by cases h) rfl (by rfl)) rfl rfl ?_
  intro w hs
  refine s_nil ?_
  refine hK3 _ _ ?_
  refine wp_ret ?_
  refine f_ret (rs := [.cell 4 74]) rfl (.cell rfl (run_loadL hs.own (ag74 _) in74 sz74 (by rfl)) .nil) rfl ?_
  simp only [← star_assoc] at hs
  exact hk g _ (fin1 hs (by (repeat (first | exact Cut.head _ _ | apply Cut.tail)); done) (by repeat (first | exact Keeps.refl _ | apply Keeps.tail | apply Keeps.drop)))
theorem requestC_use (ba : Nat) (g : Gh) (bx bd : Nat) (k : Int) (d : ByteArray) (hv : CnOk c)
    (hs : Sat E (R * (own bx (.cells [.int .i64 k].toArray 3 (0, 0)) * own bd (.cells [.string d].toArray 9 (0, 0))) * actP ba bc g ⟨c, rs0⟩) w)
    (hk : ∀ g' w', Sat E (R * (own bx (.cells [.int .i64 k].toArray 3 (0, 0)) * own bd (.cells [.string d].toArray 9 (0, 0))) * actP ba bc g' (As.ask ⟨c, rs0⟩ k d)) w' → Q (.returned (.tuple #[])) w') :
    Calls Try.prog 65 (.pointer (some ⟨ba, 0, none⟩) :: [.pointer (some ⟨bx, 0, none⟩), .pointer (some ⟨bd, 0, none⟩)]).toArray w Q := by
  replace hs := act_open hs
  rw [← star_assoc] at hs
  replace hk : ∀ g' w', Sat E (R * own bx (.cells [.int .i64 k].toArray 3 (0, 0)) * own bd (.cells [.string d].toArray 9 (0, 0)) * actP ba bc g' (As.ask ⟨c, rs0⟩ k d)) w' → Q (.returned (.tuple #[])) w' := fun g' w' h => hk g' w' (h.eq (by rw [star_assoc R]))
  refine f_enter Try.func65 rfl rfl ?_
  show Code.wp _ _ _ (Fr _) _
  refine c_region ?_
  refine sVal (r_move rfl rfl) ?_
  refine sVal (r_load rfl rfl (ag3 _) hs.own (by rfl)) ?_
  refine sVal (r_load rfl rfl (ag9 _) hs.own (by rfl)) ?_
  refine s_enter (r_call rfl ent66 rfl) rfl ?_
  refine ask_use (a := (⟨c, rs0⟩ : As)) _ _ hv (by rw [few0]; omega) (act_close g ((⟨c, rs0⟩ : As)) hs (by (try simp only [As.to, Bool.true_or, Bool.false_or, Bool.or_true, Bool.or_false, ↓reduceIte, or_true, true_or, or_false, false_or]); (repeat (first | apply Cut.pair | exact Cut.head _ _ | apply Cut.tail)); done) (by repeat (first | exact Keeps.refl _ | apply Keeps.tail | apply Keeps.drop))) (Cut.head _ _) ?_
  intro g w hs
  replace hs := act_open hs
  refine ⟨_, rfl, a_put (by rfl) ?_⟩
  refine s_nil ?_
  refine f_end (rs := []) rfl .nil rfl ?_
  refine hk g _ (act_close g ((As.ask ⟨c, rs0⟩ k d)) hs (by (try simp only [As.to, Bool.true_or, Bool.false_or, Bool.or_true, Bool.or_false, ↓reduceIte, or_true, true_or, or_false, false_or]); repeat (first | apply Cut.pair | exact Cut.head _ _ | apply Cut.tail)) (by repeat (first | exact Keeps.refl _ | apply Keeps.tail | apply Keeps.drop)))
theorem beqF {x y : Int} (h : (x == y) = false) : ¬ x = y := by simpa using h
theorem beqT {x y : Int} (h : (x == y) = true) : x = y := by simpa using h
theorem request_use (k : Int) (d : ByteArray) (hv : CnOk c) (hs : Sat E H w) (cu : Cut H (own bc (.cells (cnC c).toArray 108 (0, 0))) R)
    (hk : ∀ g w', Sat E (R * restP bc g (c.request k d)) w' → Q (.returned (.tuple #[.agg (rsC g (c.request k d).r).toArray, .int .i64 (c.reqErr k d)])) w') :
    Calls Try.prog 34 #[.pointer (some ⟨bc, 0, none⟩), .int .i64 k, .string d] w Q := by
  replace hs := hs.cut cu
  have hst := hv.st
  refine f_enter Try.func34 rfl rfl ?_
  show Code.wp _ _ _ (Fr _) _
  refine wp_seq_k (fun K1 hK1 => ?_)
  refine c_region ?_
  refine s_ex (r_box rfl rfl rfl hs) rfl rfl (fun _ => by rfl) ?_
  intro bx w hs
  refine s_ex (r_box rfl rfl rfl hs) rfl rfl (fun _ => by rfl) ?_
  intro bd w hs
  refine s_ex (r_alloc rfl zr74 hs) rfl rfl (fun _ => by rfl) ?_
  intro b2 w hs
  refine sVal (r_assign rfl rfl) ?_
  refine s_nil ?_
  refine hK1 _ _ ?_
  refine wp_seq_k (fun K3 hK3 => ?_)
  refine wp_block ?_
  refine wp_seq_k (fun K4 hK4 => ?_)
  refine c_region ?_
  refine sVal (r_load rfl rfl (ag3 _) hs.own (by rfl)) ?_
  refine s_bool (r_cmp rfl rfl rfl rfl) rfl rfl (fun _ => by rfl) ?_
  intro c5 hc5
  refine sVal (r_move rfl rfl) ?_
  cases c5
  case false =>
   replace hc5 := decF' hc5
   try dsimp only at hc5
   first
   | (exfalso; first | omega | (cases hc5; done))
   | (
     refine sVal (r_load rfl rfl (ag3 _) hs.own (by rfl)) ?_
     refine s_bool (r_cmp rfl rfl rfl rfl) rfl rfl (fun _ => by rfl) ?_
     intro c6 hc6
     refine sVal (r_pickF rfl rfl rfl) ?_
     refine sVal (r_assign rfl rfl) ?_
     refine s_nil ?_
     refine hK4 _ _ ?_
     cases c6
     case false =>
      replace hc6 := gtF hc6
      try dsimp only at hc6
      first
      | (exfalso; first | omega | (cases hc6; done))
      | (
        refine c_condF rfl ?_
        refine wp_seq_k (fun K7 hK7 => ?_)
        refine c_region ?_
        refine sVal (r_load rfl rfl (ag9 _) hs.own (by rfl)) ?_
        refine sVal (r_lenS rfl rfl Try.underlying9) ?_
        refine s_bool (r_cmp rfl rfl rfl rfl) rfl rfl (fun _ => by rfl) ?_
        intro c8 hc8
        refine sVal (r_move rfl rfl) ?_
        cases c8
        case false =>
         replace hc8 := gtF hc8
         try dsimp only at hc8
         first
         | (exfalso; first | omega | (cases hc8; done))
         | (
           refine @s_pass _ _ _ _ _ _ _ _ 21 (by rfl) (want_no rfl rfl rfl rfl) (by rfl) ?_
           refine @s_pass _ _ _ _ _ _ _ _ 22 (by rfl) (want_no rfl rfl rfl rfl) (by rfl) ?_
           refine @s_pass _ _ _ _ _ _ _ _ 23 (by rfl) (want_no rfl rfl rfl rfl) (by rfl) ?_
           refine @s_pass _ _ _ _ _ _ _ _ 24 (by rfl) (want_ud rfl rfl rfl) (by rfl) ?_
           refine @s_pass _ _ _ _ _ _ _ _ 25 (by rfl) (want_ud rfl rfl rfl) (by rfl) ?_
           refine @s_pass _ _ _ _ _ _ _ _ 26 (by rfl) (want_no rfl rfl rfl rfl) (by rfl) ?_
           refine @s_pass _ _ _ _ _ _ _ _ 27 (by rfl) (want_no rfl rfl rfl rfl) (by rfl) ?_
           refine @s_pass _ _ _ _ _ _ _ _ 28 (by rfl) (want_ud rfl rfl rfl) (by rfl) ?_
           refine @s_pass _ _ _ _ _ _ _ _ 29 (by rfl) (want_ud rfl rfl rfl) (by rfl) ?_
           refine @s_pass _ _ _ _ _ _ _ _ 30 (by rfl) (want_no rfl rfl rfl rfl) (by rfl) ?_
           refine sVal (r_pickF rfl rfl rfl) ?_
           refine sVal (r_assign rfl rfl) ?_
           refine s_nil ?_
           refine hK7 _ _ ?_
           refine c_condF rfl ?_
           refine wp_seq_k (fun K9 hK9 => ?_)
           replace hs := hs.drew
           refine d_start (by kernel_rfl) ?_
           refine d_pre [0, 1, 2, 3] (g := 5) (by kernel_rfl) (fun _ _ d _ _ h => by cases d <;> exact h) ?_
           refine pVal rfl (fun w => (r_move rfl rfl)) ?_
           refine pVal rfl (fun w => (r_nil rfl rfl)) ?_
           refine pVal rfl (fun w => (r_field rfl rfl of108_1)) ?_
           refine pVal rfl (fun w => (r_field rfl rfl of80_0)) ?_
           refine p_nil ?_
           refine d_head 6 [(4, true), (5, true)] (Holds _ _) (g := 3) (by kernel_rfl) (fun _ _ d _ _ h => by cases d <;> exact h) (Holds.self hs) ?_
           refine hVal rfl (fun w hS => (r_load rfl rfl (ag3 _) hS.own (by rfl))) ?_
           refine hVal rfl (fun w hS => (r_load rfl rfl (ag3 _) hS.own (by rfl))) ?_
           refine h_nil ?_
           refine d_tail 6 (by kernel_rfl) ?_
           refine s_enter (r_call rfl ent64 rfl) rfl ?_
           refine may_use _ _ hst (by omega) hs ?_
           intro w hs
           refine ⟨_, rfl, a_bool (fun _ => by rfl) ?_⟩
           intro c10 hc10
           cases c10
           case false =>
            replace hc10 := Eq.symm hc10
            try dsimp only at hc10
            first
            | (exfalso; first | omega | (cases hc10; done))
            | (
              refine sVal (r_notF rfl rfl) ?_
              refine sVal (r_assign rfl rfl) ?_
              refine s_nil ?_
              refine hK9 _ _ ?_
              refine c_condT rfl ?_
              refine wp_seq_k (fun K11 hK11 => ?_)
              refine c_region ?_
              refine sVal (r_build rfl rfl pl74 zr74 (by rfl)) ?_
              refine s_exS (r_storeA rfl rfl rfl hs (by (repeat (first | exact Cut.head _ _ | apply Cut.tail)); done) in74 sz74 rfl (fun h => by cases h) rfl (by rfl)) rfl rfl ?_
              intro w hs
              refine sVal (r_assign rfl rfl) ?_
              refine s_nil ?_
              refine hK11 _ _ ?_
              refine wp_ret ?_
              refine f_ret (rs := [.cell 6 74, .tmp 7]) rfl (.cell rfl (run_loadL hs.own (ag74 _) in74 sz74 (by rfl)) (.tmp rfl .nil)) rfl ?_
              first | (have e : c.reqErr k d = 10 := if_pos (by omega); have e1 : c.request k d = ⟨c, rs0⟩ := if_neg (by rw [e]; omega); rw [e, e1] at hk; exact hk g0 _ (rest_zero hs (by (repeat (first | exact Cut.head _ _ | apply Cut.tail)); done) (by repeat (first | exact Keeps.refl _ | apply Keeps.tail | apply Keeps.drop)))) | (have e : c.reqErr k d = 6 := (if_neg (by omega)).trans (if_pos (by omega)); have e1 : c.request k d = ⟨c, rs0⟩ := if_neg (by rw [e]; omega); rw [e, e1] at hk; exact hk g0 _ (rest_zero hs (by (repeat (first | exact Cut.head _ _ | apply Cut.tail)); done) (by repeat (first | exact Keeps.refl _ | apply Keeps.tail | apply Keeps.drop)))) | (have e : c.reqErr k d = 8 := (if_neg (by omega)).trans ((if_neg (by omega)).trans (if_pos (beqF ‹(requestsM c.state k == 1) = false›))); have e1 : c.request k d = ⟨c, rs0⟩ := if_neg (by rw [e]; omega); rw [e, e1] at hk; exact hk g0 _ (rest_zero hs (by (repeat (first | exact Cut.head _ _ | apply Cut.tail)); done) (by repeat (first | exact Keeps.refl _ | apply Keeps.tail | apply Keeps.drop)))) | (have e : c.reqErr k d = 0 := (if_neg (by omega)).trans ((if_neg (by omega)).trans (if_neg (fun h => h (beqT ‹(requestsM c.state k == 1) = true›)))); have e1 : c.request k d = As.ask ⟨c, rs0⟩ k d := if_pos e; rw [e, e1] at hk; simp only [← star_assoc] at hs; exact hk g _ (fin1 hs (by (repeat (first | exact Cut.head _ _ | apply Cut.tail)); done) (by repeat (first | exact Keeps.refl _ | apply Keeps.tail | apply Keeps.drop)))))
           case true =>
            replace hc10 := Eq.symm hc10
            try dsimp only at hc10
            first
            | (exfalso; first | omega | (cases hc10; done))
            | (
              refine sVal (r_notT rfl rfl) ?_
              refine sVal (r_assign rfl rfl) ?_
              refine s_nil ?_
              refine hK9 _ _ ?_
              refine c_condF rfl ?_
              refine wp_skip ?_
              refine hK3 _ _ ?_
              refine wp_seq_k (fun K12 hK12 => ?_)
              refine c_region ?_
              refine sVal (r_move rfl rfl) ?_
              refine sVal (r_makeFunc rfl rfl) ?_
              refine s_enter (r_call rfl ent60 rfl) rfl ?_
              refine done_use (c := c) (a1 := (As.ask ⟨c, rs0⟩ k d)) ent65 hs (by (repeat (first | exact Cut.head _ _ | apply Cut.tail)); done) (cp := own bx _ * own bd _) (by (repeat (first | apply Cut.pair | exact Cut.head _ _ | apply Cut.tail)); done) (fun hs hk => requestC_use _ _ bx bd k d hv hs hk) ?_
              intro g w hs
              refine ⟨_, rfl, a_put (by rfl) ?_⟩
              refine s_exS (r_storeA rfl rfl rfl hs (by (repeat (first | exact Cut.head _ _ | apply Cut.tail)); done) in74 sz74 rfl (fun h => by cases h) rfl (by rfl)) rfl rfl ?_
              intro w hs
              refine sVal (r_assign rfl rfl) ?_
              refine s_nil ?_
              refine hK12 _ _ ?_
              refine wp_ret ?_
              refine f_ret (rs := [.cell 6 74, .tmp 7]) rfl (.cell rfl (run_loadL hs.own (ag74 _) in74 sz74 (by rfl)) (.tmp rfl .nil)) rfl ?_
              first | (have e : c.reqErr k d = 10 := if_pos (by omega); have e1 : c.request k d = ⟨c, rs0⟩ := if_neg (by rw [e]; omega); rw [e, e1] at hk; exact hk g0 _ (rest_zero hs (by (repeat (first | exact Cut.head _ _ | apply Cut.tail)); done) (by repeat (first | exact Keeps.refl _ | apply Keeps.tail | apply Keeps.drop)))) | (have e : c.reqErr k d = 6 := (if_neg (by omega)).trans (if_pos (by omega)); have e1 : c.request k d = ⟨c, rs0⟩ := if_neg (by rw [e]; omega); rw [e, e1] at hk; exact hk g0 _ (rest_zero hs (by (repeat (first | exact Cut.head _ _ | apply Cut.tail)); done) (by repeat (first | exact Keeps.refl _ | apply Keeps.tail | apply Keeps.drop)))) | (have e : c.reqErr k d = 8 := (if_neg (by omega)).trans ((if_neg (by omega)).trans (if_pos (beqF ‹(requestsM c.state k == 1) = false›))); have e1 : c.request k d = ⟨c, rs0⟩ := if_neg (by rw [e]; omega); rw [e, e1] at hk; exact hk g0 _ (rest_zero hs (by (repeat (first | exact Cut.head _ _ | apply Cut.tail)); done) (by repeat (first | exact Keeps.refl _ | apply Keeps.tail | apply Keeps.drop)))) | (have e : c.reqErr k d = 0 := (if_neg (by omega)).trans ((if_neg (by omega)).trans (if_neg (fun h => h (beqT ‹(requestsM c.state k == 1) = true›)))); have e1 : c.request k d = As.ask ⟨c, rs0⟩ k d := if_pos e; rw [e, e1] at hk; simp only [← star_assoc] at hs; exact hk g _ (fin1 hs (by (repeat (first | exact Cut.head _ _ | apply Cut.tail)); done) (by repeat (first | exact Keeps.refl _ | apply Keeps.tail | apply Keeps.drop))))))
        case true =>
         replace hc8 := gtT hc8
         try dsimp only at hc8
         first
         | (exfalso; first | omega | (cases hc8; done))
         | (
           refine sVal (r_load rfl rfl (ag3 _) hs.own (by rfl)) ?_
           refine s_bool (r_cmp rfl rfl rfl rfl) rfl rfl (fun _ => by rfl) ?_
           intro c13 hc13
           refine sVal (r_move rfl rfl) ?_
           cases c13
           case false =>
            replace hc13 := eqF hc13
            try dsimp only at hc13
            first
            | (exfalso; first | omega | (cases hc13; done))
            | (
              refine sVal (r_load rfl rfl (ag3 _) hs.own (by rfl)) ?_
              refine s_bool (r_cmp rfl rfl rfl rfl) rfl rfl (fun _ => by rfl) ?_
              intro c14 hc14
              refine sVal (r_pickF rfl rfl rfl) ?_
              refine sVal (r_move rfl rfl) ?_
              cases c14
              case false =>
               replace hc14 := eqF hc14
               try dsimp only at hc14
               first
               | (exfalso; first | omega | (cases hc14; done))
               | (
                 refine sVal (r_load rfl rfl (ag3 _) hs.own (by rfl)) ?_
                 refine s_bool (r_cmp rfl rfl rfl rfl) rfl rfl (fun _ => by rfl) ?_
                 intro c15 hc15
                 refine sVal (r_pickF rfl rfl rfl) ?_
                 refine sVal (r_pickT rfl rfl rfl) ?_
                 refine sVal (r_assign rfl rfl) ?_
                 refine s_nil ?_
                 refine hK7 _ _ ?_
                 cases c15
                 case false =>
                  replace hc15 := eqF hc15
                  try dsimp only at hc15
                  first
                  | (exfalso; first | omega | (cases hc15; done))
                  | (
                    refine c_condF rfl ?_
                    refine wp_seq_k (fun K16 hK16 => ?_)
                    replace hs := hs.drew
                    refine d_start (by kernel_rfl) ?_
                    refine d_pre [0, 1, 2, 3] (g := 5) (by kernel_rfl) (fun _ _ d _ _ h => by cases d <;> exact h) ?_
                    refine pVal rfl (fun w => (r_move rfl rfl)) ?_
                    refine pVal rfl (fun w => (r_nil rfl rfl)) ?_
                    refine pVal rfl (fun w => (r_field rfl rfl of108_1)) ?_
                    refine pVal rfl (fun w => (r_field rfl rfl of80_0)) ?_
                    refine p_nil ?_
                    refine d_head 6 [(4, true), (5, true)] (Holds _ _) (g := 3) (by kernel_rfl) (fun _ _ d _ _ h => by cases d <;> exact h) (Holds.self hs) ?_
                    refine hVal rfl (fun w hS => (r_load rfl rfl (ag3 _) hS.own (by rfl))) ?_
                    refine hVal rfl (fun w hS => (r_load rfl rfl (ag3 _) hS.own (by rfl))) ?_
                    refine h_nil ?_
                    refine d_tail 6 (by kernel_rfl) ?_
                    refine s_enter (r_call rfl ent64 rfl) rfl ?_
                    refine may_use _ _ hst (by omega) hs ?_
                    intro w hs
                    refine ⟨_, rfl, a_bool (fun _ => by rfl) ?_⟩
                    intro c17 hc17
                    cases c17
                    case false =>
                     replace hc17 := Eq.symm hc17
                     try dsimp only at hc17
                     first
                     | (exfalso; first | omega | (cases hc17; done))
                     | (
                       refine sVal (r_notF rfl rfl) ?_
                       refine sVal (r_assign rfl rfl) ?_
                       refine s_nil ?_
                       refine hK16 _ _ ?_
                       refine c_condT rfl ?_
                       refine wp_seq_k (fun K18 hK18 => ?_)
                       refine c_region ?_
                       refine sVal (r_build rfl rfl pl74 zr74 (by rfl)) ?_
                       refine s_exS (r_storeA rfl rfl rfl hs (by (repeat (first | exact Cut.head _ _ | apply Cut.tail)); done) in74 sz74 rfl (fun h => by cases h) rfl (by rfl)) rfl rfl ?_
                       intro w hs
                       refine sVal (r_assign rfl rfl) ?_
                       refine s_nil ?_
                       refine hK18 _ _ ?_
                       refine wp_ret ?_
                       refine f_ret (rs := [.cell 6 74, .tmp 7]) rfl (.cell rfl (run_loadL hs.own (ag74 _) in74 sz74 (by rfl)) (.tmp rfl .nil)) rfl ?_
                       first | (have e : c.reqErr k d = 10 := if_pos (by omega); have e1 : c.request k d = ⟨c, rs0⟩ := if_neg (by rw [e]; omega); rw [e, e1] at hk; exact hk g0 _ (rest_zero hs (by (repeat (first | exact Cut.head _ _ | apply Cut.tail)); done) (by repeat (first | exact Keeps.refl _ | apply Keeps.tail | apply Keeps.drop)))) | (have e : c.reqErr k d = 6 := (if_neg (by omega)).trans (if_pos (by omega)); have e1 : c.request k d = ⟨c, rs0⟩ := if_neg (by rw [e]; omega); rw [e, e1] at hk; exact hk g0 _ (rest_zero hs (by (repeat (first | exact Cut.head _ _ | apply Cut.tail)); done) (by repeat (first | exact Keeps.refl _ | apply Keeps.tail | apply Keeps.drop)))) | (have e : c.reqErr k d = 8 := (if_neg (by omega)).trans ((if_neg (by omega)).trans (if_pos (beqF ‹(requestsM c.state k == 1) = false›))); have e1 : c.request k d = ⟨c, rs0⟩ := if_neg (by rw [e]; omega); rw [e, e1] at hk; exact hk g0 _ (rest_zero hs (by (repeat (first | exact Cut.head _ _ | apply Cut.tail)); done) (by repeat (first | exact Keeps.refl _ | apply Keeps.tail | apply Keeps.drop)))) | (have e : c.reqErr k d = 0 := (if_neg (by omega)).trans ((if_neg (by omega)).trans (if_neg (fun h => h (beqT ‹(requestsM c.state k == 1) = true›)))); have e1 : c.request k d = As.ask ⟨c, rs0⟩ k d := if_pos e; rw [e, e1] at hk; simp only [← star_assoc] at hs; exact hk g _ (fin1 hs (by (repeat (first | exact Cut.head _ _ | apply Cut.tail)); done) (by repeat (first | exact Keeps.refl _ | apply Keeps.tail | apply Keeps.drop)))))
                    case true =>
                     replace hc17 := Eq.symm hc17
                     try dsimp only at hc17
                     first
                     | (exfalso; first | omega | (cases hc17; done))
                     | (
                       refine sVal (r_notT rfl rfl) ?_
                       refine sVal (r_assign rfl rfl) ?_
                       refine s_nil ?_
                       refine hK16 _ _ ?_
                       refine c_condF rfl ?_
                       refine wp_skip ?_
                       refine hK3 _ _ ?_
                       refine wp_seq_k (fun K19 hK19 => ?_)
                       refine c_region ?_
                       refine sVal (r_move rfl rfl) ?_
                       refine sVal (r_makeFunc rfl rfl) ?_
                       refine s_enter (r_call rfl ent60 rfl) rfl ?_
                       refine done_use (c := c) (a1 := (As.ask ⟨c, rs0⟩ k d)) ent65 hs (by (repeat (first | exact Cut.head _ _ | apply Cut.tail)); done) (cp := own bx _ * own bd _) (by (repeat (first | apply Cut.pair | exact Cut.head _ _ | apply Cut.tail)); done) (fun hs hk => requestC_use _ _ bx bd k d hv hs hk) ?_
                       intro g w hs
                       refine ⟨_, rfl, a_put (by rfl) ?_⟩
                       refine s_exS (r_storeA rfl rfl rfl hs (by (repeat (first | exact Cut.head _ _ | apply Cut.tail)); done) in74 sz74 rfl (fun h => by cases h) rfl (by rfl)) rfl rfl ?_
                       intro w hs
                       refine sVal (r_assign rfl rfl) ?_
                       refine s_nil ?_
                       refine hK19 _ _ ?_
                       refine wp_ret ?_
                       refine f_ret (rs := [.cell 6 74, .tmp 7]) rfl (.cell rfl (run_loadL hs.own (ag74 _) in74 sz74 (by rfl)) (.tmp rfl .nil)) rfl ?_
                       first | (have e : c.reqErr k d = 10 := if_pos (by omega); have e1 : c.request k d = ⟨c, rs0⟩ := if_neg (by rw [e]; omega); rw [e, e1] at hk; exact hk g0 _ (rest_zero hs (by (repeat (first | exact Cut.head _ _ | apply Cut.tail)); done) (by repeat (first | exact Keeps.refl _ | apply Keeps.tail | apply Keeps.drop)))) | (have e : c.reqErr k d = 6 := (if_neg (by omega)).trans (if_pos (by omega)); have e1 : c.request k d = ⟨c, rs0⟩ := if_neg (by rw [e]; omega); rw [e, e1] at hk; exact hk g0 _ (rest_zero hs (by (repeat (first | exact Cut.head _ _ | apply Cut.tail)); done) (by repeat (first | exact Keeps.refl _ | apply Keeps.tail | apply Keeps.drop)))) | (have e : c.reqErr k d = 8 := (if_neg (by omega)).trans ((if_neg (by omega)).trans (if_pos (beqF ‹(requestsM c.state k == 1) = false›))); have e1 : c.request k d = ⟨c, rs0⟩ := if_neg (by rw [e]; omega); rw [e, e1] at hk; exact hk g0 _ (rest_zero hs (by (repeat (first | exact Cut.head _ _ | apply Cut.tail)); done) (by repeat (first | exact Keeps.refl _ | apply Keeps.tail | apply Keeps.drop)))) | (have e : c.reqErr k d = 0 := (if_neg (by omega)).trans ((if_neg (by omega)).trans (if_neg (fun h => h (beqT ‹(requestsM c.state k == 1) = true›)))); have e1 : c.request k d = As.ask ⟨c, rs0⟩ k d := if_pos e; rw [e, e1] at hk; simp only [← star_assoc] at hs; exact hk g _ (fin1 hs (by (repeat (first | exact Cut.head _ _ | apply Cut.tail)); done) (by repeat (first | exact Keeps.refl _ | apply Keeps.tail | apply Keeps.drop))))))
                 case true =>
                  replace hc15 := eqT hc15
                  try dsimp only at hc15
                  first
                  | (exfalso; first | omega | (cases hc15; done))
                  | (
                    refine c_condT rfl ?_
                    refine wp_seq_k (fun K20 hK20 => ?_)
                    refine c_region ?_
                    refine sVal (r_build rfl rfl pl74 zr74 (by rfl)) ?_
                    refine s_exS (r_storeA rfl rfl rfl hs (by (repeat (first | exact Cut.head _ _ | apply Cut.tail)); done) in74 sz74 rfl (fun h => by cases h) rfl (by rfl)) rfl rfl ?_
                    intro w hs
                    refine sVal (r_assign rfl rfl) ?_
                    refine s_nil ?_
                    refine hK20 _ _ ?_
                    refine wp_ret ?_
                    refine f_ret (rs := [.cell 6 74, .tmp 7]) rfl (.cell rfl (run_loadL hs.own (ag74 _) in74 sz74 (by rfl)) (.tmp rfl .nil)) rfl ?_
                    first | (have e : c.reqErr k d = 10 := if_pos (by omega); have e1 : c.request k d = ⟨c, rs0⟩ := if_neg (by rw [e]; omega); rw [e, e1] at hk; exact hk g0 _ (rest_zero hs (by (repeat (first | exact Cut.head _ _ | apply Cut.tail)); done) (by repeat (first | exact Keeps.refl _ | apply Keeps.tail | apply Keeps.drop)))) | (have e : c.reqErr k d = 6 := (if_neg (by omega)).trans (if_pos (by omega)); have e1 : c.request k d = ⟨c, rs0⟩ := if_neg (by rw [e]; omega); rw [e, e1] at hk; exact hk g0 _ (rest_zero hs (by (repeat (first | exact Cut.head _ _ | apply Cut.tail)); done) (by repeat (first | exact Keeps.refl _ | apply Keeps.tail | apply Keeps.drop)))) | (have e : c.reqErr k d = 8 := (if_neg (by omega)).trans ((if_neg (by omega)).trans (if_pos (beqF ‹(requestsM c.state k == 1) = false›))); have e1 : c.request k d = ⟨c, rs0⟩ := if_neg (by rw [e]; omega); rw [e, e1] at hk; exact hk g0 _ (rest_zero hs (by (repeat (first | exact Cut.head _ _ | apply Cut.tail)); done) (by repeat (first | exact Keeps.refl _ | apply Keeps.tail | apply Keeps.drop)))) | (have e : c.reqErr k d = 0 := (if_neg (by omega)).trans ((if_neg (by omega)).trans (if_neg (fun h => h (beqT ‹(requestsM c.state k == 1) = true›)))); have e1 : c.request k d = As.ask ⟨c, rs0⟩ k d := if_pos e; rw [e, e1] at hk; simp only [← star_assoc] at hs; exact hk g _ (fin1 hs (by (repeat (first | exact Cut.head _ _ | apply Cut.tail)); done) (by repeat (first | exact Keeps.refl _ | apply Keeps.tail | apply Keeps.drop))))))
              case true =>
               replace hc14 := eqT hc14
               try dsimp only at hc14
               first
               | (exfalso; first | omega | (cases hc14; done))
               | (
                 refine @s_pass _ _ _ _ _ _ _ _ 28 (by rfl) (want_no rfl rfl rfl rfl) (by rfl) ?_
                 refine @s_pass _ _ _ _ _ _ _ _ 29 (by rfl) (want_no rfl rfl rfl rfl) (by rfl) ?_
                 refine sVal (r_pickT rfl rfl rfl) ?_
                 refine sVal (r_pickT rfl rfl rfl) ?_
                 refine sVal (r_assign rfl rfl) ?_
                 refine s_nil ?_
                 refine hK7 _ _ ?_
                 refine c_condT rfl ?_
                 refine wp_seq_k (fun K21 hK21 => ?_)
                 refine c_region ?_
                 refine sVal (r_build rfl rfl pl74 zr74 (by rfl)) ?_
                 refine s_exS (r_storeA rfl rfl rfl hs (by (repeat (first | exact Cut.head _ _ | apply Cut.tail)); done) in74 sz74 rfl (fun h => by cases h) rfl (by rfl)) rfl rfl ?_
                 intro w hs
                 refine sVal (r_assign rfl rfl) ?_
                 refine s_nil ?_
                 refine hK21 _ _ ?_
                 refine wp_ret ?_
                 refine f_ret (rs := [.cell 6 74, .tmp 7]) rfl (.cell rfl (run_loadL hs.own (ag74 _) in74 sz74 (by rfl)) (.tmp rfl .nil)) rfl ?_
                 first | (have e : c.reqErr k d = 10 := if_pos (by omega); have e1 : c.request k d = ⟨c, rs0⟩ := if_neg (by rw [e]; omega); rw [e, e1] at hk; exact hk g0 _ (rest_zero hs (by (repeat (first | exact Cut.head _ _ | apply Cut.tail)); done) (by repeat (first | exact Keeps.refl _ | apply Keeps.tail | apply Keeps.drop)))) | (have e : c.reqErr k d = 6 := (if_neg (by omega)).trans (if_pos (by omega)); have e1 : c.request k d = ⟨c, rs0⟩ := if_neg (by rw [e]; omega); rw [e, e1] at hk; exact hk g0 _ (rest_zero hs (by (repeat (first | exact Cut.head _ _ | apply Cut.tail)); done) (by repeat (first | exact Keeps.refl _ | apply Keeps.tail | apply Keeps.drop)))) | (have e : c.reqErr k d = 8 := (if_neg (by omega)).trans ((if_neg (by omega)).trans (if_pos (beqF ‹(requestsM c.state k == 1) = false›))); have e1 : c.request k d = ⟨c, rs0⟩ := if_neg (by rw [e]; omega); rw [e, e1] at hk; exact hk g0 _ (rest_zero hs (by (repeat (first | exact Cut.head _ _ | apply Cut.tail)); done) (by repeat (first | exact Keeps.refl _ | apply Keeps.tail | apply Keeps.drop)))) | (have e : c.reqErr k d = 0 := (if_neg (by omega)).trans ((if_neg (by omega)).trans (if_neg (fun h => h (beqT ‹(requestsM c.state k == 1) = true›)))); have e1 : c.request k d = As.ask ⟨c, rs0⟩ k d := if_pos e; rw [e, e1] at hk; simp only [← star_assoc] at hs; exact hk g _ (fin1 hs (by (repeat (first | exact Cut.head _ _ | apply Cut.tail)); done) (by repeat (first | exact Keeps.refl _ | apply Keeps.tail | apply Keeps.drop))))))
           case true =>
            replace hc13 := eqT hc13
            try dsimp only at hc13
            first
            | (exfalso; first | omega | (cases hc13; done))
            | (
              refine @s_pass _ _ _ _ _ _ _ _ 24 (by rfl) (want_no rfl rfl rfl rfl) (by rfl) ?_
              refine @s_pass _ _ _ _ _ _ _ _ 25 (by rfl) (want_no rfl rfl rfl rfl) (by rfl) ?_
              refine sVal (r_pickT rfl rfl rfl) ?_
              refine sVal (r_move rfl rfl) ?_
              refine @s_pass _ _ _ _ _ _ _ _ 28 (by rfl) (want_no rfl rfl rfl rfl) (by rfl) ?_
              refine @s_pass _ _ _ _ _ _ _ _ 29 (by rfl) (want_no rfl rfl rfl rfl) (by rfl) ?_
              refine sVal (r_pickT rfl rfl rfl) ?_
              refine sVal (r_pickT rfl rfl rfl) ?_
              refine sVal (r_assign rfl rfl) ?_
              refine s_nil ?_
              refine hK7 _ _ ?_
              refine c_condT rfl ?_
              refine wp_seq_k (fun K22 hK22 => ?_)
              refine c_region ?_
              refine sVal (r_build rfl rfl pl74 zr74 (by rfl)) ?_
              refine s_exS (r_storeA rfl rfl rfl hs (by (repeat (first | exact Cut.head _ _ | apply Cut.tail)); done) in74 sz74 rfl (fun h => by cases h) rfl (by rfl)) rfl rfl ?_
              intro w hs
              refine sVal (r_assign rfl rfl) ?_
              refine s_nil ?_
              refine hK22 _ _ ?_
              refine wp_ret ?_
              refine f_ret (rs := [.cell 6 74, .tmp 7]) rfl (.cell rfl (run_loadL hs.own (ag74 _) in74 sz74 (by rfl)) (.tmp rfl .nil)) rfl ?_
              first | (have e : c.reqErr k d = 10 := if_pos (by omega); have e1 : c.request k d = ⟨c, rs0⟩ := if_neg (by rw [e]; omega); rw [e, e1] at hk; exact hk g0 _ (rest_zero hs (by (repeat (first | exact Cut.head _ _ | apply Cut.tail)); done) (by repeat (first | exact Keeps.refl _ | apply Keeps.tail | apply Keeps.drop)))) | (have e : c.reqErr k d = 6 := (if_neg (by omega)).trans (if_pos (by omega)); have e1 : c.request k d = ⟨c, rs0⟩ := if_neg (by rw [e]; omega); rw [e, e1] at hk; exact hk g0 _ (rest_zero hs (by (repeat (first | exact Cut.head _ _ | apply Cut.tail)); done) (by repeat (first | exact Keeps.refl _ | apply Keeps.tail | apply Keeps.drop)))) | (have e : c.reqErr k d = 8 := (if_neg (by omega)).trans ((if_neg (by omega)).trans (if_pos (beqF ‹(requestsM c.state k == 1) = false›))); have e1 : c.request k d = ⟨c, rs0⟩ := if_neg (by rw [e]; omega); rw [e, e1] at hk; exact hk g0 _ (rest_zero hs (by (repeat (first | exact Cut.head _ _ | apply Cut.tail)); done) (by repeat (first | exact Keeps.refl _ | apply Keeps.tail | apply Keeps.drop)))) | (have e : c.reqErr k d = 0 := (if_neg (by omega)).trans ((if_neg (by omega)).trans (if_neg (fun h => h (beqT ‹(requestsM c.state k == 1) = true›)))); have e1 : c.request k d = As.ask ⟨c, rs0⟩ k d := if_pos e; rw [e, e1] at hk; simp only [← star_assoc] at hs; exact hk g _ (fin1 hs (by (repeat (first | exact Cut.head _ _ | apply Cut.tail)); done) (by repeat (first | exact Keeps.refl _ | apply Keeps.tail | apply Keeps.drop)))))))
     case true =>
      replace hc6 := gtT hc6
      try dsimp only at hc6
      first
      | (exfalso; first | omega | (cases hc6; done))
      | (
        refine c_condT rfl ?_
        refine wp_seq_k (fun K23 hK23 => ?_)
        refine c_region ?_
        refine sVal (r_build rfl rfl pl74 zr74 (by rfl)) ?_
        refine s_exS (r_storeA rfl rfl rfl hs (by (repeat (first | exact Cut.head _ _ | apply Cut.tail)); done) in74 sz74 rfl (fun h => by cases h) rfl (by rfl)) rfl rfl ?_
        intro w hs
        refine sVal (r_assign rfl rfl) ?_
        refine s_nil ?_
        refine hK23 _ _ ?_
        refine wp_ret ?_
        refine f_ret (rs := [.cell 6 74, .tmp 7]) rfl (.cell rfl (run_loadL hs.own (ag74 _) in74 sz74 (by rfl)) (.tmp rfl .nil)) rfl ?_
        first | (have e : c.reqErr k d = 10 := if_pos (by omega); have e1 : c.request k d = ⟨c, rs0⟩ := if_neg (by rw [e]; omega); rw [e, e1] at hk; exact hk g0 _ (rest_zero hs (by (repeat (first | exact Cut.head _ _ | apply Cut.tail)); done) (by repeat (first | exact Keeps.refl _ | apply Keeps.tail | apply Keeps.drop)))) | (have e : c.reqErr k d = 6 := (if_neg (by omega)).trans (if_pos (by omega)); have e1 : c.request k d = ⟨c, rs0⟩ := if_neg (by rw [e]; omega); rw [e, e1] at hk; exact hk g0 _ (rest_zero hs (by (repeat (first | exact Cut.head _ _ | apply Cut.tail)); done) (by repeat (first | exact Keeps.refl _ | apply Keeps.tail | apply Keeps.drop)))) | (have e : c.reqErr k d = 8 := (if_neg (by omega)).trans ((if_neg (by omega)).trans (if_pos (beqF ‹(requestsM c.state k == 1) = false›))); have e1 : c.request k d = ⟨c, rs0⟩ := if_neg (by rw [e]; omega); rw [e, e1] at hk; exact hk g0 _ (rest_zero hs (by (repeat (first | exact Cut.head _ _ | apply Cut.tail)); done) (by repeat (first | exact Keeps.refl _ | apply Keeps.tail | apply Keeps.drop)))) | (have e : c.reqErr k d = 0 := (if_neg (by omega)).trans ((if_neg (by omega)).trans (if_neg (fun h => h (beqT ‹(requestsM c.state k == 1) = true›)))); have e1 : c.request k d = As.ask ⟨c, rs0⟩ k d := if_pos e; rw [e, e1] at hk; simp only [← star_assoc] at hs; exact hk g _ (fin1 hs (by (repeat (first | exact Cut.head _ _ | apply Cut.tail)); done) (by repeat (first | exact Keeps.refl _ | apply Keeps.tail | apply Keeps.drop))))))
  case true =>
   replace hc5 := decT' hc5
   try dsimp only at hc5
   first
   | (exfalso; first | omega | (cases hc5; done))
   | (
     refine @s_pass _ _ _ _ _ _ _ _ 12 (by rfl) (want_no rfl rfl rfl rfl) (by rfl) ?_
     refine @s_pass _ _ _ _ _ _ _ _ 13 (by rfl) (want_no rfl rfl rfl rfl) (by rfl) ?_
     refine sVal (r_pickT rfl rfl rfl) ?_
     refine sVal (r_assign rfl rfl) ?_
     refine s_nil ?_
     refine hK4 _ _ ?_
     refine c_condT rfl ?_
     refine wp_seq_k (fun K24 hK24 => ?_)
     refine c_region ?_
     refine sVal (r_build rfl rfl pl74 zr74 (by rfl)) ?_
     refine s_exS (r_storeA rfl rfl rfl hs (by (repeat (first | exact Cut.head _ _ | apply Cut.tail)); done) in74 sz74 rfl (fun h => by cases h) rfl (by rfl)) rfl rfl ?_
     intro w hs
     refine sVal (r_assign rfl rfl) ?_
     refine s_nil ?_
     refine hK24 _ _ ?_
     refine wp_ret ?_
     refine f_ret (rs := [.cell 6 74, .tmp 7]) rfl (.cell rfl (run_loadL hs.own (ag74 _) in74 sz74 (by rfl)) (.tmp rfl .nil)) rfl ?_
     first | (have e : c.reqErr k d = 10 := if_pos (by omega); have e1 : c.request k d = ⟨c, rs0⟩ := if_neg (by rw [e]; omega); rw [e, e1] at hk; exact hk g0 _ (rest_zero hs (by (repeat (first | exact Cut.head _ _ | apply Cut.tail)); done) (by repeat (first | exact Keeps.refl _ | apply Keeps.tail | apply Keeps.drop)))) | (have e : c.reqErr k d = 6 := (if_neg (by omega)).trans (if_pos (by omega)); have e1 : c.request k d = ⟨c, rs0⟩ := if_neg (by rw [e]; omega); rw [e, e1] at hk; exact hk g0 _ (rest_zero hs (by (repeat (first | exact Cut.head _ _ | apply Cut.tail)); done) (by repeat (first | exact Keeps.refl _ | apply Keeps.tail | apply Keeps.drop)))) | (have e : c.reqErr k d = 8 := (if_neg (by omega)).trans ((if_neg (by omega)).trans (if_pos (beqF ‹(requestsM c.state k == 1) = false›))); have e1 : c.request k d = ⟨c, rs0⟩ := if_neg (by rw [e]; omega); rw [e, e1] at hk; exact hk g0 _ (rest_zero hs (by (repeat (first | exact Cut.head _ _ | apply Cut.tail)); done) (by repeat (first | exact Keeps.refl _ | apply Keeps.tail | apply Keeps.drop)))) | (have e : c.reqErr k d = 0 := (if_neg (by omega)).trans ((if_neg (by omega)).trans (if_neg (fun h => h (beqT ‹(requestsM c.state k == 1) = true›)))); have e1 : c.request k d = As.ask ⟨c, rs0⟩ k d := if_pos e; rw [e, e1] at hk; simp only [← star_assoc] at hs; exact hk g _ (fin1 hs (by (repeat (first | exact Cut.head _ _ | apply Cut.tail)); done) (by repeat (first | exact Keeps.refl _ | apply Keeps.tail | apply Keeps.drop)))))
end
end Go.Proofs.Ytoeaamohchpjdaa
