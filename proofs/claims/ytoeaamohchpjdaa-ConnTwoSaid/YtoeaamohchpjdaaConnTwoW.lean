/-
  Two connections that hear one another: what the law's own functions do.
-/
import Derived.Test.YtoeaamohchpjdaaConnN
import Derived.Test.YtoeaamohchpjdaaConnTwoS
namespace Go.Proofs.Ytoeaamohchpjdaa
open Go Go.RowKit
set_option linter.unusedVariables false
set_option linter.unusedSimpArgs false
set_option maxRecDepth 100000
attribute [local irreducible] restP own fix oL rL osl rsl fact some' wpList wpHi wpPre wpAny After AfterH

/-- A value as a cell; two things, the first at i. -/
def valC (v : Value) : List Value := [v]
def booC (b : Bool) : List Value := [.bool b]
def two {α : Type} (i : Nat) (x y : α) : List α := if i = 0 then [x, y] else [y, x]
section
variable {α : Type} {i : Nat} {x y z : α}
theorem two_cases (hi : i < 2) : i = 0 ∨ i = 1 := by omega
theorem two_len : (two i x y).length = 2 := by unfold two; split <;> rfl
theorem two_at (hi : i < 2) : (two i x y)[i]? = some x := by rcases two_cases hi with rfl | rfl <;> rfl
theorem two_at' (hi : i < 2) : (two i x y)[1 - i]? = some y := by rcases two_cases hi with rfl | rfl <;> rfl
theorem two_set (hi : i < 2) : (two i x y).set i z = two i z y := by rcases two_cases hi with rfl | rfl <;> rfl
theorem two_set' (hi : i < 2) : (two i x y).set (1 - i) z = two i x z := by rcases two_cases hi with rfl | rfl <;> rfl
end

section
variable {E : World} {H R : HP} {w : World} {Q : Ending → World → Prop}
theorem give_use {i : Nat} {cs ws ts x0 x1 y0 y1 : Value} {w1 : List Un} {t0 : List Sig} {g : Gh} (r : Rs) (hi : i < 2) (hl1 : w1.length + r.units.length ≤ 34359738368) (hl2 : t0.length + r.sigs.length ≤ 34359738368)
    (hs : Sat E H w)
    (cu : Cut H (oL 72 1 valC ws (two i x0 x1) * oL 71 1 valC ts (two i y0 y1) * rL 8 unC x1 w1 * rL 5 sigC y0 t0 * oL 93 5 sigC (.slice g.p r.sigs.length g.c) r.sigs * oL 85 8 unC (.slice g.q r.units.length g.e) r.units) R)
    (hk : ∀ x1' y0' w', Sat E (R * (oL 72 1 valC ws (two i x0 x1') * oL 71 1 valC ts (two i y0' y1) * rL 8 unC x1' (w1 ++ r.units) * rL 5 sigC y0' (t0 ++ r.sigs))) w' → Q (.returned (.tuple #[])) w') :
    Calls Try.prog 32 #[.agg #[cs, ws, ts], .int .i64 (i : Int), .agg (rsC g r).toArray] w Q := by
  replace hs := hs.cut cu
  simp only [← star_assoc] at hs
  refine f_enter Try.func32 rfl rfl ?_
  show Code.wp _ _ _ (Fr _) _
  refine wp_seq_k (fun K1 hK1 => ?_)
  refine c_region ?_
  refine s_ex (r_box rfl rfl rfl hs) rfl rfl (fun _ => by rfl) ?_
  intro b2 w hs
  refine s_ex (r_box rfl rfl rfl hs) rfl rfl (fun _ => by rfl) ?_
  intro b3 w hs
  refine s_nil ?_
  refine hK1 _ _ ?_
  refine wp_seq_k (fun K4 hK4 => ?_)
  replace hs := hs.drew
  refine d_start (by kernel_rfl) ?_
  refine d_pre [0, 2, 3, 5, 7, 8, 12] (g := 10) (by kernel_rfl) (fun _ _ d _ _ h => by cases d <;> exact h) ?_
  refine pVal rfl (fun w => (r_field rfl rfl of68_1)) ?_
  refine pVal rfl (fun w => (r_move rfl rfl)) ?_
  refine pVal rfl (fun w => (r_ari rfl rfl rfl rfl (by first | exact wrapI (by omega) | rfl))) ?_
  refine pVal rfl (fun w => (r_field rfl rfl of68_1)) ?_
  refine pVal rfl (fun w => (r_move rfl rfl)) ?_
  refine pVal rfl (fun w => (r_ari rfl rfl rfl rfl (by first | exact wrapI (by omega) | rfl))) ?_
  refine pVal rfl (fun w => (r_field rfl rfl of74_1)) ?_
  refine p_nil ?_
  refine d_head 15 [(1, true), (6, true), (9, true), (10, true), (13, true), (4, false), (11, false), (14, false)] (Holds _ _) (g := 2) (by kernel_rfl) (fun _ _ d _ _ h => by cases d <;> exact h) (Holds.self hs) ?_
  refine hVal rfl (fun w hS => (r_load rfl rfl (ag65 _) hS.own (by rfl))) ?_
  refine hVal rfl (fun w hS => (r_load rfl rfl (ag65 _) hS.own (by rfl))) ?_
  refine h_exQ rfl (r_idx (f := valC) rfl rfl rfl hs.rd (by omega) (two_at' hi) Try.underlying65 in72 sz72) rfl rfl (fun _ => by rfl) ?_
  intro ad6 he5
  refine hVal rfl (fun w hS => (r_loadEl rfl rfl hS.rd he5 (two_at' hi) (fun _ => rfl) (ag72 _) (by rfl))) ?_
  refine hVal rfl (fun w hS => (r_load rfl rfl (ag72 _) hS.own (by rfl))) ?_
  refine h_ex rfl (r_lit unC [] rfl rfl rfl hs Try.underlying72 (by kernel_rfl) sz85 rfl (by decide) (fun _ => rfl)) rfl rfl (fun _ => by rfl) ?_
  intro b7 w hs
  refine ⟨(Holds.mono (Holds.self hs) (by repeat (first | exact Keeps.refl _ | apply Keeps.tail | apply Keeps.drop))), ?_⟩
  refine h_ex rfl (r_appendO (f := unC) rfl rfl rfl hs (by (repeat (first | exact Cut.head _ _ | apply Cut.tail)); done) hs.rd Try.underlying72 (by kernel_rfl) sz85 (by decide) (fun _ => rfl) (by simp; omega)) rfl rfl (fun _ => by rfl) ?_
  intro v8 w hs
  refine ⟨(Holds.mono (Holds.self hs) (by repeat (first | exact Keeps.refl _ | apply Keeps.tail | apply Keeps.drop))), ?_⟩
  obtain ⟨pv8, kv8, rfl⟩ := (hs.oReads (by (repeat (first | exact Cut.head _ _ | apply Cut.tail)); done)).header
  refine h_ex rfl (r_appendO (f := unC) rfl rfl rfl hs (by (repeat (first | exact Cut.head _ _ | apply Cut.tail)); done) hs.rd Try.underlying72 (by kernel_rfl) sz85 (by decide) (fun _ => rfl) (by simp; omega)) rfl rfl (fun _ => by rfl) ?_
  intro v9 w hs
  refine ⟨(Holds.mono (Holds.self hs) (by repeat (first | exact Keeps.refl _ | apply Keeps.tail | apply Keeps.drop))), ?_⟩
  obtain ⟨pv9, kv9, rfl⟩ := (hs.oReads (by (repeat (first | exact Cut.head _ _ | apply Cut.tail)); done)).header
  refine h_nil ?_
  refine d_tail 15 (by kernel_rfl) ?_
  refine s_exQ (r_idx (f := valC) rfl rfl rfl hs.rd (by omega) (two_at' hi) Try.underlying65 in72 sz72) rfl rfl (fun _ => by rfl) ?_
  intro ad11 he10
  refine s_exS (r_storeEl (f := valC) rfl rfl rfl hs (by (repeat (first | exact Cut.head _ _ | apply Cut.tail)); done) he10 (by rw [two_len]; omega) (fun _ => rfl) rfl rfl in72 sz72) rfl rfl ?_
  intro w hs
  refine s_nil ?_
  refine hK4 _ _ ?_
  replace hs := hs.drew
  refine d_start (by kernel_rfl) ?_
  refine d_pre [0, 2, 4, 6, 10] (g := 10) (by kernel_rfl) (fun _ _ d _ _ h => by cases d <;> exact h) ?_
  refine pVal rfl (fun w => (r_field rfl rfl of68_2)) ?_
  refine pVal rfl (fun w => (r_move rfl rfl)) ?_
  refine pVal rfl (fun w => (r_field rfl rfl of68_2)) ?_
  refine pVal rfl (fun w => (r_move rfl rfl)) ?_
  refine pVal rfl (fun w => (r_field rfl rfl of74_0)) ?_
  refine p_nil ?_
  refine d_head 13 [(1, true), (5, true), (7, true), (8, true), (11, true), (3, false), (9, false), (12, false)] (Holds _ _) (g := 2) (by kernel_rfl) (fun _ _ d _ _ h => by cases d <;> exact h) (Holds.self hs) ?_
  refine hVal rfl (fun w hS => (r_load rfl rfl (ag66 _) hS.own (by rfl))) ?_
  refine hVal rfl (fun w hS => (r_load rfl rfl (ag66 _) hS.own (by rfl))) ?_
  refine h_exQ rfl (r_idx (f := valC) rfl rfl rfl hs.rd (rfl) (two_at hi) Try.underlying66 in71 sz71) rfl rfl (fun _ => by rfl) ?_
  intro ad13 he12
  refine hVal rfl (fun w hS => (r_loadEl rfl rfl hS.rd he12 (two_at hi) (fun _ => rfl) (ag71 _) (by rfl))) ?_
  refine hVal rfl (fun w hS => (r_load rfl rfl (ag71 _) hS.own (by rfl))) ?_
  refine h_ex rfl (r_lit sigC [] rfl rfl rfl hs Try.underlying71 (by kernel_rfl) sz93 rfl (by decide) (fun _ => rfl)) rfl rfl (fun _ => by rfl) ?_
  intro b14 w hs
  refine ⟨(Holds.mono (Holds.self hs) (by repeat (first | exact Keeps.refl _ | apply Keeps.tail | apply Keeps.drop))), ?_⟩
  refine h_ex rfl (r_appendO (f := sigC) rfl rfl rfl hs (by (repeat (first | exact Cut.head _ _ | apply Cut.tail)); done) hs.rd Try.underlying71 (by kernel_rfl) sz93 (by decide) (fun _ => rfl) (by simp; omega)) rfl rfl (fun _ => by rfl) ?_
  intro v15 w hs
  refine ⟨(Holds.mono (Holds.self hs) (by repeat (first | exact Keeps.refl _ | apply Keeps.tail | apply Keeps.drop))), ?_⟩
  obtain ⟨pv15, kv15, rfl⟩ := (hs.oReads (by (repeat (first | exact Cut.head _ _ | apply Cut.tail)); done)).header
  refine h_ex rfl (r_appendO (f := sigC) rfl rfl rfl hs (by (repeat (first | exact Cut.head _ _ | apply Cut.tail)); done) hs.rd Try.underlying71 (by kernel_rfl) sz93 (by decide) (fun _ => rfl) (by simp; omega)) rfl rfl (fun _ => by rfl) ?_
  intro v16 w hs
  refine ⟨(Holds.mono (Holds.self hs) (by repeat (first | exact Keeps.refl _ | apply Keeps.tail | apply Keeps.drop))), ?_⟩
  obtain ⟨pv16, kv16, rfl⟩ := (hs.oReads (by (repeat (first | exact Cut.head _ _ | apply Cut.tail)); done)).header
  refine h_nil ?_
  refine d_tail 13 (by kernel_rfl) ?_
  refine s_exQ (r_idx (f := valC) rfl rfl rfl hs.rd (rfl) (two_at hi) Try.underlying66 in71 sz71) rfl rfl (fun _ => by rfl) ?_
  intro ad18 he17
  refine s_exS (r_storeEl (f := valC) rfl rfl rfl hs (by (repeat (first | exact Cut.head _ _ | apply Cut.tail)); done) he17 (by rw [two_len]; omega) (fun _ => rfl) rfl rfl in71 sz71) rfl rfl ?_
  intro w hs
  refine s_nil ?_
  refine f_end (rs := []) rfl .nil rfl ?_
  simp only [two_set hi, two_set' hi, List.nil_append] at hs
  replace hs := hs.letL (L := w1 ++ r.units) (by (repeat (first | exact Cut.head _ _ | apply Cut.tail)); done)
  replace hs := hs.letL (L := t0 ++ r.sigs) (by (repeat (first | exact Cut.head _ _ | apply Cut.tail)); done)
  exact hk _ _ _ (fin1 hs (by (repeat (first | apply Cut.pair | exact Cut.head _ _ | apply Cut.tail)); done) (by repeat (first | exact Keeps.refl _ | apply Keeps.tail | apply Keeps.drop)))
end
end Go.Proofs.Ytoeaamohchpjdaa
