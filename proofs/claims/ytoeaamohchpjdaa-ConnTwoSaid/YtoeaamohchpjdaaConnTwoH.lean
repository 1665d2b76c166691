/-
  Two connections that hear one another: all that is on its way comes, by turns.
-/
import Derived.Test.YtoeaamohchpjdaaConnTwoW
namespace Go.Proofs.Ytoeaamohchpjdaa
open Go Go.RowKit
set_option linter.unusedVariables false
set_option linter.unusedSimpArgs false
set_option maxRecDepth 100000

/-- Two ends in memory, seen from the one at i. -/
def pv (i b b' : Nat) (cs ws ts x x' y y' : Value) (P : Pr) : HP :=
  own b (.cells (cnC P.c0).toArray 108 (0, 0)) * own b' (.cells (cnC P.c1).toArray 108 (0, 0)) * rL 1 valC cs (two i (.pointer (some ⟨b, 0, none⟩)) (.pointer (some ⟨b', 0, none⟩))) * oL 72 1 valC ws (two i x x') * oL 71 1 valC ts (two i y y') * rL 8 unC x P.w0 * rL 8 unC x' P.w1 * rL 5 sigC y P.t0 * rL 5 sigC y' P.t1
theorem pv_open {E : World} {R : HP} {w : World} {i b b' : Nat} {cs ws ts x x' y y' : Value} {P : Pr} (h : Sat E (R * pv i b b' cs ws ts x x' y y' P) w) :
    Sat E (R * own b (.cells (cnC P.c0).toArray 108 (0, 0)) * own b' (.cells (cnC P.c1).toArray 108 (0, 0)) * rL 1 valC cs (two i (.pointer (some ⟨b, 0, none⟩)) (.pointer (some ⟨b', 0, none⟩))) * oL 72 1 valC ws (two i x x') * oL 71 1 valC ts (two i y y') * rL 8 unC x P.w0 * rL 8 unC x' P.w1 * rL 5 sigC y P.t0 * rL 5 sigC y' P.t1) w := by
  unfold pv at h
  simpa only [← star_assoc] using h
theorem pv_close {E : World} {H R R' : HP} {w : World} {i b b' : Nat} {cs ws ts x x' y y' : Value} (P : Pr) (h : Sat E H w)
    (c : Cut H (own b (.cells (cnC P.c0).toArray 108 (0, 0)) * own b' (.cells (cnC P.c1).toArray 108 (0, 0)) * rL 1 valC cs (two i (.pointer (some ⟨b, 0, none⟩)) (.pointer (some ⟨b', 0, none⟩))) * oL 72 1 valC ws (two i x x') * oL 71 1 valC ts (two i y y') * rL 8 unC x P.w0 * rL 8 unC x' P.w1 * rL 5 sigC y P.t0 * rL 5 sigC y' P.t1) R')
    (k : Keeps R' R) : Sat E (R * pv i b b' cs ws ts x x' y y' P) w := k _ _ _ (h.cut c)
instance : Std.Associative (α := HP) (· * ·) := ⟨star_assoc⟩
instance : Std.Commutative (α := HP) (· * ·) := ⟨star_comm⟩
theorem pv_swap (b b' : Nat) (cs ws ts x x' y y' : Value) (P : Pr) : pv 0 b b' cs ws ts x x' y y' P = pv 1 b' b cs ws ts x' x y' y P.swap := by
  unfold pv
  show own b (.cells (cnC P.c0).toArray _) * own b' (.cells (cnC P.c1).toArray _) * rL 1 valC cs [_, _] * oL _ 1 valC ws [x, x'] * oL _ 1 valC ts [y, y'] * rL 8 unC x P.w0 * rL 8 unC x' P.w1 * rL 5 sigC y P.t0 * rL 5 sigC y' P.t1 = own b' (.cells (cnC P.c1).toArray _) * own b (.cells (cnC P.c0).toArray _) * rL 1 valC cs [_, _] * oL _ 1 valC ws [x, x'] * oL _ 1 valC ts [y, y'] * rL 8 unC x' P.w1 * rL 8 unC x P.w0 * rL 5 sigC y' P.t1 * rL 5 sigC y P.t0
  ac_rfl
def half (n : Nat) (P : Pr) : Pr := if n % 2 == 1 then P.swap else P
theorem swap_swap (P : Pr) : P.swap.swap = P := rfl
theorem half_half (n : Nat) (P : Pr) : half n (half n P) = P := by unfold half; split <;> rfl
theorem turn_half (n : Nat) (g : Bool) (P : Pr) : P.turn (n % 2 == 1) g = half n ((half n P).turn0 g) := by
  unfold Pr.turn half; split <;> rfl
theorem turns_next (g : Nat → Bool) (n : Nat) (P : Pr) : turns g (n + 1) P = half n ((half n (turns g n P)).turn0 (g n)) := turn_half n (g n) (turns g n P)
theorem turns_next' (g : Nat → Bool) (n : Nat) (P : Pr) : turns g (n + 1) P = half n (((half n (turns g n P)).told (g n)).come) := turns_next g n P
theorem pv_view {E : World} {F : HP} {w : World} {b0 b1 : Nat} {cs ws ts x x' y y' : Value} {P : Pr} (n : Nat) (h : Sat E (F * pv 0 b0 b1 cs ws ts x x' y y' P) w) :
    ∃ i b b' z z' u u', i < 2 ∧ n % 2 = i ∧ Sat E (F * pv i b b' cs ws ts z z' u u' (half n P)) w ∧
      ∀ {F : HP} {w : World} {z z' u u' : Value} {V : Pr}, Sat E (F * pv i b b' cs ws ts z z' u u' V) w → ∃ x x' y y', Sat E (F * pv 0 b0 b1 cs ws ts x x' y y' (half n V)) w := by
  have hn : n % 2 = 0 ∨ n % 2 = 1 := by omega
  rcases hn with hn | hn
  · have e : ∀ V, half n V = V := fun V => by unfold half; rw [hn]; rfl
    refine ⟨0, b0, b1, x, x', y, y', by omega, hn, by rw [e]; exact h, fun {F w z z' u u' V} h => ⟨z, z', u, u', by rw [e]; exact h⟩⟩
  · have e : ∀ V : Pr, half n V = V.swap := fun V => by unfold half; rw [hn]; rfl
    refine ⟨1, b1, b0, x', x, y', y, by omega, hn, by rw [e, ← pv_swap]; exact h, fun {F w z z' u u' V} h => ⟨z', z, u', u, by rw [e, pv_swap]; exact h⟩⟩
theorem fold_succ {α β : Type} {f : β → α → β} {l : List α} {j : Nat} {s : α} (v : β) (h : l[j]? = some s) : (l.take (j + 1)).foldl f v = f ((l.take j).foldl f v) s := by
  rw [List.take_add_one, h, List.foldl_append]; rfl
theorem tm2 {n i : Nat} (h : n % 2 = i) : ((n : Int)).tmod 2 = (i : Int) := by
  rw [Int.tmod_eq_emod_of_nonneg (by omega)]; omega
/-- When what was told is answered. -/
def gOf (ans : List Bool) (n : Nat) : Bool := !(decide (n < 8) && (ans[n]? == some false))
theorem gOf_late (ans : List Bool) (n : Nat) (h : 8 ≤ n) : gOf ans n = true := by unfold gOf; simp [show ¬ n < 8 by omega]
theorem gOf_shut {ans : List Bool} {n : Nat} (h : n < 8) (h2 : ans[n]? = some false) : gOf ans n = false := by unfold gOf; simp [h, h2]
theorem turns_zero (g : Nat → Bool) (P : Pr) : turns g 0 P = P := rfl
theorem half_small {g : Nat → Bool} {P : Pr} (h : ∀ n, Small (turns g n P)) (n : Nat) : Small (half n (turns g n P)) := by
  unfold half; split
  · exact (h n).swap
  · exact h n
theorem half_len {g : Nat → Bool} {P : Pr} (h : ∀ n, Small (turns g n P)) (hl : P.t0.length ≤ 100000 ∧ P.t1.length ≤ 100000) (n : Nat) (hn : n ≤ 60) : (half n (turns g n P)).t0.length ≤ 110000 := by
  obtain ⟨h1, h2⟩ := turns_len h n
  unfold half; split
  · show (turns g n P).t1.length ≤ _; omega
  · omega
/-- The first j of what was told are answered; the first j of what came are handled. -/
def Pr.toldTo (g : Bool) (V : Pr) (j : Nat) : Pr := (V.t0.take j).foldl (Pr.tell1 g) V
def Pr.bare (V : Pr) : Pr := ⟨V.c0, V.c1, [], V.w1, V.t0, V.t1⟩
def Pr.comeTo (W : Pr) (j : Nat) : Pr := (W.w0.take j).foldl Pr.recv W.bare
theorem toldTo_next {g : Bool} {V : Pr} {j : Nat} {s : Sig} (h : V.t0[j]? = some s) : V.toldTo g (j + 1) = (V.toldTo g j).tell1 g s := fold_succ V h
theorem comeTo_next {W : Pr} {j : Nat} {u : Un} (h : W.w0[j]? = some u) : W.comeTo (j + 1) = (W.comeTo j).recv u := fold_succ W.bare h
theorem toldTo_end (g : Bool) (V : Pr) : V.toldTo g V.t0.length = V.told g := by unfold Pr.toldTo Pr.told; rw [List.take_length]
theorem comeTo_end (W : Pr) : W.comeTo W.w0.length = W.come := by unfold Pr.comeTo Pr.come; rw [List.take_length]; rfl
theorem toldTo_len {g : Bool} {V : Pr} (h : Small V) (j : Nat) (hj : j ≤ V.t0.length) : (V.toldTo g j).t0 = V.t0 ∧ (V.toldTo g j).t1 = V.t1 ∧ (V.toldTo g j).w0 = V.w0 ∧ (V.toldTo g j).w1.length ≤ 8 + j ∧ (V.toldTo g j).c1 = V.c1 ∧ CnOk (V.toldTo g j).c0 := by
  obtain ⟨h1, h2, h3, h4, h5, h6⟩ := tells_len g (V.t0.take j) V
  have := h.l1
  rw [List.length_take] at h4
  exact ⟨h1, h2, h3, by show (List.foldl _ _ _ : Pr).w1.length ≤ _; omega, h5, h6 h.k0⟩
theorem comeTo_len {W : Pr} (h : W.w0.length ≤ 8) (k : CnOk W.c0) (j : Nat) : (W.comeTo j).t0.length ≤ W.t0.length + 56 ∧ (W.comeTo j).t1 = W.t1 ∧ (W.comeTo j).w0 = [] ∧ (W.comeTo j).w1.length ≤ W.w1.length + 56 ∧ (W.comeTo j).c1 = W.c1 ∧ CnOk (W.comeTo j).c0 := by
  obtain ⟨h1, h2, h3, h4, h5, h6⟩ := recvs_len (W.w0.take j) W.bare
  rw [List.length_take] at h1 h4
  refine ⟨?_, h2, h3, ?_, h5, h6 k⟩
  · show (List.foldl _ _ _ : Pr).t0.length ≤ _
    have : W.bare.t0 = W.t0 := rfl
    rw [this] at h1; omega
  · show (List.foldl _ _ _ : Pr).w1.length ≤ _
    have : W.bare.w1 = W.w1 := rfl
    rw [this] at h4; omega
theorem tell_none {g : Bool} {V : Pr} {s : Sig} (h : wantK s.kind = 0) : V.tell1 g s = V := if_pos (.inl h)
theorem tell_shut {g : Bool} {V : Pr} {s : Sig} (h : g = false) : V.tell1 g s = V := if_pos (.inr h)
theorem tell_ask {g : Bool} {V : Pr} {s : Sig} (h : ¬ wantK s.kind = 0) (hg : g = true) : V.tell1 g s = V.ask (wantK s.kind) := if_neg (by simp [h, hg])
theorem request_err {c : Cn} {k : Int} (h : ¬ c.reqErr k noS = 0) : c.request k noS = ⟨c, rs0⟩ := if_neg h
theorem ask_err {V : Pr} {k : Int} (h : ¬ V.c0.reqErr k noS = 0) : V.ask k = V := by
  unfold Pr.ask; rw [request_err h]; unfold Pr.give rs0; simp
theorem Sat.dupL {α : Type} {E : World} {H R : HP} {w : World} {sz : Nat} {f : α → List Value} {v : Value} {L : List α} (h : Sat E H w) (c : Cut H (rL sz f v L) R) : Sat E (H * rL sz f v L) w :=
  ((h.cut c).dup (Lasts.ofRL _ _ _ _)).eq (by rw [← c.eq])
theorem toldTo_zero (g : Bool) (V : Pr) : V.toldTo g 0 = V := rfl
theorem comeTo_zero (W : Pr) : W.comeTo 0 = W.bare := rfl
theorem gOf_len {ans : List Bool} {n : Nat} (h : ¬ n < ans.length) : gOf ans n = true := by
  unfold gOf; rw [List.getElem?_eq_none (by omega)]; simp
theorem gOf_yes {ans : List Bool} {n : Nat} (h : ans[n]? = some true) : gOf ans n = true := by unfold gOf; rw [h]; simp
theorem wantK_no {k : Int} (h1 : ¬ k = 1) (h5 : ¬ k = 5) (h7 : ¬ k = 7) : wantK k = 0 := by unfold wantK; rw [if_neg h1, if_neg h5, if_neg h7]
theorem tell_do {g : Bool} {V : Pr} {s : Sig} {k : Int} (h : (s.kind = 1 ∧ k = 2) ∨ (s.kind = 5 ∧ k = 5) ∨ (s.kind = 7 ∧ k = 6)) (hg : g = true) : V.tell1 g s = V.ask k := by
  have e : wantK s.kind = k ∧ ¬ k = 0 := by
    rcases h with ⟨h, rfl⟩ | ⟨h, rfl⟩ | ⟨h, rfl⟩ <;> rw [h] <;> exact ⟨rfl, by decide⟩
  rw [tell_ask (by rw [e.1]; exact e.2) hg, e.1]
theorem req_units (c : Cn) (k : Int) : (c.request k noS).r.units.length ≤ 1 := by have := few_request c k noS; unfold As.few at this; omega
theorem req_sigs (c : Cn) (k : Int) : (c.request k noS).r.sigs.length ≤ 1 := by have := few_request c k noS; unfold As.few at this; omega
theorem rec_units (c : Cn) (p : Un) : (c.receive p).r.units.length ≤ 7 := by have := few_receive c p; unfold As.few at this; omega
theorem rec_sigs (c : Cn) (p : Un) : (c.receive p).r.sigs.length ≤ 7 := by have := few_receive c p; unfold As.few at this; omega
theorem told_facts (g : Bool) {V : Pr} (h : Small V) (hl : V.t0.length ≤ 110000) : (V.told g).t0.length ≤ 110000 ∧ (V.told g).w0.length ≤ 8 ∧ (V.told g).w1.length ≤ 110008 ∧ CnOk (V.told g).c0 ∧ ∀ u ∈ (V.told g).w0, 1 ≤ u.kind ∧ u.kind ≤ 15 := by
  obtain ⟨t0e, t1e, w0e, w1l, c1e, kc⟩ := toldTo_len (g := g) h V.t0.length (Nat.le_refl _)
  rw [toldTo_end] at t0e t1e w0e w1l c1e kc
  rw [t0e, w0e]
  exact ⟨hl, h.l0, by omega, kc, h.u0⟩
attribute [local irreducible] turns Pr.toldTo Pr.comeTo Pr.told Pr.turn0 restP own fix oL rL osl rsl fact some' pv wpList wpHi wpPre wpAny After AfterH

section
variable {E : World} {H R : HP} {w : World} {Q : Ending → World → Prop}
set_option maxHeartbeats 4000000 in
theorem hear_use {b0 b1 : Nat} {cs ws ts x x' y y' : Value} {pa : Option Addr} {ka : Nat} {ans : List Bool} (P : Pr) (hsm : ∀ n, Small (turns (gOf ans) n P)) (hl : P.t0.length ≤ 100000 ∧ P.t1.length ≤ 100000)
    (hs : Sat E H w) (cu : Cut H (rL 1 booC (.slice pa ans.length ka) ans * pv 0 b0 b1 cs ws ts x x' y y' P) R)
    (hk : ∀ x x' y y' w', Sat E (R * pv 0 b0 b1 cs ws ts x x' y y' (turns (gOf ans) 60 P)) w' → Q (.returned (.bool ((turns (gOf ans) 60 P).w0.length + (turns (gOf ans) 60 P).w1.length == 0))) w') :
    Calls Try.prog 35 #[.agg #[cs, ws, ts], .slice pa ans.length ka] w Q := by
  replace hs := hs.cut cu
  rw [← star_assoc] at hs
  refine f_enter Try.func35 rfl rfl ?_
  show Code.wp _ _ _ (Fr _) _
  refine wp_seq_k (fun K1 hK1 => ?_)
  refine c_region ?_
  refine s_ex (r_box rfl rfl rfl hs) rfl rfl (fun _ => by rfl) ?_
  intro bp w hs
  refine sVal (r_assign rfl rfl) ?_
  refine s_nil ?_
  refine hK1 _ _ ?_
  refine wp_seq_k (fun K2 hK2 => ?_)
  refine wp_seq_k (fun K3 hK3 => ?_)
  refine c_region ?_
  refine sVal (r_assign rfl rfl) ?_
  refine s_nil ?_
  refine hK3 _ _ ?_
  refine wp_block ?_
  refine c_loop (5 :: 6 :: 8 :: 9 :: 10 :: 11 :: 12 :: 14 :: 15 :: 16 :: 17 :: 18 :: 19 :: 20 :: 21 :: 22 :: 23 :: 24 :: 25 :: 26 :: 27 :: 28 :: 29 :: 30 :: 31 :: 32 :: 33 :: 34 :: 35 :: 36 :: 37 :: 38 :: 39 :: 40 :: 41 :: 42 :: 43 :: 44 :: 45 :: 46 :: 47 :: 48 :: 49 :: 50 :: 51 :: 52 :: 53 :: 54 :: 55 :: 56 :: 57 :: 58 :: 59 :: 60 :: 61 :: 62 :: 63 :: 64 :: 65 :: 66 :: 67 :: 68 :: 69 :: 70 :: 71 :: 72 :: 73 :: 74 :: 75 :: 76 :: 77 :: 78 :: 79 :: 80 :: 81 :: 82 :: 83 :: 84 :: 85 :: 86 :: 87 :: 88 :: 89 :: 90 :: 91 :: 92 :: 93 :: 94 :: 95 :: 96 :: 97 :: 98 :: 99 :: 100 :: []) (fun xs w => ∃ (n : Nat) (x x' y y' : Value), xs = (.int .i64 (n : Int) :: xAt xs 1 :: xAt xs 2 :: xAt xs 3 :: xAt xs 4 :: xAt xs 5 :: xAt xs 6 :: xAt xs 7 :: xAt xs 8 :: xAt xs 9 :: xAt xs 10 :: xAt xs 11 :: xAt xs 12 :: xAt xs 13 :: xAt xs 14 :: xAt xs 15 :: xAt xs 16 :: xAt xs 17 :: xAt xs 18 :: xAt xs 19 :: xAt xs 20 :: xAt xs 21 :: xAt xs 22 :: xAt xs 23 :: xAt xs 24 :: xAt xs 25 :: xAt xs 26 :: xAt xs 27 :: xAt xs 28 :: xAt xs 29 :: xAt xs 30 :: xAt xs 31 :: xAt xs 32 :: xAt xs 33 :: xAt xs 34 :: xAt xs 35 :: xAt xs 36 :: xAt xs 37 :: xAt xs 38 :: xAt xs 39 :: xAt xs 40 :: xAt xs 41 :: xAt xs 42 :: xAt xs 43 :: xAt xs 44 :: xAt xs 45 :: xAt xs 46 :: xAt xs 47 :: xAt xs 48 :: xAt xs 49 :: xAt xs 50 :: xAt xs 51 :: xAt xs 52 :: xAt xs 53 :: xAt xs 54 :: xAt xs 55 :: xAt xs 56 :: xAt xs 57 :: xAt xs 58 :: xAt xs 59 :: xAt xs 60 :: xAt xs 61 :: xAt xs 62 :: xAt xs 63 :: xAt xs 64 :: xAt xs 65 :: xAt xs 66 :: xAt xs 67 :: xAt xs 68 :: xAt xs 69 :: xAt xs 70 :: xAt xs 71 :: xAt xs 72 :: xAt xs 73 :: xAt xs 74 :: xAt xs 75 :: xAt xs 76 :: xAt xs 77 :: xAt xs 78 :: xAt xs 79 :: xAt xs 80 :: xAt xs 81 :: xAt xs 82 :: xAt xs 83 :: xAt xs 84 :: xAt xs 85 :: xAt xs 86 :: xAt xs 87 :: xAt xs 88 :: xAt xs 89 :: xAt xs 90 :: xAt xs 91 :: xAt xs 92 :: xAt xs 93 :: []) ∧ n ≤ 60 ∧ Sat E (R * rL 1 booC (.slice pa ans.length ka) ans * own bp (.cells [cs, ws, ts].toArray 68 (0, 0)) * pv 0 b0 b1 cs ws ts x x' y y' (turns (gOf ans) n P)) w) (fun xs _ => 60 - (intOf (xAt xs 0)).toNat) rfl (by rfl) ?_ ?_
  · (refine ⟨0, x, x', y, y', rfl, by omega, ?_⟩; rw [turns_zero]; exact fin1 hs (by (repeat (first | exact Cut.head _ _ | apply Cut.tail)); done) (by repeat (first | exact Keeps.refl _ | apply Keeps.drop)))
  clear hs
  rintro xs w ⟨n, x, x', y, y', hxs, hn, hs⟩
  obtain ⟨D4, hD4⟩ : ∃ D, D = xAt xs := ⟨_, rfl⟩
  rw [← hD4] at hxs
  clear hD4
  subst hxs
  refine ⟨_, rfl, fun KL5 hKL5 => ?_⟩
  refine wp_seq_k (fun K6 hK6 => ?_)
  refine wp_seq_k (fun K7 hK7 => ?_)
  refine c_region ?_
  refine sVal (r_move rfl rfl) ?_
  refine s_bool (r_cmp rfl rfl rfl rfl) rfl rfl (fun _ => by rfl) ?_
  intro c8 hc8
  refine s_nil ?_
  refine hK7 _ _ ?_
  cases c8
  case false =>
   replace hc8 := decF' hc8
   try dsimp only at hc8
   first
   | (exfalso; first | omega | (cases hc8; done))
   | (
     refine c_condF rfl ?_
     refine wp_exit ?_
     refine hK2 _ _ ?_
     refine wp_seq_k (fun K9 hK9 => ?_)
     replace hs := hs.drew
     refine d_start (by kernel_rfl) ?_
     refine d_pre [0, 5] (g := 11) (by kernel_rfl) (fun _ _ d _ _ h => by cases d <;> exact h) ?_
     obtain rfl : n = 60 := by omega
     have hS0 := (hsm 60).l0
     have hS1 := (hsm 60).l1
     replace hs := pv_open hs
     obtain ⟨px, kx, rfl⟩ := (hs.rReads (v := x) (by (repeat (first | exact Cut.head _ _ | apply Cut.tail)); done)).header
     obtain ⟨px', kx', rfl⟩ := (hs.rReads (v := x') (by (repeat (first | exact Cut.head _ _ | apply Cut.tail)); done)).header
     refine pVal rfl (fun w => (r_field rfl rfl of68_1)) ?_
     refine pVal rfl (fun w => (r_field rfl rfl of68_1)) ?_
     refine p_nil ?_
     refine d_head 10 [(1, true), (2, true), (3, true), (4, true), (6, true), (7, true), (8, true), (9, true)] (Holds _ _) (g := 3) (by kernel_rfl) (fun _ _ d _ _ h => by cases d <;> exact h) (Holds.self hs) ?_
     refine hVal rfl (fun w hS => (r_load rfl rfl (ag65 _) hS.own (by rfl))) ?_
     refine h_exQ rfl (r_idx (f := valC) rfl rfl rfl hs.rd (rfl) (two_at (i := 0) (by omega)) Try.underlying65 in72 sz72) rfl rfl (fun _ => by rfl) ?_
     intro ad11 he10
     refine hVal rfl (fun w hS => (r_loadEl rfl rfl hS.rd he10 (two_at (i := 0) (by omega)) (fun _ => rfl) (ag72 _) (by rfl))) ?_
     refine hVal rfl (fun w hS => (r_len rfl rfl Try.underlying72)) ?_
     refine hVal rfl (fun w hS => (r_load rfl rfl (ag65 _) hS.own (by rfl))) ?_
     refine h_exQ rfl (r_idx (f := valC) rfl rfl rfl hs.rd (rfl) (two_at' (i := 0) (by omega)) Try.underlying65 in72 sz72) rfl rfl (fun _ => by rfl) ?_
     intro ad13 he12
     refine hVal rfl (fun w hS => (r_loadEl rfl rfl hS.rd he12 (two_at' (i := 0) (by omega)) (fun _ => rfl) (ag72 _) (by rfl))) ?_
     refine hVal rfl (fun w hS => (r_len rfl rfl Try.underlying72)) ?_
     refine h_nil ?_
     refine d_tail 10 (by kernel_rfl) ?_
     refine sVal (r_ari rfl rfl rfl rfl (by first | exact wrapI (by omega) | rfl)) ?_
     refine s_bool (r_cmp rfl rfl rfl rfl) rfl rfl (fun _ => by rfl) ?_
     intro c14 hc14
     refine sVal (r_assign rfl rfl) ?_
     refine s_nil ?_
     refine hK9 _ _ ?_
     refine wp_ret ?_
     refine f_ret (rs := [.tmp 4]) rfl (.tmp rfl .nil) rfl ?_
     subst c14
     have e : (((turns (gOf ans) 60 P).w0.length : Int) + ((turns (gOf ans) 60 P).w1.length : Int) == 0) = ((turns (gOf ans) 60 P).w0.length + (turns (gOf ans) 60 P).w1.length == 0) := (by rw [Bool.eq_iff_iff, beq_iff_eq, beq_iff_eq]; omega)
     show Q (.returned (.bool _)) _
     rw [e]
     exact hk _ _ _ _ _ (pv_close _ hs (by (repeat (first | apply Cut.pair | exact Cut.head _ _ | apply Cut.tail)); done) (by repeat (first | exact Keeps.refl _ | apply Keeps.tail | apply Keeps.drop))))
  case true =>
   replace hc8 := decT' hc8
   try dsimp only at hc8
   first
   | (exfalso; first | omega | (cases hc8; done))
   | (
     refine c_condT rfl ?_
     refine wp_skip ?_
     refine hK6 _ _ ?_
     refine wp_seq_k (fun K15 hK15 => ?_)
     refine wp_block ?_
     refine wp_seq_k (fun K16 hK16 => ?_)
     refine c_region ?_
     obtain ⟨i, b, b', z, z', u, u', hi, hin, hs, back⟩ := pv_view n hs
     have hV := half_small hsm n
     have hVl := half_len hsm hl n (by omega)
     have eT : turns (gOf ans) (n + 1) P = half n (((half n (turns (gOf ans) n P)).told (gOf ans n)).come) := turns_next' _ _ _
     generalize half n (turns (gOf ans) n P) = V at hs hV hVl eT
     replace hs := pv_open hs
     refine sVal (r_move rfl rfl) ?_
     refine sVal (r_div rfl rfl rfl (by decide) rfl (tm2 hin)) ?_
     refine sVal (r_assign rfl rfl) ?_
     refine s_nil ?_
     refine hK16 _ _ ?_
     refine wp_seq_k (fun K17 hK17 => ?_)
     refine wp_seq_k (fun K18 hK18 => ?_)
     refine c_region ?_
     refine sVal (r_field rfl rfl of68_2) ?_
     refine sVal (r_load rfl rfl (ag66 _) hs.own (by rfl)) ?_
     refine sVal (r_move rfl rfl) ?_
     refine s_exQ (r_idx (f := valC) rfl rfl rfl hs.rd (rfl) (two_at hi) Try.underlying66 in71 sz71) rfl rfl (fun _ => by rfl) ?_
     intro ad20 he19
     refine sVal (r_loadEl rfl rfl hs.rd he19 (two_at hi) (fun _ => rfl) (ag71 _) (by rfl)) ?_
     obtain ⟨pu, ku, rfl⟩ := (hs.rReads (v := u) (by (repeat (first | exact Cut.head _ _ | apply Cut.tail)); done)).header
     refine sVal (r_len rfl rfl Try.underlying71) ?_
     refine sVal (r_move rfl rfl) ?_
     refine s_nil ?_
     refine hK18 _ _ ?_
     refine wp_block ?_
     refine c_loop (8 :: 9 :: 10 :: 11 :: 27 :: 28 :: 29 :: 30 :: 31 :: 32 :: 33 :: 34 :: 35 :: 36 :: 37 :: 38 :: 39 :: 40 :: 41 :: 42 :: 43 :: 44 :: 45 :: 46 :: 47 :: 48 :: 49 :: 50 :: 51 :: 52 :: 53 :: 54 :: 55 :: 56 :: 57 :: 58 :: 59 :: 60 :: 61 :: 62 :: 63 :: 64 :: 65 :: 66 :: 67 :: 68 :: 69 :: 70 :: 71 :: 72 :: 73 :: 74 :: []) (fun xs w => ∃ (j : Nat) (z2 u2 : Value), xs = (xAt xs 0 :: xAt xs 1 :: xAt xs 2 :: xAt xs 3 :: .int .i64 (j : Int) :: xAt xs 5 :: xAt xs 6 :: xAt xs 7 :: xAt xs 8 :: xAt xs 9 :: xAt xs 10 :: xAt xs 11 :: xAt xs 12 :: xAt xs 13 :: xAt xs 14 :: xAt xs 15 :: xAt xs 16 :: xAt xs 17 :: xAt xs 18 :: xAt xs 19 :: xAt xs 20 :: xAt xs 21 :: xAt xs 22 :: xAt xs 23 :: xAt xs 24 :: xAt xs 25 :: xAt xs 26 :: xAt xs 27 :: xAt xs 28 :: xAt xs 29 :: xAt xs 30 :: xAt xs 31 :: xAt xs 32 :: xAt xs 33 :: xAt xs 34 :: xAt xs 35 :: xAt xs 36 :: xAt xs 37 :: xAt xs 38 :: xAt xs 39 :: xAt xs 40 :: xAt xs 41 :: xAt xs 42 :: xAt xs 43 :: xAt xs 44 :: xAt xs 45 :: xAt xs 46 :: xAt xs 47 :: xAt xs 48 :: xAt xs 49 :: xAt xs 50 :: xAt xs 51 :: []) ∧ j ≤ V.t0.length ∧ Sat E (R * rL 1 booC (.slice pa ans.length ka) ans * own bp (.cells [cs, ws, ts].toArray 68 (0, 0)) * rL 5 sigC (.slice pu V.t0.length ku) V.t0 * pv i b b' cs ws ts z z2 u2 u' (V.toldTo (gOf ans n) j)) w) (fun xs _ => V.t0.length - (intOf (xAt xs 4)).toNat) rfl (by rfl) ?_ ?_
     · (refine ⟨0, z', .slice pu V.t0.length ku, rfl, by omega, ?_⟩; rw [toldTo_zero]; exact pv_close V (hs.dupL (L := V.t0) (v := .slice pu V.t0.length ku) (by (repeat (first | exact Cut.head _ _ | apply Cut.tail)); done)) (by (repeat (first | apply Cut.pair | exact Cut.head _ _ | apply Cut.tail)); done) (by repeat (first | exact Keeps.refl _ | apply Keeps.tail | apply Keeps.drop)))
     clear hs
     rintro xs w ⟨j, z2, u2, hxs, hj, hs⟩
     obtain ⟨D21, hD21⟩ : ∃ D, D = xAt xs := ⟨_, rfl⟩
     rw [← hD21] at hxs
     clear hD21
     subst hxs
     refine ⟨_, rfl, fun KL22 hKL22 => ?_⟩
     refine wp_seq_k (fun K23 hK23 => ?_)
     refine c_region ?_
     refine s_bool (r_cmp rfl rfl rfl rfl) rfl rfl (fun _ => by rfl) ?_
     intro c24 hc24
     refine s_nil ?_
     refine hK23 _ _ ?_
     refine wp_seq_k (fun K25 hK25 => ?_)
     cases c24
     case false =>
      replace hc24 := decF' hc24
      try dsimp only at hc24
      first
      | (exfalso; first | omega | (cases hc24; done))
      | (
        refine c_condF rfl ?_
        refine wp_exit ?_
        refine hK17 _ _ ?_
        refine wp_seq_k (fun K26 hK26 => ?_)
        refine c_region ?_
        obtain rfl : j = V.t0.length := by omega
        rw [toldTo_end] at hs
        obtain ⟨Wt, Wl, Ww, Wk, Wu⟩ := told_facts (gOf ans n) hV hVl
        generalize V.told (gOf ans n) = W at *
        replace hs := pv_open hs
        obtain ⟨pz, kz, rfl⟩ := (hs.rReads (v := z) (by (repeat (first | exact Cut.head _ _ | apply Cut.tail)); done)).header
        refine sVal (r_field rfl rfl of68_1) ?_
        refine sVal (r_load rfl rfl (ag65 _) hs.own (by rfl)) ?_
        refine sVal (r_move rfl rfl) ?_
        refine s_exQ (r_idx (f := valC) rfl rfl rfl hs.rd (rfl) (two_at hi) Try.underlying65 in72 sz72) rfl rfl (fun _ => by rfl) ?_
        intro ad28 he27
        refine sVal (r_loadEl rfl rfl hs.rd he27 (two_at hi) (fun _ => rfl) (ag72 _) (by rfl)) ?_
        refine sVal (r_assign rfl rfl) ?_
        refine s_nil ?_
        refine hK26 _ _ ?_
        refine wp_seq_k (fun K29 hK29 => ?_)
        refine c_region ?_
        refine sVal (r_field rfl rfl of68_1) ?_
        refine sVal (r_load rfl rfl (ag65 _) hs.own (by rfl)) ?_
        refine sVal (r_move rfl rfl) ?_
        refine s_exQ (r_idx (f := valC) rfl rfl rfl hs.rd (rfl) (two_at hi) Try.underlying65 in72 sz72) rfl rfl (fun _ => by rfl) ?_
        intro ad31 he30
        refine s_exS (r_storeEl (f := valC) rfl rfl rfl hs (by (repeat (first | exact Cut.head _ _ | apply Cut.tail)); done) he30 (by rw [two_len]; omega) (fun _ => rfl) rfl rfl in72 sz72) rfl rfl ?_
        intro w hs
        refine s_nil ?_
        refine hK29 _ _ ?_
        refine wp_seq_k (fun K32 hK32 => ?_)
        refine c_region ?_
        refine sVal (r_move rfl rfl) ?_
        refine sVal (r_len rfl rfl Try.underlying72) ?_
        refine sVal (r_move rfl rfl) ?_
        refine s_nil ?_
        refine hK32 _ _ ?_
        refine wp_block ?_
        refine c_loop (14 :: 86 :: 87 :: 88 :: 89 :: 90 :: 91 :: 92 :: 93 :: 94 :: 95 :: 96 :: 97 :: 98 :: 99 :: 100 :: []) (fun xs w => ∃ (j : Nat) (z2 u2 : Value), xs = (xAt xs 0 :: .int .i64 (j : Int) :: xAt xs 2 :: xAt xs 3 :: xAt xs 4 :: xAt xs 5 :: xAt xs 6 :: xAt xs 7 :: xAt xs 8 :: xAt xs 9 :: xAt xs 10 :: xAt xs 11 :: xAt xs 12 :: xAt xs 13 :: xAt xs 14 :: xAt xs 15 :: []) ∧ j ≤ W.w0.length ∧ Sat E (R * rL 1 booC (.slice pa ans.length ka) ans * own bp (.cells [cs, ws, ts].toArray 68 (0, 0)) * rL 8 unC (.slice pz W.w0.length kz) W.w0 * pv i b b' cs ws ts (.slice none 0 0) z2 u2 u' (W.comeTo j)) w) (fun xs _ => W.w0.length - (intOf (xAt xs 1)).toNat) rfl (by rfl) ?_ ?_
        · (refine ⟨0, z2, u2, rfl, by omega, ?_⟩; rw [comeTo_zero]; rw [two_set hi] at hs; exact pv_close W.bare ((hs.mkNilL 85 8 unC).letL (L := ([] : List Un)) (by (repeat (first | exact Cut.head _ _ | apply Cut.tail)); done)) (by (repeat (first | apply Cut.pair | exact Cut.head _ _ | apply Cut.tail)); done) (by repeat (first | exact Keeps.refl _ | apply Keeps.tail | apply Keeps.drop)))
        clear hs
        rintro xs w ⟨j, z2, u2, hxs, hj, hs⟩
        obtain ⟨D33, hD33⟩ : ∃ D, D = xAt xs := ⟨_, rfl⟩
        rw [← hD33] at hxs
        clear hD33
        subst hxs
        refine ⟨_, rfl, fun KL34 hKL34 => ?_⟩
        refine wp_seq_k (fun K35 hK35 => ?_)
        refine c_region ?_
        refine s_bool (r_cmp rfl rfl rfl rfl) rfl rfl (fun _ => by rfl) ?_
        intro c36 hc36
        refine s_nil ?_
        refine hK35 _ _ ?_
        refine wp_seq_k (fun K37 hK37 => ?_)
        cases c36
        case false =>
         replace hc36 := decF' hc36
         try dsimp only at hc36
         first
         | (exfalso; first | omega | (cases hc36; done))
         | (
           refine c_condF rfl ?_
           refine wp_exit ?_
           refine hK15 _ _ ?_
           refine c_region ?_
           refine sVal (r_move rfl rfl) ?_
           refine sVal (r_ari rfl rfl rfl rfl (by first | exact wrapI (by omega) | rfl)) ?_
           refine sVal (r_assign rfl rfl) ?_
           refine s_nil ?_
           refine hKL5 _ _ _ (by rfl) (by rfl) ?_ ?_
           · (obtain rfl : j = W.w0.length := (by omega); rw [comeTo_end] at hs; obtain ⟨x, x', y, y', hs⟩ := back hs; exact ⟨n + 1, x, x', y, y', rfl, by omega, by rw [eT]; exact fin1 hs (by (repeat (first | exact Cut.head _ _ | apply Cut.tail)); done) (by repeat (first | exact Keeps.refl _ | apply Keeps.tail | apply Keeps.drop))⟩)
           · (show _ < _; simp [intOf, xAt]; omega))
        case true =>
         replace hc36 := decT' hc36
         try dsimp only at hc36
         first
         | (exfalso; first | omega | (cases hc36; done))
         | (
           refine c_condT rfl ?_
           refine wp_skip ?_
           refine hK37 _ _ ?_
           refine wp_seq_k (fun K38 hK38 => ?_)
           refine wp_block ?_
           refine wp_seq_k (fun K39 hK39 => ?_)
           refine c_region ?_
           obtain ⟨p, hx⟩ : ∃ p, W.w0[j]? = some p := ⟨_, List.getElem?_eq_getElem (by omega)⟩
           obtain ⟨t0l, t1e, w0e, w1l, c1e, kc⟩ := comeTo_len Wl Wk j
           have hk15 := Wu p (List.mem_of_getElem? hx)
           replace hs := pv_open hs
           refine s_exQ (r_idx (f := unC) rfl rfl rfl hs.rd (rfl) (hx) Try.underlying72 in85 sz85) rfl rfl (fun _ => by rfl) ?_
           intro ad41 he40
           refine sVal (r_loadElA rfl rfl hs.rd he40 (hx) (fun _ => rfl) (ag85 _) in85 sz85 (by rfl)) ?_
           refine s_ex (r_alloc rfl zr85 hs) rfl rfl (fun _ => by rfl) ?_
           intro bq w hs
           refine s_exS (r_storeA rfl rfl rfl hs (by (repeat (first | exact Cut.head _ _ | apply Cut.tail)); done) in85 sz85 rfl (fun h => by cases h) rfl (by rfl)) rfl rfl ?_
           intro w hs
           refine s_nil ?_
           refine hK39 _ _ ?_
           replace hs := hs.drew
           refine d_start (by kernel_rfl) ?_
           refine d_pre [1, 2, 4] (g := 7) (by kernel_rfl) (fun _ _ d _ _ h => by cases d <;> exact h) ?_
           refine pVal rfl (fun w => (r_move rfl rfl)) ?_
           refine pVal rfl (fun w => (r_field rfl rfl of68_0)) ?_
           refine pVal rfl (fun w => (r_move rfl rfl)) ?_
           refine p_nil ?_
           refine d_head 9 [(0, true), (3, true), (5, true), (6, true), (7, true), (8, false)] (Holds _ (emp * own bp (.cells [cs, ws, ts].toArray 68 (0, 0)) * rL 1 valC cs (two i (.pointer (some ⟨b, 0, none⟩)) (.pointer (some ⟨b', 0, none⟩))) * own bq (.cells (unC p).toArray 85 (0, 0)))) (g := 1) (by kernel_rfl) (fun _ _ d _ _ h => by cases d <;> exact h) (Holds.of hs (by (repeat (first | apply Cut.pair | exact Cut.nothing _ | exact Cut.head _ _ | apply Cut.tail)); done)) ?_
           refine hVal rfl (fun w hS => (r_loadA rfl rfl (ag68 _) hS.own in68 sz68 (by rfl))) ?_
           refine hVal rfl (fun w hS => (r_load rfl rfl (ag64 _) hS.own (by rfl))) ?_
           refine h_exQ rfl (r_idx (f := valC) rfl rfl rfl hs.rd (rfl) (two_at hi) Try.underlying64 in58 sz58) rfl rfl (fun _ => by rfl) ?_
           intro ad43 he42
           refine hVal rfl (fun w hS => (r_loadEl rfl rfl hS.rd he42 (two_at hi) (fun _ => rfl) (ag58 _) (by rfl))) ?_
           refine hVal rfl (fun w hS => (r_loadA rfl rfl (ag85 _) hS.own in85 sz85 (by rfl))) ?_
           refine h_enter rfl (r_call rfl ent38 rfl) rfl ?_
           refine receive_use _ _ _ _ _ _ _ kc hk15 hs (by (repeat (first | exact Cut.head _ _ | apply Cut.tail)); done) ?_
           intro g1 w hs
           replace hs := rest_open hs
           refine ⟨_, rfl, ah_put (Holds.of hs (by (repeat (first | apply Cut.pair | exact Cut.nothing _ | exact Cut.head _ _ | apply Cut.tail)); done)) (by rfl) ?_⟩
           refine h_nil ?_
           refine d_tail 9 (by kernel_rfl) ?_
           refine s_enter (r_call rfl ent32 rfl) rfl ?_
           refine give_use (g := g1) (x1 := z2) (y0 := u2) (w1 := (W.comeTo j).w1) (t0 := (W.comeTo j).t0) (Cn.receive (W.comeTo j).c0 p).r hi (Nat.le_trans (Nat.add_le_add_left (rec_units _ _) _) (by omega)) (Nat.le_trans (Nat.add_le_add_left (rec_sigs _ _) _) (by omega)) hs (by (repeat (first | apply Cut.pair | exact Cut.head _ _ | apply Cut.tail)); done) ?_
           intro z3 u3 w hs
           simp only [← star_assoc] at hs
           refine ⟨_, rfl, a_put (by rfl) ?_⟩
           refine s_nil ?_
           refine hK38 _ _ ?_
           refine c_region ?_
           refine sVal (r_ari rfl rfl rfl rfl (by first | exact wrapI (by omega) | rfl)) ?_
           refine sVal (r_move rfl rfl) ?_
           refine s_nil ?_
           refine hKL34 _ _ _ (by rfl) (by rfl) ?_ ?_
           · exact ⟨j + 1, z3, u3, rfl, by omega, by rw [comeTo_next hx]; exact pv_close ((W.comeTo j).recv p) hs (by (repeat (first | apply Cut.pair | exact Cut.head _ _ | apply Cut.tail)); done) (by repeat (first | exact Keeps.refl _ | apply Keeps.tail | apply Keeps.drop))⟩
           · (show _ < _; simp [intOf, xAt]; omega)))
     case true =>
      replace hc24 := decT' hc24
      try dsimp only at hc24
      first
      | (exfalso; first | omega | (cases hc24; done))
      | (
        refine c_condT rfl ?_
        refine wp_skip ?_
        refine hK25 _ _ ?_
        refine wp_seq_k (fun K44 hK44 => ?_)
        refine wp_block ?_
        refine wp_seq_k (fun K45 hK45 => ?_)
        refine c_region ?_
        obtain ⟨s, hx⟩ : ∃ s, V.t0[j]? = some s := ⟨_, List.getElem?_eq_getElem (by omega)⟩
        replace hs := pv_open hs
        obtain ⟨t0e, t1e, w0e, w1l, c1e, kc⟩ := toldTo_len (g := gOf ans n) hV j (by omega)
        refine s_exQ (r_idx (f := sigC) rfl rfl rfl hs.rd (rfl) (hx) Try.underlying71 in93 sz93) rfl rfl (fun _ => by rfl) ?_
        intro ad47 he46
        refine sVal (r_loadElA rfl rfl hs.rd he46 (hx) (fun _ => rfl) (ag93 _) in93 sz93 (by rfl)) ?_
        refine s_ex (r_alloc rfl zr93 hs) rfl rfl (fun _ => by rfl) ?_
        intro b48 w hs
        refine s_exS (r_storeA rfl rfl rfl hs (by (repeat (first | exact Cut.head _ _ | apply Cut.tail)); done) in93 sz93 rfl (fun h => by cases h) rfl (by rfl)) rfl rfl ?_
        intro w hs
        refine s_nil ?_
        refine hK45 _ _ ?_
        refine wp_seq_k (fun K49 hK49 => ?_)
        refine c_region ?_
        refine sVal (r_assign rfl rfl) ?_
        refine s_nil ?_
        refine hK49 _ _ ?_
        refine wp_seq_k (fun K50 hK50 => ?_)
        refine wp_seq_k (fun K51 hK51 => ?_)
        refine c_region ?_
        refine sVal (r_field rfl rfl of93_0) ?_
        refine sVal (r_load rfl rfl (ag3 _) hs.own (by rfl)) ?_
        refine s_nil ?_
        refine hK51 _ _ ?_
        refine wp_block ?_
        refine wp_seq_k (fun K52 hK52 => ?_)
        refine c_region ?_
        refine s_bool (r_cmp rfl rfl rfl rfl) rfl rfl (fun _ => by rfl) ?_
        intro c53 hc53
        refine sVal (r_assign rfl rfl) ?_
        refine s_nil ?_
        refine hK52 _ _ ?_
        cases c53
        case false =>
         replace hc53 := eqF hc53
         try dsimp only at hc53
         first
         | (exfalso; first | omega | (cases hc53; done))
         | (
           refine c_condF rfl ?_
           refine wp_seq_k (fun K54 hK54 => ?_)
           refine c_region ?_
           refine s_bool (r_cmp rfl rfl rfl rfl) rfl rfl (fun _ => by rfl) ?_
           intro c55 hc55
           refine sVal (r_assign rfl rfl) ?_
           refine s_nil ?_
           refine hK54 _ _ ?_
           cases c55
           case false =>
            replace hc55 := eqF hc55
            try dsimp only at hc55
            first
            | (exfalso; first | omega | (cases hc55; done))
            | (
              refine c_condF rfl ?_
              refine wp_seq_k (fun K56 hK56 => ?_)
              refine c_region ?_
              refine s_bool (r_cmp rfl rfl rfl rfl) rfl rfl (fun _ => by rfl) ?_
              intro c57 hc57
              refine sVal (r_assign rfl rfl) ?_
              refine s_nil ?_
              refine hK56 _ _ ?_
              cases c57
              case false =>
               replace hc57 := eqF hc57
               try dsimp only at hc57
               first
               | (exfalso; first | omega | (cases hc57; done))
               | (
                 refine c_condF rfl ?_
                 refine wp_skip ?_
                 refine hK50 _ _ ?_
                 refine wp_seq_k (fun K58 hK58 => ?_)
                 refine wp_seq_k (fun K59 hK59 => ?_)
                 refine c_region ?_
                 refine sVal (r_move rfl rfl) ?_
                 refine s_bool (r_cmp rfl rfl rfl rfl) rfl rfl (fun _ => by rfl) ?_
                 intro c60 hc60
                 refine sVal (r_move rfl rfl) ?_
                 cases c60
                 case false =>
                  replace hc60 := eqF hc60
                  try dsimp only at hc60
                  first
                  | (exfalso; first | omega | (cases hc60; done))
                  | (
                    refine sVal (r_move rfl rfl) ?_
                    refine sVal (r_move rfl rfl) ?_
                    refine sVal (r_len rfl rfl Try.underlying54) ?_
                    refine s_bool (r_cmp rfl rfl rfl rfl) rfl rfl (fun _ => by rfl) ?_
                    intro c61 hc61
                    refine sVal (r_move rfl rfl) ?_
                    cases c61
                    case false =>
                     replace hc61 := decF' hc61
                     try dsimp only at hc61
                     first
                     | (exfalso; first | omega | (cases hc61; done))
                     | (
                       refine @s_pass _ _ _ _ _ _ _ _ 47 (by rfl) (want_no rfl rfl rfl rfl) (by rfl) ?_
                       refine @s_pass _ _ _ _ _ _ _ _ 48 (by rfl) (want_no rfl rfl rfl rfl) (by rfl) ?_
                       refine @s_pass _ _ _ _ _ _ _ _ 49 (by rfl) (want_no rfl rfl rfl rfl) (by rfl) ?_
                       refine @s_pass _ _ _ _ _ _ _ _ 50 (by rfl) (want_no rfl rfl rfl rfl) (by rfl) ?_
                       refine @s_pass _ _ _ _ _ _ _ _ 51 (by rfl) (want_no rfl rfl rfl rfl) (by rfl) ?_
                       refine sVal (r_pickF rfl rfl rfl) ?_
                       refine sVal (r_move rfl rfl) ?_
                       refine @s_pass _ _ _ _ _ _ _ _ 54 (by rfl) (want_no rfl rfl rfl rfl) (by rfl) ?_
                       refine @s_pass _ _ _ _ _ _ _ _ 55 (by rfl) (want_no rfl rfl rfl rfl) (by rfl) ?_
                       refine sVal (r_pickF rfl rfl rfl) ?_
                       refine sVal (r_pickF rfl rfl rfl) ?_
                       refine s_nil ?_
                       refine hK59 _ _ ?_
                       refine c_condF rfl ?_
                       refine wp_skip ?_
                       refine hK58 _ _ ?_
                       refine wp_seq_k (fun K62 hK62 => ?_)
                       refine c_region ?_
                       refine sVal (r_field rfl rfl of68_0) ?_
                       refine sVal (r_load rfl rfl (ag64 _) hs.own (by rfl)) ?_
                       refine sVal (r_move rfl rfl) ?_
                       refine s_exQ (r_idx (f := valC) rfl rfl rfl hs.rd (rfl) (two_at hi) Try.underlying64 in58 sz58) rfl rfl (fun _ => by rfl) ?_
                       intro ad64 he63
                       refine sVal (r_loadEl rfl rfl hs.rd he63 (two_at hi) (fun _ => rfl) (ag58 _) (by rfl)) ?_
                       refine sVal (r_move rfl rfl) ?_
                       refine s_enter (r_call rfl ent34 rfl) rfl ?_
                       refine request_use _ noS kc hs (by (repeat (first | exact Cut.head _ _ | apply Cut.tail)); done) ?_
                       intro g1 w hs
                       replace hs := rest_open hs
                       refine ⟨_, rfl, a_put (by rfl) ?_⟩
                       refine sVal (r_move rfl rfl) ?_
                       refine sVal (r_extract rfl rfl (by rfl)) ?_
                       refine sVal (r_extract rfl rfl (by rfl)) ?_
                       refine s_ex (r_alloc rfl zr74 hs) rfl rfl (fun _ => by rfl) ?_
                       intro b65 w hs
                       refine s_exS (r_storeA rfl rfl rfl hs (by (repeat (first | exact Cut.head _ _ | apply Cut.tail)); done) in74 sz74 rfl (fun h => by cases h) rfl (by rfl)) rfl rfl ?_
                       intro w hs
                       refine sVal (r_assign rfl rfl) ?_
                       refine s_nil ?_
                       refine hK62 _ _ ?_
                       refine wp_seq_k (fun K66 hK66 => ?_)
                       refine c_region ?_
                       refine sVal (r_move rfl rfl) ?_
                       refine s_bool (r_cmp rfl rfl rfl rfl) rfl rfl (fun _ => by rfl) ?_
                       intro c67 hc67
                       refine s_nil ?_
                       refine hK66 _ _ ?_
                       cases c67
                       case false =>
                        replace hc67 := eqF hc67
                        try dsimp only at hc67
                        first
                        | (exfalso; first | omega | (cases hc67; done))
                        | (
                          refine c_condF rfl ?_
                          refine wp_skip ?_
                          refine hK44 _ _ ?_
                          refine c_region ?_
                          refine sVal (r_ari rfl rfl rfl rfl (by first | exact wrapI (by omega) | rfl)) ?_
                          refine sVal (r_move rfl rfl) ?_
                          refine s_nil ?_
                          refine hKL22 _ _ _ (by rfl) (by rfl) ?_ ?_
                          · (first | exact ⟨j + 1, z2, u2, rfl, by omega, by rw [toldTo_next hx, tell_none (wantK_no (by assumption) (by assumption) (by assumption))]; exact pv_close _ hs (by (repeat (first | apply Cut.pair | exact Cut.head _ _ | apply Cut.tail)); done) (by repeat (first | exact Keeps.refl _ | apply Keeps.tail | apply Keeps.drop))⟩ | exact ⟨j + 1, z2, u2, rfl, by omega, by rw [toldTo_next hx, tell_shut (gOf_shut (by omega) (han.trans (congrArg some (by assumption))))]; exact pv_close _ hs (by (repeat (first | apply Cut.pair | exact Cut.head _ _ | apply Cut.tail)); done) (by repeat (first | exact Keeps.refl _ | apply Keeps.tail | apply Keeps.drop))⟩ | (have hg : gOf ans n = true := (by first | exact gOf_late ans n (by omega) | exact gOf_len (by omega) | exact gOf_yes (han.trans (congrArg some (by assumption)))); have e := (toldTo_next (g := gOf ans n) hx).trans (tell_do (by first | exact .inl ⟨by assumption, rfl⟩ | exact .inr (.inl ⟨by assumption, rfl⟩) | exact .inr (.inr ⟨by assumption, rfl⟩)) hg); first | exact ⟨j + 1, z3, u3, rfl, by omega, by rw [e]; exact pv_close _ hs (by (repeat (first | apply Cut.pair | exact Cut.head _ _ | apply Cut.tail)); done) (by repeat (first | exact Keeps.refl _ | apply Keeps.tail | apply Keeps.drop))⟩ | (rw [ask_err (by assumption)] at e; rw [request_err (by assumption)] at hs; exact ⟨j + 1, z2, u2, rfl, by omega, by rw [e]; exact pv_close _ hs (by (repeat (first | apply Cut.pair | exact Cut.head _ _ | apply Cut.tail)); done) (by repeat (first | exact Keeps.refl _ | apply Keeps.tail | apply Keeps.drop))⟩)))
                          · (show _ < _; simp [intOf, xAt]; omega))
                       case true =>
                        replace hc67 := eqT hc67
                        try dsimp only at hc67
                        first
                        | (exfalso; first | omega | (cases hc67; done))
                        | (
                          refine c_condT rfl ?_
                          refine c_region ?_
                          refine sVal (r_loadA rfl rfl (ag68 _) hs.own in68 sz68 (by rfl)) ?_
                          refine sVal (r_move rfl rfl) ?_
                          refine sVal (r_loadA rfl rfl (ag74 _) hs.own in74 sz74 (by rfl)) ?_
                          refine s_enter (r_call rfl ent32 rfl) rfl ?_
                          refine give_use (g := g1) (x1 := z2) (y0 := u2) (w1 := (V.toldTo (gOf ans n) j).w1) (t0 := (V.toldTo (gOf ans n) j).t0) (Cn.request (V.toldTo (gOf ans n) j).c0 _ noS).r hi (Nat.le_trans (Nat.add_le_add_left (req_units _ _) _) (by omega)) (Nat.le_trans (Nat.add_le_add_left (req_sigs _ _) _) (by rw [t0e]; omega)) hs (by (repeat (first | apply Cut.pair | exact Cut.head _ _ | apply Cut.tail)); done) ?_
                          intro z3 u3 w hs
                          simp only [← star_assoc] at hs
                          refine ⟨_, rfl, a_put (by rfl) ?_⟩
                          refine s_nil ?_
                          refine hK44 _ _ ?_
                          refine c_region ?_
                          refine sVal (r_ari rfl rfl rfl rfl (by first | exact wrapI (by omega) | rfl)) ?_
                          refine sVal (r_move rfl rfl) ?_
                          refine s_nil ?_
                          refine hKL22 _ _ _ (by rfl) (by rfl) ?_ ?_
                          · (first | exact ⟨j + 1, z2, u2, rfl, by omega, by rw [toldTo_next hx, tell_none (wantK_no (by assumption) (by assumption) (by assumption))]; exact pv_close _ hs (by (repeat (first | apply Cut.pair | exact Cut.head _ _ | apply Cut.tail)); done) (by repeat (first | exact Keeps.refl _ | apply Keeps.tail | apply Keeps.drop))⟩ | exact ⟨j + 1, z2, u2, rfl, by omega, by rw [toldTo_next hx, tell_shut (gOf_shut (by omega) (han.trans (congrArg some (by assumption))))]; exact pv_close _ hs (by (repeat (first | apply Cut.pair | exact Cut.head _ _ | apply Cut.tail)); done) (by repeat (first | exact Keeps.refl _ | apply Keeps.tail | apply Keeps.drop))⟩ | (have hg : gOf ans n = true := (by first | exact gOf_late ans n (by omega) | exact gOf_len (by omega) | exact gOf_yes (han.trans (congrArg some (by assumption)))); have e := (toldTo_next (g := gOf ans n) hx).trans (tell_do (by first | exact .inl ⟨by assumption, rfl⟩ | exact .inr (.inl ⟨by assumption, rfl⟩) | exact .inr (.inr ⟨by assumption, rfl⟩)) hg); first | exact ⟨j + 1, z3, u3, rfl, by omega, by rw [e]; exact pv_close _ hs (by (repeat (first | apply Cut.pair | exact Cut.head _ _ | apply Cut.tail)); done) (by repeat (first | exact Keeps.refl _ | apply Keeps.tail | apply Keeps.drop))⟩ | (rw [ask_err (by assumption)] at e; rw [request_err (by assumption)] at hs; exact ⟨j + 1, z2, u2, rfl, by omega, by rw [e]; exact pv_close _ hs (by (repeat (first | apply Cut.pair | exact Cut.head _ _ | apply Cut.tail)); done) (by repeat (first | exact Keeps.refl _ | apply Keeps.tail | apply Keeps.drop))⟩)))
                          · (show _ < _; simp [intOf, xAt]; omega)))
                    case true =>
                     replace hc61 := decT' hc61
                     try dsimp only at hc61
                     first
                     | (exfalso; first | omega | (cases hc61; done))
                     | (
                       refine sVal (r_move rfl rfl) ?_
                       refine sVal (r_move rfl rfl) ?_
                       obtain ⟨an, han⟩ : ∃ a, ans[n]? = some a := ⟨_, List.getElem?_eq_getElem (by omega)⟩
                       refine s_exQ (r_idx (f := booC) rfl rfl rfl hs.rd (rfl) (han) Try.underlying54 in4 sz4) rfl rfl (fun _ => by rfl) ?_
                       intro ad69 he68
                       refine s_bool (r_loadEl rfl rfl hs.rd he68 (han) (fun _ => rfl) (ag4 _) (by rfl)) rfl rfl (fun _ => by rfl) ?_
                       intro c70 hc70
                       cases c70
                       case false =>
                        replace hc70 := Eq.symm hc70
                        try dsimp only at hc70
                        first
                        | (exfalso; first | omega | (cases hc70; done))
                        | (
                          refine sVal (r_notF rfl rfl) ?_
                          refine sVal (r_pickT rfl rfl rfl) ?_
                          refine sVal (r_move rfl rfl) ?_
                          refine sVal (r_move rfl rfl) ?_
                          refine s_bool (r_cmp rfl rfl rfl rfl) rfl rfl (fun _ => by rfl) ?_
                          intro c71 hc71
                          refine sVal (r_pickT rfl rfl rfl) ?_
                          refine sVal (r_pickF rfl rfl rfl) ?_
                          refine s_nil ?_
                          refine hK59 _ _ ?_
                          cases c71
                          case false =>
                           replace hc71 := decF' hc71
                           try dsimp only at hc71
                           first
                           | (exfalso; first | omega | (cases hc71; done))
                           | (
                             refine c_condF rfl ?_
                             refine wp_skip ?_
                             refine hK58 _ _ ?_
                             refine wp_seq_k (fun K72 hK72 => ?_)
                             refine c_region ?_
                             refine sVal (r_field rfl rfl of68_0) ?_
                             refine sVal (r_load rfl rfl (ag64 _) hs.own (by rfl)) ?_
                             refine sVal (r_move rfl rfl) ?_
                             refine s_exQ (r_idx (f := valC) rfl rfl rfl hs.rd (rfl) (two_at hi) Try.underlying64 in58 sz58) rfl rfl (fun _ => by rfl) ?_
                             intro ad74 he73
                             refine sVal (r_loadEl rfl rfl hs.rd he73 (two_at hi) (fun _ => rfl) (ag58 _) (by rfl)) ?_
                             refine sVal (r_move rfl rfl) ?_
                             refine s_enter (r_call rfl ent34 rfl) rfl ?_
                             refine request_use _ noS kc hs (by (repeat (first | exact Cut.head _ _ | apply Cut.tail)); done) ?_
                             intro g1 w hs
                             replace hs := rest_open hs
                             refine ⟨_, rfl, a_put (by rfl) ?_⟩
                             refine sVal (r_move rfl rfl) ?_
                             refine sVal (r_extract rfl rfl (by rfl)) ?_
                             refine sVal (r_extract rfl rfl (by rfl)) ?_
                             refine s_ex (r_alloc rfl zr74 hs) rfl rfl (fun _ => by rfl) ?_
                             intro b75 w hs
                             refine s_exS (r_storeA rfl rfl rfl hs (by (repeat (first | exact Cut.head _ _ | apply Cut.tail)); done) in74 sz74 rfl (fun h => by cases h) rfl (by rfl)) rfl rfl ?_
                             intro w hs
                             refine sVal (r_assign rfl rfl) ?_
                             refine s_nil ?_
                             refine hK72 _ _ ?_
                             refine wp_seq_k (fun K76 hK76 => ?_)
                             refine c_region ?_
                             refine sVal (r_move rfl rfl) ?_
                             refine s_bool (r_cmp rfl rfl rfl rfl) rfl rfl (fun _ => by rfl) ?_
                             intro c77 hc77
                             refine s_nil ?_
                             refine hK76 _ _ ?_
                             cases c77
                             case false =>
                              replace hc77 := eqF hc77
                              try dsimp only at hc77
                              first
                              | (exfalso; first | omega | (cases hc77; done))
                              | (
                                refine c_condF rfl ?_
                                refine wp_skip ?_
                                refine hK44 _ _ ?_
                                refine c_region ?_
                                refine sVal (r_ari rfl rfl rfl rfl (by first | exact wrapI (by omega) | rfl)) ?_
                                refine sVal (r_move rfl rfl) ?_
                                refine s_nil ?_
                                refine hKL22 _ _ _ (by rfl) (by rfl) ?_ ?_
                                · (first | exact ⟨j + 1, z2, u2, rfl, by omega, by rw [toldTo_next hx, tell_none (wantK_no (by assumption) (by assumption) (by assumption))]; exact pv_close _ hs (by (repeat (first | apply Cut.pair | exact Cut.head _ _ | apply Cut.tail)); done) (by repeat (first | exact Keeps.refl _ | apply Keeps.tail | apply Keeps.drop))⟩ | exact ⟨j + 1, z2, u2, rfl, by omega, by rw [toldTo_next hx, tell_shut (gOf_shut (by omega) (han.trans (congrArg some (by assumption))))]; exact pv_close _ hs (by (repeat (first | apply Cut.pair | exact Cut.head _ _ | apply Cut.tail)); done) (by repeat (first | exact Keeps.refl _ | apply Keeps.tail | apply Keeps.drop))⟩ | (have hg : gOf ans n = true := (by first | exact gOf_late ans n (by omega) | exact gOf_len (by omega) | exact gOf_yes (han.trans (congrArg some (by assumption)))); have e := (toldTo_next (g := gOf ans n) hx).trans (tell_do (by first | exact .inl ⟨by assumption, rfl⟩ | exact .inr (.inl ⟨by assumption, rfl⟩) | exact .inr (.inr ⟨by assumption, rfl⟩)) hg); first | exact ⟨j + 1, z3, u3, rfl, by omega, by rw [e]; exact pv_close _ hs (by (repeat (first | apply Cut.pair | exact Cut.head _ _ | apply Cut.tail)); done) (by repeat (first | exact Keeps.refl _ | apply Keeps.tail | apply Keeps.drop))⟩ | (rw [ask_err (by assumption)] at e; rw [request_err (by assumption)] at hs; exact ⟨j + 1, z2, u2, rfl, by omega, by rw [e]; exact pv_close _ hs (by (repeat (first | apply Cut.pair | exact Cut.head _ _ | apply Cut.tail)); done) (by repeat (first | exact Keeps.refl _ | apply Keeps.tail | apply Keeps.drop))⟩)))
                                · (show _ < _; simp [intOf, xAt]; omega))
                             case true =>
                              replace hc77 := eqT hc77
                              try dsimp only at hc77
                              first
                              | (exfalso; first | omega | (cases hc77; done))
                              | (
                                refine c_condT rfl ?_
                                refine c_region ?_
                                refine sVal (r_loadA rfl rfl (ag68 _) hs.own in68 sz68 (by rfl)) ?_
                                refine sVal (r_move rfl rfl) ?_
                                refine sVal (r_loadA rfl rfl (ag74 _) hs.own in74 sz74 (by rfl)) ?_
                                refine s_enter (r_call rfl ent32 rfl) rfl ?_
                                refine give_use (g := g1) (x1 := z2) (y0 := u2) (w1 := (V.toldTo (gOf ans n) j).w1) (t0 := (V.toldTo (gOf ans n) j).t0) (Cn.request (V.toldTo (gOf ans n) j).c0 _ noS).r hi (Nat.le_trans (Nat.add_le_add_left (req_units _ _) _) (by omega)) (Nat.le_trans (Nat.add_le_add_left (req_sigs _ _) _) (by rw [t0e]; omega)) hs (by (repeat (first | apply Cut.pair | exact Cut.head _ _ | apply Cut.tail)); done) ?_
                                intro z3 u3 w hs
                                simp only [← star_assoc] at hs
                                refine ⟨_, rfl, a_put (by rfl) ?_⟩
                                refine s_nil ?_
                                refine hK44 _ _ ?_
                                refine c_region ?_
                                refine sVal (r_ari rfl rfl rfl rfl (by first | exact wrapI (by omega) | rfl)) ?_
                                refine sVal (r_move rfl rfl) ?_
                                refine s_nil ?_
                                refine hKL22 _ _ _ (by rfl) (by rfl) ?_ ?_
                                · (first | exact ⟨j + 1, z2, u2, rfl, by omega, by rw [toldTo_next hx, tell_none (wantK_no (by assumption) (by assumption) (by assumption))]; exact pv_close _ hs (by (repeat (first | apply Cut.pair | exact Cut.head _ _ | apply Cut.tail)); done) (by repeat (first | exact Keeps.refl _ | apply Keeps.tail | apply Keeps.drop))⟩ | exact ⟨j + 1, z2, u2, rfl, by omega, by rw [toldTo_next hx, tell_shut (gOf_shut (by omega) (han.trans (congrArg some (by assumption))))]; exact pv_close _ hs (by (repeat (first | apply Cut.pair | exact Cut.head _ _ | apply Cut.tail)); done) (by repeat (first | exact Keeps.refl _ | apply Keeps.tail | apply Keeps.drop))⟩ | (have hg : gOf ans n = true := (by first | exact gOf_late ans n (by omega) | exact gOf_len (by omega) | exact gOf_yes (han.trans (congrArg some (by assumption)))); have e := (toldTo_next (g := gOf ans n) hx).trans (tell_do (by first | exact .inl ⟨by assumption, rfl⟩ | exact .inr (.inl ⟨by assumption, rfl⟩) | exact .inr (.inr ⟨by assumption, rfl⟩)) hg); first | exact ⟨j + 1, z3, u3, rfl, by omega, by rw [e]; exact pv_close _ hs (by (repeat (first | apply Cut.pair | exact Cut.head _ _ | apply Cut.tail)); done) (by repeat (first | exact Keeps.refl _ | apply Keeps.tail | apply Keeps.drop))⟩ | (rw [ask_err (by assumption)] at e; rw [request_err (by assumption)] at hs; exact ⟨j + 1, z2, u2, rfl, by omega, by rw [e]; exact pv_close _ hs (by (repeat (first | apply Cut.pair | exact Cut.head _ _ | apply Cut.tail)); done) (by repeat (first | exact Keeps.refl _ | apply Keeps.tail | apply Keeps.drop))⟩)))
                                · (show _ < _; simp [intOf, xAt]; omega)))
                          case true =>
                           replace hc71 := decT' hc71
                           try dsimp only at hc71
                           first
                           | (exfalso; first | omega | (cases hc71; done))
                           | (
                             refine c_condT rfl ?_
                             refine wp_exit ?_
                             refine hK44 _ _ ?_
                             refine c_region ?_
                             refine sVal (r_ari rfl rfl rfl rfl (by first | exact wrapI (by omega) | rfl)) ?_
                             refine sVal (r_move rfl rfl) ?_
                             refine s_nil ?_
                             refine hKL22 _ _ _ (by rfl) (by rfl) ?_ ?_
                             · (first | exact ⟨j + 1, z2, u2, rfl, by omega, by rw [toldTo_next hx, tell_none (wantK_no (by assumption) (by assumption) (by assumption))]; exact pv_close _ hs (by (repeat (first | apply Cut.pair | exact Cut.head _ _ | apply Cut.tail)); done) (by repeat (first | exact Keeps.refl _ | apply Keeps.tail | apply Keeps.drop))⟩ | exact ⟨j + 1, z2, u2, rfl, by omega, by rw [toldTo_next hx, tell_shut (gOf_shut (by omega) (han.trans (congrArg some (by assumption))))]; exact pv_close _ hs (by (repeat (first | apply Cut.pair | exact Cut.head _ _ | apply Cut.tail)); done) (by repeat (first | exact Keeps.refl _ | apply Keeps.tail | apply Keeps.drop))⟩ | (have hg : gOf ans n = true := (by first | exact gOf_late ans n (by omega) | exact gOf_len (by omega) | exact gOf_yes (han.trans (congrArg some (by assumption)))); have e := (toldTo_next (g := gOf ans n) hx).trans (tell_do (by first | exact .inl ⟨by assumption, rfl⟩ | exact .inr (.inl ⟨by assumption, rfl⟩) | exact .inr (.inr ⟨by assumption, rfl⟩)) hg); first | exact ⟨j + 1, z3, u3, rfl, by omega, by rw [e]; exact pv_close _ hs (by (repeat (first | apply Cut.pair | exact Cut.head _ _ | apply Cut.tail)); done) (by repeat (first | exact Keeps.refl _ | apply Keeps.tail | apply Keeps.drop))⟩ | (rw [ask_err (by assumption)] at e; rw [request_err (by assumption)] at hs; exact ⟨j + 1, z2, u2, rfl, by omega, by rw [e]; exact pv_close _ hs (by (repeat (first | apply Cut.pair | exact Cut.head _ _ | apply Cut.tail)); done) (by repeat (first | exact Keeps.refl _ | apply Keeps.tail | apply Keeps.drop))⟩)))
                             · (show _ < _; simp [intOf, xAt]; omega)))
                       case true =>
                        replace hc70 := Eq.symm hc70
                        try dsimp only at hc70
                        first
                        | (exfalso; first | omega | (cases hc70; done))
                        | (
                          refine sVal (r_notT rfl rfl) ?_
                          refine sVal (r_pickT rfl rfl rfl) ?_
                          refine sVal (r_move rfl rfl) ?_
                          refine @s_pass _ _ _ _ _ _ _ _ 54 (by rfl) (want_no rfl rfl rfl rfl) (by rfl) ?_
                          refine @s_pass _ _ _ _ _ _ _ _ 55 (by rfl) (want_no rfl rfl rfl rfl) (by rfl) ?_
                          refine sVal (r_pickF rfl rfl rfl) ?_
                          refine sVal (r_pickF rfl rfl rfl) ?_
                          refine s_nil ?_
                          refine hK59 _ _ ?_
                          refine c_condF rfl ?_
                          refine wp_skip ?_
                          refine hK58 _ _ ?_
                          refine wp_seq_k (fun K78 hK78 => ?_)
                          refine c_region ?_
                          refine sVal (r_field rfl rfl of68_0) ?_
                          refine sVal (r_load rfl rfl (ag64 _) hs.own (by rfl)) ?_
                          refine sVal (r_move rfl rfl) ?_
                          refine s_exQ (r_idx (f := valC) rfl rfl rfl hs.rd (rfl) (two_at hi) Try.underlying64 in58 sz58) rfl rfl (fun _ => by rfl) ?_
                          intro ad80 he79
                          refine sVal (r_loadEl rfl rfl hs.rd he79 (two_at hi) (fun _ => rfl) (ag58 _) (by rfl)) ?_
                          refine sVal (r_move rfl rfl) ?_
                          refine s_enter (r_call rfl ent34 rfl) rfl ?_
                          refine request_use _ noS kc hs (by (repeat (first | exact Cut.head _ _ | apply Cut.tail)); done) ?_
                          intro g1 w hs
                          replace hs := rest_open hs
                          refine ⟨_, rfl, a_put (by rfl) ?_⟩
                          refine sVal (r_move rfl rfl) ?_
                          refine sVal (r_extract rfl rfl (by rfl)) ?_
                          refine sVal (r_extract rfl rfl (by rfl)) ?_
                          refine s_ex (r_alloc rfl zr74 hs) rfl rfl (fun _ => by rfl) ?_
                          intro b81 w hs
                          refine s_exS (r_storeA rfl rfl rfl hs (by (repeat (first | exact Cut.head _ _ | apply Cut.tail)); done) in74 sz74 rfl (fun h => by cases h) rfl (by rfl)) rfl rfl ?_
                          intro w hs
                          refine sVal (r_assign rfl rfl) ?_
                          refine s_nil ?_
                          refine hK78 _ _ ?_
                          refine wp_seq_k (fun K82 hK82 => ?_)
                          refine c_region ?_
                          refine sVal (r_move rfl rfl) ?_
                          refine s_bool (r_cmp rfl rfl rfl rfl) rfl rfl (fun _ => by rfl) ?_
                          intro c83 hc83
                          refine s_nil ?_
                          refine hK82 _ _ ?_
                          cases c83
                          case false =>
                           replace hc83 := eqF hc83
                           try dsimp only at hc83
                           first
                           | (exfalso; first | omega | (cases hc83; done))
                           | (
                             refine c_condF rfl ?_
                             refine wp_skip ?_
                             refine hK44 _ _ ?_
                             refine c_region ?_
                             refine sVal (r_ari rfl rfl rfl rfl (by first | exact wrapI (by omega) | rfl)) ?_
                             refine sVal (r_move rfl rfl) ?_
                             refine s_nil ?_
                             refine hKL22 _ _ _ (by rfl) (by rfl) ?_ ?_
                             · (first | exact ⟨j + 1, z2, u2, rfl, by omega, by rw [toldTo_next hx, tell_none (wantK_no (by assumption) (by assumption) (by assumption))]; exact pv_close _ hs (by (repeat (first | apply Cut.pair | exact Cut.head _ _ | apply Cut.tail)); done) (by repeat (first | exact Keeps.refl _ | apply Keeps.tail | apply Keeps.drop))⟩ | exact ⟨j + 1, z2, u2, rfl, by omega, by rw [toldTo_next hx, tell_shut (gOf_shut (by omega) (han.trans (congrArg some (by assumption))))]; exact pv_close _ hs (by (repeat (first | apply Cut.pair | exact Cut.head _ _ | apply Cut.tail)); done) (by repeat (first | exact Keeps.refl _ | apply Keeps.tail | apply Keeps.drop))⟩ | (have hg : gOf ans n = true := (by first | exact gOf_late ans n (by omega) | exact gOf_len (by omega) | exact gOf_yes (han.trans (congrArg some (by assumption)))); have e := (toldTo_next (g := gOf ans n) hx).trans (tell_do (by first | exact .inl ⟨by assumption, rfl⟩ | exact .inr (.inl ⟨by assumption, rfl⟩) | exact .inr (.inr ⟨by assumption, rfl⟩)) hg); first | exact ⟨j + 1, z3, u3, rfl, by omega, by rw [e]; exact pv_close _ hs (by (repeat (first | apply Cut.pair | exact Cut.head _ _ | apply Cut.tail)); done) (by repeat (first | exact Keeps.refl _ | apply Keeps.tail | apply Keeps.drop))⟩ | (rw [ask_err (by assumption)] at e; rw [request_err (by assumption)] at hs; exact ⟨j + 1, z2, u2, rfl, by omega, by rw [e]; exact pv_close _ hs (by (repeat (first | apply Cut.pair | exact Cut.head _ _ | apply Cut.tail)); done) (by repeat (first | exact Keeps.refl _ | apply Keeps.tail | apply Keeps.drop))⟩)))
                             · (show _ < _; simp [intOf, xAt]; omega))
                          case true =>
                           replace hc83 := eqT hc83
                           try dsimp only at hc83
                           first
                           | (exfalso; first | omega | (cases hc83; done))
                           | (
                             refine c_condT rfl ?_
                             refine c_region ?_
                             refine sVal (r_loadA rfl rfl (ag68 _) hs.own in68 sz68 (by rfl)) ?_
                             refine sVal (r_move rfl rfl) ?_
                             refine sVal (r_loadA rfl rfl (ag74 _) hs.own in74 sz74 (by rfl)) ?_
                             refine s_enter (r_call rfl ent32 rfl) rfl ?_
                             refine give_use (g := g1) (x1 := z2) (y0 := u2) (w1 := (V.toldTo (gOf ans n) j).w1) (t0 := (V.toldTo (gOf ans n) j).t0) (Cn.request (V.toldTo (gOf ans n) j).c0 _ noS).r hi (Nat.le_trans (Nat.add_le_add_left (req_units _ _) _) (by omega)) (Nat.le_trans (Nat.add_le_add_left (req_sigs _ _) _) (by rw [t0e]; omega)) hs (by (repeat (first | apply Cut.pair | exact Cut.head _ _ | apply Cut.tail)); done) ?_
                             intro z3 u3 w hs
                             simp only [← star_assoc] at hs
                             refine ⟨_, rfl, a_put (by rfl) ?_⟩
                             refine s_nil ?_
                             refine hK44 _ _ ?_
                             refine c_region ?_
                             refine sVal (r_ari rfl rfl rfl rfl (by first | exact wrapI (by omega) | rfl)) ?_
                             refine sVal (r_move rfl rfl) ?_
                             refine s_nil ?_
                             refine hKL22 _ _ _ (by rfl) (by rfl) ?_ ?_
                             · (first | exact ⟨j + 1, z2, u2, rfl, by omega, by rw [toldTo_next hx, tell_none (wantK_no (by assumption) (by assumption) (by assumption))]; exact pv_close _ hs (by (repeat (first | apply Cut.pair | exact Cut.head _ _ | apply Cut.tail)); done) (by repeat (first | exact Keeps.refl _ | apply Keeps.tail | apply Keeps.drop))⟩ | exact ⟨j + 1, z2, u2, rfl, by omega, by rw [toldTo_next hx, tell_shut (gOf_shut (by omega) (han.trans (congrArg some (by assumption))))]; exact pv_close _ hs (by (repeat (first | apply Cut.pair | exact Cut.head _ _ | apply Cut.tail)); done) (by repeat (first | exact Keeps.refl _ | apply Keeps.tail | apply Keeps.drop))⟩ | (have hg : gOf ans n = true := (by first | exact gOf_late ans n (by omega) | exact gOf_len (by omega) | exact gOf_yes (han.trans (congrArg some (by assumption)))); have e := (toldTo_next (g := gOf ans n) hx).trans (tell_do (by first | exact .inl ⟨by assumption, rfl⟩ | exact .inr (.inl ⟨by assumption, rfl⟩) | exact .inr (.inr ⟨by assumption, rfl⟩)) hg); first | exact ⟨j + 1, z3, u3, rfl, by omega, by rw [e]; exact pv_close _ hs (by (repeat (first | apply Cut.pair | exact Cut.head _ _ | apply Cut.tail)); done) (by repeat (first | exact Keeps.refl _ | apply Keeps.tail | apply Keeps.drop))⟩ | (rw [ask_err (by assumption)] at e; rw [request_err (by assumption)] at hs; exact ⟨j + 1, z2, u2, rfl, by omega, by rw [e]; exact pv_close _ hs (by (repeat (first | apply Cut.pair | exact Cut.head _ _ | apply Cut.tail)); done) (by repeat (first | exact Keeps.refl _ | apply Keeps.tail | apply Keeps.drop))⟩)))
                             · (show _ < _; simp [intOf, xAt]; omega)))))
                 case true =>
                  replace hc60 := eqT hc60
                  try dsimp only at hc60
                  first
                  | (exfalso; first | omega | (cases hc60; done))
                  | (
                    refine @s_pass _ _ _ _ _ _ _ _ 42 (by rfl) (want_no rfl rfl rfl rfl) (by rfl) ?_
                    refine @s_pass _ _ _ _ _ _ _ _ 43 (by rfl) (want_no rfl rfl rfl rfl) (by rfl) ?_
                    refine @s_pass _ _ _ _ _ _ _ _ 44 (by rfl) (want_no rfl rfl rfl rfl) (by rfl) ?_
                    refine @s_pass _ _ _ _ _ _ _ _ 45 (by rfl) (want_no rfl rfl rfl rfl) (by rfl) ?_
                    refine @s_pass _ _ _ _ _ _ _ _ 46 (by rfl) (want_no rfl rfl rfl rfl) (by rfl) ?_
                    refine @s_pass _ _ _ _ _ _ _ _ 47 (by rfl) (want_ud rfl rfl rfl) (by rfl) ?_
                    refine @s_pass _ _ _ _ _ _ _ _ 48 (by rfl) (want_ud rfl rfl rfl) (by rfl) ?_
                    refine @s_pass _ _ _ _ _ _ _ _ 49 (by rfl) (want_ud rfl rfl rfl) (by rfl) ?_
                    refine @s_pass _ _ _ _ _ _ _ _ 50 (by rfl) (want_ud rfl rfl rfl) (by rfl) ?_
                    refine @s_pass _ _ _ _ _ _ _ _ 51 (by rfl) (want_ud rfl rfl rfl) (by rfl) ?_
                    refine @s_pass _ _ _ _ _ _ _ _ 52 (by rfl) (want_no rfl rfl rfl rfl) (by rfl) ?_
                    refine @s_pass _ _ _ _ _ _ _ _ 53 (by rfl) (want_no rfl rfl rfl rfl) (by rfl) ?_
                    refine @s_pass _ _ _ _ _ _ _ _ 54 (by rfl) (want_ud rfl rfl rfl) (by rfl) ?_
                    refine @s_pass _ _ _ _ _ _ _ _ 55 (by rfl) (want_ud rfl rfl rfl) (by rfl) ?_
                    refine @s_pass _ _ _ _ _ _ _ _ 56 (by rfl) (want_no rfl rfl rfl rfl) (by rfl) ?_
                    refine sVal (r_pickT rfl rfl rfl) ?_
                    refine s_nil ?_
                    refine hK59 _ _ ?_
                    refine c_condT rfl ?_
                    refine wp_exit ?_
                    refine hK44 _ _ ?_
                    refine c_region ?_
                    refine sVal (r_ari rfl rfl rfl rfl (by first | exact wrapI (by omega) | rfl)) ?_
                    refine sVal (r_move rfl rfl) ?_
                    refine s_nil ?_
                    refine hKL22 _ _ _ (by rfl) (by rfl) ?_ ?_
                    · (first | exact ⟨j + 1, z2, u2, rfl, by omega, by rw [toldTo_next hx, tell_none (wantK_no (by assumption) (by assumption) (by assumption))]; exact pv_close _ hs (by (repeat (first | apply Cut.pair | exact Cut.head _ _ | apply Cut.tail)); done) (by repeat (first | exact Keeps.refl _ | apply Keeps.tail | apply Keeps.drop))⟩ | exact ⟨j + 1, z2, u2, rfl, by omega, by rw [toldTo_next hx, tell_shut (gOf_shut (by omega) (han.trans (congrArg some (by assumption))))]; exact pv_close _ hs (by (repeat (first | apply Cut.pair | exact Cut.head _ _ | apply Cut.tail)); done) (by repeat (first | exact Keeps.refl _ | apply Keeps.tail | apply Keeps.drop))⟩ | (have hg : gOf ans n = true := (by first | exact gOf_late ans n (by omega) | exact gOf_len (by omega) | exact gOf_yes (han.trans (congrArg some (by assumption)))); have e := (toldTo_next (g := gOf ans n) hx).trans (tell_do (by first | exact .inl ⟨by assumption, rfl⟩ | exact .inr (.inl ⟨by assumption, rfl⟩) | exact .inr (.inr ⟨by assumption, rfl⟩)) hg); first | exact ⟨j + 1, z3, u3, rfl, by omega, by rw [e]; exact pv_close _ hs (by (repeat (first | apply Cut.pair | exact Cut.head _ _ | apply Cut.tail)); done) (by repeat (first | exact Keeps.refl _ | apply Keeps.tail | apply Keeps.drop))⟩ | (rw [ask_err (by assumption)] at e; rw [request_err (by assumption)] at hs; exact ⟨j + 1, z2, u2, rfl, by omega, by rw [e]; exact pv_close _ hs (by (repeat (first | apply Cut.pair | exact Cut.head _ _ | apply Cut.tail)); done) (by repeat (first | exact Keeps.refl _ | apply Keeps.tail | apply Keeps.drop))⟩)))
                    · (show _ < _; simp [intOf, xAt]; omega)))
              case true =>
               replace hc57 := eqT hc57
               try dsimp only at hc57
               first
               | (exfalso; first | omega | (cases hc57; done))
               | (
                 refine c_condT rfl ?_
                 refine c_region ?_
                 refine sVal (r_assign rfl rfl) ?_
                 refine s_nil ?_
                 refine hK50 _ _ ?_
                 refine wp_seq_k (fun K84 hK84 => ?_)
                 refine wp_seq_k (fun K85 hK85 => ?_)
                 refine c_region ?_
                 refine sVal (r_move rfl rfl) ?_
                 refine s_bool (r_cmp rfl rfl rfl rfl) rfl rfl (fun _ => by rfl) ?_
                 intro c86 hc86
                 refine sVal (r_move rfl rfl) ?_
                 cases c86
                 case false =>
                  replace hc86 := eqF hc86
                  try dsimp only at hc86
                  first
                  | (exfalso; first | omega | (cases hc86; done))
                  | (
                    refine sVal (r_move rfl rfl) ?_
                    refine sVal (r_move rfl rfl) ?_
                    refine sVal (r_len rfl rfl Try.underlying54) ?_
                    refine s_bool (r_cmp rfl rfl rfl rfl) rfl rfl (fun _ => by rfl) ?_
                    intro c87 hc87
                    refine sVal (r_move rfl rfl) ?_
                    cases c87
                    case false =>
                     replace hc87 := decF' hc87
                     try dsimp only at hc87
                     first
                     | (exfalso; first | omega | (cases hc87; done))
                     | (
                       refine @s_pass _ _ _ _ _ _ _ _ 47 (by rfl) (want_no rfl rfl rfl rfl) (by rfl) ?_
                       refine @s_pass _ _ _ _ _ _ _ _ 48 (by rfl) (want_no rfl rfl rfl rfl) (by rfl) ?_
                       refine @s_pass _ _ _ _ _ _ _ _ 49 (by rfl) (want_no rfl rfl rfl rfl) (by rfl) ?_
                       refine @s_pass _ _ _ _ _ _ _ _ 50 (by rfl) (want_no rfl rfl rfl rfl) (by rfl) ?_
                       refine @s_pass _ _ _ _ _ _ _ _ 51 (by rfl) (want_no rfl rfl rfl rfl) (by rfl) ?_
                       refine sVal (r_pickF rfl rfl rfl) ?_
                       refine sVal (r_move rfl rfl) ?_
                       refine @s_pass _ _ _ _ _ _ _ _ 54 (by rfl) (want_no rfl rfl rfl rfl) (by rfl) ?_
                       refine @s_pass _ _ _ _ _ _ _ _ 55 (by rfl) (want_no rfl rfl rfl rfl) (by rfl) ?_
                       refine sVal (r_pickF rfl rfl rfl) ?_
                       refine sVal (r_pickF rfl rfl rfl) ?_
                       refine s_nil ?_
                       refine hK85 _ _ ?_
                       refine c_condF rfl ?_
                       refine wp_skip ?_
                       refine hK84 _ _ ?_
                       refine wp_seq_k (fun K88 hK88 => ?_)
                       refine c_region ?_
                       refine sVal (r_field rfl rfl of68_0) ?_
                       refine sVal (r_load rfl rfl (ag64 _) hs.own (by rfl)) ?_
                       refine sVal (r_move rfl rfl) ?_
                       refine s_exQ (r_idx (f := valC) rfl rfl rfl hs.rd (rfl) (two_at hi) Try.underlying64 in58 sz58) rfl rfl (fun _ => by rfl) ?_
                       intro ad90 he89
                       refine sVal (r_loadEl rfl rfl hs.rd he89 (two_at hi) (fun _ => rfl) (ag58 _) (by rfl)) ?_
                       refine sVal (r_move rfl rfl) ?_
                       refine s_enter (r_call rfl ent34 rfl) rfl ?_
                       refine request_use _ noS kc hs (by (repeat (first | exact Cut.head _ _ | apply Cut.tail)); done) ?_
                       intro g1 w hs
                       replace hs := rest_open hs
                       refine ⟨_, rfl, a_put (by rfl) ?_⟩
                       refine sVal (r_move rfl rfl) ?_
                       refine sVal (r_extract rfl rfl (by rfl)) ?_
                       refine sVal (r_extract rfl rfl (by rfl)) ?_
                       refine s_ex (r_alloc rfl zr74 hs) rfl rfl (fun _ => by rfl) ?_
                       intro b91 w hs
                       refine s_exS (r_storeA rfl rfl rfl hs (by (repeat (first | exact Cut.head _ _ | apply Cut.tail)); done) in74 sz74 rfl (fun h => by cases h) rfl (by rfl)) rfl rfl ?_
                       intro w hs
                       refine sVal (r_assign rfl rfl) ?_
                       refine s_nil ?_
                       refine hK88 _ _ ?_
                       refine wp_seq_k (fun K92 hK92 => ?_)
                       refine c_region ?_
                       refine sVal (r_move rfl rfl) ?_
                       refine s_bool (r_cmp rfl rfl rfl rfl) rfl rfl (fun _ => by rfl) ?_
                       intro c93 hc93
                       refine s_nil ?_
                       refine hK92 _ _ ?_
                       cases c93
                       case false =>
                        replace hc93 := eqF hc93
                        try dsimp only at hc93
                        first
                        | (exfalso; first | omega | (cases hc93; done))
                        | (
                          refine c_condF rfl ?_
                          refine wp_skip ?_
                          refine hK44 _ _ ?_
                          refine c_region ?_
                          refine sVal (r_ari rfl rfl rfl rfl (by first | exact wrapI (by omega) | rfl)) ?_
                          refine sVal (r_move rfl rfl) ?_
                          refine s_nil ?_
                          refine hKL22 _ _ _ (by rfl) (by rfl) ?_ ?_
                          · (first | exact ⟨j + 1, z2, u2, rfl, by omega, by rw [toldTo_next hx, tell_none (wantK_no (by assumption) (by assumption) (by assumption))]; exact pv_close _ hs (by (repeat (first | apply Cut.pair | exact Cut.head _ _ | apply Cut.tail)); done) (by repeat (first | exact Keeps.refl _ | apply Keeps.tail | apply Keeps.drop))⟩ | exact ⟨j + 1, z2, u2, rfl, by omega, by rw [toldTo_next hx, tell_shut (gOf_shut (by omega) (han.trans (congrArg some (by assumption))))]; exact pv_close _ hs (by (repeat (first | apply Cut.pair | exact Cut.head _ _ | apply Cut.tail)); done) (by repeat (first | exact Keeps.refl _ | apply Keeps.tail | apply Keeps.drop))⟩ | (have hg : gOf ans n = true := (by first | exact gOf_late ans n (by omega) | exact gOf_len (by omega) | exact gOf_yes (han.trans (congrArg some (by assumption)))); have e := (toldTo_next (g := gOf ans n) hx).trans (tell_do (by first | exact .inl ⟨by assumption, rfl⟩ | exact .inr (.inl ⟨by assumption, rfl⟩) | exact .inr (.inr ⟨by assumption, rfl⟩)) hg); first | exact ⟨j + 1, z3, u3, rfl, by omega, by rw [e]; exact pv_close _ hs (by (repeat (first | apply Cut.pair | exact Cut.head _ _ | apply Cut.tail)); done) (by repeat (first | exact Keeps.refl _ | apply Keeps.tail | apply Keeps.drop))⟩ | (rw [ask_err (by assumption)] at e; rw [request_err (by assumption)] at hs; exact ⟨j + 1, z2, u2, rfl, by omega, by rw [e]; exact pv_close _ hs (by (repeat (first | apply Cut.pair | exact Cut.head _ _ | apply Cut.tail)); done) (by repeat (first | exact Keeps.refl _ | apply Keeps.tail | apply Keeps.drop))⟩)))
                          · (show _ < _; simp [intOf, xAt]; omega))
                       case true =>
                        replace hc93 := eqT hc93
                        try dsimp only at hc93
                        first
                        | (exfalso; first | omega | (cases hc93; done))
                        | (
                          refine c_condT rfl ?_
                          refine c_region ?_
                          refine sVal (r_loadA rfl rfl (ag68 _) hs.own in68 sz68 (by rfl)) ?_
                          refine sVal (r_move rfl rfl) ?_
                          refine sVal (r_loadA rfl rfl (ag74 _) hs.own in74 sz74 (by rfl)) ?_
                          refine s_enter (r_call rfl ent32 rfl) rfl ?_
                          refine give_use (g := g1) (x1 := z2) (y0 := u2) (w1 := (V.toldTo (gOf ans n) j).w1) (t0 := (V.toldTo (gOf ans n) j).t0) (Cn.request (V.toldTo (gOf ans n) j).c0 _ noS).r hi (Nat.le_trans (Nat.add_le_add_left (req_units _ _) _) (by omega)) (Nat.le_trans (Nat.add_le_add_left (req_sigs _ _) _) (by rw [t0e]; omega)) hs (by (repeat (first | apply Cut.pair | exact Cut.head _ _ | apply Cut.tail)); done) ?_
                          intro z3 u3 w hs
                          simp only [← star_assoc] at hs
                          refine ⟨_, rfl, a_put (by rfl) ?_⟩
                          refine s_nil ?_
                          refine hK44 _ _ ?_
                          refine c_region ?_
                          refine sVal (r_ari rfl rfl rfl rfl (by first | exact wrapI (by omega) | rfl)) ?_
                          refine sVal (r_move rfl rfl) ?_
                          refine s_nil ?_
                          refine hKL22 _ _ _ (by rfl) (by rfl) ?_ ?_
                          · (first | exact ⟨j + 1, z2, u2, rfl, by omega, by rw [toldTo_next hx, tell_none (wantK_no (by assumption) (by assumption) (by assumption))]; exact pv_close _ hs (by (repeat (first | apply Cut.pair | exact Cut.head _ _ | apply Cut.tail)); done) (by repeat (first | exact Keeps.refl _ | apply Keeps.tail | apply Keeps.drop))⟩ | exact ⟨j + 1, z2, u2, rfl, by omega, by rw [toldTo_next hx, tell_shut (gOf_shut (by omega) (han.trans (congrArg some (by assumption))))]; exact pv_close _ hs (by (repeat (first | apply Cut.pair | exact Cut.head _ _ | apply Cut.tail)); done) (by repeat (first | exact Keeps.refl _ | apply Keeps.tail | apply Keeps.drop))⟩ | (have hg : gOf ans n = true := (by first | exact gOf_late ans n (by omega) | exact gOf_len (by omega) | exact gOf_yes (han.trans (congrArg some (by assumption)))); have e := (toldTo_next (g := gOf ans n) hx).trans (tell_do (by first | exact .inl ⟨by assumption, rfl⟩ | exact .inr (.inl ⟨by assumption, rfl⟩) | exact .inr (.inr ⟨by assumption, rfl⟩)) hg); first | exact ⟨j + 1, z3, u3, rfl, by omega, by rw [e]; exact pv_close _ hs (by (repeat (first | apply Cut.pair | exact Cut.head _ _ | apply Cut.tail)); done) (by repeat (first | exact Keeps.refl _ | apply Keeps.tail | apply Keeps.drop))⟩ | (rw [ask_err (by assumption)] at e; rw [request_err (by assumption)] at hs; exact ⟨j + 1, z2, u2, rfl, by omega, by rw [e]; exact pv_close _ hs (by (repeat (first | apply Cut.pair | exact Cut.head _ _ | apply Cut.tail)); done) (by repeat (first | exact Keeps.refl _ | apply Keeps.tail | apply Keeps.drop))⟩)))
                          · (show _ < _; simp [intOf, xAt]; omega)))
                    case true =>
                     replace hc87 := decT' hc87
                     try dsimp only at hc87
                     first
                     | (exfalso; first | omega | (cases hc87; done))
                     | (
                       refine sVal (r_move rfl rfl) ?_
                       refine sVal (r_move rfl rfl) ?_
                       obtain ⟨an, han⟩ : ∃ a, ans[n]? = some a := ⟨_, List.getElem?_eq_getElem (by omega)⟩
                       refine s_exQ (r_idx (f := booC) rfl rfl rfl hs.rd (rfl) (han) Try.underlying54 in4 sz4) rfl rfl (fun _ => by rfl) ?_
                       intro ad95 he94
                       refine s_bool (r_loadEl rfl rfl hs.rd he94 (han) (fun _ => rfl) (ag4 _) (by rfl)) rfl rfl (fun _ => by rfl) ?_
                       intro c96 hc96
                       cases c96
                       case false =>
                        replace hc96 := Eq.symm hc96
                        try dsimp only at hc96
                        first
                        | (exfalso; first | omega | (cases hc96; done))
                        | (
                          refine sVal (r_notF rfl rfl) ?_
                          refine sVal (r_pickT rfl rfl rfl) ?_
                          refine sVal (r_move rfl rfl) ?_
                          refine sVal (r_move rfl rfl) ?_
                          refine s_bool (r_cmp rfl rfl rfl rfl) rfl rfl (fun _ => by rfl) ?_
                          intro c97 hc97
                          refine sVal (r_pickT rfl rfl rfl) ?_
                          refine sVal (r_pickF rfl rfl rfl) ?_
                          refine s_nil ?_
                          refine hK85 _ _ ?_
                          cases c97
                          case false =>
                           replace hc97 := decF' hc97
                           try dsimp only at hc97
                           first
                           | (exfalso; first | omega | (cases hc97; done))
                           | (
                             refine c_condF rfl ?_
                             refine wp_skip ?_
                             refine hK84 _ _ ?_
                             refine wp_seq_k (fun K98 hK98 => ?_)
                             refine c_region ?_
                             refine sVal (r_field rfl rfl of68_0) ?_
                             refine sVal (r_load rfl rfl (ag64 _) hs.own (by rfl)) ?_
                             refine sVal (r_move rfl rfl) ?_
                             refine s_exQ (r_idx (f := valC) rfl rfl rfl hs.rd (rfl) (two_at hi) Try.underlying64 in58 sz58) rfl rfl (fun _ => by rfl) ?_
                             intro ad100 he99
                             refine sVal (r_loadEl rfl rfl hs.rd he99 (two_at hi) (fun _ => rfl) (ag58 _) (by rfl)) ?_
                             refine sVal (r_move rfl rfl) ?_
                             refine s_enter (r_call rfl ent34 rfl) rfl ?_
                             refine request_use _ noS kc hs (by (repeat (first | exact Cut.head _ _ | apply Cut.tail)); done) ?_
                             intro g1 w hs
                             replace hs := rest_open hs
                             refine ⟨_, rfl, a_put (by rfl) ?_⟩
                             refine sVal (r_move rfl rfl) ?_
                             refine sVal (r_extract rfl rfl (by rfl)) ?_
                             refine sVal (r_extract rfl rfl (by rfl)) ?_
                             refine s_ex (r_alloc rfl zr74 hs) rfl rfl (fun _ => by rfl) ?_
                             intro b101 w hs
                             refine s_exS (r_storeA rfl rfl rfl hs (by (repeat (first | exact Cut.head _ _ | apply Cut.tail)); done) in74 sz74 rfl (fun h => by cases h) rfl (by rfl)) rfl rfl ?_
                             intro w hs
                             refine sVal (r_assign rfl rfl) ?_
                             refine s_nil ?_
                             refine hK98 _ _ ?_
                             refine wp_seq_k (fun K102 hK102 => ?_)
                             refine c_region ?_
                             refine sVal (r_move rfl rfl) ?_
                             refine s_bool (r_cmp rfl rfl rfl rfl) rfl rfl (fun _ => by rfl) ?_
                             intro c103 hc103
                             refine s_nil ?_
                             refine hK102 _ _ ?_
                             cases c103
                             case false =>
                              replace hc103 := eqF hc103
                              try dsimp only at hc103
                              first
                              | (exfalso; first | omega | (cases hc103; done))
                              | (
                                refine c_condF rfl ?_
                                refine wp_skip ?_
                                refine hK44 _ _ ?_
                                refine c_region ?_
                                refine sVal (r_ari rfl rfl rfl rfl (by first | exact wrapI (by omega) | rfl)) ?_
                                refine sVal (r_move rfl rfl) ?_
                                refine s_nil ?_
                                refine hKL22 _ _ _ (by rfl) (by rfl) ?_ ?_
                                · (first | exact ⟨j + 1, z2, u2, rfl, by omega, by rw [toldTo_next hx, tell_none (wantK_no (by assumption) (by assumption) (by assumption))]; exact pv_close _ hs (by (repeat (first | apply Cut.pair | exact Cut.head _ _ | apply Cut.tail)); done) (by repeat (first | exact Keeps.refl _ | apply Keeps.tail | apply Keeps.drop))⟩ | exact ⟨j + 1, z2, u2, rfl, by omega, by rw [toldTo_next hx, tell_shut (gOf_shut (by omega) (han.trans (congrArg some (by assumption))))]; exact pv_close _ hs (by (repeat (first | apply Cut.pair | exact Cut.head _ _ | apply Cut.tail)); done) (by repeat (first | exact Keeps.refl _ | apply Keeps.tail | apply Keeps.drop))⟩ | (have hg : gOf ans n = true := (by first | exact gOf_late ans n (by omega) | exact gOf_len (by omega) | exact gOf_yes (han.trans (congrArg some (by assumption)))); have e := (toldTo_next (g := gOf ans n) hx).trans (tell_do (by first | exact .inl ⟨by assumption, rfl⟩ | exact .inr (.inl ⟨by assumption, rfl⟩) | exact .inr (.inr ⟨by assumption, rfl⟩)) hg); first | exact ⟨j + 1, z3, u3, rfl, by omega, by rw [e]; exact pv_close _ hs (by (repeat (first | apply Cut.pair | exact Cut.head _ _ | apply Cut.tail)); done) (by repeat (first | exact Keeps.refl _ | apply Keeps.tail | apply Keeps.drop))⟩ | (rw [ask_err (by assumption)] at e; rw [request_err (by assumption)] at hs; exact ⟨j + 1, z2, u2, rfl, by omega, by rw [e]; exact pv_close _ hs (by (repeat (first | apply Cut.pair | exact Cut.head _ _ | apply Cut.tail)); done) (by repeat (first | exact Keeps.refl _ | apply Keeps.tail | apply Keeps.drop))⟩)))
                                · (show _ < _; simp [intOf, xAt]; omega))
                             case true =>
                              replace hc103 := eqT hc103
                              try dsimp only at hc103
                              first
                              | (exfalso; first | omega | (cases hc103; done))
                              | (
                                refine c_condT rfl ?_
                                refine c_region ?_
                                refine sVal (r_loadA rfl rfl (ag68 _) hs.own in68 sz68 (by rfl)) ?_
                                refine sVal (r_move rfl rfl) ?_
                                refine sVal (r_loadA rfl rfl (ag74 _) hs.own in74 sz74 (by rfl)) ?_
                                refine s_enter (r_call rfl ent32 rfl) rfl ?_
                                refine give_use (g := g1) (x1 := z2) (y0 := u2) (w1 := (V.toldTo (gOf ans n) j).w1) (t0 := (V.toldTo (gOf ans n) j).t0) (Cn.request (V.toldTo (gOf ans n) j).c0 _ noS).r hi (Nat.le_trans (Nat.add_le_add_left (req_units _ _) _) (by omega)) (Nat.le_trans (Nat.add_le_add_left (req_sigs _ _) _) (by rw [t0e]; omega)) hs (by (repeat (first | apply Cut.pair | exact Cut.head _ _ | apply Cut.tail)); done) ?_
                                intro z3 u3 w hs
                                simp only [← star_assoc] at hs
                                refine ⟨_, rfl, a_put (by rfl) ?_⟩
                                refine s_nil ?_
                                refine hK44 _ _ ?_
                                refine c_region ?_
                                refine sVal (r_ari rfl rfl rfl rfl (by first | exact wrapI (by omega) | rfl)) ?_
                                refine sVal (r_move rfl rfl) ?_
                                refine s_nil ?_
                                refine hKL22 _ _ _ (by rfl) (by rfl) ?_ ?_
                                · (first | exact ⟨j + 1, z2, u2, rfl, by omega, by rw [toldTo_next hx, tell_none (wantK_no (by assumption) (by assumption) (by assumption))]; exact pv_close _ hs (by (repeat (first | apply Cut.pair | exact Cut.head _ _ | apply Cut.tail)); done) (by repeat (first | exact Keeps.refl _ | apply Keeps.tail | apply Keeps.drop))⟩ | exact ⟨j + 1, z2, u2, rfl, by omega, by rw [toldTo_next hx, tell_shut (gOf_shut (by omega) (han.trans (congrArg some (by assumption))))]; exact pv_close _ hs (by (repeat (first | apply Cut.pair | exact Cut.head _ _ | apply Cut.tail)); done) (by repeat (first | exact Keeps.refl _ | apply Keeps.tail | apply Keeps.drop))⟩ | (have hg : gOf ans n = true := (by first | exact gOf_late ans n (by omega) | exact gOf_len (by omega) | exact gOf_yes (han.trans (congrArg some (by assumption)))); have e := (toldTo_next (g := gOf ans n) hx).trans (tell_do (by first | exact .inl ⟨by assumption, rfl⟩ | exact .inr (.inl ⟨by assumption, rfl⟩) | exact .inr (.inr ⟨by assumption, rfl⟩)) hg); first | exact ⟨j + 1, z3, u3, rfl, by omega, by rw [e]; exact pv_close _ hs (by (repeat (first | apply Cut.pair | exact Cut.head _ _ | apply Cut.tail)); done) (by repeat (first | exact Keeps.refl _ | apply Keeps.tail | apply Keeps.drop))⟩ | (rw [ask_err (by assumption)] at e; rw [request_err (by assumption)] at hs; exact ⟨j + 1, z2, u2, rfl, by omega, by rw [e]; exact pv_close _ hs (by (repeat (first | apply Cut.pair | exact Cut.head _ _ | apply Cut.tail)); done) (by repeat (first | exact Keeps.refl _ | apply Keeps.tail | apply Keeps.drop))⟩)))
                                · (show _ < _; simp [intOf, xAt]; omega)))
                          case true =>
                           replace hc97 := decT' hc97
                           try dsimp only at hc97
                           first
                           | (exfalso; first | omega | (cases hc97; done))
                           | (
                             refine c_condT rfl ?_
                             refine wp_exit ?_
                             refine hK44 _ _ ?_
                             refine c_region ?_
                             refine sVal (r_ari rfl rfl rfl rfl (by first | exact wrapI (by omega) | rfl)) ?_
                             refine sVal (r_move rfl rfl) ?_
                             refine s_nil ?_
                             refine hKL22 _ _ _ (by rfl) (by rfl) ?_ ?_
                             · (first | exact ⟨j + 1, z2, u2, rfl, by omega, by rw [toldTo_next hx, tell_none (wantK_no (by assumption) (by assumption) (by assumption))]; exact pv_close _ hs (by (repeat (first | apply Cut.pair | exact Cut.head _ _ | apply Cut.tail)); done) (by repeat (first | exact Keeps.refl _ | apply Keeps.tail | apply Keeps.drop))⟩ | exact ⟨j + 1, z2, u2, rfl, by omega, by rw [toldTo_next hx, tell_shut (gOf_shut (by omega) (han.trans (congrArg some (by assumption))))]; exact pv_close _ hs (by (repeat (first | apply Cut.pair | exact Cut.head _ _ | apply Cut.tail)); done) (by repeat (first | exact Keeps.refl _ | apply Keeps.tail | apply Keeps.drop))⟩ | (have hg : gOf ans n = true := (by first | exact gOf_late ans n (by omega) | exact gOf_len (by omega) | exact gOf_yes (han.trans (congrArg some (by assumption)))); have e := (toldTo_next (g := gOf ans n) hx).trans (tell_do (by first | exact .inl ⟨by assumption, rfl⟩ | exact .inr (.inl ⟨by assumption, rfl⟩) | exact .inr (.inr ⟨by assumption, rfl⟩)) hg); first | exact ⟨j + 1, z3, u3, rfl, by omega, by rw [e]; exact pv_close _ hs (by (repeat (first | apply Cut.pair | exact Cut.head _ _ | apply Cut.tail)); done) (by repeat (first | exact Keeps.refl _ | apply Keeps.tail | apply Keeps.drop))⟩ | (rw [ask_err (by assumption)] at e; rw [request_err (by assumption)] at hs; exact ⟨j + 1, z2, u2, rfl, by omega, by rw [e]; exact pv_close _ hs (by (repeat (first | apply Cut.pair | exact Cut.head _ _ | apply Cut.tail)); done) (by repeat (first | exact Keeps.refl _ | apply Keeps.tail | apply Keeps.drop))⟩)))
                             · (show _ < _; simp [intOf, xAt]; omega)))
                       case true =>
                        replace hc96 := Eq.symm hc96
                        try dsimp only at hc96
                        first
                        | (exfalso; first | omega | (cases hc96; done))
                        | (
                          refine sVal (r_notT rfl rfl) ?_
                          refine sVal (r_pickT rfl rfl rfl) ?_
                          refine sVal (r_move rfl rfl) ?_
                          refine @s_pass _ _ _ _ _ _ _ _ 54 (by rfl) (want_no rfl rfl rfl rfl) (by rfl) ?_
                          refine @s_pass _ _ _ _ _ _ _ _ 55 (by rfl) (want_no rfl rfl rfl rfl) (by rfl) ?_
                          refine sVal (r_pickF rfl rfl rfl) ?_
                          refine sVal (r_pickF rfl rfl rfl) ?_
                          refine s_nil ?_
                          refine hK85 _ _ ?_
                          refine c_condF rfl ?_
                          refine wp_skip ?_
                          refine hK84 _ _ ?_
                          refine wp_seq_k (fun K104 hK104 => ?_)
                          refine c_region ?_
                          refine sVal (r_field rfl rfl of68_0) ?_
                          refine sVal (r_load rfl rfl (ag64 _) hs.own (by rfl)) ?_
                          refine sVal (r_move rfl rfl) ?_
                          refine s_exQ (r_idx (f := valC) rfl rfl rfl hs.rd (rfl) (two_at hi) Try.underlying64 in58 sz58) rfl rfl (fun _ => by rfl) ?_
                          intro ad106 he105
                          refine sVal (r_loadEl rfl rfl hs.rd he105 (two_at hi) (fun _ => rfl) (ag58 _) (by rfl)) ?_
                          refine sVal (r_move rfl rfl) ?_
                          refine s_enter (r_call rfl ent34 rfl) rfl ?_
                          refine request_use _ noS kc hs (by (repeat (first | exact Cut.head _ _ | apply Cut.tail)); done) ?_
                          intro g1 w hs
                          replace hs := rest_open hs
                          refine ⟨_, rfl, a_put (by rfl) ?_⟩
                          refine sVal (r_move rfl rfl) ?_
                          refine sVal (r_extract rfl rfl (by rfl)) ?_
                          refine sVal (r_extract rfl rfl (by rfl)) ?_
                          refine s_ex (r_alloc rfl zr74 hs) rfl rfl (fun _ => by rfl) ?_
                          intro b107 w hs
                          refine s_exS (r_storeA rfl rfl rfl hs (by (repeat (first | exact Cut.head _ _ | apply Cut.tail)); done) in74 sz74 rfl (fun h => by cases h) rfl (by rfl)) rfl rfl ?_
                          intro w hs
                          refine sVal (r_assign rfl rfl) ?_
                          refine s_nil ?_
                          refine hK104 _ _ ?_
                          refine wp_seq_k (fun K108 hK108 => ?_)
                          refine c_region ?_
                          refine sVal (r_move rfl rfl) ?_
                          refine s_bool (r_cmp rfl rfl rfl rfl) rfl rfl (fun _ => by rfl) ?_
                          intro c109 hc109
                          refine s_nil ?_
                          refine hK108 _ _ ?_
                          cases c109
                          case false =>
                           replace hc109 := eqF hc109
                           try dsimp only at hc109
                           first
                           | (exfalso; first | omega | (cases hc109; done))
                           | (
                             refine c_condF rfl ?_
                             refine wp_skip ?_
                             refine hK44 _ _ ?_
                             refine c_region ?_
                             refine sVal (r_ari rfl rfl rfl rfl (by first | exact wrapI (by omega) | rfl)) ?_
                             refine sVal (r_move rfl rfl) ?_
                             refine s_nil ?_
                             refine hKL22 _ _ _ (by rfl) (by rfl) ?_ ?_
                             · (first | exact ⟨j + 1, z2, u2, rfl, by omega, by rw [toldTo_next hx, tell_none (wantK_no (by assumption) (by assumption) (by assumption))]; exact pv_close _ hs (by (repeat (first | apply Cut.pair | exact Cut.head _ _ | apply Cut.tail)); done) (by repeat (first | exact Keeps.refl _ | apply Keeps.tail | apply Keeps.drop))⟩ | exact ⟨j + 1, z2, u2, rfl, by omega, by rw [toldTo_next hx, tell_shut (gOf_shut (by omega) (han.trans (congrArg some (by assumption))))]; exact pv_close _ hs (by (repeat (first | apply Cut.pair | exact Cut.head _ _ | apply Cut.tail)); done) (by repeat (first | exact Keeps.refl _ | apply Keeps.tail | apply Keeps.drop))⟩ | (have hg : gOf ans n = true := (by first | exact gOf_late ans n (by omega) | exact gOf_len (by omega) | exact gOf_yes (han.trans (congrArg some (by assumption)))); have e := (toldTo_next (g := gOf ans n) hx).trans (tell_do (by first | exact .inl ⟨by assumption, rfl⟩ | exact .inr (.inl ⟨by assumption, rfl⟩) | exact .inr (.inr ⟨by assumption, rfl⟩)) hg); first | exact ⟨j + 1, z3, u3, rfl, by omega, by rw [e]; exact pv_close _ hs (by (repeat (first | apply Cut.pair | exact Cut.head _ _ | apply Cut.tail)); done) (by repeat (first | exact Keeps.refl _ | apply Keeps.tail | apply Keeps.drop))⟩ | (rw [ask_err (by assumption)] at e; rw [request_err (by assumption)] at hs; exact ⟨j + 1, z2, u2, rfl, by omega, by rw [e]; exact pv_close _ hs (by (repeat (first | apply Cut.pair | exact Cut.head _ _ | apply Cut.tail)); done) (by repeat (first | exact Keeps.refl _ | apply Keeps.tail | apply Keeps.drop))⟩)))
                             · (show _ < _; simp [intOf, xAt]; omega))
                          case true =>
                           replace hc109 := eqT hc109
                           try dsimp only at hc109
                           first
                           | (exfalso; first | omega | (cases hc109; done))
                           | (
                             refine c_condT rfl ?_
                             refine c_region ?_
                             refine sVal (r_loadA rfl rfl (ag68 _) hs.own in68 sz68 (by rfl)) ?_
                             refine sVal (r_move rfl rfl) ?_
                             refine sVal (r_loadA rfl rfl (ag74 _) hs.own in74 sz74 (by rfl)) ?_
                             refine s_enter (r_call rfl ent32 rfl) rfl ?_
                             refine give_use (g := g1) (x1 := z2) (y0 := u2) (w1 := (V.toldTo (gOf ans n) j).w1) (t0 := (V.toldTo (gOf ans n) j).t0) (Cn.request (V.toldTo (gOf ans n) j).c0 _ noS).r hi (Nat.le_trans (Nat.add_le_add_left (req_units _ _) _) (by omega)) (Nat.le_trans (Nat.add_le_add_left (req_sigs _ _) _) (by rw [t0e]; omega)) hs (by (repeat (first | apply Cut.pair | exact Cut.head _ _ | apply Cut.tail)); done) ?_
                             intro z3 u3 w hs
                             simp only [← star_assoc] at hs
                             refine ⟨_, rfl, a_put (by rfl) ?_⟩
                             refine s_nil ?_
                             refine hK44 _ _ ?_
                             refine c_region ?_
                             refine sVal (r_ari rfl rfl rfl rfl (by first | exact wrapI (by omega) | rfl)) ?_
                             refine sVal (r_move rfl rfl) ?_
                             refine s_nil ?_
                             refine hKL22 _ _ _ (by rfl) (by rfl) ?_ ?_
                             · (first | exact ⟨j + 1, z2, u2, rfl, by omega, by rw [toldTo_next hx, tell_none (wantK_no (by assumption) (by assumption) (by assumption))]; exact pv_close _ hs (by (repeat (first | apply Cut.pair | exact Cut.head _ _ | apply Cut.tail)); done) (by repeat (first | exact Keeps.refl _ | apply Keeps.tail | apply Keeps.drop))⟩ | exact ⟨j + 1, z2, u2, rfl, by omega, by rw [toldTo_next hx, tell_shut (gOf_shut (by omega) (han.trans (congrArg some (by assumption))))]; exact pv_close _ hs (by (repeat (first | apply Cut.pair | exact Cut.head _ _ | apply Cut.tail)); done) (by repeat (first | exact Keeps.refl _ | apply Keeps.tail | apply Keeps.drop))⟩ | (have hg : gOf ans n = true := (by first | exact gOf_late ans n (by omega) | exact gOf_len (by omega) | exact gOf_yes (han.trans (congrArg some (by assumption)))); have e := (toldTo_next (g := gOf ans n) hx).trans (tell_do (by first | exact .inl ⟨by assumption, rfl⟩ | exact .inr (.inl ⟨by assumption, rfl⟩) | exact .inr (.inr ⟨by assumption, rfl⟩)) hg); first | exact ⟨j + 1, z3, u3, rfl, by omega, by rw [e]; exact pv_close _ hs (by (repeat (first | apply Cut.pair | exact Cut.head _ _ | apply Cut.tail)); done) (by repeat (first | exact Keeps.refl _ | apply Keeps.tail | apply Keeps.drop))⟩ | (rw [ask_err (by assumption)] at e; rw [request_err (by assumption)] at hs; exact ⟨j + 1, z2, u2, rfl, by omega, by rw [e]; exact pv_close _ hs (by (repeat (first | apply Cut.pair | exact Cut.head _ _ | apply Cut.tail)); done) (by repeat (first | exact Keeps.refl _ | apply Keeps.tail | apply Keeps.drop))⟩)))
                             · (show _ < _; simp [intOf, xAt]; omega)))))
                 case true =>
                  replace hc86 := eqT hc86
                  try dsimp only at hc86
                  first
                  | (exfalso; first | omega | (cases hc86; done))
                  | (
                    refine @s_pass _ _ _ _ _ _ _ _ 42 (by rfl) (want_no rfl rfl rfl rfl) (by rfl) ?_
                    refine @s_pass _ _ _ _ _ _ _ _ 43 (by rfl) (want_no rfl rfl rfl rfl) (by rfl) ?_
                    refine @s_pass _ _ _ _ _ _ _ _ 44 (by rfl) (want_no rfl rfl rfl rfl) (by rfl) ?_
                    refine @s_pass _ _ _ _ _ _ _ _ 45 (by rfl) (want_no rfl rfl rfl rfl) (by rfl) ?_
                    refine @s_pass _ _ _ _ _ _ _ _ 46 (by rfl) (want_no rfl rfl rfl rfl) (by rfl) ?_
                    refine @s_pass _ _ _ _ _ _ _ _ 47 (by rfl) (want_ud rfl rfl rfl) (by rfl) ?_
                    refine @s_pass _ _ _ _ _ _ _ _ 48 (by rfl) (want_ud rfl rfl rfl) (by rfl) ?_
                    refine @s_pass _ _ _ _ _ _ _ _ 49 (by rfl) (want_ud rfl rfl rfl) (by rfl) ?_
                    refine @s_pass _ _ _ _ _ _ _ _ 50 (by rfl) (want_ud rfl rfl rfl) (by rfl) ?_
                    refine @s_pass _ _ _ _ _ _ _ _ 51 (by rfl) (want_ud rfl rfl rfl) (by rfl) ?_
                    refine @s_pass _ _ _ _ _ _ _ _ 52 (by rfl) (want_no rfl rfl rfl rfl) (by rfl) ?_
                    refine @s_pass _ _ _ _ _ _ _ _ 53 (by rfl) (want_no rfl rfl rfl rfl) (by rfl) ?_
                    refine @s_pass _ _ _ _ _ _ _ _ 54 (by rfl) (want_ud rfl rfl rfl) (by rfl) ?_
                    refine @s_pass _ _ _ _ _ _ _ _ 55 (by rfl) (want_ud rfl rfl rfl) (by rfl) ?_
                    refine @s_pass _ _ _ _ _ _ _ _ 56 (by rfl) (want_no rfl rfl rfl rfl) (by rfl) ?_
                    refine sVal (r_pickT rfl rfl rfl) ?_
                    refine s_nil ?_
                    refine hK85 _ _ ?_
                    refine c_condT rfl ?_
                    refine wp_exit ?_
                    refine hK44 _ _ ?_
                    refine c_region ?_
                    refine sVal (r_ari rfl rfl rfl rfl (by first | exact wrapI (by omega) | rfl)) ?_
                    refine sVal (r_move rfl rfl) ?_
                    refine s_nil ?_
                    refine hKL22 _ _ _ (by rfl) (by rfl) ?_ ?_
                    · (first | exact ⟨j + 1, z2, u2, rfl, by omega, by rw [toldTo_next hx, tell_none (wantK_no (by assumption) (by assumption) (by assumption))]; exact pv_close _ hs (by (repeat (first | apply Cut.pair | exact Cut.head _ _ | apply Cut.tail)); done) (by repeat (first | exact Keeps.refl _ | apply Keeps.tail | apply Keeps.drop))⟩ | exact ⟨j + 1, z2, u2, rfl, by omega, by rw [toldTo_next hx, tell_shut (gOf_shut (by omega) (han.trans (congrArg some (by assumption))))]; exact pv_close _ hs (by (repeat (first | apply Cut.pair | exact Cut.head _ _ | apply Cut.tail)); done) (by repeat (first | exact Keeps.refl _ | apply Keeps.tail | apply Keeps.drop))⟩ | (have hg : gOf ans n = true := (by first | exact gOf_late ans n (by omega) | exact gOf_len (by omega) | exact gOf_yes (han.trans (congrArg some (by assumption)))); have e := (toldTo_next (g := gOf ans n) hx).trans (tell_do (by first | exact .inl ⟨by assumption, rfl⟩ | exact .inr (.inl ⟨by assumption, rfl⟩) | exact .inr (.inr ⟨by assumption, rfl⟩)) hg); first | exact ⟨j + 1, z3, u3, rfl, by omega, by rw [e]; exact pv_close _ hs (by (repeat (first | apply Cut.pair | exact Cut.head _ _ | apply Cut.tail)); done) (by repeat (first | exact Keeps.refl _ | apply Keeps.tail | apply Keeps.drop))⟩ | (rw [ask_err (by assumption)] at e; rw [request_err (by assumption)] at hs; exact ⟨j + 1, z2, u2, rfl, by omega, by rw [e]; exact pv_close _ hs (by (repeat (first | apply Cut.pair | exact Cut.head _ _ | apply Cut.tail)); done) (by repeat (first | exact Keeps.refl _ | apply Keeps.tail | apply Keeps.drop))⟩)))
                    · (show _ < _; simp [intOf, xAt]; omega))))
           case true =>
            replace hc55 := eqT hc55
            try dsimp only at hc55
            first
            | (exfalso; first | omega | (cases hc55; done))
            | (
              refine c_condT rfl ?_
              refine c_region ?_
              refine sVal (r_assign rfl rfl) ?_
              refine s_nil ?_
              refine hK50 _ _ ?_
              refine wp_seq_k (fun K110 hK110 => ?_)
              refine wp_seq_k (fun K111 hK111 => ?_)
              refine c_region ?_
              refine sVal (r_move rfl rfl) ?_
              refine s_bool (r_cmp rfl rfl rfl rfl) rfl rfl (fun _ => by rfl) ?_
              intro c112 hc112
              refine sVal (r_move rfl rfl) ?_
              cases c112
              case false =>
               replace hc112 := eqF hc112
               try dsimp only at hc112
               first
               | (exfalso; first | omega | (cases hc112; done))
               | (
                 refine sVal (r_move rfl rfl) ?_
                 refine sVal (r_move rfl rfl) ?_
                 refine sVal (r_len rfl rfl Try.underlying54) ?_
                 refine s_bool (r_cmp rfl rfl rfl rfl) rfl rfl (fun _ => by rfl) ?_
                 intro c113 hc113
                 refine sVal (r_move rfl rfl) ?_
                 cases c113
                 case false =>
                  replace hc113 := decF' hc113
                  try dsimp only at hc113
                  first
                  | (exfalso; first | omega | (cases hc113; done))
                  | (
                    refine @s_pass _ _ _ _ _ _ _ _ 47 (by rfl) (want_no rfl rfl rfl rfl) (by rfl) ?_
                    refine @s_pass _ _ _ _ _ _ _ _ 48 (by rfl) (want_no rfl rfl rfl rfl) (by rfl) ?_
                    refine @s_pass _ _ _ _ _ _ _ _ 49 (by rfl) (want_no rfl rfl rfl rfl) (by rfl) ?_
                    refine @s_pass _ _ _ _ _ _ _ _ 50 (by rfl) (want_no rfl rfl rfl rfl) (by rfl) ?_
                    refine @s_pass _ _ _ _ _ _ _ _ 51 (by rfl) (want_no rfl rfl rfl rfl) (by rfl) ?_
                    refine sVal (r_pickF rfl rfl rfl) ?_
                    refine sVal (r_move rfl rfl) ?_
                    refine @s_pass _ _ _ _ _ _ _ _ 54 (by rfl) (want_no rfl rfl rfl rfl) (by rfl) ?_
                    refine @s_pass _ _ _ _ _ _ _ _ 55 (by rfl) (want_no rfl rfl rfl rfl) (by rfl) ?_
                    refine sVal (r_pickF rfl rfl rfl) ?_
                    refine sVal (r_pickF rfl rfl rfl) ?_
                    refine s_nil ?_
                    refine hK111 _ _ ?_
                    refine c_condF rfl ?_
                    refine wp_skip ?_
                    refine hK110 _ _ ?_
                    refine wp_seq_k (fun K114 hK114 => ?_)
                    refine c_region ?_
                    refine sVal (r_field rfl rfl of68_0) ?_
                    refine sVal (r_load rfl rfl (ag64 _) hs.own (by rfl)) ?_
                    refine sVal (r_move rfl rfl) ?_
                    refine s_exQ (r_idx (f := valC) rfl rfl rfl hs.rd (rfl) (two_at hi) Try.underlying64 in58 sz58) rfl rfl (fun _ => by rfl) ?_
                    intro ad116 he115
                    refine sVal (r_loadEl rfl rfl hs.rd he115 (two_at hi) (fun _ => rfl) (ag58 _) (by rfl)) ?_
                    refine sVal (r_move rfl rfl) ?_
                    refine s_enter (r_call rfl ent34 rfl) rfl ?_
                    refine request_use _ noS kc hs (by (repeat (first | exact Cut.head _ _ | apply Cut.tail)); done) ?_
                    intro g1 w hs
                    replace hs := rest_open hs
                    refine ⟨_, rfl, a_put (by rfl) ?_⟩
                    refine sVal (r_move rfl rfl) ?_
                    refine sVal (r_extract rfl rfl (by rfl)) ?_
                    refine sVal (r_extract rfl rfl (by rfl)) ?_
                    refine s_ex (r_alloc rfl zr74 hs) rfl rfl (fun _ => by rfl) ?_
                    intro b117 w hs
                    refine s_exS (r_storeA rfl rfl rfl hs (by (repeat (first | exact Cut.head _ _ | apply Cut.tail)); done) in74 sz74 rfl (fun h => by cases h) rfl (by rfl)) rfl rfl ?_
                    intro w hs
                    refine sVal (r_assign rfl rfl) ?_
                    refine s_nil ?_
                    refine hK114 _ _ ?_
                    refine wp_seq_k (fun K118 hK118 => ?_)
                    refine c_region ?_
                    refine sVal (r_move rfl rfl) ?_
                    refine s_bool (r_cmp rfl rfl rfl rfl) rfl rfl (fun _ => by rfl) ?_
                    intro c119 hc119
                    refine s_nil ?_
                    refine hK118 _ _ ?_
                    cases c119
                    case false =>
                     replace hc119 := eqF hc119
                     try dsimp only at hc119
                     first
                     | (exfalso; first | omega | (cases hc119; done))
                     | (
                       refine c_condF rfl ?_
                       refine wp_skip ?_
                       refine hK44 _ _ ?_
                       refine c_region ?_
                       refine sVal (r_ari rfl rfl rfl rfl (by first | exact wrapI (by omega) | rfl)) ?_
                       refine sVal (r_move rfl rfl) ?_
                       refine s_nil ?_
                       refine hKL22 _ _ _ (by rfl) (by rfl) ?_ ?_
                       · (first | exact ⟨j + 1, z2, u2, rfl, by omega, by rw [toldTo_next hx, tell_none (wantK_no (by assumption) (by assumption) (by assumption))]; exact pv_close _ hs (by (repeat (first | apply Cut.pair | exact Cut.head _ _ | apply Cut.tail)); done) (by repeat (first | exact Keeps.refl _ | apply Keeps.tail | apply Keeps.drop))⟩ | exact ⟨j + 1, z2, u2, rfl, by omega, by rw [toldTo_next hx, tell_shut (gOf_shut (by omega) (han.trans (congrArg some (by assumption))))]; exact pv_close _ hs (by (repeat (first | apply Cut.pair | exact Cut.head _ _ | apply Cut.tail)); done) (by repeat (first | exact Keeps.refl _ | apply Keeps.tail | apply Keeps.drop))⟩ | (have hg : gOf ans n = true := (by first | exact gOf_late ans n (by omega) | exact gOf_len (by omega) | exact gOf_yes (han.trans (congrArg some (by assumption)))); have e := (toldTo_next (g := gOf ans n) hx).trans (tell_do (by first | exact .inl ⟨by assumption, rfl⟩ | exact .inr (.inl ⟨by assumption, rfl⟩) | exact .inr (.inr ⟨by assumption, rfl⟩)) hg); first | exact ⟨j + 1, z3, u3, rfl, by omega, by rw [e]; exact pv_close _ hs (by (repeat (first | apply Cut.pair | exact Cut.head _ _ | apply Cut.tail)); done) (by repeat (first | exact Keeps.refl _ | apply Keeps.tail | apply Keeps.drop))⟩ | (rw [ask_err (by assumption)] at e; rw [request_err (by assumption)] at hs; exact ⟨j + 1, z2, u2, rfl, by omega, by rw [e]; exact pv_close _ hs (by (repeat (first | apply Cut.pair | exact Cut.head _ _ | apply Cut.tail)); done) (by repeat (first | exact Keeps.refl _ | apply Keeps.tail | apply Keeps.drop))⟩)))
                       · (show _ < _; simp [intOf, xAt]; omega))
                    case true =>
                     replace hc119 := eqT hc119
                     try dsimp only at hc119
                     first
                     | (exfalso; first | omega | (cases hc119; done))
                     | (
                       refine c_condT rfl ?_
                       refine c_region ?_
                       refine sVal (r_loadA rfl rfl (ag68 _) hs.own in68 sz68 (by rfl)) ?_
                       refine sVal (r_move rfl rfl) ?_
                       refine sVal (r_loadA rfl rfl (ag74 _) hs.own in74 sz74 (by rfl)) ?_
                       refine s_enter (r_call rfl ent32 rfl) rfl ?_
                       refine give_use (g := g1) (x1 := z2) (y0 := u2) (w1 := (V.toldTo (gOf ans n) j).w1) (t0 := (V.toldTo (gOf ans n) j).t0) (Cn.request (V.toldTo (gOf ans n) j).c0 _ noS).r hi (Nat.le_trans (Nat.add_le_add_left (req_units _ _) _) (by omega)) (Nat.le_trans (Nat.add_le_add_left (req_sigs _ _) _) (by rw [t0e]; omega)) hs (by (repeat (first | apply Cut.pair | exact Cut.head _ _ | apply Cut.tail)); done) ?_
                       intro z3 u3 w hs
                       simp only [← star_assoc] at hs
                       refine ⟨_, rfl, a_put (by rfl) ?_⟩
                       refine s_nil ?_
                       refine hK44 _ _ ?_
                       refine c_region ?_
                       refine sVal (r_ari rfl rfl rfl rfl (by first | exact wrapI (by omega) | rfl)) ?_
                       refine sVal (r_move rfl rfl) ?_
                       refine s_nil ?_
                       refine hKL22 _ _ _ (by rfl) (by rfl) ?_ ?_
                       · (first | exact ⟨j + 1, z2, u2, rfl, by omega, by rw [toldTo_next hx, tell_none (wantK_no (by assumption) (by assumption) (by assumption))]; exact pv_close _ hs (by (repeat (first | apply Cut.pair | exact Cut.head _ _ | apply Cut.tail)); done) (by repeat (first | exact Keeps.refl _ | apply Keeps.tail | apply Keeps.drop))⟩ | exact ⟨j + 1, z2, u2, rfl, by omega, by rw [toldTo_next hx, tell_shut (gOf_shut (by omega) (han.trans (congrArg some (by assumption))))]; exact pv_close _ hs (by (repeat (first | apply Cut.pair | exact Cut.head _ _ | apply Cut.tail)); done) (by repeat (first | exact Keeps.refl _ | apply Keeps.tail | apply Keeps.drop))⟩ | (have hg : gOf ans n = true := (by first | exact gOf_late ans n (by omega) | exact gOf_len (by omega) | exact gOf_yes (han.trans (congrArg some (by assumption)))); have e := (toldTo_next (g := gOf ans n) hx).trans (tell_do (by first | exact .inl ⟨by assumption, rfl⟩ | exact .inr (.inl ⟨by assumption, rfl⟩) | exact .inr (.inr ⟨by assumption, rfl⟩)) hg); first | exact ⟨j + 1, z3, u3, rfl, by omega, by rw [e]; exact pv_close _ hs (by (repeat (first | apply Cut.pair | exact Cut.head _ _ | apply Cut.tail)); done) (by repeat (first | exact Keeps.refl _ | apply Keeps.tail | apply Keeps.drop))⟩ | (rw [ask_err (by assumption)] at e; rw [request_err (by assumption)] at hs; exact ⟨j + 1, z2, u2, rfl, by omega, by rw [e]; exact pv_close _ hs (by (repeat (first | apply Cut.pair | exact Cut.head _ _ | apply Cut.tail)); done) (by repeat (first | exact Keeps.refl _ | apply Keeps.tail | apply Keeps.drop))⟩)))
                       · (show _ < _; simp [intOf, xAt]; omega)))
                 case true =>
                  replace hc113 := decT' hc113
                  try dsimp only at hc113
                  first
                  | (exfalso; first | omega | (cases hc113; done))
                  | (
                    refine sVal (r_move rfl rfl) ?_
                    refine sVal (r_move rfl rfl) ?_
                    obtain ⟨an, han⟩ : ∃ a, ans[n]? = some a := ⟨_, List.getElem?_eq_getElem (by omega)⟩
                    refine s_exQ (r_idx (f := booC) rfl rfl rfl hs.rd (rfl) (han) Try.underlying54 in4 sz4) rfl rfl (fun _ => by rfl) ?_
                    intro ad121 he120
                    refine s_bool (r_loadEl rfl rfl hs.rd he120 (han) (fun _ => rfl) (ag4 _) (by rfl)) rfl rfl (fun _ => by rfl) ?_
                    intro c122 hc122
                    cases c122
                    case false =>
                     replace hc122 := Eq.symm hc122
                     try dsimp only at hc122
                     first
                     | (exfalso; first | omega | (cases hc122; done))
                     | (
                       refine sVal (r_notF rfl rfl) ?_
                       refine sVal (r_pickT rfl rfl rfl) ?_
                       refine sVal (r_move rfl rfl) ?_
                       refine sVal (r_move rfl rfl) ?_
                       refine s_bool (r_cmp rfl rfl rfl rfl) rfl rfl (fun _ => by rfl) ?_
                       intro c123 hc123
                       refine sVal (r_pickT rfl rfl rfl) ?_
                       refine sVal (r_pickF rfl rfl rfl) ?_
                       refine s_nil ?_
                       refine hK111 _ _ ?_
                       cases c123
                       case false =>
                        replace hc123 := decF' hc123
                        try dsimp only at hc123
                        first
                        | (exfalso; first | omega | (cases hc123; done))
                        | (
                          refine c_condF rfl ?_
                          refine wp_skip ?_
                          refine hK110 _ _ ?_
                          refine wp_seq_k (fun K124 hK124 => ?_)
                          refine c_region ?_
                          refine sVal (r_field rfl rfl of68_0) ?_
                          refine sVal (r_load rfl rfl (ag64 _) hs.own (by rfl)) ?_
                          refine sVal (r_move rfl rfl) ?_
                          refine s_exQ (r_idx (f := valC) rfl rfl rfl hs.rd (rfl) (two_at hi) Try.underlying64 in58 sz58) rfl rfl (fun _ => by rfl) ?_
                          intro ad126 he125
                          refine sVal (r_loadEl rfl rfl hs.rd he125 (two_at hi) (fun _ => rfl) (ag58 _) (by rfl)) ?_
                          refine sVal (r_move rfl rfl) ?_
                          refine s_enter (r_call rfl ent34 rfl) rfl ?_
                          refine request_use _ noS kc hs (by (repeat (first | exact Cut.head _ _ | apply Cut.tail)); done) ?_
                          intro g1 w hs
                          replace hs := rest_open hs
                          refine ⟨_, rfl, a_put (by rfl) ?_⟩
                          refine sVal (r_move rfl rfl) ?_
                          refine sVal (r_extract rfl rfl (by rfl)) ?_
                          refine sVal (r_extract rfl rfl (by rfl)) ?_
                          refine s_ex (r_alloc rfl zr74 hs) rfl rfl (fun _ => by rfl) ?_
                          intro b127 w hs
                          refine s_exS (r_storeA rfl rfl rfl hs (by (repeat (first | exact Cut.head _ _ | apply Cut.tail)); done) in74 sz74 rfl (fun h => by cases h) rfl (by rfl)) rfl rfl ?_
                          intro w hs
                          refine sVal (r_assign rfl rfl) ?_
                          refine s_nil ?_
                          refine hK124 _ _ ?_
                          refine wp_seq_k (fun K128 hK128 => ?_)
                          refine c_region ?_
                          refine sVal (r_move rfl rfl) ?_
                          refine s_bool (r_cmp rfl rfl rfl rfl) rfl rfl (fun _ => by rfl) ?_
                          intro c129 hc129
                          refine s_nil ?_
                          refine hK128 _ _ ?_
                          cases c129
                          case false =>
                           replace hc129 := eqF hc129
                           try dsimp only at hc129
                           first
                           | (exfalso; first | omega | (cases hc129; done))
                           | (
                             refine c_condF rfl ?_
                             refine wp_skip ?_
                             refine hK44 _ _ ?_
                             refine c_region ?_
                             refine sVal (r_ari rfl rfl rfl rfl (by first | exact wrapI (by omega) | rfl)) ?_
                             refine sVal (r_move rfl rfl) ?_
                             refine s_nil ?_
                             refine hKL22 _ _ _ (by rfl) (by rfl) ?_ ?_
                             · (first | exact ⟨j + 1, z2, u2, rfl, by omega, by rw [toldTo_next hx, tell_none (wantK_no (by assumption) (by assumption) (by assumption))]; exact pv_close _ hs (by (repeat (first | apply Cut.pair | exact Cut.head _ _ | apply Cut.tail)); done) (by repeat (first | exact Keeps.refl _ | apply Keeps.tail | apply Keeps.drop))⟩ | exact ⟨j + 1, z2, u2, rfl, by omega, by rw [toldTo_next hx, tell_shut (gOf_shut (by omega) (han.trans (congrArg some (by assumption))))]; exact pv_close _ hs (by (repeat (first | apply Cut.pair | exact Cut.head _ _ | apply Cut.tail)); done) (by repeat (first | exact Keeps.refl _ | apply Keeps.tail | apply Keeps.drop))⟩ | (have hg : gOf ans n = true := (by first | exact gOf_late ans n (by omega) | exact gOf_len (by omega) | exact gOf_yes (han.trans (congrArg some (by assumption)))); have e := (toldTo_next (g := gOf ans n) hx).trans (tell_do (by first | exact .inl ⟨by assumption, rfl⟩ | exact .inr (.inl ⟨by assumption, rfl⟩) | exact .inr (.inr ⟨by assumption, rfl⟩)) hg); first | exact ⟨j + 1, z3, u3, rfl, by omega, by rw [e]; exact pv_close _ hs (by (repeat (first | apply Cut.pair | exact Cut.head _ _ | apply Cut.tail)); done) (by repeat (first | exact Keeps.refl _ | apply Keeps.tail | apply Keeps.drop))⟩ | (rw [ask_err (by assumption)] at e; rw [request_err (by assumption)] at hs; exact ⟨j + 1, z2, u2, rfl, by omega, by rw [e]; exact pv_close _ hs (by (repeat (first | apply Cut.pair | exact Cut.head _ _ | apply Cut.tail)); done) (by repeat (first | exact Keeps.refl _ | apply Keeps.tail | apply Keeps.drop))⟩)))
                             · (show _ < _; simp [intOf, xAt]; omega))
                          case true =>
                           replace hc129 := eqT hc129
                           try dsimp only at hc129
                           first
                           | (exfalso; first | omega | (cases hc129; done))
                           | (
                             refine c_condT rfl ?_
                             refine c_region ?_
                             refine sVal (r_loadA rfl rfl (ag68 _) hs.own in68 sz68 (by rfl)) ?_
                             refine sVal (r_move rfl rfl) ?_
                             refine sVal (r_loadA rfl rfl (ag74 _) hs.own in74 sz74 (by rfl)) ?_
                             refine s_enter (r_call rfl ent32 rfl) rfl ?_
                             refine give_use (g := g1) (x1 := z2) (y0 := u2) (w1 := (V.toldTo (gOf ans n) j).w1) (t0 := (V.toldTo (gOf ans n) j).t0) (Cn.request (V.toldTo (gOf ans n) j).c0 _ noS).r hi (Nat.le_trans (Nat.add_le_add_left (req_units _ _) _) (by omega)) (Nat.le_trans (Nat.add_le_add_left (req_sigs _ _) _) (by rw [t0e]; omega)) hs (by (repeat (first | apply Cut.pair | exact Cut.head _ _ | apply Cut.tail)); done) ?_
                             intro z3 u3 w hs
                             simp only [← star_assoc] at hs
                             refine ⟨_, rfl, a_put (by rfl) ?_⟩
                             refine s_nil ?_
                             refine hK44 _ _ ?_
                             refine c_region ?_
                             refine sVal (r_ari rfl rfl rfl rfl (by first | exact wrapI (by omega) | rfl)) ?_
                             refine sVal (r_move rfl rfl) ?_
                             refine s_nil ?_
                             refine hKL22 _ _ _ (by rfl) (by rfl) ?_ ?_
                             · (first | exact ⟨j + 1, z2, u2, rfl, by omega, by rw [toldTo_next hx, tell_none (wantK_no (by assumption) (by assumption) (by assumption))]; exact pv_close _ hs (by (repeat (first | apply Cut.pair | exact Cut.head _ _ | apply Cut.tail)); done) (by repeat (first | exact Keeps.refl _ | apply Keeps.tail | apply Keeps.drop))⟩ | exact ⟨j + 1, z2, u2, rfl, by omega, by rw [toldTo_next hx, tell_shut (gOf_shut (by omega) (han.trans (congrArg some (by assumption))))]; exact pv_close _ hs (by (repeat (first | apply Cut.pair | exact Cut.head _ _ | apply Cut.tail)); done) (by repeat (first | exact Keeps.refl _ | apply Keeps.tail | apply Keeps.drop))⟩ | (have hg : gOf ans n = true := (by first | exact gOf_late ans n (by omega) | exact gOf_len (by omega) | exact gOf_yes (han.trans (congrArg some (by assumption)))); have e := (toldTo_next (g := gOf ans n) hx).trans (tell_do (by first | exact .inl ⟨by assumption, rfl⟩ | exact .inr (.inl ⟨by assumption, rfl⟩) | exact .inr (.inr ⟨by assumption, rfl⟩)) hg); first | exact ⟨j + 1, z3, u3, rfl, by omega, by rw [e]; exact pv_close _ hs (by (repeat (first | apply Cut.pair | exact Cut.head _ _ | apply Cut.tail)); done) (by repeat (first | exact Keeps.refl _ | apply Keeps.tail | apply Keeps.drop))⟩ | (rw [ask_err (by assumption)] at e; rw [request_err (by assumption)] at hs; exact ⟨j + 1, z2, u2, rfl, by omega, by rw [e]; exact pv_close _ hs (by (repeat (first | apply Cut.pair | exact Cut.head _ _ | apply Cut.tail)); done) (by repeat (first | exact Keeps.refl _ | apply Keeps.tail | apply Keeps.drop))⟩)))
                             · (show _ < _; simp [intOf, xAt]; omega)))
                       case true =>
                        replace hc123 := decT' hc123
                        try dsimp only at hc123
                        first
                        | (exfalso; first | omega | (cases hc123; done))
                        | (
                          refine c_condT rfl ?_
                          refine wp_exit ?_
                          refine hK44 _ _ ?_
                          refine c_region ?_
                          refine sVal (r_ari rfl rfl rfl rfl (by first | exact wrapI (by omega) | rfl)) ?_
                          refine sVal (r_move rfl rfl) ?_
                          refine s_nil ?_
                          refine hKL22 _ _ _ (by rfl) (by rfl) ?_ ?_
                          · (first | exact ⟨j + 1, z2, u2, rfl, by omega, by rw [toldTo_next hx, tell_none (wantK_no (by assumption) (by assumption) (by assumption))]; exact pv_close _ hs (by (repeat (first | apply Cut.pair | exact Cut.head _ _ | apply Cut.tail)); done) (by repeat (first | exact Keeps.refl _ | apply Keeps.tail | apply Keeps.drop))⟩ | exact ⟨j + 1, z2, u2, rfl, by omega, by rw [toldTo_next hx, tell_shut (gOf_shut (by omega) (han.trans (congrArg some (by assumption))))]; exact pv_close _ hs (by (repeat (first | apply Cut.pair | exact Cut.head _ _ | apply Cut.tail)); done) (by repeat (first | exact Keeps.refl _ | apply Keeps.tail | apply Keeps.drop))⟩ | (have hg : gOf ans n = true := (by first | exact gOf_late ans n (by omega) | exact gOf_len (by omega) | exact gOf_yes (han.trans (congrArg some (by assumption)))); have e := (toldTo_next (g := gOf ans n) hx).trans (tell_do (by first | exact .inl ⟨by assumption, rfl⟩ | exact .inr (.inl ⟨by assumption, rfl⟩) | exact .inr (.inr ⟨by assumption, rfl⟩)) hg); first | exact ⟨j + 1, z3, u3, rfl, by omega, by rw [e]; exact pv_close _ hs (by (repeat (first | apply Cut.pair | exact Cut.head _ _ | apply Cut.tail)); done) (by repeat (first | exact Keeps.refl _ | apply Keeps.tail | apply Keeps.drop))⟩ | (rw [ask_err (by assumption)] at e; rw [request_err (by assumption)] at hs; exact ⟨j + 1, z2, u2, rfl, by omega, by rw [e]; exact pv_close _ hs (by (repeat (first | apply Cut.pair | exact Cut.head _ _ | apply Cut.tail)); done) (by repeat (first | exact Keeps.refl _ | apply Keeps.tail | apply Keeps.drop))⟩)))
                          · (show _ < _; simp [intOf, xAt]; omega)))
                    case true =>
                     replace hc122 := Eq.symm hc122
                     try dsimp only at hc122
                     first
                     | (exfalso; first | omega | (cases hc122; done))
                     | (
                       refine sVal (r_notT rfl rfl) ?_
                       refine sVal (r_pickT rfl rfl rfl) ?_
                       refine sVal (r_move rfl rfl) ?_
                       refine @s_pass _ _ _ _ _ _ _ _ 54 (by rfl) (want_no rfl rfl rfl rfl) (by rfl) ?_
                       refine @s_pass _ _ _ _ _ _ _ _ 55 (by rfl) (want_no rfl rfl rfl rfl) (by rfl) ?_
                       refine sVal (r_pickF rfl rfl rfl) ?_
                       refine sVal (r_pickF rfl rfl rfl) ?_
                       refine s_nil ?_
                       refine hK111 _ _ ?_
                       refine c_condF rfl ?_
                       refine wp_skip ?_
                       refine hK110 _ _ ?_
                       refine wp_seq_k (fun K130 hK130 => ?_)
                       refine c_region ?_
                       refine sVal (r_field rfl rfl of68_0) ?_
                       refine sVal (r_load rfl rfl (ag64 _) hs.own (by rfl)) ?_
                       refine sVal (r_move rfl rfl) ?_
                       refine s_exQ (r_idx (f := valC) rfl rfl rfl hs.rd (rfl) (two_at hi) Try.underlying64 in58 sz58) rfl rfl (fun _ => by rfl) ?_
                       intro ad132 he131
                       refine sVal (r_loadEl rfl rfl hs.rd he131 (two_at hi) (fun _ => rfl) (ag58 _) (by rfl)) ?_
                       refine sVal (r_move rfl rfl) ?_
                       refine s_enter (r_call rfl ent34 rfl) rfl ?_
                       refine request_use _ noS kc hs (by (repeat (first | exact Cut.head _ _ | apply Cut.tail)); done) ?_
                       intro g1 w hs
                       replace hs := rest_open hs
                       refine ⟨_, rfl, a_put (by rfl) ?_⟩
                       refine sVal (r_move rfl rfl) ?_
                       refine sVal (r_extract rfl rfl (by rfl)) ?_
                       refine sVal (r_extract rfl rfl (by rfl)) ?_
                       refine s_ex (r_alloc rfl zr74 hs) rfl rfl (fun _ => by rfl) ?_
                       intro b133 w hs
                       refine s_exS (r_storeA rfl rfl rfl hs (by (repeat (first | exact Cut.head _ _ | apply Cut.tail)); done) in74 sz74 rfl (fun h => by cases h) rfl (by rfl)) rfl rfl ?_
                       intro w hs
                       refine sVal (r_assign rfl rfl) ?_
                       refine s_nil ?_
                       refine hK130 _ _ ?_
                       refine wp_seq_k (fun K134 hK134 => ?_)
                       refine c_region ?_
                       refine sVal (r_move rfl rfl) ?_
                       refine s_bool (r_cmp rfl rfl rfl rfl) rfl rfl (fun _ => by rfl) ?_
                       intro c135 hc135
                       refine s_nil ?_
                       refine hK134 _ _ ?_
                       cases c135
                       case false =>
                        replace hc135 := eqF hc135
                        try dsimp only at hc135
                        first
                        | (exfalso; first | omega | (cases hc135; done))
                        | (
                          refine c_condF rfl ?_
                          refine wp_skip ?_
                          refine hK44 _ _ ?_
                          refine c_region ?_
                          refine sVal (r_ari rfl rfl rfl rfl (by first | exact wrapI (by omega) | rfl)) ?_
                          refine sVal (r_move rfl rfl) ?_
                          refine s_nil ?_
                          refine hKL22 _ _ _ (by rfl) (by rfl) ?_ ?_
                          · (first | exact ⟨j + 1, z2, u2, rfl, by omega, by rw [toldTo_next hx, tell_none (wantK_no (by assumption) (by assumption) (by assumption))]; exact pv_close _ hs (by (repeat (first | apply Cut.pair | exact Cut.head _ _ | apply Cut.tail)); done) (by repeat (first | exact Keeps.refl _ | apply Keeps.tail | apply Keeps.drop))⟩ | exact ⟨j + 1, z2, u2, rfl, by omega, by rw [toldTo_next hx, tell_shut (gOf_shut (by omega) (han.trans (congrArg some (by assumption))))]; exact pv_close _ hs (by (repeat (first | apply Cut.pair | exact Cut.head _ _ | apply Cut.tail)); done) (by repeat (first | exact Keeps.refl _ | apply Keeps.tail | apply Keeps.drop))⟩ | (have hg : gOf ans n = true := (by first | exact gOf_late ans n (by omega) | exact gOf_len (by omega) | exact gOf_yes (han.trans (congrArg some (by assumption)))); have e := (toldTo_next (g := gOf ans n) hx).trans (tell_do (by first | exact .inl ⟨by assumption, rfl⟩ | exact .inr (.inl ⟨by assumption, rfl⟩) | exact .inr (.inr ⟨by assumption, rfl⟩)) hg); first | exact ⟨j + 1, z3, u3, rfl, by omega, by rw [e]; exact pv_close _ hs (by (repeat (first | apply Cut.pair | exact Cut.head _ _ | apply Cut.tail)); done) (by repeat (first | exact Keeps.refl _ | apply Keeps.tail | apply Keeps.drop))⟩ | (rw [ask_err (by assumption)] at e; rw [request_err (by assumption)] at hs; exact ⟨j + 1, z2, u2, rfl, by omega, by rw [e]; exact pv_close _ hs (by (repeat (first | apply Cut.pair | exact Cut.head _ _ | apply Cut.tail)); done) (by repeat (first | exact Keeps.refl _ | apply Keeps.tail | apply Keeps.drop))⟩)))
                          · (show _ < _; simp [intOf, xAt]; omega))
                       case true =>
                        replace hc135 := eqT hc135
                        try dsimp only at hc135
                        first
                        | (exfalso; first | omega | (cases hc135; done))
                        | (
                          refine c_condT rfl ?_
                          refine c_region ?_
                          refine sVal (r_loadA rfl rfl (ag68 _) hs.own in68 sz68 (by rfl)) ?_
                          refine sVal (r_move rfl rfl) ?_
                          refine sVal (r_loadA rfl rfl (ag74 _) hs.own in74 sz74 (by rfl)) ?_
                          refine s_enter (r_call rfl ent32 rfl) rfl ?_
                          refine give_use (g := g1) (x1 := z2) (y0 := u2) (w1 := (V.toldTo (gOf ans n) j).w1) (t0 := (V.toldTo (gOf ans n) j).t0) (Cn.request (V.toldTo (gOf ans n) j).c0 _ noS).r hi (Nat.le_trans (Nat.add_le_add_left (req_units _ _) _) (by omega)) (Nat.le_trans (Nat.add_le_add_left (req_sigs _ _) _) (by rw [t0e]; omega)) hs (by (repeat (first | apply Cut.pair | exact Cut.head _ _ | apply Cut.tail)); done) ?_
                          intro z3 u3 w hs
                          simp only [← star_assoc] at hs
                          refine ⟨_, rfl, a_put (by rfl) ?_⟩
                          refine s_nil ?_
                          refine hK44 _ _ ?_
                          refine c_region ?_
                          refine sVal (r_ari rfl rfl rfl rfl (by first | exact wrapI (by omega) | rfl)) ?_
                          refine sVal (r_move rfl rfl) ?_
                          refine s_nil ?_
                          refine hKL22 _ _ _ (by rfl) (by rfl) ?_ ?_
                          · (first | exact ⟨j + 1, z2, u2, rfl, by omega, by rw [toldTo_next hx, tell_none (wantK_no (by assumption) (by assumption) (by assumption))]; exact pv_close _ hs (by (repeat (first | apply Cut.pair | exact Cut.head _ _ | apply Cut.tail)); done) (by repeat (first | exact Keeps.refl _ | apply Keeps.tail | apply Keeps.drop))⟩ | exact ⟨j + 1, z2, u2, rfl, by omega, by rw [toldTo_next hx, tell_shut (gOf_shut (by omega) (han.trans (congrArg some (by assumption))))]; exact pv_close _ hs (by (repeat (first | apply Cut.pair | exact Cut.head _ _ | apply Cut.tail)); done) (by repeat (first | exact Keeps.refl _ | apply Keeps.tail | apply Keeps.drop))⟩ | (have hg : gOf ans n = true := (by first | exact gOf_late ans n (by omega) | exact gOf_len (by omega) | exact gOf_yes (han.trans (congrArg some (by assumption)))); have e := (toldTo_next (g := gOf ans n) hx).trans (tell_do (by first | exact .inl ⟨by assumption, rfl⟩ | exact .inr (.inl ⟨by assumption, rfl⟩) | exact .inr (.inr ⟨by assumption, rfl⟩)) hg); first | exact ⟨j + 1, z3, u3, rfl, by omega, by rw [e]; exact pv_close _ hs (by (repeat (first | apply Cut.pair | exact Cut.head _ _ | apply Cut.tail)); done) (by repeat (first | exact Keeps.refl _ | apply Keeps.tail | apply Keeps.drop))⟩ | (rw [ask_err (by assumption)] at e; rw [request_err (by assumption)] at hs; exact ⟨j + 1, z2, u2, rfl, by omega, by rw [e]; exact pv_close _ hs (by (repeat (first | apply Cut.pair | exact Cut.head _ _ | apply Cut.tail)); done) (by repeat (first | exact Keeps.refl _ | apply Keeps.tail | apply Keeps.drop))⟩)))
                          · (show _ < _; simp [intOf, xAt]; omega)))))
              case true =>
               replace hc112 := eqT hc112
               try dsimp only at hc112
               first
               | (exfalso; first | omega | (cases hc112; done))
               | (
                 refine @s_pass _ _ _ _ _ _ _ _ 42 (by rfl) (want_no rfl rfl rfl rfl) (by rfl) ?_
                 refine @s_pass _ _ _ _ _ _ _ _ 43 (by rfl) (want_no rfl rfl rfl rfl) (by rfl) ?_
                 refine @s_pass _ _ _ _ _ _ _ _ 44 (by rfl) (want_no rfl rfl rfl rfl) (by rfl) ?_
                 refine @s_pass _ _ _ _ _ _ _ _ 45 (by rfl) (want_no rfl rfl rfl rfl) (by rfl) ?_
                 refine @s_pass _ _ _ _ _ _ _ _ 46 (by rfl) (want_no rfl rfl rfl rfl) (by rfl) ?_
                 refine @s_pass _ _ _ _ _ _ _ _ 47 (by rfl) (want_ud rfl rfl rfl) (by rfl) ?_
                 refine @s_pass _ _ _ _ _ _ _ _ 48 (by rfl) (want_ud rfl rfl rfl) (by rfl) ?_
                 refine @s_pass _ _ _ _ _ _ _ _ 49 (by rfl) (want_ud rfl rfl rfl) (by rfl) ?_
                 refine @s_pass _ _ _ _ _ _ _ _ 50 (by rfl) (want_ud rfl rfl rfl) (by rfl) ?_
                 refine @s_pass _ _ _ _ _ _ _ _ 51 (by rfl) (want_ud rfl rfl rfl) (by rfl) ?_
                 refine @s_pass _ _ _ _ _ _ _ _ 52 (by rfl) (want_no rfl rfl rfl rfl) (by rfl) ?_
                 refine @s_pass _ _ _ _ _ _ _ _ 53 (by rfl) (want_no rfl rfl rfl rfl) (by rfl) ?_
                 refine @s_pass _ _ _ _ _ _ _ _ 54 (by rfl) (want_ud rfl rfl rfl) (by rfl) ?_
                 refine @s_pass _ _ _ _ _ _ _ _ 55 (by rfl) (want_ud rfl rfl rfl) (by rfl) ?_
                 refine @s_pass _ _ _ _ _ _ _ _ 56 (by rfl) (want_no rfl rfl rfl rfl) (by rfl) ?_
                 refine sVal (r_pickT rfl rfl rfl) ?_
                 refine s_nil ?_
                 refine hK111 _ _ ?_
                 refine c_condT rfl ?_
                 refine wp_exit ?_
                 refine hK44 _ _ ?_
                 refine c_region ?_
                 refine sVal (r_ari rfl rfl rfl rfl (by first | exact wrapI (by omega) | rfl)) ?_
                 refine sVal (r_move rfl rfl) ?_
                 refine s_nil ?_
                 refine hKL22 _ _ _ (by rfl) (by rfl) ?_ ?_
                 · (first | exact ⟨j + 1, z2, u2, rfl, by omega, by rw [toldTo_next hx, tell_none (wantK_no (by assumption) (by assumption) (by assumption))]; exact pv_close _ hs (by (repeat (first | apply Cut.pair | exact Cut.head _ _ | apply Cut.tail)); done) (by repeat (first | exact Keeps.refl _ | apply Keeps.tail | apply Keeps.drop))⟩ | exact ⟨j + 1, z2, u2, rfl, by omega, by rw [toldTo_next hx, tell_shut (gOf_shut (by omega) (han.trans (congrArg some (by assumption))))]; exact pv_close _ hs (by (repeat (first | apply Cut.pair | exact Cut.head _ _ | apply Cut.tail)); done) (by repeat (first | exact Keeps.refl _ | apply Keeps.tail | apply Keeps.drop))⟩ | (have hg : gOf ans n = true := (by first | exact gOf_late ans n (by omega) | exact gOf_len (by omega) | exact gOf_yes (han.trans (congrArg some (by assumption)))); have e := (toldTo_next (g := gOf ans n) hx).trans (tell_do (by first | exact .inl ⟨by assumption, rfl⟩ | exact .inr (.inl ⟨by assumption, rfl⟩) | exact .inr (.inr ⟨by assumption, rfl⟩)) hg); first | exact ⟨j + 1, z3, u3, rfl, by omega, by rw [e]; exact pv_close _ hs (by (repeat (first | apply Cut.pair | exact Cut.head _ _ | apply Cut.tail)); done) (by repeat (first | exact Keeps.refl _ | apply Keeps.tail | apply Keeps.drop))⟩ | (rw [ask_err (by assumption)] at e; rw [request_err (by assumption)] at hs; exact ⟨j + 1, z2, u2, rfl, by omega, by rw [e]; exact pv_close _ hs (by (repeat (first | apply Cut.pair | exact Cut.head _ _ | apply Cut.tail)); done) (by repeat (first | exact Keeps.refl _ | apply Keeps.tail | apply Keeps.drop))⟩)))
                 · (show _ < _; simp [intOf, xAt]; omega))))
        case true =>
         replace hc53 := eqT hc53
         try dsimp only at hc53
         first
         | (exfalso; first | omega | (cases hc53; done))
         | (
           refine c_condT rfl ?_
           refine c_region ?_
           refine sVal (r_assign rfl rfl) ?_
           refine s_nil ?_
           refine hK50 _ _ ?_
           refine wp_seq_k (fun K136 hK136 => ?_)
           refine wp_seq_k (fun K137 hK137 => ?_)
           refine c_region ?_
           refine sVal (r_move rfl rfl) ?_
           refine s_bool (r_cmp rfl rfl rfl rfl) rfl rfl (fun _ => by rfl) ?_
           intro c138 hc138
           refine sVal (r_move rfl rfl) ?_
           cases c138
           case false =>
            replace hc138 := eqF hc138
            try dsimp only at hc138
            first
            | (exfalso; first | omega | (cases hc138; done))
            | (
              refine sVal (r_move rfl rfl) ?_
              refine sVal (r_move rfl rfl) ?_
              refine sVal (r_len rfl rfl Try.underlying54) ?_
              refine s_bool (r_cmp rfl rfl rfl rfl) rfl rfl (fun _ => by rfl) ?_
              intro c139 hc139
              refine sVal (r_move rfl rfl) ?_
              cases c139
              case false =>
               replace hc139 := decF' hc139
               try dsimp only at hc139
               first
               | (exfalso; first | omega | (cases hc139; done))
               | (
                 refine @s_pass _ _ _ _ _ _ _ _ 47 (by rfl) (want_no rfl rfl rfl rfl) (by rfl) ?_
                 refine @s_pass _ _ _ _ _ _ _ _ 48 (by rfl) (want_no rfl rfl rfl rfl) (by rfl) ?_
                 refine @s_pass _ _ _ _ _ _ _ _ 49 (by rfl) (want_no rfl rfl rfl rfl) (by rfl) ?_
                 refine @s_pass _ _ _ _ _ _ _ _ 50 (by rfl) (want_no rfl rfl rfl rfl) (by rfl) ?_
                 refine @s_pass _ _ _ _ _ _ _ _ 51 (by rfl) (want_no rfl rfl rfl rfl) (by rfl) ?_
                 refine sVal (r_pickF rfl rfl rfl) ?_
                 refine sVal (r_move rfl rfl) ?_
                 refine @s_pass _ _ _ _ _ _ _ _ 54 (by rfl) (want_no rfl rfl rfl rfl) (by rfl) ?_
                 refine @s_pass _ _ _ _ _ _ _ _ 55 (by rfl) (want_no rfl rfl rfl rfl) (by rfl) ?_
                 refine sVal (r_pickF rfl rfl rfl) ?_
                 refine sVal (r_pickF rfl rfl rfl) ?_
                 refine s_nil ?_
                 refine hK137 _ _ ?_
                 refine c_condF rfl ?_
                 refine wp_skip ?_
                 refine hK136 _ _ ?_
                 refine wp_seq_k (fun K140 hK140 => ?_)
                 refine c_region ?_
                 refine sVal (r_field rfl rfl of68_0) ?_
                 refine sVal (r_load rfl rfl (ag64 _) hs.own (by rfl)) ?_
                 refine sVal (r_move rfl rfl) ?_
                 refine s_exQ (r_idx (f := valC) rfl rfl rfl hs.rd (rfl) (two_at hi) Try.underlying64 in58 sz58) rfl rfl (fun _ => by rfl) ?_
                 intro ad142 he141
                 refine sVal (r_loadEl rfl rfl hs.rd he141 (two_at hi) (fun _ => rfl) (ag58 _) (by rfl)) ?_
                 refine sVal (r_move rfl rfl) ?_
                 refine s_enter (r_call rfl ent34 rfl) rfl ?_
                 refine request_use _ noS kc hs (by (repeat (first | exact Cut.head _ _ | apply Cut.tail)); done) ?_
                 intro g1 w hs
                 replace hs := rest_open hs
                 refine ⟨_, rfl, a_put (by rfl) ?_⟩
                 refine sVal (r_move rfl rfl) ?_
                 refine sVal (r_extract rfl rfl (by rfl)) ?_
                 refine sVal (r_extract rfl rfl (by rfl)) ?_
                 refine s_ex (r_alloc rfl zr74 hs) rfl rfl (fun _ => by rfl) ?_
                 intro b143 w hs
                 refine s_exS (r_storeA rfl rfl rfl hs (by (repeat (first | exact Cut.head _ _ | apply Cut.tail)); done) in74 sz74 rfl (fun h => by cases h) rfl (by rfl)) rfl rfl ?_
                 intro w hs
                 refine sVal (r_assign rfl rfl) ?_
                 refine s_nil ?_
                 refine hK140 _ _ ?_
                 refine wp_seq_k (fun K144 hK144 => ?_)
                 refine c_region ?_
                 refine sVal (r_move rfl rfl) ?_
                 refine s_bool (r_cmp rfl rfl rfl rfl) rfl rfl (fun _ => by rfl) ?_
                 intro c145 hc145
                 refine s_nil ?_
                 refine hK144 _ _ ?_
                 cases c145
                 case false =>
                  replace hc145 := eqF hc145
                  try dsimp only at hc145
                  first
                  | (exfalso; first | omega | (cases hc145; done))
                  | (
                    refine c_condF rfl ?_
                    refine wp_skip ?_
                    refine hK44 _ _ ?_
                    refine c_region ?_
                    refine sVal (r_ari rfl rfl rfl rfl (by first | exact wrapI (by omega) | rfl)) ?_
                    refine sVal (r_move rfl rfl) ?_
                    refine s_nil ?_
                    refine hKL22 _ _ _ (by rfl) (by rfl) ?_ ?_
                    · (first | exact ⟨j + 1, z2, u2, rfl, by omega, by rw [toldTo_next hx, tell_none (wantK_no (by assumption) (by assumption) (by assumption))]; exact pv_close _ hs (by (repeat (first | apply Cut.pair | exact Cut.head _ _ | apply Cut.tail)); done) (by repeat (first | exact Keeps.refl _ | apply Keeps.tail | apply Keeps.drop))⟩ | exact ⟨j + 1, z2, u2, rfl, by omega, by rw [toldTo_next hx, tell_shut (gOf_shut (by omega) (han.trans (congrArg some (by assumption))))]; exact pv_close _ hs (by (repeat (first | apply Cut.pair | exact Cut.head _ _ | apply Cut.tail)); done) (by repeat (first | exact Keeps.refl _ | apply Keeps.tail | apply Keeps.drop))⟩ | (have hg : gOf ans n = true := (by first | exact gOf_late ans n (by omega) | exact gOf_len (by omega) | exact gOf_yes (han.trans (congrArg some (by assumption)))); have e := (toldTo_next (g := gOf ans n) hx).trans (tell_do (by first | exact .inl ⟨by assumption, rfl⟩ | exact .inr (.inl ⟨by assumption, rfl⟩) | exact .inr (.inr ⟨by assumption, rfl⟩)) hg); first | exact ⟨j + 1, z3, u3, rfl, by omega, by rw [e]; exact pv_close _ hs (by (repeat (first | apply Cut.pair | exact Cut.head _ _ | apply Cut.tail)); done) (by repeat (first | exact Keeps.refl _ | apply Keeps.tail | apply Keeps.drop))⟩ | (rw [ask_err (by assumption)] at e; rw [request_err (by assumption)] at hs; exact ⟨j + 1, z2, u2, rfl, by omega, by rw [e]; exact pv_close _ hs (by (repeat (first | apply Cut.pair | exact Cut.head _ _ | apply Cut.tail)); done) (by repeat (first | exact Keeps.refl _ | apply Keeps.tail | apply Keeps.drop))⟩)))
                    · (show _ < _; simp [intOf, xAt]; omega))
                 case true =>
                  replace hc145 := eqT hc145
                  try dsimp only at hc145
                  first
                  | (exfalso; first | omega | (cases hc145; done))
                  | (
                    refine c_condT rfl ?_
                    refine c_region ?_
                    refine sVal (r_loadA rfl rfl (ag68 _) hs.own in68 sz68 (by rfl)) ?_
                    refine sVal (r_move rfl rfl) ?_
                    refine sVal (r_loadA rfl rfl (ag74 _) hs.own in74 sz74 (by rfl)) ?_
                    refine s_enter (r_call rfl ent32 rfl) rfl ?_
                    refine give_use (g := g1) (x1 := z2) (y0 := u2) (w1 := (V.toldTo (gOf ans n) j).w1) (t0 := (V.toldTo (gOf ans n) j).t0) (Cn.request (V.toldTo (gOf ans n) j).c0 _ noS).r hi (Nat.le_trans (Nat.add_le_add_left (req_units _ _) _) (by omega)) (Nat.le_trans (Nat.add_le_add_left (req_sigs _ _) _) (by rw [t0e]; omega)) hs (by (repeat (first | apply Cut.pair | exact Cut.head _ _ | apply Cut.tail)); done) ?_
                    intro z3 u3 w hs
                    simp only [← star_assoc] at hs
                    refine ⟨_, rfl, a_put (by rfl) ?_⟩
                    refine s_nil ?_
                    refine hK44 _ _ ?_
                    refine c_region ?_
                    refine sVal (r_ari rfl rfl rfl rfl (by first | exact wrapI (by omega) | rfl)) ?_
                    refine sVal (r_move rfl rfl) ?_
                    refine s_nil ?_
                    refine hKL22 _ _ _ (by rfl) (by rfl) ?_ ?_
                    · (first | exact ⟨j + 1, z2, u2, rfl, by omega, by rw [toldTo_next hx, tell_none (wantK_no (by assumption) (by assumption) (by assumption))]; exact pv_close _ hs (by (repeat (first | apply Cut.pair | exact Cut.head _ _ | apply Cut.tail)); done) (by repeat (first | exact Keeps.refl _ | apply Keeps.tail | apply Keeps.drop))⟩ | exact ⟨j + 1, z2, u2, rfl, by omega, by rw [toldTo_next hx, tell_shut (gOf_shut (by omega) (han.trans (congrArg some (by assumption))))]; exact pv_close _ hs (by (repeat (first | apply Cut.pair | exact Cut.head _ _ | apply Cut.tail)); done) (by repeat (first | exact Keeps.refl _ | apply Keeps.tail | apply Keeps.drop))⟩ | (have hg : gOf ans n = true := (by first | exact gOf_late ans n (by omega) | exact gOf_len (by omega) | exact gOf_yes (han.trans (congrArg some (by assumption)))); have e := (toldTo_next (g := gOf ans n) hx).trans (tell_do (by first | exact .inl ⟨by assumption, rfl⟩ | exact .inr (.inl ⟨by assumption, rfl⟩) | exact .inr (.inr ⟨by assumption, rfl⟩)) hg); first | exact ⟨j + 1, z3, u3, rfl, by omega, by rw [e]; exact pv_close _ hs (by (repeat (first | apply Cut.pair | exact Cut.head _ _ | apply Cut.tail)); done) (by repeat (first | exact Keeps.refl _ | apply Keeps.tail | apply Keeps.drop))⟩ | (rw [ask_err (by assumption)] at e; rw [request_err (by assumption)] at hs; exact ⟨j + 1, z2, u2, rfl, by omega, by rw [e]; exact pv_close _ hs (by (repeat (first | apply Cut.pair | exact Cut.head _ _ | apply Cut.tail)); done) (by repeat (first | exact Keeps.refl _ | apply Keeps.tail | apply Keeps.drop))⟩)))
                    · (show _ < _; simp [intOf, xAt]; omega)))
              case true =>
               replace hc139 := decT' hc139
               try dsimp only at hc139
               first
               | (exfalso; first | omega | (cases hc139; done))
               | (
                 refine sVal (r_move rfl rfl) ?_
                 refine sVal (r_move rfl rfl) ?_
                 obtain ⟨an, han⟩ : ∃ a, ans[n]? = some a := ⟨_, List.getElem?_eq_getElem (by omega)⟩
                 refine s_exQ (r_idx (f := booC) rfl rfl rfl hs.rd (rfl) (han) Try.underlying54 in4 sz4) rfl rfl (fun _ => by rfl) ?_
                 intro ad147 he146
                 refine s_bool (r_loadEl rfl rfl hs.rd he146 (han) (fun _ => rfl) (ag4 _) (by rfl)) rfl rfl (fun _ => by rfl) ?_
                 intro c148 hc148
                 cases c148
                 case false =>
                  replace hc148 := Eq.symm hc148
                  try dsimp only at hc148
                  first
                  | (exfalso; first | omega | (cases hc148; done))
                  | (
                    refine sVal (r_notF rfl rfl) ?_
                    refine sVal (r_pickT rfl rfl rfl) ?_
                    refine sVal (r_move rfl rfl) ?_
                    refine sVal (r_move rfl rfl) ?_
                    refine s_bool (r_cmp rfl rfl rfl rfl) rfl rfl (fun _ => by rfl) ?_
                    intro c149 hc149
                    refine sVal (r_pickT rfl rfl rfl) ?_
                    refine sVal (r_pickF rfl rfl rfl) ?_
                    refine s_nil ?_
                    refine hK137 _ _ ?_
                    cases c149
                    case false =>
                     replace hc149 := decF' hc149
                     try dsimp only at hc149
                     first
                     | (exfalso; first | omega | (cases hc149; done))
                     | (
                       refine c_condF rfl ?_
                       refine wp_skip ?_
                       refine hK136 _ _ ?_
                       refine wp_seq_k (fun K150 hK150 => ?_)
                       refine c_region ?_
                       refine sVal (r_field rfl rfl of68_0) ?_
                       refine sVal (r_load rfl rfl (ag64 _) hs.own (by rfl)) ?_
                       refine sVal (r_move rfl rfl) ?_
                       refine s_exQ (r_idx (f := valC) rfl rfl rfl hs.rd (rfl) (two_at hi) Try.underlying64 in58 sz58) rfl rfl (fun _ => by rfl) ?_
                       intro ad152 he151
                       refine sVal (r_loadEl rfl rfl hs.rd he151 (two_at hi) (fun _ => rfl) (ag58 _) (by rfl)) ?_
                       refine sVal (r_move rfl rfl) ?_
                       refine s_enter (r_call rfl ent34 rfl) rfl ?_
                       refine request_use _ noS kc hs (by (repeat (first | exact Cut.head _ _ | apply Cut.tail)); done) ?_
                       intro g1 w hs
                       replace hs := rest_open hs
                       refine ⟨_, rfl, a_put (by rfl) ?_⟩
                       refine sVal (r_move rfl rfl) ?_
                       refine sVal (r_extract rfl rfl (by rfl)) ?_
                       refine sVal (r_extract rfl rfl (by rfl)) ?_
                       refine s_ex (r_alloc rfl zr74 hs) rfl rfl (fun _ => by rfl) ?_
                       intro b153 w hs
                       refine s_exS (r_storeA rfl rfl rfl hs (by (repeat (first | exact Cut.head _ _ | apply Cut.tail)); done) in74 sz74 rfl (fun h => by cases h) rfl (by rfl)) rfl rfl ?_
                       intro w hs
                       refine sVal (r_assign rfl rfl) ?_
                       refine s_nil ?_
                       refine hK150 _ _ ?_
                       refine wp_seq_k (fun K154 hK154 => ?_)
                       refine c_region ?_
                       refine sVal (r_move rfl rfl) ?_
                       refine s_bool (r_cmp rfl rfl rfl rfl) rfl rfl (fun _ => by rfl) ?_
                       intro c155 hc155
                       refine s_nil ?_
                       refine hK154 _ _ ?_
                       cases c155
                       case false =>
                        replace hc155 := eqF hc155
                        try dsimp only at hc155
                        first
                        | (exfalso; first | omega | (cases hc155; done))
                        | (
                          refine c_condF rfl ?_
                          refine wp_skip ?_
                          refine hK44 _ _ ?_
                          refine c_region ?_
                          refine sVal (r_ari rfl rfl rfl rfl (by first | exact wrapI (by omega) | rfl)) ?_
                          refine sVal (r_move rfl rfl) ?_
                          refine s_nil ?_
                          refine hKL22 _ _ _ (by rfl) (by rfl) ?_ ?_
                          · (first | exact ⟨j + 1, z2, u2, rfl, by omega, by rw [toldTo_next hx, tell_none (wantK_no (by assumption) (by assumption) (by assumption))]; exact pv_close _ hs (by (repeat (first | apply Cut.pair | exact Cut.head _ _ | apply Cut.tail)); done) (by repeat (first | exact Keeps.refl _ | apply Keeps.tail | apply Keeps.drop))⟩ | exact ⟨j + 1, z2, u2, rfl, by omega, by rw [toldTo_next hx, tell_shut (gOf_shut (by omega) (han.trans (congrArg some (by assumption))))]; exact pv_close _ hs (by (repeat (first | apply Cut.pair | exact Cut.head _ _ | apply Cut.tail)); done) (by repeat (first | exact Keeps.refl _ | apply Keeps.tail | apply Keeps.drop))⟩ | (have hg : gOf ans n = true := (by first | exact gOf_late ans n (by omega) | exact gOf_len (by omega) | exact gOf_yes (han.trans (congrArg some (by assumption)))); have e := (toldTo_next (g := gOf ans n) hx).trans (tell_do (by first | exact .inl ⟨by assumption, rfl⟩ | exact .inr (.inl ⟨by assumption, rfl⟩) | exact .inr (.inr ⟨by assumption, rfl⟩)) hg); first | exact ⟨j + 1, z3, u3, rfl, by omega, by rw [e]; exact pv_close _ hs (by (repeat (first | apply Cut.pair | exact Cut.head _ _ | apply Cut.tail)); done) (by repeat (first | exact Keeps.refl _ | apply Keeps.tail | apply Keeps.drop))⟩ | (rw [ask_err (by assumption)] at e; rw [request_err (by assumption)] at hs; exact ⟨j + 1, z2, u2, rfl, by omega, by rw [e]; exact pv_close _ hs (by (repeat (first | apply Cut.pair | exact Cut.head _ _ | apply Cut.tail)); done) (by repeat (first | exact Keeps.refl _ | apply Keeps.tail | apply Keeps.drop))⟩)))
                          · (show _ < _; simp [intOf, xAt]; omega))
                       case true =>
                        replace hc155 := eqT hc155
                        try dsimp only at hc155
                        first
                        | (exfalso; first | omega | (cases hc155; done))
                        | (
                          refine c_condT rfl ?_
                          refine c_region ?_
                          refine sVal (r_loadA rfl rfl (ag68 _) hs.own in68 sz68 (by rfl)) ?_
                          refine sVal (r_move rfl rfl) ?_
                          refine sVal (r_loadA rfl rfl (ag74 _) hs.own in74 sz74 (by rfl)) ?_
                          refine s_enter (r_call rfl ent32 rfl) rfl ?_
                          refine give_use (g := g1) (x1 := z2) (y0 := u2) (w1 := (V.toldTo (gOf ans n) j).w1) (t0 := (V.toldTo (gOf ans n) j).t0) (Cn.request (V.toldTo (gOf ans n) j).c0 _ noS).r hi (Nat.le_trans (Nat.add_le_add_left (req_units _ _) _) (by omega)) (Nat.le_trans (Nat.add_le_add_left (req_sigs _ _) _) (by rw [t0e]; omega)) hs (by (repeat (first | apply Cut.pair | exact Cut.head _ _ | apply Cut.tail)); done) ?_
                          intro z3 u3 w hs
                          simp only [← star_assoc] at hs
                          refine ⟨_, rfl, a_put (by rfl) ?_⟩
                          refine s_nil ?_
                          refine hK44 _ _ ?_
                          refine c_region ?_
                          refine sVal (r_ari rfl rfl rfl rfl (by first | exact wrapI (by omega) | rfl)) ?_
                          refine sVal (r_move rfl rfl) ?_
                          refine s_nil ?_
                          refine hKL22 _ _ _ (by rfl) (by rfl) ?_ ?_
                          · (first | exact ⟨j + 1, z2, u2, rfl, by omega, by rw [toldTo_next hx, tell_none (wantK_no (by assumption) (by assumption) (by assumption))]; exact pv_close _ hs (by (repeat (first | apply Cut.pair | exact Cut.head _ _ | apply Cut.tail)); done) (by repeat (first | exact Keeps.refl _ | apply Keeps.tail | apply Keeps.drop))⟩ | exact ⟨j + 1, z2, u2, rfl, by omega, by rw [toldTo_next hx, tell_shut (gOf_shut (by omega) (han.trans (congrArg some (by assumption))))]; exact pv_close _ hs (by (repeat (first | apply Cut.pair | exact Cut.head _ _ | apply Cut.tail)); done) (by repeat (first | exact Keeps.refl _ | apply Keeps.tail | apply Keeps.drop))⟩ | (have hg : gOf ans n = true := (by first | exact gOf_late ans n (by omega) | exact gOf_len (by omega) | exact gOf_yes (han.trans (congrArg some (by assumption)))); have e := (toldTo_next (g := gOf ans n) hx).trans (tell_do (by first | exact .inl ⟨by assumption, rfl⟩ | exact .inr (.inl ⟨by assumption, rfl⟩) | exact .inr (.inr ⟨by assumption, rfl⟩)) hg); first | exact ⟨j + 1, z3, u3, rfl, by omega, by rw [e]; exact pv_close _ hs (by (repeat (first | apply Cut.pair | exact Cut.head _ _ | apply Cut.tail)); done) (by repeat (first | exact Keeps.refl _ | apply Keeps.tail | apply Keeps.drop))⟩ | (rw [ask_err (by assumption)] at e; rw [request_err (by assumption)] at hs; exact ⟨j + 1, z2, u2, rfl, by omega, by rw [e]; exact pv_close _ hs (by (repeat (first | apply Cut.pair | exact Cut.head _ _ | apply Cut.tail)); done) (by repeat (first | exact Keeps.refl _ | apply Keeps.tail | apply Keeps.drop))⟩)))
                          · (show _ < _; simp [intOf, xAt]; omega)))
                    case true =>
                     replace hc149 := decT' hc149
                     try dsimp only at hc149
                     first
                     | (exfalso; first | omega | (cases hc149; done))
                     | (
                       refine c_condT rfl ?_
                       refine wp_exit ?_
                       refine hK44 _ _ ?_
                       refine c_region ?_
                       refine sVal (r_ari rfl rfl rfl rfl (by first | exact wrapI (by omega) | rfl)) ?_
                       refine sVal (r_move rfl rfl) ?_
                       refine s_nil ?_
                       refine hKL22 _ _ _ (by rfl) (by rfl) ?_ ?_
                       · (first | exact ⟨j + 1, z2, u2, rfl, by omega, by rw [toldTo_next hx, tell_none (wantK_no (by assumption) (by assumption) (by assumption))]; exact pv_close _ hs (by (repeat (first | apply Cut.pair | exact Cut.head _ _ | apply Cut.tail)); done) (by repeat (first | exact Keeps.refl _ | apply Keeps.tail | apply Keeps.drop))⟩ | exact ⟨j + 1, z2, u2, rfl, by omega, by rw [toldTo_next hx, tell_shut (gOf_shut (by omega) (han.trans (congrArg some (by assumption))))]; exact pv_close _ hs (by (repeat (first | apply Cut.pair | exact Cut.head _ _ | apply Cut.tail)); done) (by repeat (first | exact Keeps.refl _ | apply Keeps.tail | apply Keeps.drop))⟩ | (have hg : gOf ans n = true := (by first | exact gOf_late ans n (by omega) | exact gOf_len (by omega) | exact gOf_yes (han.trans (congrArg some (by assumption)))); have e := (toldTo_next (g := gOf ans n) hx).trans (tell_do (by first | exact .inl ⟨by assumption, rfl⟩ | exact .inr (.inl ⟨by assumption, rfl⟩) | exact .inr (.inr ⟨by assumption, rfl⟩)) hg); first | exact ⟨j + 1, z3, u3, rfl, by omega, by rw [e]; exact pv_close _ hs (by (repeat (first | apply Cut.pair | exact Cut.head _ _ | apply Cut.tail)); done) (by repeat (first | exact Keeps.refl _ | apply Keeps.tail | apply Keeps.drop))⟩ | (rw [ask_err (by assumption)] at e; rw [request_err (by assumption)] at hs; exact ⟨j + 1, z2, u2, rfl, by omega, by rw [e]; exact pv_close _ hs (by (repeat (first | apply Cut.pair | exact Cut.head _ _ | apply Cut.tail)); done) (by repeat (first | exact Keeps.refl _ | apply Keeps.tail | apply Keeps.drop))⟩)))
                       · (show _ < _; simp [intOf, xAt]; omega)))
                 case true =>
                  replace hc148 := Eq.symm hc148
                  try dsimp only at hc148
                  first
                  | (exfalso; first | omega | (cases hc148; done))
                  | (
                    refine sVal (r_notT rfl rfl) ?_
                    refine sVal (r_pickT rfl rfl rfl) ?_
                    refine sVal (r_move rfl rfl) ?_
                    refine @s_pass _ _ _ _ _ _ _ _ 54 (by rfl) (want_no rfl rfl rfl rfl) (by rfl) ?_
                    refine @s_pass _ _ _ _ _ _ _ _ 55 (by rfl) (want_no rfl rfl rfl rfl) (by rfl) ?_
                    refine sVal (r_pickF rfl rfl rfl) ?_
                    refine sVal (r_pickF rfl rfl rfl) ?_
                    refine s_nil ?_
                    refine hK137 _ _ ?_
                    refine c_condF rfl ?_
                    refine wp_skip ?_
                    refine hK136 _ _ ?_
                    refine wp_seq_k (fun K156 hK156 => ?_)
                    refine c_region ?_
                    refine sVal (r_field rfl rfl of68_0) ?_
                    refine sVal (r_load rfl rfl (ag64 _) hs.own (by rfl)) ?_
                    refine sVal (r_move rfl rfl) ?_
                    refine s_exQ (r_idx (f := valC) rfl rfl rfl hs.rd (rfl) (two_at hi) Try.underlying64 in58 sz58) rfl rfl (fun _ => by rfl) ?_
                    intro ad158 he157
                    refine sVal (r_loadEl rfl rfl hs.rd he157 (two_at hi) (fun _ => rfl) (ag58 _) (by rfl)) ?_
                    refine sVal (r_move rfl rfl) ?_
                    refine s_enter (r_call rfl ent34 rfl) rfl ?_
                    refine request_use _ noS kc hs (by (repeat (first | exact Cut.head _ _ | apply Cut.tail)); done) ?_
                    intro g1 w hs
                    replace hs := rest_open hs
                    refine ⟨_, rfl, a_put (by rfl) ?_⟩
                    refine sVal (r_move rfl rfl) ?_
                    refine sVal (r_extract rfl rfl (by rfl)) ?_
                    refine sVal (r_extract rfl rfl (by rfl)) ?_
                    refine s_ex (r_alloc rfl zr74 hs) rfl rfl (fun _ => by rfl) ?_
                    intro b159 w hs
                    refine s_exS (r_storeA rfl rfl rfl hs (by (repeat (first | exact Cut.head _ _ | apply Cut.tail)); done) in74 sz74 rfl (fun h => by cases h) rfl (by rfl)) rfl rfl ?_
                    intro w hs
                    refine sVal (r_assign rfl rfl) ?_
                    refine s_nil ?_
                    refine hK156 _ _ ?_
                    refine wp_seq_k (fun K160 hK160 => ?_)
                    refine c_region ?_
                    refine sVal (r_move rfl rfl) ?_
                    refine s_bool (r_cmp rfl rfl rfl rfl) rfl rfl (fun _ => by rfl) ?_
                    intro c161 hc161
                    refine s_nil ?_
                    refine hK160 _ _ ?_
                    cases c161
                    case false =>
                     replace hc161 := eqF hc161
                     try dsimp only at hc161
                     first
                     | (exfalso; first | omega | (cases hc161; done))
                     | (
                       refine c_condF rfl ?_
                       refine wp_skip ?_
                       refine hK44 _ _ ?_
                       refine c_region ?_
                       refine sVal (r_ari rfl rfl rfl rfl (by first | exact wrapI (by omega) | rfl)) ?_
                       refine sVal (r_move rfl rfl) ?_
                       refine s_nil ?_
                       refine hKL22 _ _ _ (by rfl) (by rfl) ?_ ?_
                       · (first | exact ⟨j + 1, z2, u2, rfl, by omega, by rw [toldTo_next hx, tell_none (wantK_no (by assumption) (by assumption) (by assumption))]; exact pv_close _ hs (by (repeat (first | apply Cut.pair | exact Cut.head _ _ | apply Cut.tail)); done) (by repeat (first | exact Keeps.refl _ | apply Keeps.tail | apply Keeps.drop))⟩ | exact ⟨j + 1, z2, u2, rfl, by omega, by rw [toldTo_next hx, tell_shut (gOf_shut (by omega) (han.trans (congrArg some (by assumption))))]; exact pv_close _ hs (by (repeat (first | apply Cut.pair | exact Cut.head _ _ | apply Cut.tail)); done) (by repeat (first | exact Keeps.refl _ | apply Keeps.tail | apply Keeps.drop))⟩ | (have hg : gOf ans n = true := (by first | exact gOf_late ans n (by omega) | exact gOf_len (by omega) | exact gOf_yes (han.trans (congrArg some (by assumption)))); have e := (toldTo_next (g := gOf ans n) hx).trans (tell_do (by first | exact .inl ⟨by assumption, rfl⟩ | exact .inr (.inl ⟨by assumption, rfl⟩) | exact .inr (.inr ⟨by assumption, rfl⟩)) hg); first | exact ⟨j + 1, z3, u3, rfl, by omega, by rw [e]; exact pv_close _ hs (by (repeat (first | apply Cut.pair | exact Cut.head _ _ | apply Cut.tail)); done) (by repeat (first | exact Keeps.refl _ | apply Keeps.tail | apply Keeps.drop))⟩ | (rw [ask_err (by assumption)] at e; rw [request_err (by assumption)] at hs; exact ⟨j + 1, z2, u2, rfl, by omega, by rw [e]; exact pv_close _ hs (by (repeat (first | apply Cut.pair | exact Cut.head _ _ | apply Cut.tail)); done) (by repeat (first | exact Keeps.refl _ | apply Keeps.tail | apply Keeps.drop))⟩)))
                       · (show _ < _; simp [intOf, xAt]; omega))
                    case true =>
                     replace hc161 := eqT hc161
                     try dsimp only at hc161
                     first
                     | (exfalso; first | omega | (cases hc161; done))
                     | (
                       refine c_condT rfl ?_
                       refine c_region ?_
                       refine sVal (r_loadA rfl rfl (ag68 _) hs.own in68 sz68 (by rfl)) ?_
                       refine sVal (r_move rfl rfl) ?_
                       refine sVal (r_loadA rfl rfl (ag74 _) hs.own in74 sz74 (by rfl)) ?_
                       refine s_enter (r_call rfl ent32 rfl) rfl ?_
                       refine give_use (g := g1) (x1 := z2) (y0 := u2) (w1 := (V.toldTo (gOf ans n) j).w1) (t0 := (V.toldTo (gOf ans n) j).t0) (Cn.request (V.toldTo (gOf ans n) j).c0 _ noS).r hi (Nat.le_trans (Nat.add_le_add_left (req_units _ _) _) (by omega)) (Nat.le_trans (Nat.add_le_add_left (req_sigs _ _) _) (by rw [t0e]; omega)) hs (by (repeat (first | apply Cut.pair | exact Cut.head _ _ | apply Cut.tail)); done) ?_
                       intro z3 u3 w hs
                       simp only [← star_assoc] at hs
                       refine ⟨_, rfl, a_put (by rfl) ?_⟩
                       refine s_nil ?_
                       refine hK44 _ _ ?_
                       refine c_region ?_
                       refine sVal (r_ari rfl rfl rfl rfl (by first | exact wrapI (by omega) | rfl)) ?_
                       refine sVal (r_move rfl rfl) ?_
                       refine s_nil ?_
                       refine hKL22 _ _ _ (by rfl) (by rfl) ?_ ?_
                       · (first | exact ⟨j + 1, z2, u2, rfl, by omega, by rw [toldTo_next hx, tell_none (wantK_no (by assumption) (by assumption) (by assumption))]; exact pv_close _ hs (by (repeat (first | apply Cut.pair | exact Cut.head _ _ | apply Cut.tail)); done) (by repeat (first | exact Keeps.refl _ | apply Keeps.tail | apply Keeps.drop))⟩ | exact ⟨j + 1, z2, u2, rfl, by omega, by rw [toldTo_next hx, tell_shut (gOf_shut (by omega) (han.trans (congrArg some (by assumption))))]; exact pv_close _ hs (by (repeat (first | apply Cut.pair | exact Cut.head _ _ | apply Cut.tail)); done) (by repeat (first | exact Keeps.refl _ | apply Keeps.tail | apply Keeps.drop))⟩ | (have hg : gOf ans n = true := (by first | exact gOf_late ans n (by omega) | exact gOf_len (by omega) | exact gOf_yes (han.trans (congrArg some (by assumption)))); have e := (toldTo_next (g := gOf ans n) hx).trans (tell_do (by first | exact .inl ⟨by assumption, rfl⟩ | exact .inr (.inl ⟨by assumption, rfl⟩) | exact .inr (.inr ⟨by assumption, rfl⟩)) hg); first | exact ⟨j + 1, z3, u3, rfl, by omega, by rw [e]; exact pv_close _ hs (by (repeat (first | apply Cut.pair | exact Cut.head _ _ | apply Cut.tail)); done) (by repeat (first | exact Keeps.refl _ | apply Keeps.tail | apply Keeps.drop))⟩ | (rw [ask_err (by assumption)] at e; rw [request_err (by assumption)] at hs; exact ⟨j + 1, z2, u2, rfl, by omega, by rw [e]; exact pv_close _ hs (by (repeat (first | apply Cut.pair | exact Cut.head _ _ | apply Cut.tail)); done) (by repeat (first | exact Keeps.refl _ | apply Keeps.tail | apply Keeps.drop))⟩)))
                       · (show _ < _; simp [intOf, xAt]; omega)))))
           case true =>
            replace hc138 := eqT hc138
            try dsimp only at hc138
            first
            | (exfalso; first | omega | (cases hc138; done))
            | (
              refine @s_pass _ _ _ _ _ _ _ _ 42 (by rfl) (want_no rfl rfl rfl rfl) (by rfl) ?_
              refine @s_pass _ _ _ _ _ _ _ _ 43 (by rfl) (want_no rfl rfl rfl rfl) (by rfl) ?_
              refine @s_pass _ _ _ _ _ _ _ _ 44 (by rfl) (want_no rfl rfl rfl rfl) (by rfl) ?_
              refine @s_pass _ _ _ _ _ _ _ _ 45 (by rfl) (want_no rfl rfl rfl rfl) (by rfl) ?_
              refine @s_pass _ _ _ _ _ _ _ _ 46 (by rfl) (want_no rfl rfl rfl rfl) (by rfl) ?_
              refine @s_pass _ _ _ _ _ _ _ _ 47 (by rfl) (want_ud rfl rfl rfl) (by rfl) ?_
              refine @s_pass _ _ _ _ _ _ _ _ 48 (by rfl) (want_ud rfl rfl rfl) (by rfl) ?_
              refine @s_pass _ _ _ _ _ _ _ _ 49 (by rfl) (want_ud rfl rfl rfl) (by rfl) ?_
              refine @s_pass _ _ _ _ _ _ _ _ 50 (by rfl) (want_ud rfl rfl rfl) (by rfl) ?_
              refine @s_pass _ _ _ _ _ _ _ _ 51 (by rfl) (want_ud rfl rfl rfl) (by rfl) ?_
              refine @s_pass _ _ _ _ _ _ _ _ 52 (by rfl) (want_no rfl rfl rfl rfl) (by rfl) ?_
              refine @s_pass _ _ _ _ _ _ _ _ 53 (by rfl) (want_no rfl rfl rfl rfl) (by rfl) ?_
              refine @s_pass _ _ _ _ _ _ _ _ 54 (by rfl) (want_ud rfl rfl rfl) (by rfl) ?_
              refine @s_pass _ _ _ _ _ _ _ _ 55 (by rfl) (want_ud rfl rfl rfl) (by rfl) ?_
              refine @s_pass _ _ _ _ _ _ _ _ 56 (by rfl) (want_no rfl rfl rfl rfl) (by rfl) ?_
              refine sVal (r_pickT rfl rfl rfl) ?_
              refine s_nil ?_
              refine hK137 _ _ ?_
              refine c_condT rfl ?_
              refine wp_exit ?_
              refine hK44 _ _ ?_
              refine c_region ?_
              refine sVal (r_ari rfl rfl rfl rfl (by first | exact wrapI (by omega) | rfl)) ?_
              refine sVal (r_move rfl rfl) ?_
              refine s_nil ?_
              refine hKL22 _ _ _ (by rfl) (by rfl) ?_ ?_
              · (first | exact ⟨j + 1, z2, u2, rfl, by omega, by rw [toldTo_next hx, tell_none (wantK_no (by assumption) (by assumption) (by assumption))]; exact pv_close _ hs (by (repeat (first | apply Cut.pair | exact Cut.head _ _ | apply Cut.tail)); done) (by repeat (first | exact Keeps.refl _ | apply Keeps.tail | apply Keeps.drop))⟩ | exact ⟨j + 1, z2, u2, rfl, by omega, by rw [toldTo_next hx, tell_shut (gOf_shut (by omega) (han.trans (congrArg some (by assumption))))]; exact pv_close _ hs (by (repeat (first | apply Cut.pair | exact Cut.head _ _ | apply Cut.tail)); done) (by repeat (first | exact Keeps.refl _ | apply Keeps.tail | apply Keeps.drop))⟩ | (have hg : gOf ans n = true := (by first | exact gOf_late ans n (by omega) | exact gOf_len (by omega) | exact gOf_yes (han.trans (congrArg some (by assumption)))); have e := (toldTo_next (g := gOf ans n) hx).trans (tell_do (by first | exact .inl ⟨by assumption, rfl⟩ | exact .inr (.inl ⟨by assumption, rfl⟩) | exact .inr (.inr ⟨by assumption, rfl⟩)) hg); first | exact ⟨j + 1, z3, u3, rfl, by omega, by rw [e]; exact pv_close _ hs (by (repeat (first | apply Cut.pair | exact Cut.head _ _ | apply Cut.tail)); done) (by repeat (first | exact Keeps.refl _ | apply Keeps.tail | apply Keeps.drop))⟩ | (rw [ask_err (by assumption)] at e; rw [request_err (by assumption)] at hs; exact ⟨j + 1, z2, u2, rfl, by omega, by rw [e]; exact pv_close _ hs (by (repeat (first | apply Cut.pair | exact Cut.head _ _ | apply Cut.tail)); done) (by repeat (first | exact Keeps.refl _ | apply Keeps.tail | apply Keeps.drop))⟩)))
              · (show _ < _; simp [intOf, xAt]; omega)))))
end
end Go.Proofs.Ytoeaamohchpjdaa
