/-
  Two connections that hear one another, in plain Lean: a finite check, with the numbers taken off.
-/
import Derived.Test.YtoeaamohchpjdaaConnTwoM
namespace Go.Proofs.Ytoeaamohchpjdaa
open Go Go.RowKit
set_option linter.unusedVariables false
set_option linter.unusedSimpArgs false

/-! ### Numbers that may be stay so -/
theorem CnOk.mk' {c c' : Cn} (h : CnOk c) (h1 : c'.most = c.most) (h2 : c'.sq = c.sq) (h3 : c'.cc = c.cc) (h4 : 1 ≤ c'.state ∧ c'.state ≤ 10) : CnOk c' :=
  ⟨by rw [h1]; exact h.most, by rw [h2]; exact h.sq, by rw [h3]; exact h.cc, h4⟩
section
variable {x : As}
theorem ok_to (h : CnOk x.c) (s : Int) (hs : 1 ≤ s ∧ s ≤ 10) : CnOk (x.to s).c := h.mk' rfl rfl rfl hs
theorem ok_renew (h : CnOk x.c) (d : ByteArray) : CnOk (x.renew d).c :=
  ⟨h.most, by show 0 ≤ (x.c.sq + 1) % 256 ∧ (x.c.sq + 1) % 256 ≤ 255; omega, (by decide : (0 : Int) ≤ 1 ∧ (1 : Int) ≤ 16), h.st⟩
theorem ok_begin (h : CnOk x.c) (s : Int) (d : ByteArray) (hs : 1 ≤ s ∧ s ≤ 10) : CnOk (x.begin s d).c := ok_renew (x := x.to s) (ok_to h s hs) d
theorem ok_leave (h : CnOk x.c) (d : ByteArray) : CnOk (x.leave d).c :=
  ⟨h.most, h.sq, (by decide : (0 : Int) ≤ 1 ∧ (1 : Int) ≤ 16), (by decide : (1 : Int) ≤ 4 ∧ (4 : Int) ≤ 10)⟩
theorem ok_ready (h : CnOk x.c) : CnOk x.ready.c := ok_to h 10 (by decide)
theorem ok_ask (h : CnOk x.c) (k : Int) (d : ByteArray) : CnOk (x.ask k d).c := by
  unfold As.ask
  split
  · exact ok_begin h 2 d (by decide)
  split
  · exact ok_ready (x := x.out _) h
  split
  · split
    · exact ok_to (x := x.out _) h 1 (by decide)
    · exact ok_leave h d
  split
  · exact ok_begin h 5 d (by decide)
  split
  · exact ok_ready (x := x.out _) h
  split
  · split
    · exact ok_ready (x := x.out _) h
    · exact ok_ready h
  exact h
theorem ok_heard (h : CnOk x.c) (p : Un) : CnOk (x.heard p).c := h.mk' rfl rfl rfl h.st
theorem ok_setMS (h : CnOk x.c) (n : Int) : CnOk (x.setMS n).c := h.mk' rfl rfl rfl h.st
theorem ok_back (h : CnOk x.c) (p : Un) (k : Int) (l : List Int) : CnOk (x.back p k l).c := by rw [cn_back]; exact h
theorem ok_handle (h : CnOk x.c) (p : Un) : CnOk (x.handle p).c := by
  unfold As.handle
  split
  · split
    · exact ok_back (x := x.back p 7 [1]) (ok_back h p _ _) p _ _
    · unfold As.newBegin
      split
      · exact ok_to (x := (x.heard p).tell _) (ok_heard h p) 3 (by decide)
      split
      · exact ok_ready (x := (((x.heard p).back p 2 [2]).tell _)) (ok_back (ok_heard h p) p _ _)
      split
      · exact ok_to (x := ((x.heard p).tell _).tell _) (ok_heard h p) 3 (by decide)
      · exact ok_to (x := ((x.heard p).tell _).tell _) (ok_heard h p) 3 (by decide)
  split
  · unfold As.fin
    split
    · exact h
    split
    · exact ok_to (x := (x.out _).tell _) h 1 (by decide)
    · exact ok_to (x := (x.out _).tell _) h 1 (by decide)
  split
  · split
    · exact ok_back h p _ _
    · unfold As.resync
      split
      · exact ok_ready (x := ((x.heard p).out _).tell _) (ok_heard h p)
      split
      · exact ok_heard h p
      · exact ok_to (x := (x.heard p).tell _) (ok_heard h p) 6 (by decide)
  split
  · split
    · exact ok_back h p _ _
    · unfold As.recover
      split
      · exact ok_to (x := ((x.heard p).back p 15 [7, 8]).tell _) (ok_back (ok_heard h p) p _ _) 8 (by decide)
      split
      · exact ok_to (x := ((x.heard p).back p 15 [7, 8]).tell _) (ok_back (ok_heard h p) p _ _) 9 (by decide)
      · exact ok_back (ok_heard h p) p _ _
  split
  · unfold As.answer
    split
    · exact ok_ready (x := (x.setMS p.n).tell _) (ok_setMS h _)
    split
    · exact ok_ready (x := (x.setMS p.n).tell _) (ok_setMS h _)
    split
    · exact ok_to (x := (x.setMS p.n).tell _) (ok_setMS h _) 8 (by decide)
    split
    · split
      · exact ok_to (x := x.tell _) h 1 (by decide)
      · exact ok_to (x := x.tell _) h 1 (by decide)
    · exact h
  · exact h
end
theorem ok_receive {c : Cn} (h : CnOk c) (p : Un) : CnOk (c.receive p).c := by
  unfold Cn.receive
  split
  · exact ok_handle (x := ⟨c, rs0⟩) h p
  split
  · exact h
  split
  · exact h
  split
  · exact ok_to (x := (As.report ⟨c, rs0⟩ (letterN p.kind)).tell _) h 1 (by decide)
  · exact h
theorem ok_request {c : Cn} (h : CnOk c) (k : Int) (d : ByteArray) : CnOk (c.request k d).c := by
  unfold Cn.request
  split
  · exact ok_ask (x := ⟨c, rs0⟩) h k d
  · exact h
theorem ok_fail {c : Cn} (h : CnOk c) (k : Int) : CnOk (c.fail k).c := by
  unfold Cn.fail
  split
  · exact ok_begin (x := As.report ⟨c, rs0⟩ k) h 7 noS (by decide)
  · exact h
theorem ok_ro {c : Cn} (h : CnOk c) (a b : Int) : CnOk (c.ro a b) := ⟨h.most, ro_in h.sq, h.cc, h.st⟩

/-! ### Two ends -/
structure Pr where
  c0 : Cn
  c1 : Cn
  w0 : List Un
  w1 : List Un
  t0 : List Sig
  t1 : List Sig
def Pr.swap (P : Pr) : Pr := ⟨P.c1, P.c0, P.w1, P.w0, P.t1, P.t0⟩
def Pr.give (P : Pr) (x : As) : Pr := ⟨x.c, P.c1, P.w0, P.w1 ++ x.r.units, P.t0 ++ x.r.sigs, P.t1⟩
def wantK (k : Int) : Int := if k = 1 then 2 else if k = 5 then 5 else if k = 7 then 6 else 0
def Pr.ask (P : Pr) (k : Int) : Pr := P.give (P.c0.request k noS)
def Pr.tell1 (g : Bool) (P : Pr) (s : Sig) : Pr := if wantK s.kind = 0 ∨ g = false then P else P.ask (wantK s.kind)
def Pr.recv (P : Pr) (u : Un) : Pr := P.give (P.c0.receive u)
def Pr.told (g : Bool) (P : Pr) : Pr := P.t0.foldl (Pr.tell1 g) P
def Pr.come (P : Pr) : Pr := P.w0.foldl Pr.recv ⟨P.c0, P.c1, [], P.w1, P.t0, P.t1⟩
def Pr.turn0 (g : Bool) (P : Pr) : Pr := (P.told g).come
def Pr.turn (i g : Bool) (P : Pr) : Pr := if i then (P.swap.turn0 g).swap else P.turn0 g
def turns (g : Nat → Bool) : Nat → Pr → Pr
  | 0, P => P
  | n + 1, P => (turns g n P).turn (n % 2 == 1) (g n)
def Pr.act0 (w : Int) (P : Pr) : Pr := if w = 0 then P.give (P.c0.fail 81) else P.ask w
def Pr.first (f0 f1 : Bool) (w : Int) (P : Pr) : Pr :=
  let Q := if f0 then P.act0 w else P
  if f1 then (Q.swap.act0 w).swap else Q

/-- Which of the three kinds were told. -/
structure Fl where
  a1 : Bool
  a5 : Bool
  a7 : Bool
deriving DecidableEq
def flags (l : List Sig) : Fl := ⟨l.any (·.kind == 1), l.any (·.kind == 5), l.any (·.kind == 7)⟩
def Fl.or (x y : Fl) : Fl := ⟨x.a1 || y.a1, x.a5 || y.a5, x.a7 || y.a7⟩
theorem flags_append (l m : List Sig) : flags (l ++ m) = (flags l).or (flags m) := by simp [flags, Fl.or]

deriving instance DecidableEq for Cn
deriving instance DecidableEq for Un
structure Br where
  c0 : Cn
  c1 : Cn
  w0 : List Un
  w1 : List Un
  t0 : Fl
  t1 : Fl
deriving DecidableEq
def Br.swap (B : Br) : Br := ⟨B.c1, B.c0, B.w1, B.w0, B.t1, B.t0⟩
def Br.give (B : Br) (x : As) : Br := ⟨x.c, B.c1, B.w0, B.w1 ++ x.r.units, B.t0.or (flags x.r.sigs), B.t1⟩
def mayK (s : Int) (f : Fl) : Int := if s = 3 ∧ f.a1 = true then 2 else if s = 6 ∧ f.a5 = true then 5 else if (s = 8 ∨ s = 9) ∧ f.a7 = true then 6 else 0
def Br.told (g : Bool) (B : Br) : Br := if g = false ∨ mayK B.c0.state B.t0 = 0 then B else B.give (B.c0.request (mayK B.c0.state B.t0) noS)
def Br.recv (B : Br) (u : Un) : Br := B.give (B.c0.receive u)
def Br.come (B : Br) : Br := B.w0.foldl Br.recv ⟨B.c0, B.c1, [], B.w1, B.t0, B.t1⟩
def Br.turn0 (g : Bool) (B : Br) : Br := (B.told g).come
def Br.turn (i g : Bool) (B : Br) : Br := if i then (B.swap.turn0 g).swap else B.turn0 g
def Br.act0 (w : Int) (B : Br) : Br := if w = 0 then B.give (B.c0.fail 81) else B.give (B.c0.request w noS)
def Br.first (f0 f1 : Bool) (w : Int) (B : Br) : Br :=
  let Q := if f0 then B.act0 w else B
  if f1 then (Q.swap.act0 w).swap else Q

/-- The same, but for the numbers. -/
structure Rel (a b : Int) (P : Pr) (B : Br) : Prop where
  c0 : P.c0 = B.c0.ro a b
  c1 : P.c1 = B.c1.ro b a
  w0 : P.w0 = B.w0.map (Un.ro b a)
  w1 : P.w1 = B.w1.map (Un.ro a b)
  t0 : flags P.t0 = B.t0
  t1 : flags P.t1 = B.t1
  k0 : CnOk B.c0
  k1 : CnOk B.c1
section
variable {a b : Int} {P : Pr} {B : Br}
theorem Rel.swap (h : Rel a b P B) : Rel b a P.swap B.swap := ⟨h.c1, h.c0, h.w1, h.w0, h.t1, h.t0, h.k1, h.k0⟩
theorem Rel.give (h : Rel a b P B) {x' x : As} (e : x' = x.ro a b) (hk : CnOk x.c) : Rel a b (P.give x') (B.give x) := by
  subst e
  refine ⟨rfl, h.c1, h.w0, ?_, ?_, h.t1, hk, h.k1⟩
  · show P.w1 ++ (x.r.units.map (Un.ro a b)) = (B.w1 ++ x.r.units).map (Un.ro a b)
    rw [h.w1, List.map_append]
  · show flags (P.t0 ++ x.r.sigs) = B.t0.or (flags x.r.sigs)
    rw [flags_append, h.t0]
theorem Rel.request (h : Rel a b P B) (k : Int) : Rel a b (P.ask k) (B.give (B.c0.request k noS)) :=
  h.give (by rw [ro_request _ _ _ _ _ h.k0.sq, h.c0]) (ok_request h.k0 k noS)
theorem Rel.recv (h : Rel a b P B) (u : Un) : Rel a b (P.recv (u.ro b a)) (B.recv u) :=
  h.give (by rw [ro_receive, h.c0]) (ok_receive h.k0 u)
theorem Rel.recvs : ∀ (l : List Un) {P : Pr} {B : Br}, Rel a b P B → Rel a b ((l.map (Un.ro b a)).foldl Pr.recv P) (l.foldl Br.recv B)
  | [], _, _, h => h
  | u :: l, _, _, h => Rel.recvs l (h.recv u)
theorem Rel.come (h : Rel a b P B) : Rel a b P.come B.come := by
  unfold Pr.come Br.come
  rw [h.w0]
  exact Rel.recvs B.w0 ⟨h.c0, h.c1, rfl, h.w1, h.t0, h.t1, h.k0, h.k1⟩
theorem Rel.act0 (h : Rel a b P B) (w : Int) : Rel a b (P.act0 w) (B.act0 w) := by
  unfold Pr.act0 Br.act0
  split
  · exact h.give (by rw [ro_fail _ _ _ _ h.k0.sq, h.c0]) (ok_fail h.k0 81)
  · exact h.request w
theorem Rel.first (h : Rel a b P B) (f0 f1 : Bool) (w : Int) : Rel a b (P.first f0 f1 w) (B.first f0 f1 w) := by
  unfold Pr.first Br.first
  have h1 : Rel a b (if f0 then P.act0 w else P) (if f0 then B.act0 w else B) := by
    cases f0
    · exact h
    · exact h.act0 w
  cases f1
  · exact h1
  · exact (h1.swap.act0 w).swap

/-! What was told often is answered once. -/
theorem may_tab {s : Int} (h : 1 ≤ s ∧ s ≤ 10) : (requestsM s 2 = 1 ↔ s = 3) ∧ (requestsM s 5 = 1 ↔ s = 6) ∧ (requestsM s 6 = 1 ↔ (s = 8 ∨ s = 9)) := by
  have : s = 1 ∨ s = 2 ∨ s = 3 ∨ s = 4 ∨ s = 5 ∨ s = 6 ∨ s = 7 ∨ s = 8 ∨ s = 9 ∨ s = 10 := by omega
  rcases this with rfl | rfl | rfl | rfl | rfl | rfl | rfl | rfl | rfl | rfl <;> decide +kernel
theorem reqErr_of (c : Cn) (k : Int) (hk : 1 ≤ k ∧ k ≤ 6) : c.reqErr k noS = if requestsM c.state k = 1 then 0 else 8 := by
  unfold Cn.reqErr
  rw [if_neg (by omega), if_neg (by intro h; exact absurd h.1 (by decide))]
  by_cases h : requestsM c.state k = 1
  · rw [if_pos h, if_neg (fun q => q h)]
  · rw [if_neg h, if_pos h]
theorem ask_not (P : Pr) (k : Int) (hk : 1 ≤ k ∧ k ≤ 6) (h : ¬ requestsM P.c0.state k = 1) : P.ask k = P := by
  have e : P.c0.request k noS = ⟨P.c0, rs0⟩ := by
    unfold Cn.request
    rw [reqErr_of _ _ hk, if_neg h, if_neg (by decide)]
  unfold Pr.ask
  rw [e]
  unfold Pr.give rs0
  simp
theorem ask_state (P : Pr) (k : Int) (hk : k = 2 ∨ k = 5 ∨ k = 6) (h : requestsM P.c0.state k = 1) : (P.ask k).c0.state = 10 := by
  have e : P.c0.request k noS = As.ask ⟨P.c0, rs0⟩ k noS := by
    unfold Cn.request
    rw [reqErr_of _ _ (by omega), if_pos h, if_pos rfl]
  show (P.c0.request k noS).c.state = 10
  rw [e]
  rcases hk with rfl | rfl | rfl
  · rfl
  · rfl
  · show (if P.c0.state = 9 then (As.ready _) else (As.ready _)).c.state = 10
    split <;> rfl
theorem may_cons (s : Int) (x : Sig) (l : List Sig) (h : 1 ≤ s ∧ s ≤ 10) (hn : wantK x.kind = 0 ∨ ¬ requestsM s (wantK x.kind) = 1) : mayK s (flags (x :: l)) = mayK s (flags l) := by
  obtain ⟨t2, t5, t6⟩ := may_tab h
  unfold mayK
  have f1 : (flags (x :: l)).a1 = (x.kind == 1 || (flags l).a1) := rfl
  have f5 : (flags (x :: l)).a5 = (x.kind == 5 || (flags l).a5) := rfl
  have f7 : (flags (x :: l)).a7 = (x.kind == 7 || (flags l).a7) := rfl
  rw [f1, f5, f7]
  by_cases k1 : x.kind = 1
  · have n3 : ¬ s = 3 := by
      intro q
      rcases hn with hn | hn
      · rw [k1] at hn; exact absurd hn (by decide)
      · rw [k1] at hn; exact hn (t2.2 q)
    rw [k1]
    simp [n3]
  by_cases k5 : x.kind = 5
  · have n6 : ¬ s = 6 := by
      intro q
      rcases hn with hn | hn
      · rw [k5] at hn; exact absurd hn (by decide)
      · rw [k5] at hn; exact hn (t5.2 q)
    rw [k5]
    simp [n6]
  by_cases k7 : x.kind = 7
  · have n8 : ¬ (s = 8 ∨ s = 9) := by
      intro q
      rcases hn with hn | hn
      · rw [k7] at hn; exact absurd hn (by decide)
      · rw [k7] at hn; exact hn (t6.2 q)
    rw [k7]
    simp [n8]
  simp [k1, k5, k7]
theorem may_here (s : Int) (x : Sig) (l : List Sig) (h : 1 ≤ s ∧ s ≤ 10) (hw : wantK x.kind ≠ 0) (hn : requestsM s (wantK x.kind) = 1) : mayK s (flags (x :: l)) = wantK x.kind := by
  obtain ⟨t2, t5, t6⟩ := may_tab h
  have f1 : (flags (x :: l)).a1 = (x.kind == 1 || (flags l).a1) := rfl
  have f5 : (flags (x :: l)).a5 = (x.kind == 5 || (flags l).a5) := rfl
  have f7 : (flags (x :: l)).a7 = (x.kind == 7 || (flags l).a7) := rfl
  unfold mayK
  rw [f1, f5, f7]
  by_cases k1 : x.kind = 1
  · rw [k1] at hn ⊢
    have := t2.1 hn
    subst this; rfl
  by_cases k5 : x.kind = 5
  · rw [k5] at hn ⊢
    have := t5.1 hn
    subst this; simp [wantK]
  by_cases k7 : x.kind = 7
  · rw [k7] at hn ⊢
    rcases t6.1 hn with q | q <;> subst q <;> simp [wantK]
  exact absurd (by simp [wantK, k1, k5, k7]) hw
theorem may_ten (f : Fl) : mayK 10 f = 0 := by unfold mayK; simp
theorem told_fold : ∀ (l : List Sig) (P : Pr), (1 ≤ P.c0.state ∧ P.c0.state ≤ 10) → l.foldl (Pr.tell1 true) P = if mayK P.c0.state (flags l) = 0 then P else P.ask (mayK P.c0.state (flags l))
  | [], P, h => by
    have e : mayK P.c0.state (flags []) = 0 := by unfold mayK flags; simp
    rw [e]; rfl
  | x :: l, P, h => by
    show l.foldl (Pr.tell1 true) (Pr.tell1 true P x) = _
    by_cases hw : wantK x.kind = 0
    · have e : Pr.tell1 true P x = P := if_pos (.inl hw)
      rw [e, told_fold l P h, may_cons _ x l h (.inl hw)]
    · have e : Pr.tell1 true P x = P.ask (wantK x.kind) := if_neg (by simp [hw])
      rw [e]
      have hk : wantK x.kind = 2 ∨ wantK x.kind = 5 ∨ wantK x.kind = 6 := by
        revert hw; unfold wantK; split
        · simp
        · split
          · simp
          · split <;> simp
      by_cases hn : requestsM P.c0.state (wantK x.kind) = 1
      · have hs := ask_state P _ hk hn
        rw [told_fold l _ (by rw [hs]; decide), hs, may_ten, if_pos rfl, may_here _ x l h hw hn, if_neg hw]
      · rw [ask_not P _ (by omega) hn, told_fold l P h, may_cons _ x l h (.inr hn)]
theorem told_shut : ∀ (l : List Sig) (P : Pr), l.foldl (Pr.tell1 false) P = P
  | [], P => rfl
  | x :: l, P => by
    show l.foldl (Pr.tell1 false) (Pr.tell1 false P x) = _
    have e : Pr.tell1 false P x = P := if_pos (.inr rfl)
    rw [e, told_shut l P]
theorem Rel.told (h : Rel a b P B) (g : Bool) : Rel a b (P.told g) (B.told g) := by
  unfold Pr.told Br.told
  cases g
  · rw [told_shut, if_pos (.inl rfl)]; exact h
  · have hst : P.c0.state = B.c0.state := by rw [h.c0]; rfl
    rw [told_fold _ _ (by rw [hst]; exact h.k0.st), h.t0, hst]
    by_cases e : mayK B.c0.state B.t0 = 0
    · rw [if_pos e, if_pos (.inr e)]; exact h
    · rw [if_neg e, if_neg (by simp [e])]; exact h.request _
theorem Rel.turn (h : Rel a b P B) (i g : Bool) : Rel a b (P.turn i g) (B.turn i g) := by
  unfold Pr.turn Br.turn Pr.turn0 Br.turn0
  cases i
  · exact (h.told g).come
  · exact ((h.swap.told g).come).swap
end

/-! ### All that may be, when all is quiet -/
def qs (s p0 p1 m0 m1 x0 x1 : Int) (t0 t1 : Fl) : Br := ⟨⟨3, 5, s, 0, p0, x0, m0, noS⟩, ⟨3, 6, s, 0, p1, x1, m1, noS⟩, [], [], t0, t1⟩
def QS : List Br := [
  qs 1 (-1) (-1) 5 6 0 0 ⟨false, false, false⟩ ⟨false, false, false⟩,
  qs 1 (-1) (0) 6 5 1 0 ⟨false, false, false⟩ ⟨true, true, false⟩,
  qs 1 (-1) (0) 6 5 1 0 ⟨false, false, false⟩ ⟨true, false, false⟩,
  qs 1 (-1) (0) 6 5 1 0 ⟨false, false, true⟩ ⟨true, true, true⟩,
  qs 1 (-1) (0) 6 5 1 0 ⟨false, false, true⟩ ⟨true, false, true⟩,
  qs 1 (-1) (0) 6 5 1 1 ⟨false, false, false⟩ ⟨true, true, false⟩,
  qs 1 (-1) (0) 6 5 1 1 ⟨false, false, false⟩ ⟨true, false, false⟩,
  qs 1 (-1) (0) 6 5 1 1 ⟨false, false, true⟩ ⟨true, true, true⟩,
  qs 1 (-1) (0) 6 5 1 1 ⟨false, false, true⟩ ⟨true, false, true⟩,
  qs 1 (0) (-1) 6 5 0 1 ⟨true, true, true⟩ ⟨false, false, true⟩,
  qs 1 (0) (-1) 6 5 0 1 ⟨true, true, false⟩ ⟨false, false, false⟩,
  qs 1 (0) (-1) 6 5 0 1 ⟨true, false, true⟩ ⟨false, false, true⟩,
  qs 1 (0) (-1) 6 5 0 1 ⟨true, false, false⟩ ⟨false, false, false⟩,
  qs 1 (0) (-1) 6 5 1 1 ⟨true, true, true⟩ ⟨false, false, true⟩,
  qs 1 (0) (-1) 6 5 1 1 ⟨true, true, false⟩ ⟨false, false, false⟩,
  qs 1 (0) (-1) 6 5 1 1 ⟨true, false, true⟩ ⟨false, false, true⟩,
  qs 1 (0) (-1) 6 5 1 1 ⟨true, false, false⟩ ⟨false, false, false⟩,
  qs 1 (0) (0) 6 5 1 1 ⟨false, false, false⟩ ⟨false, false, false⟩,
  qs 1 (0) (0) 6 5 1 1 ⟨false, false, false⟩ ⟨true, true, false⟩,
  qs 1 (0) (0) 6 5 1 1 ⟨false, false, false⟩ ⟨true, false, false⟩,
  qs 1 (0) (0) 6 5 1 1 ⟨false, false, false⟩ ⟨false, true, false⟩,
  qs 1 (0) (0) 6 5 1 1 ⟨true, true, true⟩ ⟨true, true, true⟩,
  qs 1 (0) (0) 6 5 1 1 ⟨true, true, true⟩ ⟨true, false, true⟩,
  qs 1 (0) (0) 6 5 1 1 ⟨true, true, true⟩ ⟨false, true, true⟩,
  qs 1 (0) (0) 6 5 1 1 ⟨true, true, true⟩ ⟨false, false, true⟩,
  qs 1 (0) (0) 6 5 1 1 ⟨true, true, false⟩ ⟨false, false, false⟩,
  qs 1 (0) (0) 6 5 1 1 ⟨true, true, false⟩ ⟨true, true, false⟩,
  qs 1 (0) (0) 6 5 1 1 ⟨true, true, false⟩ ⟨true, false, false⟩,
  qs 1 (0) (0) 6 5 1 1 ⟨true, true, false⟩ ⟨false, true, false⟩,
  qs 1 (0) (0) 6 5 1 1 ⟨true, false, true⟩ ⟨true, true, true⟩,
  qs 1 (0) (0) 6 5 1 1 ⟨true, false, true⟩ ⟨true, false, true⟩,
  qs 1 (0) (0) 6 5 1 1 ⟨true, false, true⟩ ⟨false, true, true⟩,
  qs 1 (0) (0) 6 5 1 1 ⟨true, false, true⟩ ⟨false, false, true⟩,
  qs 1 (0) (0) 6 5 1 1 ⟨true, false, false⟩ ⟨false, false, false⟩,
  qs 1 (0) (0) 6 5 1 1 ⟨true, false, false⟩ ⟨true, true, false⟩,
  qs 1 (0) (0) 6 5 1 1 ⟨true, false, false⟩ ⟨true, false, false⟩,
  qs 1 (0) (0) 6 5 1 1 ⟨true, false, false⟩ ⟨false, true, false⟩,
  qs 1 (0) (0) 6 5 1 1 ⟨false, true, true⟩ ⟨true, true, true⟩,
  qs 1 (0) (0) 6 5 1 1 ⟨false, true, true⟩ ⟨true, false, true⟩,
  qs 1 (0) (0) 6 5 1 1 ⟨false, true, true⟩ ⟨false, true, true⟩,
  qs 1 (0) (0) 6 5 1 1 ⟨false, true, true⟩ ⟨false, false, true⟩,
  qs 1 (0) (0) 6 5 1 1 ⟨false, true, false⟩ ⟨false, false, false⟩,
  qs 1 (0) (0) 6 5 1 1 ⟨false, true, false⟩ ⟨true, true, false⟩,
  qs 1 (0) (0) 6 5 1 1 ⟨false, true, false⟩ ⟨true, false, false⟩,
  qs 1 (0) (0) 6 5 1 1 ⟨false, true, false⟩ ⟨false, true, false⟩,
  qs 1 (0) (0) 6 5 1 1 ⟨false, false, true⟩ ⟨true, true, true⟩,
  qs 1 (0) (0) 6 5 1 1 ⟨false, false, true⟩ ⟨true, false, true⟩,
  qs 1 (0) (0) 6 5 1 1 ⟨false, false, true⟩ ⟨false, true, true⟩,
  qs 1 (0) (0) 6 5 1 1 ⟨false, false, true⟩ ⟨false, false, true⟩,
  qs 10 (-1) (0) 6 5 1 0 ⟨false, false, false⟩ ⟨true, true, false⟩,
  qs 10 (-1) (0) 6 5 1 0 ⟨false, false, false⟩ ⟨true, false, false⟩,
  qs 10 (-1) (0) 6 5 1 0 ⟨false, false, true⟩ ⟨true, true, true⟩,
  qs 10 (-1) (0) 6 5 1 0 ⟨false, false, true⟩ ⟨true, false, true⟩,
  qs 10 (-1) (0) 6 5 1 1 ⟨false, false, false⟩ ⟨true, true, false⟩,
  qs 10 (-1) (0) 6 5 1 1 ⟨false, false, false⟩ ⟨true, false, false⟩,
  qs 10 (-1) (0) 6 5 1 1 ⟨false, false, true⟩ ⟨true, true, true⟩,
  qs 10 (-1) (0) 6 5 1 1 ⟨false, false, true⟩ ⟨true, false, true⟩,
  qs 10 (0) (-1) 6 5 0 1 ⟨true, true, true⟩ ⟨false, false, true⟩,
  qs 10 (0) (-1) 6 5 0 1 ⟨true, true, false⟩ ⟨false, false, false⟩,
  qs 10 (0) (-1) 6 5 0 1 ⟨true, false, true⟩ ⟨false, false, true⟩,
  qs 10 (0) (-1) 6 5 0 1 ⟨true, false, false⟩ ⟨false, false, false⟩,
  qs 10 (0) (-1) 6 5 1 1 ⟨true, true, true⟩ ⟨false, false, true⟩,
  qs 10 (0) (-1) 6 5 1 1 ⟨true, true, false⟩ ⟨false, false, false⟩,
  qs 10 (0) (-1) 6 5 1 1 ⟨true, false, true⟩ ⟨false, false, true⟩,
  qs 10 (0) (-1) 6 5 1 1 ⟨true, false, false⟩ ⟨false, false, false⟩,
  qs 10 (0) (0) 6 5 1 1 ⟨false, false, false⟩ ⟨false, false, false⟩,
  qs 10 (0) (0) 6 5 1 1 ⟨false, false, false⟩ ⟨true, true, false⟩,
  qs 10 (0) (0) 6 5 1 1 ⟨false, false, false⟩ ⟨true, false, false⟩,
  qs 10 (0) (0) 6 5 1 1 ⟨false, false, false⟩ ⟨false, true, false⟩,
  qs 10 (0) (0) 6 5 1 1 ⟨true, true, true⟩ ⟨true, true, true⟩,
  qs 10 (0) (0) 6 5 1 1 ⟨true, true, true⟩ ⟨true, false, true⟩,
  qs 10 (0) (0) 6 5 1 1 ⟨true, true, true⟩ ⟨false, true, true⟩,
  qs 10 (0) (0) 6 5 1 1 ⟨true, true, true⟩ ⟨false, false, true⟩,
  qs 10 (0) (0) 6 5 1 1 ⟨true, true, false⟩ ⟨false, false, false⟩,
  qs 10 (0) (0) 6 5 1 1 ⟨true, true, false⟩ ⟨true, true, false⟩,
  qs 10 (0) (0) 6 5 1 1 ⟨true, true, false⟩ ⟨true, false, false⟩,
  qs 10 (0) (0) 6 5 1 1 ⟨true, true, false⟩ ⟨false, true, false⟩,
  qs 10 (0) (0) 6 5 1 1 ⟨true, false, true⟩ ⟨true, true, true⟩,
  qs 10 (0) (0) 6 5 1 1 ⟨true, false, true⟩ ⟨true, false, true⟩,
  qs 10 (0) (0) 6 5 1 1 ⟨true, false, true⟩ ⟨false, true, true⟩,
  qs 10 (0) (0) 6 5 1 1 ⟨true, false, true⟩ ⟨false, false, true⟩,
  qs 10 (0) (0) 6 5 1 1 ⟨true, false, false⟩ ⟨false, false, false⟩,
  qs 10 (0) (0) 6 5 1 1 ⟨true, false, false⟩ ⟨true, true, false⟩,
  qs 10 (0) (0) 6 5 1 1 ⟨true, false, false⟩ ⟨true, false, false⟩,
  qs 10 (0) (0) 6 5 1 1 ⟨true, false, false⟩ ⟨false, true, false⟩,
  qs 10 (0) (0) 6 5 1 1 ⟨false, true, true⟩ ⟨true, true, true⟩,
  qs 10 (0) (0) 6 5 1 1 ⟨false, true, true⟩ ⟨true, false, true⟩,
  qs 10 (0) (0) 6 5 1 1 ⟨false, true, true⟩ ⟨false, true, true⟩,
  qs 10 (0) (0) 6 5 1 1 ⟨false, true, true⟩ ⟨false, false, true⟩,
  qs 10 (0) (0) 6 5 1 1 ⟨false, true, false⟩ ⟨false, false, false⟩,
  qs 10 (0) (0) 6 5 1 1 ⟨false, true, false⟩ ⟨true, true, false⟩,
  qs 10 (0) (0) 6 5 1 1 ⟨false, true, false⟩ ⟨true, false, false⟩,
  qs 10 (0) (0) 6 5 1 1 ⟨false, true, false⟩ ⟨false, true, false⟩,
  qs 10 (0) (0) 6 5 1 1 ⟨false, false, true⟩ ⟨true, true, true⟩,
  qs 10 (0) (0) 6 5 1 1 ⟨false, false, true⟩ ⟨true, false, true⟩,
  qs 10 (0) (0) 6 5 1 1 ⟨false, false, true⟩ ⟨false, true, true⟩,
  qs 10 (0) (0) 6 5 1 1 ⟨false, false, true⟩ ⟨false, false, true⟩]
def Br.ro (a b : Int) (B : Br) : Br := ⟨B.c0.ro a b, B.c1.ro b a, B.w0.map (Un.ro b a), B.w1.map (Un.ro a b), B.t0, B.t1⟩
def Br.quiet (B : Br) : Bool := B.w0.isEmpty && B.w1.isEmpty && mayK B.c0.state B.t0 == 0 && mayK B.c1.state B.t1 == 0
def Fl.n (f : Fl) : Nat := Nat.add (cond f.a1 1 0) (Nat.add (cond f.a5 2 0) (cond f.a7 4 0))
def Br.key (B : Br) : Nat := Nat.add B.t0.n (Nat.add (Nat.mul 8 B.t1.n) (Nat.mul 64 (Nat.add B.c0.cc.toNat (Nat.add (Nat.mul 2 B.c1.cc.toNat) (Nat.mul 4 (Nat.add B.c0.ms.toNat (Nat.mul 8 B.c0.state.toNat)))))))
def Br.good (B : Br) : Bool := QS.any fun q => Nat.beq q.key B.key && decide (q.ro B.c0.sq B.c1.sq = B)
def Br.small (B : Br) : Bool := Nat.ble B.w0.length 8 && Nat.ble B.w1.length 8 && (B.w0.all fun u => decide (1 ≤ u.kind ∧ u.kind ≤ 15)) && (B.w1.all fun u => decide (1 ≤ u.kind ∧ u.kind ≤ 15))
def chk : Nat → Nat → Br → Bool
  | 0, _, _ => false
  | f + 1, n, B => if B.quiet then B.good else
    B.small && chk f (n + 1) (B.turn (n % 2 == 1) true) && (decide (8 ≤ n) || (if n % 2 == 1 then mayK B.c1.state B.t1 == 0 else mayK B.c0.state B.t0 == 0) || chk f (n + 1) (B.turn (n % 2 == 1) false))
def Cn.okB (c : Cn) : Bool := decide (1 ≤ c.most ∧ c.most ≤ 16) && decide (0 ≤ c.sq ∧ c.sq ≤ 255) && decide (0 ≤ c.cc ∧ c.cc ≤ 16) && decide (1 ≤ c.state ∧ c.state ≤ 10)
theorem okB_ok {c : Cn} (h : c.okB = true) : CnOk c := by
  simp only [Cn.okB, Bool.and_eq_true, decide_eq_true_eq] at h
  exact ⟨h.1.1.1, h.1.1.2, h.1.2, h.2⟩
def Br.fine (q : Br) : Bool := q.quiet && q.c0.okB && q.c1.okB && (decide (q.c0.state = 10 ∧ q.c1.state = 10 ∧ q.c0.ms = 6 ∧ q.c1.ms = 5) || decide (q.c0.state = 1 ∧ q.c1.state = 1))
theorem QS_fine : (QS.all Br.fine) = true := by decide +kernel
def Br.sound (q : Br) : Bool := [false, true].all fun f0 => [false, true].all fun f1 => [1, 4, 3, 0].all fun w => chk 20 0 (q.first f0 f1 w)
theorem QS_1 : ((QS.take 16).all Br.sound) = true := by decide +kernel
theorem QS_2 : (((QS.drop 16).take 16).all Br.sound) = true := by decide +kernel
theorem QS_3 : (((QS.drop 32).take 16).all Br.sound) = true := by decide +kernel
theorem QS_4 : (((QS.drop 48).take 16).all Br.sound) = true := by decide +kernel
theorem QS_5 : (((QS.drop 64).take 16).all Br.sound) = true := by decide +kernel
theorem QS_6 : ((QS.drop 80).all Br.sound) = true := by decide +kernel
end Go.Proofs.Ytoeaamohchpjdaa
