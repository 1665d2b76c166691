/-
  Two connections that hear one another, in plain Lean: whoever asks, both come to be Ready, or Idle.
-/
import Derived.Test.YtoeaamohchpjdaaConnTwoP
namespace Go.Proofs.Ytoeaamohchpjdaa
open Go Go.RowKit
set_option linter.unusedVariables false
set_option linter.unusedSimpArgs false

theorem QS_sound {q : Br} (h : q ∈ QS) : q.sound = true := by
  have key : (∃ l : List Br, l.all Br.sound = true ∧ q ∈ l) → q.sound = true := fun ⟨l, hl, hq⟩ => List.all_eq_true.1 hl q hq
  have parts : QS = QS.take 16 ++ ((QS.drop 16).take 16 ++ ((QS.drop 32).take 16 ++ ((QS.drop 48).take 16 ++ ((QS.drop 64).take 16 ++ QS.drop 80)))) := by rfl
  rw [parts] at h
  simp only [List.mem_append] at h
  rcases h with h | h | h | h | h | h
  · exact key ⟨_, QS_1, h⟩
  · exact key ⟨_, QS_2, h⟩
  · exact key ⟨_, QS_3, h⟩
  · exact key ⟨_, QS_4, h⟩
  · exact key ⟨_, QS_5, h⟩
  · exact key ⟨_, QS_6, h⟩

section
variable {a b : Int} {P : Pr} {B q : Br}
theorem un_ro_ro (a b d0 d1 : Int) (p : Un) : (p.ro d0 d1).ro a b = p.ro ((a + d0) % 256) ((b + d1) % 256) := by
  unfold Un.ro
  dsimp only
  split <;> rw [ro_ro]
theorem cn_ro_ro (a b d0 d1 : Int) (c : Cn) : (c.ro d0 d1).ro a b = c.ro ((a + d0) % 256) ((b + d1) % 256) := by
  unfold Cn.ro
  dsimp only
  rw [ro_ro, ro_ro]
theorem Rel.norm {d0 d1 : Int} (h : Rel a b P (q.ro d0 d1)) (k0 : CnOk q.c0) (k1 : CnOk q.c1) : Rel ((a + d0) % 256) ((b + d1) % 256) P q := by
  refine ⟨?_, ?_, ?_, ?_, h.t0, h.t1, k0, k1⟩
  · rw [h.c0]; exact cn_ro_ro _ _ _ _ _
  · rw [h.c1]; exact cn_ro_ro _ _ _ _ _
  · rw [h.w0]
    show (q.w0.map _).map _ = _
    rw [List.map_map]; exact List.map_congr_left fun p _ => un_ro_ro _ _ _ _ p
  · rw [h.w1]
    show (q.w1.map _).map _ = _
    rw [List.map_map]; exact List.map_congr_left fun p _ => un_ro_ro _ _ _ _ p
theorem told_same {B : Br} (h : mayK B.c0.state B.t0 = 0) (g : Bool) : B.told g = B := if_pos (.inr h)
theorem come_same {B : Br} (h : B.w0 = []) : B.come = B := by
  cases B; simp only at h; subst h; rfl
theorem quiet_turn {B : Br} (h : B.quiet = true) (i g : Bool) : B.turn i g = B := by
  simp only [Br.quiet, Bool.and_eq_true, List.isEmpty_iff, beq_iff_eq] at h
  obtain ⟨⟨⟨h0, h1⟩, m0⟩, m1⟩ := h
  unfold Br.turn Br.turn0
  cases i
  · rw [told_same m0, if_neg (by decide), come_same h0]
  · rw [told_same (B := B.swap) m1, if_pos rfl, come_same (B := B.swap) h1]; rfl
def goOn (g : Nat → Bool) : Nat → Nat → Pr → Pr
  | 0, _, P => P
  | m + 1, n, P => goOn g m (n + 1) (P.turn (n % 2 == 1) (g n))
theorem turns_goOn (g : Nat → Bool) (P : Pr) : ∀ (m n : Nat), goOn g m n (turns g n P) = turns g (n + m) P
  | 0, n => rfl
  | m + 1, n => by
    show goOn g m (n + 1) (turns g (n + 1) P) = _
    rw [turns_goOn g P m (n + 1), show n + 1 + m = n + (m + 1) by omega]
theorem quiet_stays {g : Nat → Bool} (hq : B.quiet = true) : ∀ (m n : Nat) {P : Pr}, Rel a b P B → Rel a b (goOn g m n P) B
  | 0, _, _, h => h
  | m + 1, n, P, h => by
    have h1 := h.turn (n % 2 == 1) (g n)
    rw [quiet_turn hq] at h1
    exact quiet_stays hq m (n + 1) h1
theorem fine_of (h : q ∈ QS) : q.fine = true := List.all_eq_true.1 QS_fine q h
theorem good_rel (h : Rel a b P B) (hg : B.good = true) : ∃ a' b' q, q ∈ QS ∧ Rel a' b' P q := by
  obtain ⟨q, hq, hk⟩ := List.any_eq_true.1 hg
  rw [Bool.and_eq_true] at hk
  have e : q.ro B.c0.sq B.c1.sq = B := of_decide_eq_true hk.2
  have hf := fine_of hq
  simp only [Br.fine, Bool.and_eq_true] at hf
  rw [← e] at h
  exact ⟨_, _, q, hq, h.norm (okB_ok hf.1.1.2) (okB_ok hf.1.2)⟩
theorem chk_step (g : Nat → Bool) (hg : ∀ n, 8 ≤ n → g n = true) {f n : Nat} {B : Br} (hc : chk (f + 1) n B = true) (hq : ¬ B.quiet = true) :
    B.small = true ∧ ∃ B', chk f (n + 1) B' = true ∧ ∀ {a b P}, Rel a b P B → Rel a b (P.turn (n % 2 == 1) (g n)) B' := by
  unfold chk at hc
  rw [if_neg hq, Bool.and_eq_true, Bool.and_eq_true] at hc
  refine ⟨hc.1.1, ?_⟩
  by_cases hgn : g n = true
  · rw [hgn]
    exact ⟨_, hc.1.2, fun h => h.turn _ true⟩
  · have hgf : g n = false := by simpa using hgn
    have h8 : ¬ 8 ≤ n := fun q => hgn (hg n q)
    rw [hgf]
    have hc2 := hc.2
    rw [Bool.or_eq_true, Bool.or_eq_true] at hc2
    rcases hc2 with (hc2 | hc2) | hc2
    · exact absurd (of_decide_eq_true hc2) h8
    · have e : B.turn (n % 2 == 1) false = B.turn (n % 2 == 1) true := by
        unfold Br.turn Br.turn0
        cases hp : (n % 2 == 1)
        · rw [hp] at hc2
          have m0 : mayK B.c0.state B.t0 = 0 := by simpa using hc2
          rw [if_neg (by decide), if_neg (by decide), told_same m0, told_same m0]
        · rw [hp] at hc2
          have m1 : mayK B.c1.state B.t1 = 0 := by simpa using hc2
          rw [if_pos rfl, if_pos rfl, told_same (B := B.swap) m1, told_same (B := B.swap) m1]
      exact ⟨_, hc.1.2, fun h => by have h1 := h.turn (n % 2 == 1) false; rwa [e] at h1⟩
    · exact ⟨_, hc2, fun h => h.turn _ false⟩
theorem chk_sound (g : Nat → Bool) (hg : ∀ n, 8 ≤ n → g n = true) : ∀ (f n m : Nat) {P : Pr} {B : Br}, f ≤ m → chk f n B = true → Rel a b P B → ∃ a' b' q, q ∈ QS ∧ Rel a' b' (goOn g m n P) q
  | 0, n, m, P, B, _, hc, _ => by cases hc
  | f + 1, n, m, P, B, hm, hc, h => by
    by_cases hq : B.quiet = true
    · unfold chk at hc
      rw [if_pos hq] at hc
      exact good_rel (quiet_stays hq m n h) hc
    · obtain ⟨m', rfl⟩ : ∃ m', m = m' + 1 := ⟨m - 1, by omega⟩
      obtain ⟨_, B', hc', hr⟩ := chk_step g hg hc hq
      exact chk_sound g hg f (n + 1) m' (by omega) hc' (hr h)
/-- Little is on its way, and of the fifteen kinds. -/
structure Small (P : Pr) : Prop where
  l0 : P.w0.length ≤ 8
  l1 : P.w1.length ≤ 8
  u0 : ∀ u ∈ P.w0, 1 ≤ u.kind ∧ u.kind ≤ 15
  u1 : ∀ u ∈ P.w1, 1 ≤ u.kind ∧ u.kind ≤ 15
  k0 : CnOk P.c0
  k1 : CnOk P.c1
theorem Small.swap (h : Small P) : Small P.swap := ⟨h.l1, h.l0, h.u1, h.u0, h.k1, h.k0⟩
theorem small_rel (h : Rel a b P B) (hs : B.small = true) : Small P := by
  simp only [Br.small, Bool.and_eq_true, List.all_eq_true, decide_eq_true_eq] at hs
  obtain ⟨⟨⟨l0, l1⟩, u0⟩, u1⟩ := hs
  refine ⟨by rw [h.w0, List.length_map]; exact Nat.le_of_ble_eq_true l0, by rw [h.w1, List.length_map]; exact Nat.le_of_ble_eq_true l1, ?_, ?_, by rw [h.c0]; exact ok_ro h.k0 _ _, by rw [h.c1]; exact ok_ro h.k1 _ _⟩
  · rw [h.w0]; intro u hu
    obtain ⟨v, hv, rfl⟩ := List.mem_map.1 hu
    exact u0 v hv
  · rw [h.w1]; intro u hu
    obtain ⟨v, hv, rfl⟩ := List.mem_map.1 hu
    exact u1 v hv
theorem small_quiet (h : Rel a b P B) (hq : B.quiet = true) : Small P := by
  simp only [Br.quiet, Bool.and_eq_true, List.isEmpty_iff, beq_iff_eq] at hq
  obtain ⟨⟨⟨h0, h1⟩, _⟩, _⟩ := hq
  refine small_rel h ?_
  unfold Br.small
  rw [h0, h1]; rfl
theorem chk_small (g : Nat → Bool) (hg : ∀ n, 8 ≤ n → g n = true) : ∀ (f n m : Nat) {P : Pr} {B : Br}, chk f n B = true → Rel a b P B → Small (goOn g m n P)
  | 0, n, m, P, B, hc, _ => by cases hc
  | f + 1, n, m, P, B, hc, h => by
    by_cases hq : B.quiet = true
    · exact small_quiet (quiet_stays hq m n h) hq
    · obtain ⟨hs, B', hc', hr⟩ := chk_step g hg hc hq
      cases m with
      | zero => exact small_rel h hs
      | succ m => exact chk_small g hg f (n + 1) m hc' (hr h)
/-- A round: who asks, then all that is on its way, by turns. -/
theorem round_ok (g : Nat → Bool) (hg : ∀ n, 8 ≤ n → g n = true) (hq : q ∈ QS) (h : Rel a b P q) (f0 f1 : Bool) (w : Int) (hw : w = 1 ∨ w = 4 ∨ w = 3 ∨ w = 0) :
    (∃ a' b' q', q' ∈ QS ∧ Rel a' b' (turns g 60 (P.first f0 f1 w)) q') ∧ ∀ m, Small (turns g m (P.first f0 f1 w)) := by
  have hs := QS_sound hq
  simp only [Br.sound, List.all_cons, List.all_nil, Bool.and_true, Bool.and_eq_true] at hs
  have hc : chk 20 0 (q.first f0 f1 w) = true := by
    rcases hw with rfl | rfl | rfl | rfl <;> cases f0 <;> cases f1 <;> simp only [hs]
  have := chk_sound g hg 20 0 60 (by decide) hc (h.first f0 f1 w)
  rw [show goOn g 60 0 (P.first f0 f1 w) = turns g 60 (P.first f0 f1 w) from turns_goOn g _ 60 0] at this
  refine ⟨this, fun m => ?_⟩
  have h2 := chk_small g hg 20 0 m hc (h.first f0 f1 w)
  rwa [show goOn g m 0 (P.first f0 f1 w) = turns g m (P.first f0 f1 w) by have := turns_goOn g (P.first f0 f1 w) m 0; rwa [Nat.zero_add] at this] at h2
theorem quiet_ends (hq : q ∈ QS) (h : Rel a b P q) : P.w0 = [] ∧ P.w1 = [] ∧ ((P.c0.state = 10 ∧ P.c1.state = 10 ∧ P.c0.ms = 6 ∧ P.c1.ms = 5) ∨ (P.c0.state = 1 ∧ P.c1.state = 1)) ∧ CnOk P.c0 ∧ CnOk P.c1 := by
  have hf := fine_of hq
  simp only [Br.fine, Bool.and_eq_true, Br.quiet, List.isEmpty_iff, Bool.or_eq_true, decide_eq_true_eq] at hf
  obtain ⟨⟨⟨⟨⟨⟨w0, w1⟩, _⟩, _⟩, o0⟩, o1⟩, hst⟩ := hf
  refine ⟨by rw [h.w0, w0]; rfl, by rw [h.w1, w1]; rfl, ?_, by rw [h.c0]; exact ok_ro h.k0 _ _, by rw [h.c1]; exact ok_ro h.k1 _ _⟩
  rw [h.c0, h.c1]
  exact hst
theorem start_rel : ∃ q, q ∈ QS ∧ Rel 0 0 ⟨Cn.new 3 5, Cn.new 3 6, [], [], [], []⟩ q := by
  refine ⟨qs 1 (-1) (-1) 5 6 0 0 ⟨false, false, false⟩ ⟨false, false, false⟩, by decide +kernel, rfl, rfl, rfl, rfl, rfl, rfl, okB_ok (by decide +kernel), okB_ok (by decide +kernel)⟩
end

/-! ### How much is told and sent -/
theorem few_recover (x : As) (p : Un) : (x.recover p).few ≤ x.few + 7 := by
  unfold As.recover
  have h := few_back p 15 [7, 8] (x.heard p)
  rw [few_heard] at h
  simp at h
  split
  · rw [few_stop, few_tell]; omega
  split
  · rw [few_to, few_tell]; omega
  · omega
theorem few_handle (x : As) (p : Un) : (x.handle p).few ≤ x.few + 7 := by
  unfold As.handle
  split
  · split
    · unfold As.oldBegin
      have h1 := few_back p 2 [5, 6, 7, 8, 9, 10] (x.back p 7 [1])
      have h2 := few_back p 7 [1] x
      simp at h1 h2; omega
    · unfold As.newBegin
      have h1 := few_back p 2 [2] (x.heard p)
      rw [few_heard] at h1
      simp at h1
      split
      · rw [few_to, few_tell, few_heard]; omega
      split
      · rw [few_ready, few_tell]; omega
      split
      · rw [few_stop, few_tell, few_tell, few_heard]; omega
      · rw [few_stop, few_tell, few_tell, few_heard]; omega
  split
  · unfold As.fin
    split
    · rw [few_out]; omega
    split
    · rw [few_stop, few_tell, few_out]; omega
    · rw [few_stop, few_tell, few_out]; omega
  split
  · split
    · have := few_back p 6 [7, 8, 9, 10] x
      simp at this; omega
    · unfold As.resync
      split
      · rw [few_ready, few_tell, few_out, few_heard]; omega
      split
      · rw [few_heard]; omega
      · rw [few_stop, few_tell, few_heard]; omega
  split
  · split
    · have := few_back p 15 [8, 10] x
      simp at this; omega
    · exact few_recover x p
  split
  · unfold As.answer
    split
    · rw [few_ready, few_tell, few_setMS]; omega
    split
    · rw [few_ready, few_tell, few_setMS]; omega
    split
    · rw [few_stop, few_tell, few_setMS]; omega
    split
    · split
      · rw [few_stop, few_tell]; omega
      · rw [few_stop, few_tell]; omega
    · omega
  · omega
theorem few_receive (c : Cn) (p : Un) : (c.receive p).few ≤ 7 := by
  unfold Cn.receive
  split
  · have := few_handle ⟨c, rs0⟩ p
    rw [few0] at this; omega
  split
  · rw [few_report, few0]; omega
  split
  · rw [few_quit, few_report, few0]; omega
  split
  · rw [few_stop, few_tell, few_report, few0]; omega
  · rw [few0]; omega
theorem few_ask (x : As) (k : Int) (d : ByteArray) : (x.ask k d).few ≤ x.few + 1 := by
  unfold As.ask
  split
  · rw [few_begin]; omega
  split
  · rw [few_ready, few_out]; omega
  split
  · split
    · rw [few_to, few_out]; omega
    · rw [few_leave]; omega
  split
  · rw [few_begin]; omega
  split
  · rw [few_ready, few_out]; omega
  split
  · split
    · rw [few_ready, few_out]; omega
    · rw [few_ready]; omega
  omega
theorem few_request (c : Cn) (k : Int) (d : ByteArray) : (c.request k d).few ≤ 1 := by
  unfold Cn.request
  split
  · have := few_ask ⟨c, rs0⟩ k d
    rw [few0] at this; omega
  · rw [few0]; omega
theorem few_fail (c : Cn) (k : Int) : (c.fail k).few ≤ 2 := by
  unfold Cn.fail
  split
  · rw [few_begin, few_report, few0]; omega
  · rw [few0]; omega
/-- Whoever answers what was told tells nothing. -/
theorem sigs_request (c : Cn) (k : Int) : (c.request k noS).r.sigs = [] := by
  unfold Cn.request
  split
  · unfold As.ask
    repeat (first | rfl | split)
  · rfl
section
variable (P : Pr)
theorem ask_len (k : Int) : (P.ask k).t0 = P.t0 ∧ (P.ask k).t1 = P.t1 ∧ (P.ask k).w0 = P.w0 ∧ (P.ask k).w1.length ≤ P.w1.length + 1 ∧ (P.ask k).c1 = P.c1 := by
  refine ⟨?_, rfl, rfl, ?_, rfl⟩
  · show P.t0 ++ (P.c0.request k noS).r.sigs = _
    rw [sigs_request, List.append_nil]
  · show (P.w1 ++ (P.c0.request k noS).r.units).length ≤ _
    have := few_request P.c0 k noS
    unfold As.few at this
    rw [List.length_append]; omega
theorem tell1_len (g : Bool) (s : Sig) : (P.tell1 g s).t0 = P.t0 ∧ (P.tell1 g s).t1 = P.t1 ∧ (P.tell1 g s).w0 = P.w0 ∧ (P.tell1 g s).w1.length ≤ P.w1.length + 1 ∧ (P.tell1 g s).c1 = P.c1 ∧ (CnOk P.c0 → CnOk (P.tell1 g s).c0) := by
  unfold Pr.tell1
  split
  · exact ⟨rfl, rfl, rfl, by omega, rfl, id⟩
  · obtain ⟨h1, h2, h3, h4, h5⟩ := ask_len P (wantK s.kind)
    exact ⟨h1, h2, h3, h4, h5, fun h => ok_request h _ _⟩
end
theorem tells_len (g : Bool) : ∀ (l : List Sig) (P : Pr), (l.foldl (Pr.tell1 g) P).t0 = P.t0 ∧ (l.foldl (Pr.tell1 g) P).t1 = P.t1 ∧ (l.foldl (Pr.tell1 g) P).w0 = P.w0 ∧ (l.foldl (Pr.tell1 g) P).w1.length ≤ P.w1.length + l.length ∧ (l.foldl (Pr.tell1 g) P).c1 = P.c1 ∧ (CnOk P.c0 → CnOk (l.foldl (Pr.tell1 g) P).c0)
  | [], P => ⟨rfl, rfl, rfl, by simp, rfl, id⟩
  | s :: l, P => by
    obtain ⟨h1, h2, h3, h4, h5, h6⟩ := tell1_len P g s
    obtain ⟨i1, i2, i3, i4, i5, i6⟩ := tells_len g l (P.tell1 g s)
    simp only [List.foldl_cons, List.length_cons]
    exact ⟨i1.trans h1, i2.trans h2, i3.trans h3, by omega, i5.trans h5, fun h => i6 (h6 h)⟩
theorem recv_len (P : Pr) (u : Un) : (P.recv u).t0.length ≤ P.t0.length + 7 ∧ (P.recv u).t1 = P.t1 ∧ (P.recv u).w0 = P.w0 ∧ (P.recv u).w1.length ≤ P.w1.length + 7 ∧ (P.recv u).c1 = P.c1 ∧ (CnOk P.c0 → CnOk (P.recv u).c0) := by
  have := few_receive P.c0 u
  unfold As.few at this
  refine ⟨?_, rfl, rfl, ?_, rfl, fun h => ok_receive h u⟩
  · show (P.t0 ++ _).length ≤ _
    rw [List.length_append]; omega
  · show (P.w1 ++ _).length ≤ _
    rw [List.length_append]; omega
theorem recvs_len : ∀ (l : List Un) (P : Pr), (l.foldl Pr.recv P).t0.length ≤ P.t0.length + 7 * l.length ∧ (l.foldl Pr.recv P).t1 = P.t1 ∧ (l.foldl Pr.recv P).w0 = P.w0 ∧ (l.foldl Pr.recv P).w1.length ≤ P.w1.length + 7 * l.length ∧ (l.foldl Pr.recv P).c1 = P.c1 ∧ (CnOk P.c0 → CnOk (l.foldl Pr.recv P).c0)
  | [], P => ⟨by simp, rfl, rfl, by simp, rfl, id⟩
  | s :: l, P => by
    obtain ⟨h1, h2, h3, h4, h5, h6⟩ := recv_len P s
    obtain ⟨i1, i2, i3, i4, i5, i6⟩ := recvs_len l (P.recv s)
    simp only [List.foldl_cons, List.length_cons]
    exact ⟨by omega, i2.trans h2, i3.trans h3, by omega, i5.trans h5, fun h => i6 (h6 h)⟩
theorem turn0_len {P : Pr} (h : P.w0.length ≤ 8) (g : Bool) : (P.turn0 g).t0.length ≤ P.t0.length + 56 ∧ (P.turn0 g).t1 = P.t1 := by
  obtain ⟨h1, h2, h3, h4, h5, h6⟩ := tells_len g P.t0 P
  obtain ⟨i1, i2, i3, i4, i5, i6⟩ := recvs_len (P.told g).w0 ⟨(P.told g).c0, (P.told g).c1, [], (P.told g).w1, (P.told g).t0, (P.told g).t1⟩
  have e0 : (P.told g).w0 = P.w0 := h3
  have e1 : (P.told g).t0 = P.t0 := h1
  have e2 : (P.told g).t1 = P.t1 := h2
  refine ⟨?_, ?_⟩
  · show ((P.told g).w0.foldl Pr.recv _).t0.length ≤ _
    have e1' : (P.told g).t0.length = P.t0.length := by rw [e1]
    have e3 : (P.told g).w0.length ≤ 8 := by rw [e0]; exact h
    have i1' : _ ≤ (P.told g).t0.length + 7 * (P.told g).w0.length := i1
    refine Nat.le_trans i1' ?_
    omega
  · show ((P.told g).w0.foldl Pr.recv _).t1 = _
    rw [i2]; exact e2
theorem turn_len {P : Pr} (h : Small P) (i g : Bool) : (P.turn i g).t0.length ≤ P.t0.length + 56 ∧ (P.turn i g).t1.length ≤ P.t1.length + 56 := by
  unfold Pr.turn
  cases i
  · obtain ⟨h1, h2⟩ := turn0_len h.l0 g
    exact ⟨h1, by show (P.turn0 g).t1.length ≤ _; rw [h2]; omega⟩
  · obtain ⟨h1, h2⟩ := turn0_len (P := P.swap) h.l1 g
    exact ⟨by show (P.swap.turn0 g).t1.length ≤ _; rw [h2]; exact Nat.le_add_right _ _, h1⟩
theorem turns_len {P : Pr} {g : Nat → Bool} (h : ∀ m, Small (turns g m P)) : ∀ n, (turns g n P).t0.length ≤ P.t0.length + 56 * n ∧ (turns g n P).t1.length ≤ P.t1.length + 56 * n
  | 0 => ⟨by simp [turns], by simp [turns]⟩
  | n + 1 => by
    obtain ⟨h1, h2⟩ := turn_len (h n) (n % 2 == 1) (g n)
    obtain ⟨i1, i2⟩ := turns_len h n
    exact ⟨by show ((turns g n P).turn _ _).t0.length ≤ _; omega, by show ((turns g n P).turn _ _).t1.length ≤ _; omega⟩
end Go.Proofs.Ytoeaamohchpjdaa
