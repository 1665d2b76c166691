/-
  Two connections that hear one another, in plain Lean: numbers may be moved round about; what comes of all.
-/
import Derived.Test.YtoeaamohchpjdaaConn6
namespace Go.Proofs.Ytoeaamohchpjdaa
open Go Go.RowKit
set_option linter.unusedVariables false
set_option linter.unusedSimpArgs false

/-- A number moved round about; what is no number stays. -/
def ro (s x : Int) : Int := if 0 ≤ x ∧ x ≤ 255 then (x + s) % 256 else x
theorem ro_inj {s x y : Int} : ro s x = ro s y ↔ x = y := by
  unfold ro
  constructor
  · intro h
    split at h <;> split at h <;> omega
  · rintro rfl; rfl
theorem ro_next {s x : Int} (h : 0 ≤ x ∧ x ≤ 255) : ro s ((x + 1) % 256) = (ro s x + 1) % 256 := by
  unfold ro; rw [if_pos h, if_pos (by omega)]; omega
theorem ro_ro (s d x : Int) : ro s (ro d x) = ro ((s + d) % 256) x := by
  unfold ro
  by_cases h : 0 ≤ x ∧ x ≤ 255
  · rw [if_pos h, if_pos (by omega), if_pos h]; omega
  · rw [if_neg h, if_neg h, if_neg h]
theorem ro_in {s x : Int} (h : 0 ≤ x ∧ x ≤ 255) : 0 ≤ ro s x ∧ ro s x ≤ 255 := by
  unfold ro; rw [if_pos h]; omega
theorem ro_zero (x : Int) : ro 0 x = x := by unfold ro; split <;> omega

/-- Kinds of units that bear their sender's number. -/
def ownK (k : Int) : Bool := k == 1 || k == 3 || k == 5 || k == 9
def Cn.ro (a b : Int) (c : Cn) : Cn := ⟨c.most, c.credit, c.state, Proofs.Ytoeaamohchpjdaa.ro a c.sq, Proofs.Ytoeaamohchpjdaa.ro b c.peer, c.cc, c.ms, c.data⟩
def Un.ro (a b : Int) (p : Un) : Un := ⟨p.kind, Proofs.Ytoeaamohchpjdaa.ro (if ownK p.kind then a else b) p.sq, p.n, p.ps, p.mr, p.self, p.data⟩
def Rs.ro (a b : Int) (r : Rs) : Rs := ⟨r.sigs, r.units.map (Un.ro a b), r.begins, r.ends, r.ms, r.timer⟩
def As.ro (a b : Int) (x : As) : As := ⟨x.c.ro a b, x.r.ro a b⟩

section
variable (a b : Int) (x : As) (p : Un) (s : Sig) (d : ByteArray)
theorem ro_tell : (x.tell s).ro a b = (x.ro a b).tell s := rfl
theorem ro_add : (x.add p).ro a b = (x.ro a b).add (p.ro a b) := by
  simp [As.add, As.ro, Rs.ro]
theorem ro_out : (x.out p).ro a b = (x.ro a b).out (p.ro a b) := by
  unfold As.out
  rw [ro_add]
  show _ = (x.ro a b).add (if hasN p.kind then _ else _)
  split <;> rfl
theorem ro_to (k : Int) : (x.to k).ro a b = (x.ro a b).to k := rfl
theorem ro_stop (k : Int) : (x.stop k).ro a b = (x.ro a b).stop k := rfl
theorem ro_setTimer (k : Int) : (x.setTimer k).ro a b = (x.ro a b).setTimer k := rfl
theorem ro_setMS (k : Int) : (x.setMS k).ro a b = (x.ro a b).setMS k := rfl
theorem ro_ready : x.ready.ro a b = (x.ro a b).ready := rfl
theorem ro_report (k : Int) : (x.report k).ro a b = (x.ro a b).report k := rfl
theorem ro_first : (x.first d).ro a b = (x.ro a b).first d := rfl
theorem ro_renew (h : 0 ≤ x.c.sq ∧ x.c.sq ≤ 255) : (x.renew d).ro a b = (x.ro a b).renew d := by
  simp [As.renew, As.ro, Cn.ro, ro_next h]
theorem own_again (k : Int) : ownK (againK k) = true := by unfold againK; repeat (first | rfl | split)
theorem ro_again : x.again.ro a b = (x.ro a b).again := by
  unfold As.again
  rw [ro_setTimer, ro_out]
  congr 2
  simp [mkU, Un.ro, own_again, As.ro, Cn.ro]
theorem ro_begin (k : Int) (h : 0 ≤ x.c.sq ∧ x.c.sq ≤ 255) : (x.begin k d).ro a b = (x.ro a b).begin k d := by
  unfold As.begin
  rw [ro_again, ro_renew _ _ (x.to k) d h, ro_to]
theorem ro_leave : (x.leave d).ro a b = (x.ro a b).leave d := by
  unfold As.leave; rw [ro_again, ro_first, ro_to]
theorem ro_quit : x.quit.ro a b = (x.ro a b).quit := by
  unfold As.quit; rw [ro_out]; rfl
theorem ro_ask (k : Int) (h : 0 ≤ x.c.sq ∧ x.c.sq ≤ 255) : (x.ask k d).ro a b = (x.ro a b).ask k d := by
  have hst : (x.ro a b).c.state = x.c.state := rfl
  unfold As.ask
  rw [hst]
  split
  · exact ro_begin a b x d 2 h
  split
  · rw [ro_ready, ro_out]; rfl
  split
  · split
    · rw [ro_to, ro_out]; rfl
    · exact ro_leave a b x d
  split
  · exact ro_begin a b x d 5 h
  split
  · rw [ro_ready, ro_out]; rfl
  split
  · split
    · rw [ro_ready, ro_out]; rfl
    · rfl
  rfl
theorem ro_heard (h : ownK p.kind = true) : (x.heard p).ro a b = (x.ro a b).heard (p.ro b a) := by
  simp [As.heard, As.ro, Cn.ro, Un.ro, h]
theorem ro_back1 (k sq t : Int) (hk : ownK k = false) : (As.back1 k sq x t).ro a b = As.back1 k (ro b sq) (x.ro a b) t := by
  unfold As.back1
  have hst : (x.ro a b).c.state = x.c.state := rfl
  rw [hst]
  split
  · rw [ro_out]; simp [mkU, Un.ro, hk]
  · rfl
theorem ro_back (k : Int) (hk : ownK k = false) (h : ownK p.kind = true) : ∀ (l : List Int) (x : As), (x.back p k l).ro a b = (x.ro a b).back (p.ro b a) k l
  | [], x => rfl
  | t :: l, x => by
    have e : x.back p k (t :: l) = (As.back1 k p.sq x t).back p k l := rfl
    have e2 : (x.ro a b).back (p.ro b a) k (t :: l) = (As.back1 k (p.ro b a).sq (x.ro a b) t).back (p.ro b a) k l := rfl
    have e3 : (p.ro b a).sq = ro b p.sq := by simp [Un.ro, h]
    rw [e, e2, e3, ro_back k hk h l, ro_back1 a b x k p.sq t hk]
theorem ro_oldBegin (h : ownK p.kind = true) : (x.oldBegin p).ro a b = (x.ro a b).oldBegin (p.ro b a) := by
  unfold As.oldBegin; rw [ro_back a b p 2 rfl h, ro_back a b p 7 rfl h]
theorem ro_newBegin (h : ownK p.kind = true) : (x.newBegin p).ro a b = (x.ro a b).newBegin (p.ro b a) := by
  have hst : (x.ro a b).c.state = x.c.state := rfl
  have hd : (p.ro b a).data = p.data := rfl
  unfold As.newBegin
  rw [hst, hd]
  split
  · rw [ro_to, ro_tell, ro_heard _ _ _ _ h]
  split
  · rw [ro_ready, ro_tell, ro_back a b p 2 rfl h, ro_heard _ _ _ _ h]
  split
  · rw [ro_stop, ro_tell, ro_tell, ro_heard _ _ _ _ h]
  · rw [ro_stop, ro_tell, ro_tell, ro_heard _ _ _ _ h]
theorem ro_fin (h : ownK p.kind = true) : (x.fin p).ro a b = (x.ro a b).fin (p.ro b a) := by
  have hst : (x.ro a b).c.state = x.c.state := rfl
  have hd : (p.ro b a).data = p.data := rfl
  have hs : (p.ro b a).self = p.self := rfl
  have e : (mkU 4 p.sq false noS).ro a b = mkU 4 (p.ro b a).sq false noS := by simp [mkU, Un.ro, h, show ownK 4 = false from rfl, show ownK 6 = false from rfl]
  unfold As.fin
  rw [hst, hd, hs]
  split
  · rw [ro_out, e]
  split
  · rw [ro_stop, ro_tell, ro_out, e]
  · rw [ro_stop, ro_tell, ro_out, e]
theorem ro_resync (h : ownK p.kind = true) : (x.resync p).ro a b = (x.ro a b).resync (p.ro b a) := by
  have hst : (x.ro a b).c.state = x.c.state := rfl
  have hd : (p.ro b a).data = p.data := rfl
  have e : (mkU 6 p.sq false noS).ro a b = mkU 6 (p.ro b a).sq false noS := by simp [mkU, Un.ro, h, show ownK 4 = false from rfl, show ownK 6 = false from rfl]
  unfold As.resync
  rw [hst, hd]
  split
  · rw [ro_ready, ro_tell, ro_out, ro_heard _ _ _ _ h, e]
  split
  · rw [ro_heard _ _ _ _ h]
  · rw [ro_stop, ro_tell, ro_heard _ _ _ _ h]
theorem ro_recover (h : ownK p.kind = true) : (x.recover p).ro a b = (x.ro a b).recover (p.ro b a) := by
  have hst : (x.ro a b).c.state = x.c.state := rfl
  unfold As.recover
  rw [hst]
  split
  · rw [ro_stop, ro_tell, ro_back a b p 15 rfl h, ro_heard _ _ _ _ h]
  split
  · rw [ro_to, ro_tell, ro_back a b p 15 rfl h, ro_heard _ _ _ _ h]
  · rw [ro_back a b p 15 rfl h, ro_heard _ _ _ _ h]
theorem ro_answer : (x.answer p).ro a b = (x.ro a b).answer (p.ro b a) := by
  have hst : (x.ro a b).c.state = x.c.state := rfl
  have hd : (p.ro b a).data = p.data := rfl
  have hn : (p.ro b a).n = p.n := rfl
  have hk : (p.ro b a).kind = p.kind := rfl
  unfold As.answer
  rw [hst, hd, hn, hk]
  split
  · rfl
  split
  · rfl
  split
  · rfl
  split
  · split <;> rfl
  · rfl
theorem ro_handle : (x.handle p).ro a b = (x.ro a b).handle (p.ro b a) := by
  have hk : (p.ro b a).kind = p.kind := rfl
  have hp : (x.ro a b).c.peer = ro b x.c.peer := rfl
  have hq : (x.ro a b).c.sq = ro a x.c.sq := rfl
  unfold As.handle
  rw [hk, hp, hq]
  by_cases h1 : p.kind = 1
  · have h : ownK p.kind = true := by rw [h1]; rfl
    have e : (p.ro b a).sq = ro b p.sq := by simp [Un.ro, h]
    rw [if_pos h1, if_pos h1, e]
    by_cases h2 : p.sq = x.c.peer
    · rw [if_pos h2, if_pos (ro_inj.2 h2), ro_oldBegin _ _ _ _ h]
    · rw [if_neg h2, if_neg (fun q => h2 (ro_inj.1 q)), ro_newBegin _ _ _ _ h]
  rw [if_neg h1, if_neg h1]
  by_cases h3 : p.kind = 3
  · rw [if_pos h3, if_pos h3, ro_fin _ _ _ _ (by rw [h3]; rfl)]
  rw [if_neg h3, if_neg h3]
  by_cases h5 : p.kind = 5
  · have h : ownK p.kind = true := by rw [h5]; rfl
    have e : (p.ro b a).sq = ro b p.sq := by simp [Un.ro, h]
    rw [if_pos h5, if_pos h5, e]
    by_cases h2 : p.sq = x.c.peer
    · rw [if_pos h2, if_pos (ro_inj.2 h2), ro_back a b p 6 rfl h]
    · rw [if_neg h2, if_neg (fun q => h2 (ro_inj.1 q)), ro_resync _ _ _ _ h]
  rw [if_neg h5, if_neg h5]
  by_cases h9 : p.kind = 9
  · have h : ownK p.kind = true := by rw [h9]; rfl
    have e : (p.ro b a).sq = ro b p.sq := by simp [Un.ro, h]
    rw [if_pos h9, if_pos h9, e]
    by_cases h2 : p.sq = x.c.peer
    · rw [if_pos h2, if_pos (ro_inj.2 h2), ro_back a b p 15 rfl h]
    · rw [if_neg h2, if_neg (fun q => h2 (ro_inj.1 q)), ro_recover _ _ _ _ h]
  rw [if_neg h9, if_neg h9]
  have h : ownK p.kind = false := by simp [ownK, h1, h3, h5, h9]
  have e : (p.ro b a).sq = ro a p.sq := by simp [Un.ro, h]
  rw [e]
  by_cases h2 : p.sq = x.c.sq
  · rw [if_pos h2, if_pos (ro_inj.2 h2), ro_answer]
  · rw [if_neg h2, if_neg (fun q => h2 (ro_inj.1 q))]
end
theorem ro_receive (a b : Int) (c : Cn) (p : Un) : (c.receive p).ro a b = (c.ro a b).receive (p.ro b a) := by
  have hst : (c.ro a b).state = c.state := rfl
  have hk : (p.ro b a).kind = p.kind := rfl
  have e : (⟨c, rs0⟩ : As).ro a b = ⟨c.ro a b, rs0⟩ := rfl
  unfold Cn.receive
  rw [hst, hk]
  split
  · rw [ro_handle, e]
  split
  · rfl
  split
  · rw [ro_quit, ro_report, e]
  split
  · rfl
  · rfl
theorem ro_reqErr (a b : Int) (c : Cn) (k : Int) (d : ByteArray) : (c.ro a b).reqErr k d = c.reqErr k d := rfl
theorem ro_request (a b : Int) (c : Cn) (k : Int) (d : ByteArray) (h : 0 ≤ c.sq ∧ c.sq ≤ 255) : (c.request k d).ro a b = (c.ro a b).request k d := by
  unfold Cn.request
  rw [ro_reqErr]
  split
  · exact ro_ask a b ⟨c, rs0⟩ d k h
  · rfl
theorem ro_fail (a b : Int) (c : Cn) (k : Int) (h : 0 ≤ c.sq ∧ c.sq ≤ 255) : (c.fail k).ro a b = (c.ro a b).fail k := by
  unfold Cn.fail
  have hst : (c.ro a b).state = c.state := rfl
  rw [hst]
  split
  · exact ro_begin a b (As.report ⟨c, rs0⟩ k) noS 7 h
  · rfl
end Go.Proofs.Ytoeaamohchpjdaa
