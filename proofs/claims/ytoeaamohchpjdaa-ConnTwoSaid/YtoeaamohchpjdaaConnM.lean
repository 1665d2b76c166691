/-
  A connection in plain Lean: what its calls do to its numbers, and what they bring.
-/
import Derived.Test.YtoeaamohchpjdaaEng5
namespace Go.Proofs.Ytoeaamohchpjdaa
open Go Go.RowKit
set_option linter.unusedVariables false
set_option linter.unusedSimpArgs false

/-- A signal, a unit, a connection, what a call brings. -/
structure Sig where
  kind : Int
  data : ByteArray
  self : Bool
  code : Int
  n : Int
structure Un where
  kind : Int
  sq : Int
  n : Int
  ps : Int
  mr : Int
  self : Bool
  data : ByteArray
structure Cn where
  most : Int
  credit : Int
  state : Int
  sq : Int
  peer : Int
  cc : Int
  ms : Int
  data : ByteArray
structure Rs where
  sigs : List Sig
  units : List Un
  begins : Bool
  ends : Bool
  ms : Int
  timer : Int
structure As where
  c : Cn
  r : Rs
def rs0 : Rs := ⟨[], [], false, false, 0, 0⟩
/-- A signal without a letter; a unit without a number. -/
def mkS (k : Int) (self : Bool) (d : ByteArray) : Sig := ⟨k, d, self, 0, 0⟩
def mkU (k sq : Int) (self : Bool) (d : ByteArray) : Un := ⟨k, sq, 0, 0, 0, self, d⟩
def noS : ByteArray := ⟨#[]⟩
def As.tell (a : As) (s : Sig) : As := ⟨a.c, ⟨a.r.sigs ++ [s], a.r.units, a.r.begins, a.r.ends, a.r.ms, a.r.timer⟩⟩
abbrev hasN (k : Int) : Prop := k = 1 ∨ k = 2 ∨ k = 5 ∨ k = 6 ∨ k = 9 ∨ k = 15
def As.add (a : As) (p : Un) : As := ⟨a.c, ⟨a.r.sigs, a.r.units ++ [p], a.r.begins, a.r.ends, a.r.ms, a.r.timer⟩⟩
def As.out (a : As) (p : Un) : As := a.add (if hasN p.kind then ⟨p.kind, p.sq, a.c.credit, p.ps, p.mr, p.self, p.data⟩ else p)
def Cn.setState (c : Cn) (s : Int) : Cn := ⟨c.most, c.credit, s, c.sq, c.peer, c.cc, c.ms, c.data⟩
def As.to (a : As) (s : Int) : As := ⟨a.c.setState s, ⟨a.r.sigs, a.r.units, a.r.begins, a.r.ends || a.c.state == 10, a.r.ms, a.r.timer⟩⟩
def As.setTimer (a : As) (t : Int) : As := ⟨a.c, ⟨a.r.sigs, a.r.units, a.r.begins, a.r.ends, a.r.ms, t⟩⟩
def As.stop (a : As) (s : Int) : As := (a.to s).setTimer 2
def As.begins (a : As) : As := ⟨a.c, ⟨a.r.sigs, a.r.units, true, a.r.ends, a.c.ms, a.r.timer⟩⟩
def As.ready (a : As) : As := (a.stop 10).begins
def againK (s : Int) : Int := if s = 2 then 1 else if s = 4 then 3 else if s = 5 then 5 else 9
def As.again (a : As) : As := (a.out (mkU (againK a.c.state) a.c.sq false a.c.data)).setTimer 1
def As.renew (a : As) (d : ByteArray) : As := ⟨⟨a.c.most, a.c.credit, a.c.state, (a.c.sq + 1) % 256, a.c.peer, 1, a.c.ms, d⟩, a.r⟩
def As.begin (a : As) (s : Int) (d : ByteArray) : As := ((a.to s).renew d).again
def As.first (a : As) (d : ByteArray) : As := ⟨⟨a.c.most, a.c.credit, a.c.state, a.c.sq, a.c.peer, 1, a.c.ms, d⟩, a.r⟩
def As.leave (a : As) (d : ByteArray) : As := ((a.to 4).first d).again
def As.quit (a : As) : As := a.out (mkU 3 a.c.sq true noS)
def As.report (a : As) (code : Int) : As := a.tell ⟨12, noS, false, code, 0⟩
def As.ask (a : As) (k : Int) (d : ByteArray) : As :=
  if k = 1 then a.begin 2 d
  else if k = 2 then (a.out (mkU 2 a.c.peer false noS)).ready
  else if k = 3 then (if a.c.state = 3 then (a.out (mkU 7 a.c.peer false d)).to 1 else a.leave d)
  else if k = 4 then a.begin 5 d
  else if k = 5 then (a.out (mkU 6 a.c.peer false noS)).ready
  else if k = 6 then (if a.c.state = 9 then (a.out (mkU 15 a.c.peer false noS)).ready else a.ready)
  else a
def As.heard (a : As) (p : Un) : As := ⟨⟨a.c.most, a.c.credit, a.c.state, a.c.sq, p.sq, a.c.cc, p.n, a.c.data⟩, a.r⟩
def As.back1 (k sq : Int) (a : As) (s : Int) : As := if s = a.c.state then a.out (mkU k sq false noS) else a
def As.back (a : As) (p : Un) (k : Int) (l : List Int) : As := l.foldl (As.back1 k p.sq) a
def As.oldBegin (a : As) (p : Un) : As := (a.back p 7 [1]).back p 2 [5, 6, 7, 8, 9, 10]
def As.newBegin (a : As) (p : Un) : As :=
  if a.c.state = 1 then ((a.heard p).tell (mkS 1 false p.data)).to 3
  else if a.c.state = 2 then (((a.heard p).back p 2 [2]).tell (mkS 2 false noS)).ready
  else if a.c.state = 4 then (((a.heard p).tell (mkS 4 false noS)).tell (mkS 1 false p.data)).stop 3
  else (((a.heard p).tell (mkS 3 false noS)).tell (mkS 1 false p.data)).stop 3
def As.fin (a : As) (p : Un) : As :=
  if a.c.state = 1 then a.out (mkU 4 p.sq false noS)
  else if a.c.state = 4 then ((a.out (mkU 4 p.sq false noS)).tell (mkS 4 false noS)).stop 1
  else ((a.out (mkU 4 p.sq false noS)).tell (mkS 3 p.self p.data)).stop 1
def As.resync (a : As) (p : Un) : As :=
  if a.c.state = 5 then (((a.heard p).out (mkU 6 p.sq false noS)).tell (mkS 6 false noS)).ready
  else if a.c.state = 6 then a.heard p
  else ((a.heard p).tell (mkS 5 false p.data)).stop 6
def As.recover (a : As) (p : Un) : As :=
  if a.c.state = 7 then (((a.heard p).back p 15 [7, 8]).tell (mkS 7 false noS)).stop 8
  else if a.c.state = 10 then (((a.heard p).back p 15 [7, 8]).tell (mkS 7 false noS)).to 9
  else (a.heard p).back p 15 [7, 8]
def As.setMS (a : As) (n : Int) : As := ⟨⟨a.c.most, a.c.credit, a.c.state, a.c.sq, a.c.peer, a.c.cc, n, a.c.data⟩, a.r⟩
def As.answer (a : As) (p : Un) : As :=
  if p.kind = 2 then ((a.setMS p.n).tell (mkS 2 false noS)).ready
  else if p.kind = 6 then ((a.setMS p.n).tell (mkS 6 false noS)).ready
  else if p.kind = 15 then ((a.setMS p.n).tell (mkS 7 false noS)).stop 8
  else if p.kind = 7 ∨ p.kind = 4 then (if a.c.state = 2 then (a.tell (mkS 3 false p.data)).stop 1 else (a.tell (mkS 4 false noS)).stop 1)
  else a
def As.handle (a : As) (p : Un) : As :=
  if p.kind = 1 then (if p.sq = a.c.peer then a.oldBegin p else a.newBegin p)
  else if p.kind = 3 then a.fin p
  else if p.kind = 5 then (if p.sq = a.c.peer then a.back p 6 [7, 8, 9, 10] else a.resync p)
  else if p.kind = 9 then (if p.sq = a.c.peer then a.back p 15 [8, 10] else a.recover p)
  else if p.sq = a.c.sq then a.answer p else a

/-- How many signals and units there are. -/
def As.few (a : As) : Nat := a.r.sigs.length + a.r.units.length
section
variable (a : As) (s : Int) (p : Un) (g : Sig) (d : ByteArray)
theorem few_to : (a.to s).few = a.few := rfl
theorem few_stop : (a.stop s).few = a.few := rfl
theorem few_ready : a.ready.few = a.few := rfl
theorem few_heard : (a.heard p).few = a.few := rfl
theorem few_setMS : (a.setMS s).few = a.few := rfl
theorem few_tell : (a.tell g).few = a.few + 1 := by simp [As.few, As.tell]; omega
theorem few_out : (a.out p).few = a.few + 1 := by simp [As.few, As.out, As.add]; omega
theorem few_setTimer : (a.setTimer s).few = a.few := rfl
theorem few_again : a.again.few = a.few + 1 := few_out a (mkU (againK a.c.state) a.c.sq false a.c.data)
theorem few_begin : (a.begin s d).few = a.few + 1 := few_again ((a.to s).renew d)
theorem few_leave : (a.leave d).few = a.few + 1 := few_again ((a.to 4).first d)
theorem few_quit : a.quit.few = a.few + 1 := few_out _ _
theorem few_report : (a.report s).few = a.few + 1 := few_tell _ _
theorem few_back1 (k sq : Int) : (As.back1 k sq a s).few ≤ a.few + 1 := by
  unfold As.back1; split
  · rw [few_out]; omega
  · omega
theorem few_back (k : Int) : ∀ (l : List Int) (a : As), (a.back p k l).few ≤ a.few + l.length
  | [], a => by simp [As.back]
  | x :: l, a => by
    have e : a.back p k (x :: l) = (As.back1 k p.sq a x).back p k l := rfl
    rw [e]
    have ih := few_back k l (As.back1 k p.sq a x)
    have h1 := few_back1 a x k p.sq
    simp; omega
end
section
variable (a : As) (p : Un)
theorem cn_tell (s : Sig) : (a.tell s).c = a.c := rfl
theorem cn_out : (a.out p).c = a.c := rfl
theorem cn_back1 (k sq s : Int) : (As.back1 k sq a s).c = a.c := by unfold As.back1; split <;> rfl
theorem cn_back (k : Int) : ∀ (l : List Int) (a : As), (a.back p k l).c = a.c
  | [], a => rfl
  | x :: l, a => by
    have e : a.back p k (x :: l) = (As.back1 k p.sq a x).back p k l := rfl
    rw [e, cn_back k l, cn_back1]
theorem cn_report (x : Int) : (a.report x).c = a.c := rfl
theorem cn_quit : a.quit.c = a.c := rfl
theorem few0 (c : Cn) : (⟨c, rs0⟩ : As).few = 0 := rfl
theorem heard_state : (a.heard p).c.state = a.c.state := rfl
theorem heard_sq : (a.heard p).c.sq = a.c.sq := rfl
end
/-- Numbers that a connection may have. -/
structure CnOk (c : Cn) : Prop where
  most : 1 ≤ c.most ∧ c.most ≤ 16
  sq : 0 ≤ c.sq ∧ c.sq ≤ 255
  cc : 0 ≤ c.cc ∧ c.cc ≤ 16
  st : 1 ≤ c.state ∧ c.state ≤ 10
end Go.Proofs.Ytoeaamohchpjdaa
