/-
  Same: are two lists of ints the same? Its contract.
-/
import Derived.Test.YtdjepkhpkmmhpaaSlice
import Derived.Test.YtdjepkhpkmmhpaaProg
import Derived.RegionTactic
import Derived.LoopTactic
import Derived.Lib.Hide
import Derived.Deep.QuietTactic
import Derived.BigQuiet
namespace Go.Proofs.Ytdjepkhpkmmhpaa
open Go Go.RowKit
set_option linter.unusedVariables false

/-- Nothing but the count of draws has turned. -/
structure Alike' (w w' : World) : Prop where
  heap : w'.heap = w.heap
  os : w'.os = w.os
  output : w'.output = w.output
  tape : w'.tape = w.tape
theorem Alike'.refl (w : World) : Alike' w w := ⟨rfl, rfl, rfl, rfl⟩
theorem Alike'.drewN {w w' : World} (h : Alike' w w') (n : Nat) : Alike' w (w'.drewN n) := ⟨h.heap, h.os, h.output, h.tape⟩
theorem Alike'.cell {w w' : World} (h : Alike' w w') (a : Addr) : w'.cell? a = w.cell? a := by unfold World.cell?; rw [h.heap]
theorem Alike'.sat {w w' : World} (h : Alike' w w') {E : World} {H : HP} (hs : Sat E H w) : Sat E H w' := hs.same (fun k x e => by rw [h.heap]; exact e) h.os h.output h.tape
theorem Alike'.reads {w w' : World} (h : Alike' w w') {sz n : Nat} {v : Value} {xs : List Value} (hr : Reads w sz v n xs) : Reads w' sz v n xs :=
  ⟨hr.1, hr.2.imp id fun ⟨a, c, e, hc⟩ => ⟨a, c, e, fun j u hu => (h.cell _).trans (hc j u hu)⟩⟩

set_option maxHeartbeats 400000 in
theorem same_any (v1 v2 : Value) (xs ys : List Int) (w : World) (r1 : Reads w 1 v1 xs.length (xs.map (Value.int .i64))) (r2 : Reads w 1 v2 ys.length (ys.map (Value.int .i64))) (hx : xs.length ≤ 70368744177664) :
    Calls Try.prog 18 #[v1, v2] w fun e w' => e = .returned (.bool (decide (xs = ys))) ∧ Alike' w w' := by
  by_cases hlen : xs.length = ys.length
  · have hne : ((xs.length : Int) != (ys.length : Int)) = false := by simp [hlen]
    have Hlen := Lib.hid hlen
    clear hlen
    go_enter Try.func18, Try.ntmps18
    go_wp2_with (first | (refine wpL_lenR _ _ rfl rfl rfl rfl r1 ?_) | (refine wpL_lenR _ _ rfl rfl rfl rfl r2 ?_))
    go_loopw [13] (fun i wr => ∃ k : Nat, k ≤ xs.length ∧ i = .int .i64 k ∧ xs.take k = ys.take k ∧ Alike' w wr) (fun i _ => xs.length - (intOf i).toNat)
    case atStart => exact ⟨0, by omega, rfl, by simp, Alike'.refl w⟩
    case round =>
      obtain ⟨k, hk, rfl, htk, hal⟩ := hrel
      have Htk := Lib.hid htk
      clear htk
      by_cases hlt : k < xs.length
      · have hlt2 : k < ys.length := by rw [← Hlen.out]; exact hlt
        obtain ⟨hl1, ⟨rfl, h0⟩ | ⟨a1, c1, rfl, hc1⟩⟩ := hal.reads r1
        · omega
        · obtain ⟨hl2, ⟨rfl, h0⟩ | ⟨a2, c2, rfl, hc2⟩⟩ := hal.reads r2
          · omega
          · have f1 := hc1 k (.int .i64 xs[k]) (by simp [hlt])
            have f2 := hc2 k (.int .i64 ys[k]) (by simp [hlt2])
            have e1 : xs.take (k + 1) = xs.take k ++ [xs[k]] := List.take_succ_eq_append_getElem hlt
            have e2 : ys.take (k + 1) = ys.take k ++ [ys[k]] := List.take_succ_eq_append_getElem hlt2
            have E1 := Lib.hid e1
            have E2 := Lib.hid e2
            have g1 : xs[k]? = some xs[k] := List.getElem?_eq_getElem hlt
            have g2 : ys[k]? = some ys[k] := List.getElem?_eq_getElem hlt2
            have G1 := Lib.hid g1
            have G2 := Lib.hid g2
            clear e1 e2 g1 g2 hc1 hc2 hl1 hl2
            generalize xs[k] = x at *
            generalize ys[k] = y at *
            have hi1 : (k : Int) < (xs.length : Int) := by omega
            have hi2 : (k : Int) < (ys.length : Int) := by omega
            by_cases hxy : x = y
            · have hxy' : (x != y) = false := by simp [hxy]
              have Hxy := Lib.hid hxy
              clear hxy
              go_wp2
              go_quiet (fail)
              go_wp2
              go_roundw
              case rel => exact ⟨k + 1, by omega, by go_num, by rw [E1.out, E2.out, Htk.out, Hxy.out], hal.drewN _⟩
              case measure => simp [intOf]; omega
            · have hxy' : (x != y) = true := by simp [hxy]
              go_wp2
              go_quiet (fail)
              go_wp2
              go_ret
              refine ⟨?_, hal.drewN _⟩
              have : ¬ xs = ys := fun e => hxy (by have h1 := G1.out; have h2 := G2.out; rw [e] at h1; exact (Option.some.inj (h1.symm.trans h2)))
              simp [this]
      · obtain rfl : k = xs.length := by omega
        go_wp2
        go_ret
        have h1 := Htk.out
        rw [List.take_length, Hlen.out, List.take_length] at h1
        exact ⟨by simp [h1], hal⟩
  · have hne : ((xs.length : Int) != (ys.length : Int)) = true := by simp; omega
    go_enter Try.func18, Try.ntmps18
    go_wp2_with (first | (refine wpL_lenR _ _ rfl rfl rfl rfl r1 ?_) | (refine wpL_lenR _ _ rfl rfl rfl rfl r2 ?_))
    go_ret
    have : ¬ xs = ys := fun e => hlen (by rw [e])
    exact ⟨by simp [this], Alike'.refl w⟩
end Go.Proofs.Ytdjepkhpkmmhpaa
