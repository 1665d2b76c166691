/-
  The document's pace: contracts of its calls.
-/
import Derived.Test.YtoeaamohchpjdaaPaceW
namespace Go.Proofs.Ytoeaamohchpjdaa
open Go Go.RowKit
set_option linter.unusedVariables false
set_option linter.unusedSimpArgs false
set_option maxRecDepth 100000

theorem foldl_len (f : Int → Int) : ∀ (ts l : List Int), l.length = 5 → (ts.foldl (fun l t => l.set t.toNat (f t)) l).length = 5
  | [], l, h => h
  | t :: ts, l, h => foldl_len f ts (l.set t.toNat (f t)) (by rw [List.length_set]; exact h)
theorem foldl_next {β : Type} {f : β → Int → β} {l : List Int} {j : Nat} {s : Int} (v : β) (h : l[j]? = some s) : (l.take (j + 1)).foldl f v = f ((l.take j).foldl f v) s := by
  rw [List.take_add_one, h, List.foldl_append]; rfl
def offL (ts l : List Int) : List Int := ts.foldl (fun l t => l.set t.toNat 0) l
def onL (T ts l : List Int) : List Int := ts.foldl (fun l t => l.set t.toNat (T.getD t.toNat 0)) l
theorem offL_len {ts l : List Int} (h : l.length = 5) : (offL ts l).length = 5 := foldl_len (fun _ => 0) ts l h
theorem onL_len {T ts l : List Int} (h : l.length = 5) : (onL T ts l).length = 5 := foldl_len (fun t => T.getD t.toNat 0) ts l h
theorem offL_next {ts l : List Int} {j : Nat} {s : Int} (h : ts[j]? = some s) : offL (ts.take (j + 1)) l = (offL (ts.take j) l).set s.toNat 0 := foldl_next _ h
theorem onL_next {T ts l : List Int} {j : Nat} {s u : Int} (h : ts[j]? = some s) (hu : T[s.toNat]? = some u) : onL T (ts.take (j + 1)) l = (onL T (ts.take j) l).set s.toNat u := by
  unfold onL
  rw [foldl_next _ h, List.getD_eq_getElem?_getD, hu]; rfl
theorem at5 {l : List Int} {t : Int} (hl : l.length = 5) (h : 0 ≤ t ∧ t < 5) : ∃ u, l[t.toNat]? = some u := ⟨_, List.getElem?_eq_getElem (by omega)⟩
theorem tickL_next {l : List Int} {j : Nat} {n : Int} (h : l[j]? = some n) : tickL (l.take (j + 1)) = tickL (l.take j) ++ [max (n - 1) 0] := by
  unfold tickL
  rw [List.take_add_one, h, List.map_append]
  simp only [Option.toList_some, List.map_cons, List.map_nil, decT]
  rw [Int.max_comm]
theorem overL_next {l : List Int} {j : Nat} {n : Int} (h : l[j]? = some n) : overL (l.take (j + 1)) = overL (l.take j) ++ (if n = 1 then [(j : Int)] else []) := by
  have hj : j < l.length := (List.getElem?_eq_some_iff.1 h).1
  unfold overL
  rw [List.take_add_one, h, Option.toList_some, overFrom_snoc, List.length_take, Nat.zero_add, Nat.min_eq_left (by omega)]
theorem offL_nil (l : List Int) : offL [] l = l := rfl
theorem onL_nil (T l : List Int) : onL T [] l = l := rfl
theorem setL_eq (l T on off : List Int) : setL l T on off = onL T on (offL off l) := rfl
attribute [local irreducible] setL offL onL tickL overL own fix oL rL osl rsl fact some' wpList wpHi wpPre wpAny wpHT After AfterH

section
variable {E : World} {H R : HP} {w : World} {Q : Ending → World → Prop} {pT pL pn pf : Option Addr} {kT kL kn kf : Nat} {T l on off : List Int}
theorem set15_use (hT : T.length = 5) (hl : l.length = 5) (hon : ∀ t ∈ on, 0 ≤ t ∧ t < 5) (hoff : ∀ t ∈ off, 0 ≤ t ∧ t < 5) (hn : on.length ≤ 10) (hf : off.length ≤ 10) (hs : Sat E H w)
    (c : Cut H (rL 1 intC (.slice pT 5 kT) T * rL 1 intC (.slice pL 5 kL) l * rL 1 intC (.slice pn on.length kn) on * rL 1 intC (.slice pf off.length kf) off) R)
    (hk : ∀ q k w', Sat E (H * rL 1 intC (.slice q 5 k) (setL l T on off)) w' → Q (.returned (.agg #[.slice pT 5 kT, .slice q 5 k])) w') :
    Calls Try.prog 58 #[.agg #[.slice pT 5 kT, .slice pL 5 kL], .slice pn on.length kn, .slice pf off.length kf] w Q := by
  replace hs := hs.cut c
  simp only [← star_assoc] at hs
  replace hk : ∀ q k w', Sat E (R * rL 1 intC (.slice pT 5 kT) T * rL 1 intC (.slice pL 5 kL) l * rL 1 intC (.slice pn on.length kn) on * rL 1 intC (.slice pf off.length kf) off * rL 1 intC (.slice q 5 k) (onL T on (offL off l))) w' → Q (.returned (.agg #[.slice pT 5 kT, .slice q 5 k])) w' := fun q k w' h => hk q k w' (h.eq (by rw [c.eq]; simp only [← star_assoc]; rw [setL_eq]))
  have h5 : (offL off l).length = 5 := offL_len hl
  refine f_enter Try.func58 rfl rfl ?_
  show Code.wp _ _ _ (Fr _) _
  refine wp_seq_k (fun K1 hK1 => ?_)
  refine c_region ?_
  refine s_ex (r_box rfl rfl rfl hs) rfl rfl (fun _ => by rfl) ?_
  intro bx w hs
  refine s_ex (r_alloc rfl zr46 hs) rfl rfl (fun _ => by rfl) ?_
  intro br w hs
  refine s_nil ?_
  refine hK1 _ _ ?_
  refine wp_seq_k (fun K2 hK2 => ?_)
  refine c_region ?_
  refine s_ex (r_lit intC [] rfl rfl rfl hs Try.underlying22 (by kernel_rfl) sz3 rfl (by decide) (fun _ => rfl)) rfl rfl (fun _ => by rfl) ?_
  intro b3 w hs
  refine sVal (r_field rfl rfl of46_1) ?_
  refine sVal (r_load rfl rfl (ag22 _) hs.own (by rfl)) ?_
  refine s_ex (r_appendO (f := intC) rfl rfl rfl hs (by (repeat (first | exact Cut.head _ _ | apply Cut.tail)); done) hs.rd Try.underlying22 (by kernel_rfl) sz3 (by decide) (fun _ => rfl) (by simp; omega)) rfl rfl (fun _ => by rfl) ?_
  intro v w hs
  obtain ⟨pv, kv, eh⟩ := (hs.oReads (v := v) (by (repeat (first | exact Cut.head _ _ | apply Cut.tail)); done)).header
  simp only [List.nil_append, hl] at eh hs
  subst eh
  refine sVal (r_assign rfl rfl) ?_
  refine s_nil ?_
  refine hK2 _ _ ?_
  refine wp_seq_k (fun K4 hK4 => ?_)
  refine wp_seq_k (fun K5 hK5 => ?_)
  refine c_region ?_
  refine sVal (r_move rfl rfl) ?_
  refine sVal (r_len rfl rfl Try.underlying22) ?_
  refine sVal (r_move rfl rfl) ?_
  refine s_nil ?_
  refine hK5 _ _ ?_
  refine wp_block ?_
  refine c_loop (9 :: 18 :: 19 :: 20 :: 21 :: 22 :: 23 :: 24 :: 25 :: []) (fun xs w => ∃ (j : Nat), xs = (xAt xs 0 :: .int .i64 (j : Int) :: xAt xs 2 :: xAt xs 3 :: xAt xs 4 :: xAt xs 5 :: xAt xs 6 :: xAt xs 7 :: xAt xs 8 :: []) ∧ j ≤ off.length ∧ Sat E (R * rL 1 intC (.slice pT 5 kT) T * rL 1 intC (.slice pL 5 kL) l * rL 1 intC (.slice pn on.length kn) on * rL 1 intC (.slice pf off.length kf) off * own bx (.cells #[.slice pT 5 kT, .slice pL 5 kL] 46 (0, 0)) * own br (.cells #[.slice none 0 0, .slice none 0 0] 46 (0, 0)) * oL 3 1 intC (.slice pv 5 kv) (offL (off.take j) l)) w) (fun xs _ => off.length - (intOf (xAt xs 1)).toNat) rfl (by rfl) ?_ ?_
  · exact ⟨0, rfl, by omega, by rw [List.take_zero, offL_nil]; exact fin1 hs (by (repeat (first | exact Cut.head _ _ | apply Cut.tail)); done) (by repeat (first | exact Keeps.refl _ | apply Keeps.tail | apply Keeps.drop))⟩
  clear hs
  rintro xs w ⟨j, hxs, hj, hs⟩
  obtain ⟨D6, hD6⟩ : ∃ D, D = xAt xs := ⟨_, rfl⟩
  rw [← hD6] at hxs
  clear hD6
  subst hxs
  refine ⟨_, rfl, fun KL7 hKL7 => ?_⟩
  refine wp_seq_k (fun K8 hK8 => ?_)
  refine c_region ?_
  refine s_bool (r_cmp rfl rfl rfl rfl) rfl rfl (fun _ => by rfl) ?_
  intro c9 hc9
  refine s_nil ?_
  refine hK8 _ _ ?_
  refine wp_seq_k (fun K10 hK10 => ?_)
  cases c9
  case false =>
   replace hc9 := decF' hc9
   try dsimp only [List.length_cons, List.length_nil] at hc9
   first
   | (exfalso; first | omega | (cases hc9; done))
   | (
     refine c_condF rfl ?_
     refine wp_exit ?_
     refine hK4 _ _ ?_
     refine wp_seq_k (fun K11 hK11 => ?_)
     refine wp_seq_k (fun K12 hK12 => ?_)
     refine c_region ?_
     refine sVal (r_move rfl rfl) ?_
     refine sVal (r_len rfl rfl Try.underlying22) ?_
     refine sVal (r_move rfl rfl) ?_
     refine s_nil ?_
     refine hK12 _ _ ?_
     refine wp_block ?_
     refine c_loop (11 :: 28 :: 29 :: 30 :: 31 :: 32 :: 33 :: 34 :: 35 :: 36 :: 37 :: 38 :: 39 :: 40 :: []) (fun xs w => ∃ (j : Nat), xs = (xAt xs 0 :: .int .i64 (j : Int) :: xAt xs 2 :: xAt xs 3 :: xAt xs 4 :: xAt xs 5 :: xAt xs 6 :: xAt xs 7 :: xAt xs 8 :: xAt xs 9 :: xAt xs 10 :: xAt xs 11 :: xAt xs 12 :: xAt xs 13 :: []) ∧ j ≤ on.length ∧ Sat E (R * rL 1 intC (.slice pT 5 kT) T * rL 1 intC (.slice pL 5 kL) l * rL 1 intC (.slice pn on.length kn) on * rL 1 intC (.slice pf off.length kf) off * own bx (.cells #[.slice pT 5 kT, .slice pL 5 kL] 46 (0, 0)) * own br (.cells #[.slice none 0 0, .slice none 0 0] 46 (0, 0)) * oL 3 1 intC (.slice pv 5 kv) (onL T (on.take j) (offL off l))) w) (fun xs _ => on.length - (intOf (xAt xs 1)).toNat) rfl (by rfl) ?_ ?_
     · (obtain rfl : j = off.length := (by omega); rw [List.take_length] at hs; exact ⟨0, rfl, by omega, by rw [List.take_zero, onL_nil]; exact fin1 hs (by (repeat (first | exact Cut.head _ _ | apply Cut.tail)); done) (by repeat (first | exact Keeps.refl _ | apply Keeps.tail | apply Keeps.drop))⟩)
     clear hs
     rintro xs w ⟨j, hxs, hj, hs⟩
     obtain ⟨D13, hD13⟩ : ∃ D, D = xAt xs := ⟨_, rfl⟩
     rw [← hD13] at hxs
     clear hD13
     subst hxs
     refine ⟨_, rfl, fun KL14 hKL14 => ?_⟩
     refine wp_seq_k (fun K15 hK15 => ?_)
     refine c_region ?_
     refine s_bool (r_cmp rfl rfl rfl rfl) rfl rfl (fun _ => by rfl) ?_
     intro c16 hc16
     refine s_nil ?_
     refine hK15 _ _ ?_
     refine wp_seq_k (fun K17 hK17 => ?_)
     cases c16
     case false =>
      replace hc16 := decF' hc16
      try dsimp only [List.length_cons, List.length_nil] at hc16
      first
      | (exfalso; first | omega | (cases hc16; done))
      | (
        refine c_condF rfl ?_
        refine wp_exit ?_
        refine hK11 _ _ ?_
        refine wp_seq_k (fun K18 hK18 => ?_)
        refine c_region ?_
        refine sVal (r_field rfl rfl of46_0) ?_
        refine sVal (r_load rfl rfl (ag22 _) hs.own (by rfl)) ?_
        refine sVal (r_move rfl rfl) ?_
        refine sVal (r_build rfl rfl pl46 zr46 (by rfl)) ?_
        refine s_exS (r_storeA rfl rfl rfl hs (by (repeat (first | exact Cut.head _ _ | apply Cut.tail)); done) in46 sz46 rfl (fun h => by cases h) rfl (by rfl)) rfl rfl ?_
        intro w hs
        refine s_nil ?_
        refine hK18 _ _ ?_
        refine wp_ret ?_
        refine f_ret (rs := [.cell 6 46]) rfl (.cell rfl (run_loadL hs.own (ag46 _) in46 sz46 (by rfl)) .nil) rfl ?_
        obtain rfl : j = on.length := by omega
        rw [List.take_length] at hs
        exact hk pv kv _ (fin1 (hs.letL (L := onL T on (offL off l)) (v := .slice pv 5 kv) (by (repeat (first | exact Cut.head _ _ | apply Cut.tail)); done)) (by (repeat (first | exact Cut.head _ _ | apply Cut.tail)); done) (by repeat (first | exact Keeps.refl _ | apply Keeps.tail | apply Keeps.drop))))
     case true =>
      replace hc16 := decT' hc16
      try dsimp only [List.length_cons, List.length_nil] at hc16
      first
      | (exfalso; first | omega | (cases hc16; done))
      | (
        refine c_condT rfl ?_
        refine wp_skip ?_
        refine hK17 _ _ ?_
        refine wp_seq_k (fun K19 hK19 => ?_)
        refine wp_block ?_
        refine wp_seq_k (fun K20 hK20 => ?_)
        refine c_region ?_
        obtain ⟨t, hx⟩ : ∃ t, on[j]? = some t := ⟨_, List.getElem?_eq_getElem (by omega)⟩
        have ht := hon t (List.mem_of_getElem? hx)
        have him : t = ((t.toNat : Nat) : Int) := by omega
        obtain ⟨u, hu⟩ := at5 (onL_len (T := T) (ts := on.take j) h5) ht
        have hlt : t.toNat < (onL T (on.take j) (offL off l)).length := (List.getElem?_eq_some_iff.1 hu).1
        obtain ⟨u2, hu2⟩ := at5 hT ht
        refine s_exQ (r_idx (f := intC) rfl rfl rfl hs.rd (rfl) (hx) Try.underlying22 in3 sz3) rfl rfl (fun _ => by rfl) ?_
        intro ad22 he21
        refine sVal (r_loadEl rfl rfl hs.rd he21 (hx) (fun _ => rfl) (ag3 _) (by rfl)) ?_
        refine sVal (r_assign rfl rfl) ?_
        refine s_nil ?_
        refine hK20 _ _ ?_
        refine c_region ?_
        refine sVal (r_move rfl rfl) ?_
        refine sVal (r_move rfl rfl) ?_
        refine sVal (r_field rfl rfl of46_0) ?_
        refine sVal (r_load rfl rfl (ag22 _) hs.own (by rfl)) ?_
        refine sVal (r_move rfl rfl) ?_
        refine s_exQ (r_idx (f := intC) rfl rfl rfl hs.rd (him) (hu2) Try.underlying22 in3 sz3) rfl rfl (fun _ => by rfl) ?_
        intro ad24 he23
        refine sVal (r_loadEl rfl rfl hs.rd he23 (hu2) (fun _ => rfl) (ag3 _) (by rfl)) ?_
        refine s_exQ (r_idx (f := intC) rfl rfl rfl hs.rd (him) (hu) Try.underlying22 in3 sz3) rfl rfl (fun _ => by rfl) ?_
        intro ad26 he25
        refine s_exS (r_storeEl (f := intC) rfl rfl rfl hs (by (repeat (first | exact Cut.head _ _ | apply Cut.tail)); done) he25 (hlt) (fun _ => rfl) rfl rfl in3 sz3) rfl rfl ?_
        intro w hs
        refine s_nil ?_
        refine hK19 _ _ ?_
        refine c_region ?_
        refine sVal (r_ari rfl rfl rfl rfl (by first | exact wrapI (by omega) | rfl)) ?_
        refine sVal (r_move rfl rfl) ?_
        refine s_nil ?_
        refine hKL14 _ _ _ (by rfl) (by rfl) ?_ ?_
        · exact ⟨j + 1, rfl, by omega, by rw [onL_next hx hu2]; exact hs⟩
        · (show _ < _; simp [intOf, xAt]; omega)))
  case true =>
   replace hc9 := decT' hc9
   try dsimp only [List.length_cons, List.length_nil] at hc9
   first
   | (exfalso; first | omega | (cases hc9; done))
   | (
     refine c_condT rfl ?_
     refine wp_skip ?_
     refine hK10 _ _ ?_
     refine wp_seq_k (fun K27 hK27 => ?_)
     refine wp_block ?_
     refine wp_seq_k (fun K28 hK28 => ?_)
     refine c_region ?_
     obtain ⟨t, hx⟩ : ∃ t, off[j]? = some t := ⟨_, List.getElem?_eq_getElem (by omega)⟩
     have ht := hoff t (List.mem_of_getElem? hx)
     have him : t = ((t.toNat : Nat) : Int) := by omega
     obtain ⟨u, hu⟩ := at5 (offL_len (ts := off.take j) hl) ht
     have hlt : t.toNat < (offL (off.take j) l).length := (List.getElem?_eq_some_iff.1 hu).1
     refine s_exQ (r_idx (f := intC) rfl rfl rfl hs.rd (rfl) (hx) Try.underlying22 in3 sz3) rfl rfl (fun _ => by rfl) ?_
     intro ad30 he29
     refine sVal (r_loadEl rfl rfl hs.rd he29 (hx) (fun _ => rfl) (ag3 _) (by rfl)) ?_
     refine sVal (r_assign rfl rfl) ?_
     refine s_nil ?_
     refine hK28 _ _ ?_
     refine c_region ?_
     refine sVal (r_move rfl rfl) ?_
     refine sVal (r_move rfl rfl) ?_
     refine s_exQ (r_idx (f := intC) rfl rfl rfl hs.rd (him) (hu) Try.underlying22 in3 sz3) rfl rfl (fun _ => by rfl) ?_
     intro ad32 he31
     refine s_exS (r_storeEl (f := intC) rfl rfl rfl hs (by (repeat (first | exact Cut.head _ _ | apply Cut.tail)); done) he31 (hlt) (fun _ => rfl) rfl rfl in3 sz3) rfl rfl ?_
     intro w hs
     refine s_nil ?_
     refine hK27 _ _ ?_
     refine c_region ?_
     refine sVal (r_ari rfl rfl rfl rfl (by first | exact wrapI (by omega) | rfl)) ?_
     refine sVal (r_move rfl rfl) ?_
     refine s_nil ?_
     refine hKL7 _ _ _ (by rfl) (by rfl) ?_ ?_
     · exact ⟨j + 1, rfl, by omega, by rw [offL_next hx]; exact hs⟩
     · (show _ < _; simp [intOf, xAt]; omega))
end
end Go.Proofs.Ytoeaamohchpjdaa
