/-
  No cell of these rows narrows 'for every input' (looked for: loops, veiled, ifaces, maps, wideKeys, modest, calm, conditions, laid).
  DERIVED. THE GIVEN ROWS OF THIS SEAT. 8 by the template 'for every input the law returns true; each argument reads behind the call as it read before'; 0 by the template 'total and deterministic' (their statements: YtoeaamohchpjdaaTotals.lean).
  GIVEN WITH THE SEED: the statements are not yours to turn. If you find one false, say at which input.
  Laid BY PROGRAM, IN A SANDBOX (cutbox-rows.mjs): the forced cells as the released guide's own fill.sh prints them over the translation 5c9b6abd6f3b5d60… (all of the seat's roots in one cut). By AI agents, Wed Nov 11 2026. No macro, syntax, notation, axiom, sorry.
-/
import Derived.Test.YtoeaamohchpjdaaChecked
import GoSem.Claim
import GoSem.ClaimJoined
import GoSem.ClaimMapViews
import Derived.JoinedTies
import Derived.KernelRfl
namespace Go.Proofs.Ytoeaamohchpjdaa
/- THE CELL 'sum', in the pinned program and in every row, IS THE sha256 OF THE DUMP (.gsa) THAT YtoeaamohchpjdaaProg.lean LOADS. Nothing in Lean hashes anything: it is a label: what it is worth is what the hold of that sum in a sandbox is worth. -/
noncomputable def Try.pinned : Pinned := { name := "ytoeaamohchpjdaa", sum := "5c9b6abd6f3b5d60dacc362b79fc5d9f92d85dafa8a53c597a47cff5a5ad958b", checked := Try.checked }
namespace Rows
def none {H : Type} : Left H := { results := [], args := [] }

/-- 'polliwoglaw15.PaceFresh': WHATEVER THE INPUT: true; the input reads as it did. -/
def paceFreshSpec : ChangeSpec := { name := "paceFresh", fn := fun _ => fun
  | [d] => { results := [.lit (.bool true)], args := [d] }
  | _ => none }
def paceFreshRow : OpenClaim := { program := "ytoeaamohchpjdaa", sum := "5c9b6abd6f3b5d60dacc362b79fc5d9f92d85dafa8a53c597a47cff5a5ad958b", func := "polliwog/polliwoglaw15.PaceFresh", spec := "paceFresh", plainKeys := false, apart := false }
def PaceFreshSaid : Prop := paceFreshRow.holds Try.pinned (OpenSpec.ofChange paceFreshSpec)

/-- ITS FALSE NEIGHBOUR: 'it returns false'. Refute it at one input. -/
def paceFreshWrong : ChangeSpec := { name := "paceFresh", fn := fun _ => fun
  | [d] => { results := [.lit (.bool false)], args := [d] }
  | _ => none }
def PaceFreshWrongFalsely : Prop := paceFreshRow.holds Try.pinned (OpenSpec.ofChange paceFreshWrong)

/-- 'polliwoglaw15.PaceBusy': WHATEVER THE INPUT: true; the input reads as it did. -/
def paceBusySpec : ChangeSpec := { name := "paceBusy", fn := fun _ => fun
  | [d1, d2] => { results := [.lit (.bool true)], args := [d1, d2] }
  | _ => none }
def paceBusyRow : OpenClaim := { program := "ytoeaamohchpjdaa", sum := "5c9b6abd6f3b5d60dacc362b79fc5d9f92d85dafa8a53c597a47cff5a5ad958b", func := "polliwog/polliwoglaw15.PaceBusy", spec := "paceBusy", plainKeys := false, apart := false }
def PaceBusySaid : Prop := paceBusyRow.holds Try.pinned (OpenSpec.ofChange paceBusySpec)

/-- ITS FALSE NEIGHBOUR: 'it returns false'. Refute it at one input. -/
def paceBusyWrong : ChangeSpec := { name := "paceBusy", fn := fun _ => fun
  | [d1, d2] => { results := [.lit (.bool false)], args := [d1, d2] }
  | _ => none }
def PaceBusyWrongFalsely : Prop := paceBusyRow.holds Try.pinned (OpenSpec.ofChange paceBusyWrong)

/-- 'polliwoglaw15.PacePlays': WHATEVER THE INPUT: true; the input reads as it did. -/
def pacePlaysSpec : ChangeSpec := { name := "pacePlays", fn := fun _ => fun
  | [d1, d2] => { results := [.lit (.bool true)], args := [d1, d2] }
  | _ => none }
def pacePlaysRow : OpenClaim := { program := "ytoeaamohchpjdaa", sum := "5c9b6abd6f3b5d60dacc362b79fc5d9f92d85dafa8a53c597a47cff5a5ad958b", func := "polliwog/polliwoglaw15.PacePlays", spec := "pacePlays", plainKeys := false, apart := false }
def PacePlaysSaid : Prop := pacePlaysRow.holds Try.pinned (OpenSpec.ofChange pacePlaysSpec)

/-- ITS FALSE NEIGHBOUR: 'it returns false'. Refute it at one input. -/
def pacePlaysWrong : ChangeSpec := { name := "pacePlays", fn := fun _ => fun
  | [d1, d2] => { results := [.lit (.bool false)], args := [d1, d2] }
  | _ => none }
def PacePlaysWrongFalsely : Prop := pacePlaysRow.holds Try.pinned (OpenSpec.ofChange pacePlaysWrong)

/-- 'polliwoglaw15.PaceLives': WHATEVER THE INPUT: true; the input reads as it did. -/
def paceLivesSpec : ChangeSpec := { name := "paceLives", fn := fun _ => fun
  | [d1, d2, d3] => { results := [.lit (.bool true)], args := [d1, d2, d3] }
  | _ => none }
def paceLivesRow : OpenClaim := { program := "ytoeaamohchpjdaa", sum := "5c9b6abd6f3b5d60dacc362b79fc5d9f92d85dafa8a53c597a47cff5a5ad958b", func := "polliwog/polliwoglaw15.PaceLives", spec := "paceLives", plainKeys := false, apart := false }
def PaceLivesSaid : Prop := paceLivesRow.holds Try.pinned (OpenSpec.ofChange paceLivesSpec)

/-- ITS FALSE NEIGHBOUR: 'it returns false'. Refute it at one input. -/
def paceLivesWrong : ChangeSpec := { name := "paceLives", fn := fun _ => fun
  | [d1, d2, d3] => { results := [.lit (.bool false)], args := [d1, d2, d3] }
  | _ => none }
def PaceLivesWrongFalsely : Prop := paceLivesRow.holds Try.pinned (OpenSpec.ofChange paceLivesWrong)

/-- 'polliwoglaw14.ConnTwo': WHATEVER THE INPUT: true; the input reads as it did. -/
def connTwoSpec : ChangeSpec := { name := "connTwo", fn := fun _ => fun
  | [d1, d2] => { results := [.lit (.bool true)], args := [d1, d2] }
  | _ => none }
def connTwoRow : OpenClaim := { program := "ytoeaamohchpjdaa", sum := "5c9b6abd6f3b5d60dacc362b79fc5d9f92d85dafa8a53c597a47cff5a5ad958b", func := "polliwog/polliwoglaw14.ConnTwo", spec := "connTwo", unfollowed := true, recurses := true, plainKeys := false, apart := false }
def ConnTwoSaid : Prop := connTwoRow.holds Try.pinned (OpenSpec.ofChange connTwoSpec)

/-- ITS FALSE NEIGHBOUR: 'it returns false'. Refute it at one input. -/
def connTwoWrong : ChangeSpec := { name := "connTwo", fn := fun _ => fun
  | [d1, d2] => { results := [.lit (.bool false)], args := [d1, d2] }
  | _ => none }
def ConnTwoWrongFalsely : Prop := connTwoRow.holds Try.pinned (OpenSpec.ofChange connTwoWrong)

/-- 'polliwoglaw14.ConnNumbers': WHATEVER THE INPUT: true; the input reads as it did. -/
def connNumbersSpec : ChangeSpec := { name := "connNumbers", fn := fun _ => fun
  | [d] => { results := [.lit (.bool true)], args := [d] }
  | _ => none }
def connNumbersRow : OpenClaim := { program := "ytoeaamohchpjdaa", sum := "5c9b6abd6f3b5d60dacc362b79fc5d9f92d85dafa8a53c597a47cff5a5ad958b", func := "polliwog/polliwoglaw14.ConnNumbers", spec := "connNumbers", unfollowed := true, recurses := true, plainKeys := false, apart := false }
def ConnNumbersSaid : Prop := connNumbersRow.holds Try.pinned (OpenSpec.ofChange connNumbersSpec)

/-- ITS FALSE NEIGHBOUR: 'it returns false'. Refute it at one input. -/
def connNumbersWrong : ChangeSpec := { name := "connNumbers", fn := fun _ => fun
  | [d] => { results := [.lit (.bool false)], args := [d] }
  | _ => none }
def ConnNumbersWrongFalsely : Prop := connNumbersRow.holds Try.pinned (OpenSpec.ofChange connNumbersWrong)

/-- 'polliwoglaw14.ConnGives': WHATEVER THE INPUT: true; the input reads as it did. -/
def connGivesSpec : ChangeSpec := { name := "connGives", fn := fun _ => fun
  | [d1, d2, d3] => { results := [.lit (.bool true)], args := [d1, d2, d3] }
  | _ => none }
def connGivesRow : OpenClaim := { program := "ytoeaamohchpjdaa", sum := "5c9b6abd6f3b5d60dacc362b79fc5d9f92d85dafa8a53c597a47cff5a5ad958b", func := "polliwog/polliwoglaw14.ConnGives", spec := "connGives", unfollowed := true, recurses := true, plainKeys := false, apart := false }
def ConnGivesSaid : Prop := connGivesRow.holds Try.pinned (OpenSpec.ofChange connGivesSpec)

/-- ITS FALSE NEIGHBOUR: 'it returns false'. Refute it at one input. -/
def connGivesWrong : ChangeSpec := { name := "connGives", fn := fun _ => fun
  | [d1, d2, d3] => { results := [.lit (.bool false)], args := [d1, d2, d3] }
  | _ => none }
def ConnGivesWrongFalsely : Prop := connGivesRow.holds Try.pinned (OpenSpec.ofChange connGivesWrong)

/-- 'polliwoglaw14.ConnFails': WHATEVER THE INPUT: true; the input reads as it did. -/
def connFailsSpec : ChangeSpec := { name := "connFails", fn := fun _ => fun
  | [d1, d2] => { results := [.lit (.bool true)], args := [d1, d2] }
  | _ => none }
def connFailsRow : OpenClaim := { program := "ytoeaamohchpjdaa", sum := "5c9b6abd6f3b5d60dacc362b79fc5d9f92d85dafa8a53c597a47cff5a5ad958b", func := "polliwog/polliwoglaw14.ConnFails", spec := "connFails", unfollowed := true, recurses := true, plainKeys := false, apart := false }
def ConnFailsSaid : Prop := connFailsRow.holds Try.pinned (OpenSpec.ofChange connFailsSpec)

/-- ITS FALSE NEIGHBOUR: 'it returns false'. Refute it at one input. -/
def connFailsWrong : ChangeSpec := { name := "connFails", fn := fun _ => fun
  | [d1, d2] => { results := [.lit (.bool false)], args := [d1, d2] }
  | _ => none }
def ConnFailsWrongFalsely : Prop := connFailsRow.holds Try.pinned (OpenSpec.ofChange connFailsWrong)

/- THE SECOND FORM. 'bulk': how many values and letters a reading holds, each counted each time it is reached (what is shared counts as often as it is met; a slice's spare places count too). A statement '..UptoSaid' is the law's where the arguments, and the package variables that the reading takes, are together of bulk at most 1048576: NARROWER than '..Said'. Prove '..Said' where nothing that the law and all that it calls make is longer than what came in: it says more and counts as full. Else prove '..UptoSaid'. A law counts once. -/
mutual
def uptoBulk {H : Type} : DataW H → Nat
  | .lit (.string bytes) => bytes.length + 1
  | .lit _ => 1
  | .nil => 1
  | .ptr d => uptoBulk d + 1
  | .slice elems spare => uptoBulkAll elems + uptoBulkAll spare + 1
  | .agg parts => uptoBulkAll parts + 1
  | .iface _ d => uptoBulk d + 1
  | .map entries => uptoBulkEntries entries + 1
  | .held _ => 1
def uptoBulkAll {H : Type} : List (DataW H) → Nat
  | [] => 0
  | d :: r => uptoBulk d + uptoBulkAll r
def uptoBulkEntries {H : Type} : List (Lit × DataW H) → Nat
  | [] => 0
  | x :: r => uptoBulkEntry x + uptoBulkEntries r
def uptoBulkEntry {H : Type} : Lit × DataW H → Nat
  | (.string bytes, d) => bytes.length + uptoBulk d + 1
  | (_, d) => uptoBulk d + 1
 end
def uptoSmall : (H : Type) → List (DataW H) → Bool := fun _ ds => decide (uptoBulkAll ds ≤ 1048576)
def OpenSpec.upto (s : _root_.Go.ChangeSpec) : _root_.Go.OpenSpec := { _root_.Go.OpenSpec.ofChange s with cond := some uptoSmall }

/-- 'polliwoglaw15.PaceFresh', WHERE WHAT IT READS IS OF BULK AT MOST 1048576: true; the input reads as it did. -/
def paceFreshUptoRow : OpenClaim := { program := "ytoeaamohchpjdaa", sum := "5c9b6abd6f3b5d60dacc362b79fc5d9f92d85dafa8a53c597a47cff5a5ad958b", func := "polliwog/polliwoglaw15.PaceFresh", spec := "paceFresh", plainKeys := false, apart := false, narrowed := true }
def PaceFreshUptoSaid : Prop := paceFreshUptoRow.holds Try.pinned (OpenSpec.upto paceFreshSpec)

/-- 'polliwoglaw15.PaceBusy', WHERE WHAT IT READS IS OF BULK AT MOST 1048576: true; the input reads as it did. -/
def paceBusyUptoRow : OpenClaim := { program := "ytoeaamohchpjdaa", sum := "5c9b6abd6f3b5d60dacc362b79fc5d9f92d85dafa8a53c597a47cff5a5ad958b", func := "polliwog/polliwoglaw15.PaceBusy", spec := "paceBusy", plainKeys := false, apart := false, narrowed := true }
def PaceBusyUptoSaid : Prop := paceBusyUptoRow.holds Try.pinned (OpenSpec.upto paceBusySpec)

/-- 'polliwoglaw15.PacePlays', WHERE WHAT IT READS IS OF BULK AT MOST 1048576: true; the input reads as it did. -/
def pacePlaysUptoRow : OpenClaim := { program := "ytoeaamohchpjdaa", sum := "5c9b6abd6f3b5d60dacc362b79fc5d9f92d85dafa8a53c597a47cff5a5ad958b", func := "polliwog/polliwoglaw15.PacePlays", spec := "pacePlays", plainKeys := false, apart := false, narrowed := true }
def PacePlaysUptoSaid : Prop := pacePlaysUptoRow.holds Try.pinned (OpenSpec.upto pacePlaysSpec)

/-- 'polliwoglaw15.PaceLives', WHERE WHAT IT READS IS OF BULK AT MOST 1048576: true; the input reads as it did. -/
def paceLivesUptoRow : OpenClaim := { program := "ytoeaamohchpjdaa", sum := "5c9b6abd6f3b5d60dacc362b79fc5d9f92d85dafa8a53c597a47cff5a5ad958b", func := "polliwog/polliwoglaw15.PaceLives", spec := "paceLives", plainKeys := false, apart := false, narrowed := true }
def PaceLivesUptoSaid : Prop := paceLivesUptoRow.holds Try.pinned (OpenSpec.upto paceLivesSpec)

/-- 'polliwoglaw14.ConnTwo', WHERE WHAT IT READS IS OF BULK AT MOST 1048576: true; the input reads as it did. -/
def connTwoUptoRow : OpenClaim := { program := "ytoeaamohchpjdaa", sum := "5c9b6abd6f3b5d60dacc362b79fc5d9f92d85dafa8a53c597a47cff5a5ad958b", func := "polliwog/polliwoglaw14.ConnTwo", spec := "connTwo", unfollowed := true, recurses := true, plainKeys := false, apart := false, narrowed := true }
def ConnTwoUptoSaid : Prop := connTwoUptoRow.holds Try.pinned (OpenSpec.upto connTwoSpec)

/-- 'polliwoglaw14.ConnNumbers', WHERE WHAT IT READS IS OF BULK AT MOST 1048576: true; the input reads as it did. -/
def connNumbersUptoRow : OpenClaim := { program := "ytoeaamohchpjdaa", sum := "5c9b6abd6f3b5d60dacc362b79fc5d9f92d85dafa8a53c597a47cff5a5ad958b", func := "polliwog/polliwoglaw14.ConnNumbers", spec := "connNumbers", unfollowed := true, recurses := true, plainKeys := false, apart := false, narrowed := true }
def ConnNumbersUptoSaid : Prop := connNumbersUptoRow.holds Try.pinned (OpenSpec.upto connNumbersSpec)

/-- 'polliwoglaw14.ConnGives', WHERE WHAT IT READS IS OF BULK AT MOST 1048576: true; the input reads as it did. -/
def connGivesUptoRow : OpenClaim := { program := "ytoeaamohchpjdaa", sum := "5c9b6abd6f3b5d60dacc362b79fc5d9f92d85dafa8a53c597a47cff5a5ad958b", func := "polliwog/polliwoglaw14.ConnGives", spec := "connGives", unfollowed := true, recurses := true, plainKeys := false, apart := false, narrowed := true }
def ConnGivesUptoSaid : Prop := connGivesUptoRow.holds Try.pinned (OpenSpec.upto connGivesSpec)

/-- 'polliwoglaw14.ConnFails', WHERE WHAT IT READS IS OF BULK AT MOST 1048576: true; the input reads as it did. -/
def connFailsUptoRow : OpenClaim := { program := "ytoeaamohchpjdaa", sum := "5c9b6abd6f3b5d60dacc362b79fc5d9f92d85dafa8a53c597a47cff5a5ad958b", func := "polliwog/polliwoglaw14.ConnFails", spec := "connFails", unfollowed := true, recurses := true, plainKeys := false, apart := false, narrowed := true }
def ConnFailsUptoSaid : Prop := connFailsUptoRow.holds Try.pinned (OpenSpec.upto connFailsSpec)

end Rows
end Go.Proofs.Ytoeaamohchpjdaa
