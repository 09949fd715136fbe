/-
  No cell of these rows narrows 'for every input' (looked for: loops, veiled, ifaces, maps, wideKeys, modest, calm, conditions, laid).
  DERIVED. THE GIVEN ROWS OF THIS SEAT. 7 by the template 'for every input the law returns true; each argument reads behind the call as it read before'; 0 by the template 'total and deterministic' (their statements: YtioofhmkeajkpaaTotals.lean).
  GIVEN WITH THE SEED: the statements are not yours to turn. If you find one false, say at which input.
  Laid BY PROGRAM, IN A SANDBOX (cutbox-rows.mjs): the forced cells as the released guide's own fill.sh prints them over the translation f41a56749550043b… (all of the seat's roots in one cut). By AI agents, Wed Nov 11 2026. No macro, syntax, notation, axiom, sorry.
-/
import Derived.Test.YtioofhmkeajkpaaChecked
import GoSem.Claim
import GoSem.ClaimJoined
import GoSem.ClaimMapViews
import Derived.JoinedTies
import Derived.KernelRfl
namespace Go.Proofs.Ytioofhmkeajkpaa
/- THE CELL 'sum', in the pinned program and in every row, IS THE sha256 OF THE DUMP (.gsa) THAT YtioofhmkeajkpaaProg.lean LOADS. Nothing in Lean hashes anything: it is a label: what it is worth is what the hold of that sum in a sandbox is worth. -/
noncomputable def Try.pinned : Pinned := { name := "ytioofhmkeajkpaa", sum := "f41a56749550043b393d9c14d31bc8a1ead7230a31c6e258aac408db2158de07", checked := Try.checked }
namespace Rows
def none {H : Type} : Left H := { results := [], args := [] }

/-- 'pandectlaw30.LimitOrder': WHATEVER THE INPUT: true; the input reads as it did. -/
def limitOrderSpec : ChangeSpec := { name := "limitOrder", fn := fun _ => fun
  | [d1, d2, d3] => { results := [.lit (.bool true)], args := [d1, d2, d3] }
  | _ => none }
def limitOrderRow : OpenClaim := { program := "ytioofhmkeajkpaa", sum := "f41a56749550043b393d9c14d31bc8a1ead7230a31c6e258aac408db2158de07", func := "pandect/pandectlaw30.LimitOrder", spec := "limitOrder", unfollowed := true, recurses := true, apart := false }
def LimitOrderSaid : Prop := limitOrderRow.holds Try.pinned (OpenSpec.ofChange limitOrderSpec)

/-- ITS FALSE NEIGHBOUR: 'it returns false'. Refute it at one input. -/
def limitOrderWrong : ChangeSpec := { name := "limitOrder", fn := fun _ => fun
  | [d1, d2, d3] => { results := [.lit (.bool false)], args := [d1, d2, d3] }
  | _ => none }
def LimitOrderWrongFalsely : Prop := limitOrderRow.holds Try.pinned (OpenSpec.ofChange limitOrderWrong)

/-- 'pandectlaw30.LimitLeft': WHATEVER THE INPUT: true; the input reads as it did. -/
def limitLeftSpec : ChangeSpec := { name := "limitLeft", fn := fun _ => fun
  | [d1, d2, d3] => { results := [.lit (.bool true)], args := [d1, d2, d3] }
  | _ => none }
def limitLeftRow : OpenClaim := { program := "ytioofhmkeajkpaa", sum := "f41a56749550043b393d9c14d31bc8a1ead7230a31c6e258aac408db2158de07", func := "pandect/pandectlaw30.LimitLeft", spec := "limitLeft", unfollowed := true, recurses := true, apart := false }
def LimitLeftSaid : Prop := limitLeftRow.holds Try.pinned (OpenSpec.ofChange limitLeftSpec)

/-- ITS FALSE NEIGHBOUR: 'it returns false'. Refute it at one input. -/
def limitLeftWrong : ChangeSpec := { name := "limitLeft", fn := fun _ => fun
  | [d1, d2, d3] => { results := [.lit (.bool false)], args := [d1, d2, d3] }
  | _ => none }
def LimitLeftWrongFalsely : Prop := limitLeftRow.holds Try.pinned (OpenSpec.ofChange limitLeftWrong)

/-- 'pandectlaw30.LimitMatchesReference': WHATEVER THE INPUT: true; the input reads as it did. -/
def limitMatchesReferenceSpec : ChangeSpec := { name := "limitMatchesReference", fn := fun _ => fun
  | [d1, d2, d3, d4, d5, d6] => { results := [.lit (.bool true)], args := [d1, d2, d3, d4, d5, d6] }
  | _ => none }
def limitMatchesReferenceRow : OpenClaim := { program := "ytioofhmkeajkpaa", sum := "f41a56749550043b393d9c14d31bc8a1ead7230a31c6e258aac408db2158de07", func := "pandect/pandectlaw30.LimitMatchesReference", spec := "limitMatchesReference", unfollowed := true, recurses := true, apart := false }
def LimitMatchesReferenceSaid : Prop := limitMatchesReferenceRow.holds Try.pinned (OpenSpec.ofChange limitMatchesReferenceSpec)

/-- ITS FALSE NEIGHBOUR: 'it returns false'. Refute it at one input. -/
def limitMatchesReferenceWrong : ChangeSpec := { name := "limitMatchesReference", fn := fun _ => fun
  | [d1, d2, d3, d4, d5, d6] => { results := [.lit (.bool false)], args := [d1, d2, d3, d4, d5, d6] }
  | _ => none }
def LimitMatchesReferenceWrongFalsely : Prop := limitMatchesReferenceRow.holds Try.pinned (OpenSpec.ofChange limitMatchesReferenceWrong)

/-- 'pandectlaw30.LimitBare': WHATEVER THE INPUT: true; the input reads as it did. -/
def limitBareSpec : ChangeSpec := { name := "limitBare", fn := fun _ => fun
  | [d1, d2] => { results := [.lit (.bool true)], args := [d1, d2] }
  | _ => none }
def limitBareRow : OpenClaim := { program := "ytioofhmkeajkpaa", sum := "f41a56749550043b393d9c14d31bc8a1ead7230a31c6e258aac408db2158de07", func := "pandect/pandectlaw30.LimitBare", spec := "limitBare", unfollowed := true, recurses := true, apart := false }
def LimitBareSaid : Prop := limitBareRow.holds Try.pinned (OpenSpec.ofChange limitBareSpec)

/-- ITS FALSE NEIGHBOUR: 'it returns false'. Refute it at one input. -/
def limitBareWrong : ChangeSpec := { name := "limitBare", fn := fun _ => fun
  | [d1, d2] => { results := [.lit (.bool false)], args := [d1, d2] }
  | _ => none }
def LimitBareWrongFalsely : Prop := limitBareRow.holds Try.pinned (OpenSpec.ofChange limitBareWrong)

/-- 'pandectlaw30.LimitLast': WHATEVER THE INPUT: true; the input reads as it did. -/
def limitLastSpec : ChangeSpec := { name := "limitLast", fn := fun _ => fun
  | [d1, d2] => { results := [.lit (.bool true)], args := [d1, d2] }
  | _ => none }
def limitLastRow : OpenClaim := { program := "ytioofhmkeajkpaa", sum := "f41a56749550043b393d9c14d31bc8a1ead7230a31c6e258aac408db2158de07", func := "pandect/pandectlaw30.LimitLast", spec := "limitLast", unfollowed := true, recurses := true, apart := false }
def LimitLastSaid : Prop := limitLastRow.holds Try.pinned (OpenSpec.ofChange limitLastSpec)

/-- ITS FALSE NEIGHBOUR: 'it returns false'. Refute it at one input. -/
def limitLastWrong : ChangeSpec := { name := "limitLast", fn := fun _ => fun
  | [d1, d2] => { results := [.lit (.bool false)], args := [d1, d2] }
  | _ => none }
def LimitLastWrongFalsely : Prop := limitLastRow.holds Try.pinned (OpenSpec.ofChange limitLastWrong)

/-- 'pandectlaw30.LimitStops': WHATEVER THE INPUT: true; the input reads as it did. -/
def limitStopsSpec : ChangeSpec := { name := "limitStops", fn := fun _ => fun
  | [d1, d2, d3] => { results := [.lit (.bool true)], args := [d1, d2, d3] }
  | _ => none }
def limitStopsRow : OpenClaim := { program := "ytioofhmkeajkpaa", sum := "f41a56749550043b393d9c14d31bc8a1ead7230a31c6e258aac408db2158de07", func := "pandect/pandectlaw30.LimitStops", spec := "limitStops", unfollowed := true, recurses := true, apart := false }
def LimitStopsSaid : Prop := limitStopsRow.holds Try.pinned (OpenSpec.ofChange limitStopsSpec)

/-- ITS FALSE NEIGHBOUR: 'it returns false'. Refute it at one input. -/
def limitStopsWrong : ChangeSpec := { name := "limitStops", fn := fun _ => fun
  | [d1, d2, d3] => { results := [.lit (.bool false)], args := [d1, d2, d3] }
  | _ => none }
def LimitStopsWrongFalsely : Prop := limitStopsRow.holds Try.pinned (OpenSpec.ofChange limitStopsWrong)

/-- 'pandectlaw30.LimitAccrued': WHATEVER THE INPUT: true; the input reads as it did. -/
def limitAccruedSpec : ChangeSpec := { name := "limitAccrued", fn := fun _ => fun
  | [d1, d2, d3, d4, d5] => { results := [.lit (.bool true)], args := [d1, d2, d3, d4, d5] }
  | _ => none }
def limitAccruedRow : OpenClaim := { program := "ytioofhmkeajkpaa", sum := "f41a56749550043b393d9c14d31bc8a1ead7230a31c6e258aac408db2158de07", func := "pandect/pandectlaw30.LimitAccrued", spec := "limitAccrued", unfollowed := true, recurses := true, apart := false }
def LimitAccruedSaid : Prop := limitAccruedRow.holds Try.pinned (OpenSpec.ofChange limitAccruedSpec)

/-- ITS FALSE NEIGHBOUR: 'it returns false'. Refute it at one input. -/
def limitAccruedWrong : ChangeSpec := { name := "limitAccrued", fn := fun _ => fun
  | [d1, d2, d3, d4, d5] => { results := [.lit (.bool false)], args := [d1, d2, d3, d4, d5] }
  | _ => none }
def LimitAccruedWrongFalsely : Prop := limitAccruedRow.holds Try.pinned (OpenSpec.ofChange limitAccruedWrong)

/- THE SECOND FORM. 'bulk': how many values and letters a reading holds, each counted each time it is reached (what is shared counts as often as it is met; a slice's spare places count too). A statement '..UptoSaid' is the law's where the arguments, and the package variables that the reading takes, are together of bulk at most 1048576: NARROWER than '..Said'. Prove '..Said' where nothing that the law and all that it calls make is longer than what came in: it says more and counts as full. Else prove '..UptoSaid'. A law counts once. -/
mutual
def uptoBulk {H : Type} : DataW H → Nat
  | .lit (.string bytes) => bytes.length + 1
  | .lit _ => 1
  | .nil => 1
  | .ptr d => uptoBulk d + 1
  | .slice elems spare => uptoBulkAll elems + uptoBulkAll spare + 1
  | .agg parts => uptoBulkAll parts + 1
  | .iface _ d => uptoBulk d + 1
  | .map entries => uptoBulkEntries entries + 1
  | .held _ => 1
def uptoBulkAll {H : Type} : List (DataW H) → Nat
  | [] => 0
  | d :: r => uptoBulk d + uptoBulkAll r
def uptoBulkEntries {H : Type} : List (Lit × DataW H) → Nat
  | [] => 0
  | x :: r => uptoBulkEntry x + uptoBulkEntries r
def uptoBulkEntry {H : Type} : Lit × DataW H → Nat
  | (.string bytes, d) => bytes.length + uptoBulk d + 1
  | (_, d) => uptoBulk d + 1
 end
def uptoSmall : (H : Type) → List (DataW H) → Bool := fun _ ds => decide (uptoBulkAll ds ≤ 1048576)
def OpenSpec.upto (s : _root_.Go.ChangeSpec) : _root_.Go.OpenSpec := { _root_.Go.OpenSpec.ofChange s with cond := some uptoSmall }

/-- 'pandectlaw30.LimitOrder', WHERE WHAT IT READS IS OF BULK AT MOST 1048576: true; the input reads as it did. -/
def limitOrderUptoRow : OpenClaim := { program := "ytioofhmkeajkpaa", sum := "f41a56749550043b393d9c14d31bc8a1ead7230a31c6e258aac408db2158de07", func := "pandect/pandectlaw30.LimitOrder", spec := "limitOrder", unfollowed := true, recurses := true, apart := false, narrowed := true }
def LimitOrderUptoSaid : Prop := limitOrderUptoRow.holds Try.pinned (OpenSpec.upto limitOrderSpec)

/-- 'pandectlaw30.LimitLeft', WHERE WHAT IT READS IS OF BULK AT MOST 1048576: true; the input reads as it did. -/
def limitLeftUptoRow : OpenClaim := { program := "ytioofhmkeajkpaa", sum := "f41a56749550043b393d9c14d31bc8a1ead7230a31c6e258aac408db2158de07", func := "pandect/pandectlaw30.LimitLeft", spec := "limitLeft", unfollowed := true, recurses := true, apart := false, narrowed := true }
def LimitLeftUptoSaid : Prop := limitLeftUptoRow.holds Try.pinned (OpenSpec.upto limitLeftSpec)

/-- 'pandectlaw30.LimitMatchesReference', WHERE WHAT IT READS IS OF BULK AT MOST 1048576: true; the input reads as it did. -/
def limitMatchesReferenceUptoRow : OpenClaim := { program := "ytioofhmkeajkpaa", sum := "f41a56749550043b393d9c14d31bc8a1ead7230a31c6e258aac408db2158de07", func := "pandect/pandectlaw30.LimitMatchesReference", spec := "limitMatchesReference", unfollowed := true, recurses := true, apart := false, narrowed := true }
def LimitMatchesReferenceUptoSaid : Prop := limitMatchesReferenceUptoRow.holds Try.pinned (OpenSpec.upto limitMatchesReferenceSpec)

/-- 'pandectlaw30.LimitBare', WHERE WHAT IT READS IS OF BULK AT MOST 1048576: true; the input reads as it did. -/
def limitBareUptoRow : OpenClaim := { program := "ytioofhmkeajkpaa", sum := "f41a56749550043b393d9c14d31bc8a1ead7230a31c6e258aac408db2158de07", func := "pandect/pandectlaw30.LimitBare", spec := "limitBare", unfollowed := true, recurses := true, apart := false, narrowed := true }
def LimitBareUptoSaid : Prop := limitBareUptoRow.holds Try.pinned (OpenSpec.upto limitBareSpec)

/-- 'pandectlaw30.LimitLast', WHERE WHAT IT READS IS OF BULK AT MOST 1048576: true; the input reads as it did. -/
def limitLastUptoRow : OpenClaim := { program := "ytioofhmkeajkpaa", sum := "f41a56749550043b393d9c14d31bc8a1ead7230a31c6e258aac408db2158de07", func := "pandect/pandectlaw30.LimitLast", spec := "limitLast", unfollowed := true, recurses := true, apart := false, narrowed := true }
def LimitLastUptoSaid : Prop := limitLastUptoRow.holds Try.pinned (OpenSpec.upto limitLastSpec)

/-- 'pandectlaw30.LimitStops', WHERE WHAT IT READS IS OF BULK AT MOST 1048576: true; the input reads as it did. -/
def limitStopsUptoRow : OpenClaim := { program := "ytioofhmkeajkpaa", sum := "f41a56749550043b393d9c14d31bc8a1ead7230a31c6e258aac408db2158de07", func := "pandect/pandectlaw30.LimitStops", spec := "limitStops", unfollowed := true, recurses := true, apart := false, narrowed := true }
def LimitStopsUptoSaid : Prop := limitStopsUptoRow.holds Try.pinned (OpenSpec.upto limitStopsSpec)

/-- 'pandectlaw30.LimitAccrued', WHERE WHAT IT READS IS OF BULK AT MOST 1048576: true; the input reads as it did. -/
def limitAccruedUptoRow : OpenClaim := { program := "ytioofhmkeajkpaa", sum := "f41a56749550043b393d9c14d31bc8a1ead7230a31c6e258aac408db2158de07", func := "pandect/pandectlaw30.LimitAccrued", spec := "limitAccrued", unfollowed := true, recurses := true, apart := false, narrowed := true }
def LimitAccruedUptoSaid : Prop := limitAccruedUptoRow.holds Try.pinned (OpenSpec.upto limitAccruedSpec)

end Rows
end Go.Proofs.Ytioofhmkeajkpaa
