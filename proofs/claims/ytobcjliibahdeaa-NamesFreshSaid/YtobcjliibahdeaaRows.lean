/-
  No cell of these rows narrows 'for every input' (looked for: loops, veiled, ifaces, maps, wideKeys, modest, calm, conditions, laid).
  DERIVED. THE GIVEN ROWS OF THIS SEAT. 3 by the template 'for every input the law returns true; each argument reads behind the call as it read before'; 0 by the template 'total and deterministic' (their statements: YtobcjliibahdeaaTotals.lean).
  GIVEN WITH THE SEED: the statements are not yours to turn. If you find one false, say at which input.
  Laid BY PROGRAM, IN A SANDBOX (cutbox-rows.mjs): the forced cells as the released guide's own fill.sh prints them over the translation 38004d104b8a27a3… (all of the seat's roots in one cut). By AI agents, Wed Nov 11 2026. No macro, syntax, notation, axiom, sorry.
-/
import Derived.Test.YtobcjliibahdeaaChecked
import GoSem.Claim
import GoSem.ClaimJoined
import GoSem.ClaimMapViews
import Derived.JoinedTies
import Derived.KernelRfl
namespace Go.Proofs.Ytobcjliibahdeaa
/- THE CELL 'sum', in the pinned program and in every row, IS THE sha256 OF THE DUMP (.gsa) THAT YtobcjliibahdeaaProg.lean LOADS. Nothing in Lean hashes anything: it is a label: what it is worth is what the hold of that sum in a sandbox is worth. -/
noncomputable def Try.pinned : Pinned := { name := "ytobcjliibahdeaa", sum := "38004d104b8a27a38ff56cf76f6776f8297a7b39587bf0386a54874659e751df", checked := Try.checked }
namespace Rows
def none {H : Type} : Left H := { results := [], args := [] }

/-- 'inlaylaw05.NamesMay': WHATEVER THE INPUT: true; the input reads as it did. -/
def namesMaySpec : ChangeSpec := { name := "namesMay", fn := fun _ => fun
  | [d] => { results := [.lit (.bool true)], args := [d] }
  | _ => none }
def namesMayRow : OpenClaim := { program := "ytobcjliibahdeaa", sum := "38004d104b8a27a38ff56cf76f6776f8297a7b39587bf0386a54874659e751df", func := "inlay/inlaylaw05.NamesMay", spec := "namesMay", apart := false }
def NamesMaySaid : Prop := namesMayRow.holds Try.pinned (OpenSpec.ofChange namesMaySpec)

/-- ITS FALSE NEIGHBOUR: 'it returns false'. Refute it at one input. -/
def namesMayWrong : ChangeSpec := { name := "namesMay", fn := fun _ => fun
  | [d] => { results := [.lit (.bool false)], args := [d] }
  | _ => none }
def NamesMayWrongFalsely : Prop := namesMayRow.holds Try.pinned (OpenSpec.ofChange namesMayWrong)

/-- 'inlaylaw05.NamesFind': WHATEVER THE INPUT: true; the input reads as it did. -/
def namesFindSpec : ChangeSpec := { name := "namesFind", fn := fun _ => fun
  | [d1, d2] => { results := [.lit (.bool true)], args := [d1, d2] }
  | _ => none }
def namesFindRow : OpenClaim := { program := "ytobcjliibahdeaa", sum := "38004d104b8a27a38ff56cf76f6776f8297a7b39587bf0386a54874659e751df", func := "inlay/inlaylaw05.NamesFind", spec := "namesFind", apart := false }
def NamesFindSaid : Prop := namesFindRow.holds Try.pinned (OpenSpec.ofChange namesFindSpec)

/-- ITS FALSE NEIGHBOUR: 'it returns false'. Refute it at one input. -/
def namesFindWrong : ChangeSpec := { name := "namesFind", fn := fun _ => fun
  | [d1, d2] => { results := [.lit (.bool false)], args := [d1, d2] }
  | _ => none }
def NamesFindWrongFalsely : Prop := namesFindRow.holds Try.pinned (OpenSpec.ofChange namesFindWrong)

/-- 'inlaylaw05.NamesFresh': WHATEVER THE INPUT: true; the input reads as it did. -/
def namesFreshSpec : ChangeSpec := { name := "namesFresh", fn := fun _ => fun
  | [d1, d2] => { results := [.lit (.bool true)], args := [d1, d2] }
  | _ => none }
def namesFreshRow : OpenClaim := { program := "ytobcjliibahdeaa", sum := "38004d104b8a27a38ff56cf76f6776f8297a7b39587bf0386a54874659e751df", func := "inlay/inlaylaw05.NamesFresh", spec := "namesFresh", recurses := true, apart := false }
def NamesFreshSaid : Prop := namesFreshRow.holds Try.pinned (OpenSpec.ofChange namesFreshSpec)

/-- ITS FALSE NEIGHBOUR: 'it returns false'. Refute it at one input. -/
def namesFreshWrong : ChangeSpec := { name := "namesFresh", fn := fun _ => fun
  | [d1, d2] => { results := [.lit (.bool false)], args := [d1, d2] }
  | _ => none }
def NamesFreshWrongFalsely : Prop := namesFreshRow.holds Try.pinned (OpenSpec.ofChange namesFreshWrong)

/- THE SECOND FORM. 'bulk': how many values and letters a reading holds, each counted each time it is reached (what is shared counts as often as it is met; a slice's spare places count too). A statement '..UptoSaid' is the law's where the arguments, and the package variables that the reading takes, are together of bulk at most 1048576: NARROWER than '..Said'. Prove '..Said' where nothing that the law and all that it calls make is longer than what came in: it says more and counts as full. Else prove '..UptoSaid'. A law counts once. -/
mutual
def uptoBulk {H : Type} : DataW H → Nat
  | .lit (.string bytes) => bytes.length + 1
  | .lit _ => 1
  | .nil => 1
  | .ptr d => uptoBulk d + 1
  | .slice elems spare => uptoBulkAll elems + uptoBulkAll spare + 1
  | .agg parts => uptoBulkAll parts + 1
  | .iface _ d => uptoBulk d + 1
  | .map entries => uptoBulkEntries entries + 1
  | .held _ => 1
def uptoBulkAll {H : Type} : List (DataW H) → Nat
  | [] => 0
  | d :: r => uptoBulk d + uptoBulkAll r
def uptoBulkEntries {H : Type} : List (Lit × DataW H) → Nat
  | [] => 0
  | x :: r => uptoBulkEntry x + uptoBulkEntries r
def uptoBulkEntry {H : Type} : Lit × DataW H → Nat
  | (.string bytes, d) => bytes.length + uptoBulk d + 1
  | (_, d) => uptoBulk d + 1
 end
def uptoSmall : (H : Type) → List (DataW H) → Bool := fun _ ds => decide (uptoBulkAll ds ≤ 1048576)
def OpenSpec.upto (s : _root_.Go.ChangeSpec) : _root_.Go.OpenSpec := { _root_.Go.OpenSpec.ofChange s with cond := some uptoSmall }

/-- 'inlaylaw05.NamesMay', WHERE WHAT IT READS IS OF BULK AT MOST 1048576: true; the input reads as it did. -/
def namesMayUptoRow : OpenClaim := { program := "ytobcjliibahdeaa", sum := "38004d104b8a27a38ff56cf76f6776f8297a7b39587bf0386a54874659e751df", func := "inlay/inlaylaw05.NamesMay", spec := "namesMay", apart := false, narrowed := true }
def NamesMayUptoSaid : Prop := namesMayUptoRow.holds Try.pinned (OpenSpec.upto namesMaySpec)

/-- 'inlaylaw05.NamesFind', WHERE WHAT IT READS IS OF BULK AT MOST 1048576: true; the input reads as it did. -/
def namesFindUptoRow : OpenClaim := { program := "ytobcjliibahdeaa", sum := "38004d104b8a27a38ff56cf76f6776f8297a7b39587bf0386a54874659e751df", func := "inlay/inlaylaw05.NamesFind", spec := "namesFind", apart := false, narrowed := true }
def NamesFindUptoSaid : Prop := namesFindUptoRow.holds Try.pinned (OpenSpec.upto namesFindSpec)

/-- 'inlaylaw05.NamesFresh', WHERE WHAT IT READS IS OF BULK AT MOST 1048576: true; the input reads as it did. -/
def namesFreshUptoRow : OpenClaim := { program := "ytobcjliibahdeaa", sum := "38004d104b8a27a38ff56cf76f6776f8297a7b39587bf0386a54874659e751df", func := "inlay/inlaylaw05.NamesFresh", spec := "namesFresh", recurses := true, apart := false, narrowed := true }
def NamesFreshUptoSaid : Prop := namesFreshUptoRow.holds Try.pinned (OpenSpec.upto namesFreshSpec)

end Rows
end Go.Proofs.Ytobcjliibahdeaa
