/-
  No cell of these rows narrows 'for every input' (looked for: loops, veiled, ifaces, maps, wideKeys, modest, calm, conditions, laid).
  DERIVED. THE GIVEN ROWS OF THIS SEAT. 2 by the template 'for every input the law returns true; each argument reads behind the call as it read before'; 0 by the template 'total and deterministic' (their statements: YtmjpjjnhlgidcaaTotals.lean).
  GIVEN WITH THE SEED: the statements are not yours to turn. If you find one false, say at which input.
  Laid BY PROGRAM, IN A SANDBOX (cutbox-rows.mjs): the forced cells as the released guide's own fill.sh prints them over the translation 2eccc14e8ce82bd6… (all of the seat's roots in one cut). By AI agents, Wed Nov 11 2026. No macro, syntax, notation, axiom, sorry.
-/
import Derived.Test.YtmjpjjnhlgidcaaChecked
import GoSem.Claim
import GoSem.ClaimJoined
import GoSem.ClaimMapViews
import Derived.JoinedTies
import Derived.KernelRfl
namespace Go.Proofs.Ytmjpjjnhlgidcaa
/- THE CELL 'sum', in the pinned program and in every row, IS THE sha256 OF THE DUMP (.gsa) THAT YtmjpjjnhlgidcaaProg.lean LOADS. Nothing in Lean hashes anything: it is a label: what it is worth is what the hold of that sum in a sandbox is worth. -/
noncomputable def Try.pinned : Pinned := { name := "ytmjpjjnhlgidcaa", sum := "2eccc14e8ce82bd6a93cf279539e7ccd5d208db33abb92e888aec6d2b00c8846", checked := Try.checked }
namespace Rows
def none {H : Type} : Left H := { results := [], args := [] }

/-- 'burgagelaw15.LoadRuns': WHATEVER THE INPUT: true; the input reads as it did. -/
def loadRunsSpec : ChangeSpec := { name := "loadRuns", fn := fun _ => fun
  | [d] => { results := [.lit (.bool true)], args := [d] }
  | _ => none }
def loadRunsRow : OpenClaim := { program := "ytmjpjjnhlgidcaa", sum := "2eccc14e8ce82bd6a93cf279539e7ccd5d208db33abb92e888aec6d2b00c8846", func := "burgage/burgagelaw15.LoadRuns", spec := "loadRuns", inPlace := ["math.Float64frombits", "math.Float64bits"], unfollowed := true, recurses := true, apart := false }
def LoadRunsSaid : Prop := loadRunsRow.holds Try.pinned (OpenSpec.ofChange loadRunsSpec)

/-- ITS FALSE NEIGHBOUR: 'it returns false'. Refute it at one input. -/
def loadRunsWrong : ChangeSpec := { name := "loadRuns", fn := fun _ => fun
  | [d] => { results := [.lit (.bool false)], args := [d] }
  | _ => none }
def LoadRunsWrongFalsely : Prop := loadRunsRow.holds Try.pinned (OpenSpec.ofChange loadRunsWrong)

/-- 'burgagelaw15.LoadSmall': WHATEVER THE INPUT: true; the input reads as it did. -/
def loadSmallSpec : ChangeSpec := { name := "loadSmall", fn := fun _ => fun
  | [] => { results := [.lit (.bool true)], args := [] }
  | _ => none }
def loadSmallRow : OpenClaim := { program := "ytmjpjjnhlgidcaa", sum := "2eccc14e8ce82bd6a93cf279539e7ccd5d208db33abb92e888aec6d2b00c8846", func := "burgage/burgagelaw15.LoadSmall", spec := "loadSmall", inPlace := ["math.Float64frombits", "math.Float64bits"], unfollowed := true, recurses := true, apart := false }
def LoadSmallSaid : Prop := loadSmallRow.holds Try.pinned (OpenSpec.ofChange loadSmallSpec)

/-- ITS FALSE NEIGHBOUR: 'it returns false'. Refute it at one input. -/
def loadSmallWrong : ChangeSpec := { name := "loadSmall", fn := fun _ => fun
  | [] => { results := [.lit (.bool false)], args := [] }
  | _ => none }
def LoadSmallWrongFalsely : Prop := loadSmallRow.holds Try.pinned (OpenSpec.ofChange loadSmallWrong)

/- THE SECOND FORM. 'bulk': how many values and letters a reading holds, each counted each time it is reached (what is shared counts as often as it is met; a slice's spare places count too). A statement '..UptoSaid' is the law's where the arguments, and the package variables that the reading takes, are together of bulk at most 1048576: NARROWER than '..Said'. Prove '..Said' where nothing that the law and all that it calls make is longer than what came in: it says more and counts as full. Else prove '..UptoSaid'. A law counts once. -/
mutual
def uptoBulk {H : Type} : DataW H → Nat
  | .lit (.string bytes) => bytes.length + 1
  | .lit _ => 1
  | .nil => 1
  | .ptr d => uptoBulk d + 1
  | .slice elems spare => uptoBulkAll elems + uptoBulkAll spare + 1
  | .agg parts => uptoBulkAll parts + 1
  | .iface _ d => uptoBulk d + 1
  | .map entries => uptoBulkEntries entries + 1
  | .held _ => 1
def uptoBulkAll {H : Type} : List (DataW H) → Nat
  | [] => 0
  | d :: r => uptoBulk d + uptoBulkAll r
def uptoBulkEntries {H : Type} : List (Lit × DataW H) → Nat
  | [] => 0
  | x :: r => uptoBulkEntry x + uptoBulkEntries r
def uptoBulkEntry {H : Type} : Lit × DataW H → Nat
  | (.string bytes, d) => bytes.length + uptoBulk d + 1
  | (_, d) => uptoBulk d + 1
 end
def uptoSmall : (H : Type) → List (DataW H) → Bool := fun _ ds => decide (uptoBulkAll ds ≤ 1048576)
def OpenSpec.upto (s : _root_.Go.ChangeSpec) : _root_.Go.OpenSpec := { _root_.Go.OpenSpec.ofChange s with cond := some uptoSmall }

/-- 'burgagelaw15.LoadRuns', WHERE WHAT IT READS IS OF BULK AT MOST 1048576: true; the input reads as it did. -/
def loadRunsUptoRow : OpenClaim := { program := "ytmjpjjnhlgidcaa", sum := "2eccc14e8ce82bd6a93cf279539e7ccd5d208db33abb92e888aec6d2b00c8846", func := "burgage/burgagelaw15.LoadRuns", spec := "loadRuns", inPlace := ["math.Float64frombits", "math.Float64bits"], unfollowed := true, recurses := true, apart := false, narrowed := true }
def LoadRunsUptoSaid : Prop := loadRunsUptoRow.holds Try.pinned (OpenSpec.upto loadRunsSpec)

/-- 'burgagelaw15.LoadSmall', WHERE WHAT IT READS IS OF BULK AT MOST 1048576: true; the input reads as it did. -/
def loadSmallUptoRow : OpenClaim := { program := "ytmjpjjnhlgidcaa", sum := "2eccc14e8ce82bd6a93cf279539e7ccd5d208db33abb92e888aec6d2b00c8846", func := "burgage/burgagelaw15.LoadSmall", spec := "loadSmall", inPlace := ["math.Float64frombits", "math.Float64bits"], unfollowed := true, recurses := true, apart := false, narrowed := true }
def LoadSmallUptoSaid : Prop := loadSmallUptoRow.holds Try.pinned (OpenSpec.upto loadSmallSpec)

end Rows
end Go.Proofs.Ytmjpjjnhlgidcaa
