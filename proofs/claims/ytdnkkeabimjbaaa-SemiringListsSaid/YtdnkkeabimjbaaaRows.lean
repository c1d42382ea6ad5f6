/-
  No cell of these rows narrows 'for every input' (looked for: loops, veiled, ifaces, maps, wideKeys, modest, calm, conditions, laid).
  DERIVED. THE GIVEN ROWS OF THIS SEAT. 8 by the template 'for every input the law returns true; each argument reads behind the call as it read before'; 0 by the template 'total and deterministic' (their statements: YtdnkkeabimjbaaaTotals.lean).
  GIVEN WITH THE SEED: the statements are not yours to turn. If you find one false, say at which input.
  Laid BY PROGRAM, IN A SANDBOX (cutbox-rows.mjs): the forced cells as the released guide's own fill.sh prints them over the translation 9c0fe6bae7e65eb1… (all of the seat's roots in one cut). By AI agents, Wed Nov 11 2026. No macro, syntax, notation, axiom, sorry.
-/
import Derived.Test.YtdnkkeabimjbaaaChecked
import GoSem.Claim
import GoSem.ClaimJoined
import GoSem.ClaimMapViews
import Derived.JoinedTies
import Derived.KernelRfl
namespace Go.Proofs.Ytdnkkeabimjbaaa
/- THE CELL 'sum', in the pinned program and in every row, IS THE sha256 OF THE DUMP (.gsa) THAT YtdnkkeabimjbaaaProg.lean LOADS. Nothing in Lean hashes anything: it is a label: what it is worth is what the hold of that sum in a sandbox is worth. -/
noncomputable def Try.pinned : Pinned := { name := "ytdnkkeabimjbaaa", sum := "9c0fe6bae7e65eb1e53c97ec712beff732a461478592d9d6c00d8958d79d3e63", checked := Try.checked }
namespace Rows
def none {H : Type} : Left H := { results := [], args := [] }

/-- 'emendatelaw26.SemiringLexicographic': WHATEVER THE INPUT: true; the input reads as it did. -/
def semiringLexicographicSpec : ChangeSpec := { name := "semiringLexicographic", fn := fun _ => fun
  | [d1, d2] => { results := [.lit (.bool true)], args := [d1, d2] }
  | _ => none }
def semiringLexicographicRow : OpenClaim := { program := "ytdnkkeabimjbaaa", sum := "9c0fe6bae7e65eb1e53c97ec712beff732a461478592d9d6c00d8958d79d3e63", func := "emendate/emendatelaw26.SemiringLexicographic", spec := "semiringLexicographic", unfollowed := true, recurses := true, apart := false }
def SemiringLexicographicSaid : Prop := semiringLexicographicRow.holds Try.pinned (OpenSpec.ofChange semiringLexicographicSpec)

/-- ITS FALSE NEIGHBOUR: 'it returns false'. Refute it at one input. -/
def semiringLexicographicWrong : ChangeSpec := { name := "semiringLexicographic", fn := fun _ => fun
  | [d1, d2] => { results := [.lit (.bool false)], args := [d1, d2] }
  | _ => none }
def SemiringLexicographicWrongFalsely : Prop := semiringLexicographicRow.holds Try.pinned (OpenSpec.ofChange semiringLexicographicWrong)

/-- 'emendatelaw26.SemiringLists': WHATEVER THE INPUT: true; the input reads as it did. -/
def semiringListsSpec : ChangeSpec := { name := "semiringLists", fn := fun _ => fun
  | [d1, d2] => { results := [.lit (.bool true)], args := [d1, d2] }
  | _ => none }
def semiringListsRow : OpenClaim := { program := "ytdnkkeabimjbaaa", sum := "9c0fe6bae7e65eb1e53c97ec712beff732a461478592d9d6c00d8958d79d3e63", func := "emendate/emendatelaw26.SemiringLists", spec := "semiringLists", unfollowed := true, recurses := true, apart := false }
def SemiringListsSaid : Prop := semiringListsRow.holds Try.pinned (OpenSpec.ofChange semiringListsSpec)

/-- ITS FALSE NEIGHBOUR: 'it returns false'. Refute it at one input. -/
def semiringListsWrong : ChangeSpec := { name := "semiringLists", fn := fun _ => fun
  | [d1, d2] => { results := [.lit (.bool false)], args := [d1, d2] }
  | _ => none }
def SemiringListsWrongFalsely : Prop := semiringListsRow.holds Try.pinned (OpenSpec.ofChange semiringListsWrong)

/-- 'emendatelaw26.SemiringIntAxioms': WHATEVER THE INPUT: true; the input reads as it did. -/
def semiringIntAxiomsSpec : ChangeSpec := { name := "semiringIntAxioms", fn := fun _ => fun
  | [d1, d2, d3] => { results := [.lit (.bool true)], args := [d1, d2, d3] }
  | _ => none }
def semiringIntAxiomsRow : OpenClaim := { program := "ytdnkkeabimjbaaa", sum := "9c0fe6bae7e65eb1e53c97ec712beff732a461478592d9d6c00d8958d79d3e63", func := "emendate/emendatelaw26.SemiringIntAxioms", spec := "semiringIntAxioms", unfollowed := true, recurses := true, apart := false }
def SemiringIntAxiomsSaid : Prop := semiringIntAxiomsRow.holds Try.pinned (OpenSpec.ofChange semiringIntAxiomsSpec)

/-- ITS FALSE NEIGHBOUR: 'it returns false'. Refute it at one input. -/
def semiringIntAxiomsWrong : ChangeSpec := { name := "semiringIntAxioms", fn := fun _ => fun
  | [d1, d2, d3] => { results := [.lit (.bool false)], args := [d1, d2, d3] }
  | _ => none }
def SemiringIntAxiomsWrongFalsely : Prop := semiringIntAxiomsRow.holds Try.pinned (OpenSpec.ofChange semiringIntAxiomsWrong)

/-- 'emendatelaw26.SemiringValueAxioms': WHATEVER THE INPUT: true; the input reads as it did. -/
def semiringValueAxiomsSpec : ChangeSpec := { name := "semiringValueAxioms", fn := fun _ => fun
  | [d1, d2, d3] => { results := [.lit (.bool true)], args := [d1, d2, d3] }
  | _ => none }
def semiringValueAxiomsRow : OpenClaim := { program := "ytdnkkeabimjbaaa", sum := "9c0fe6bae7e65eb1e53c97ec712beff732a461478592d9d6c00d8958d79d3e63", func := "emendate/emendatelaw26.SemiringValueAxioms", spec := "semiringValueAxioms", unfollowed := true, recurses := true, apart := false }
def SemiringValueAxiomsSaid : Prop := semiringValueAxiomsRow.holds Try.pinned (OpenSpec.ofChange semiringValueAxiomsSpec)

/-- ITS FALSE NEIGHBOUR: 'it returns false'. Refute it at one input. -/
def semiringValueAxiomsWrong : ChangeSpec := { name := "semiringValueAxioms", fn := fun _ => fun
  | [d1, d2, d3] => { results := [.lit (.bool false)], args := [d1, d2, d3] }
  | _ => none }
def SemiringValueAxiomsWrongFalsely : Prop := semiringValueAxiomsRow.holds Try.pinned (OpenSpec.ofChange semiringValueAxiomsWrong)

/-- 'emendatelaw26.SemiringBoolean': WHATEVER THE INPUT: true; the input reads as it did. -/
def semiringBooleanSpec : ChangeSpec := { name := "semiringBoolean", fn := fun _ => fun
  | [d1, d2, d3] => { results := [.lit (.bool true)], args := [d1, d2, d3] }
  | _ => none }
def semiringBooleanRow : OpenClaim := { program := "ytdnkkeabimjbaaa", sum := "9c0fe6bae7e65eb1e53c97ec712beff732a461478592d9d6c00d8958d79d3e63", func := "emendate/emendatelaw26.SemiringBoolean", spec := "semiringBoolean", unfollowed := true, recurses := true, apart := false }
def SemiringBooleanSaid : Prop := semiringBooleanRow.holds Try.pinned (OpenSpec.ofChange semiringBooleanSpec)

/-- ITS FALSE NEIGHBOUR: 'it returns false'. Refute it at one input. -/
def semiringBooleanWrong : ChangeSpec := { name := "semiringBoolean", fn := fun _ => fun
  | [d1, d2, d3] => { results := [.lit (.bool false)], args := [d1, d2, d3] }
  | _ => none }
def SemiringBooleanWrongFalsely : Prop := semiringBooleanRow.holds Try.pinned (OpenSpec.ofChange semiringBooleanWrong)

/-- 'emendatelaw26.SemiringTropical': WHATEVER THE INPUT: true; the input reads as it did. -/
def semiringTropicalSpec : ChangeSpec := { name := "semiringTropical", fn := fun _ => fun
  | [d1, d2] => { results := [.lit (.bool true)], args := [d1, d2] }
  | _ => none }
def semiringTropicalRow : OpenClaim := { program := "ytdnkkeabimjbaaa", sum := "9c0fe6bae7e65eb1e53c97ec712beff732a461478592d9d6c00d8958d79d3e63", func := "emendate/emendatelaw26.SemiringTropical", spec := "semiringTropical", unfollowed := true, recurses := true, apart := false }
def SemiringTropicalSaid : Prop := semiringTropicalRow.holds Try.pinned (OpenSpec.ofChange semiringTropicalSpec)

/-- ITS FALSE NEIGHBOUR: 'it returns false'. Refute it at one input. -/
def semiringTropicalWrong : ChangeSpec := { name := "semiringTropical", fn := fun _ => fun
  | [d1, d2] => { results := [.lit (.bool false)], args := [d1, d2] }
  | _ => none }
def SemiringTropicalWrongFalsely : Prop := semiringTropicalRow.holds Try.pinned (OpenSpec.ofChange semiringTropicalWrong)

/-- 'emendatelaw26.SemiringCounting': WHATEVER THE INPUT: true; the input reads as it did. -/
def semiringCountingSpec : ChangeSpec := { name := "semiringCounting", fn := fun _ => fun
  | [d1, d2] => { results := [.lit (.bool true)], args := [d1, d2] }
  | _ => none }
def semiringCountingRow : OpenClaim := { program := "ytdnkkeabimjbaaa", sum := "9c0fe6bae7e65eb1e53c97ec712beff732a461478592d9d6c00d8958d79d3e63", func := "emendate/emendatelaw26.SemiringCounting", spec := "semiringCounting", unfollowed := true, recurses := true, apart := false }
def SemiringCountingSaid : Prop := semiringCountingRow.holds Try.pinned (OpenSpec.ofChange semiringCountingSpec)

/-- ITS FALSE NEIGHBOUR: 'it returns false'. Refute it at one input. -/
def semiringCountingWrong : ChangeSpec := { name := "semiringCounting", fn := fun _ => fun
  | [d1, d2] => { results := [.lit (.bool false)], args := [d1, d2] }
  | _ => none }
def SemiringCountingWrongFalsely : Prop := semiringCountingRow.holds Try.pinned (OpenSpec.ofChange semiringCountingWrong)

/-- 'emendatelaw26.SemiringHomomorphisms': WHATEVER THE INPUT: true; the input reads as it did. -/
def semiringHomomorphismsSpec : ChangeSpec := { name := "semiringHomomorphisms", fn := fun _ => fun
  | [d1, d2] => { results := [.lit (.bool true)], args := [d1, d2] }
  | _ => none }
def semiringHomomorphismsRow : OpenClaim := { program := "ytdnkkeabimjbaaa", sum := "9c0fe6bae7e65eb1e53c97ec712beff732a461478592d9d6c00d8958d79d3e63", func := "emendate/emendatelaw26.SemiringHomomorphisms", spec := "semiringHomomorphisms", unfollowed := true, recurses := true, apart := false }
def SemiringHomomorphismsSaid : Prop := semiringHomomorphismsRow.holds Try.pinned (OpenSpec.ofChange semiringHomomorphismsSpec)

/-- ITS FALSE NEIGHBOUR: 'it returns false'. Refute it at one input. -/
def semiringHomomorphismsWrong : ChangeSpec := { name := "semiringHomomorphisms", fn := fun _ => fun
  | [d1, d2] => { results := [.lit (.bool false)], args := [d1, d2] }
  | _ => none }
def SemiringHomomorphismsWrongFalsely : Prop := semiringHomomorphismsRow.holds Try.pinned (OpenSpec.ofChange semiringHomomorphismsWrong)

/- THE SECOND FORM. 'bulk': how many values and letters a reading holds, each counted each time it is reached (what is shared counts as often as it is met; a slice's spare places count too). A statement '..UptoSaid' is the law's where the arguments, and the package variables that the reading takes, are together of bulk at most 1048576: NARROWER than '..Said'. Prove '..Said' where nothing that the law and all that it calls make is longer than what came in: it says more and counts as full. Else prove '..UptoSaid'. A law counts once. -/
mutual
def uptoBulk {H : Type} : DataW H → Nat
  | .lit (.string bytes) => bytes.length + 1
  | .lit _ => 1
  | .nil => 1
  | .ptr d => uptoBulk d + 1
  | .slice elems spare => uptoBulkAll elems + uptoBulkAll spare + 1
  | .agg parts => uptoBulkAll parts + 1
  | .iface _ d => uptoBulk d + 1
  | .map entries => uptoBulkEntries entries + 1
  | .held _ => 1
def uptoBulkAll {H : Type} : List (DataW H) → Nat
  | [] => 0
  | d :: r => uptoBulk d + uptoBulkAll r
def uptoBulkEntries {H : Type} : List (Lit × DataW H) → Nat
  | [] => 0
  | x :: r => uptoBulkEntry x + uptoBulkEntries r
def uptoBulkEntry {H : Type} : Lit × DataW H → Nat
  | (.string bytes, d) => bytes.length + uptoBulk d + 1
  | (_, d) => uptoBulk d + 1
 end
def uptoSmall : (H : Type) → List (DataW H) → Bool := fun _ ds => decide (uptoBulkAll ds ≤ 1048576)
def OpenSpec.upto (s : _root_.Go.ChangeSpec) : _root_.Go.OpenSpec := { _root_.Go.OpenSpec.ofChange s with cond := some uptoSmall }

/-- 'emendatelaw26.SemiringLexicographic', WHERE WHAT IT READS IS OF BULK AT MOST 1048576: true; the input reads as it did. -/
def semiringLexicographicUptoRow : OpenClaim := { program := "ytdnkkeabimjbaaa", sum := "9c0fe6bae7e65eb1e53c97ec712beff732a461478592d9d6c00d8958d79d3e63", func := "emendate/emendatelaw26.SemiringLexicographic", spec := "semiringLexicographic", unfollowed := true, recurses := true, apart := false, narrowed := true }
def SemiringLexicographicUptoSaid : Prop := semiringLexicographicUptoRow.holds Try.pinned (OpenSpec.upto semiringLexicographicSpec)

/-- 'emendatelaw26.SemiringLists', WHERE WHAT IT READS IS OF BULK AT MOST 1048576: true; the input reads as it did. -/
def semiringListsUptoRow : OpenClaim := { program := "ytdnkkeabimjbaaa", sum := "9c0fe6bae7e65eb1e53c97ec712beff732a461478592d9d6c00d8958d79d3e63", func := "emendate/emendatelaw26.SemiringLists", spec := "semiringLists", unfollowed := true, recurses := true, apart := false, narrowed := true }
def SemiringListsUptoSaid : Prop := semiringListsUptoRow.holds Try.pinned (OpenSpec.upto semiringListsSpec)

/-- 'emendatelaw26.SemiringIntAxioms', WHERE WHAT IT READS IS OF BULK AT MOST 1048576: true; the input reads as it did. -/
def semiringIntAxiomsUptoRow : OpenClaim := { program := "ytdnkkeabimjbaaa", sum := "9c0fe6bae7e65eb1e53c97ec712beff732a461478592d9d6c00d8958d79d3e63", func := "emendate/emendatelaw26.SemiringIntAxioms", spec := "semiringIntAxioms", unfollowed := true, recurses := true, apart := false, narrowed := true }
def SemiringIntAxiomsUptoSaid : Prop := semiringIntAxiomsUptoRow.holds Try.pinned (OpenSpec.upto semiringIntAxiomsSpec)

/-- 'emendatelaw26.SemiringValueAxioms', WHERE WHAT IT READS IS OF BULK AT MOST 1048576: true; the input reads as it did. -/
def semiringValueAxiomsUptoRow : OpenClaim := { program := "ytdnkkeabimjbaaa", sum := "9c0fe6bae7e65eb1e53c97ec712beff732a461478592d9d6c00d8958d79d3e63", func := "emendate/emendatelaw26.SemiringValueAxioms", spec := "semiringValueAxioms", unfollowed := true, recurses := true, apart := false, narrowed := true }
def SemiringValueAxiomsUptoSaid : Prop := semiringValueAxiomsUptoRow.holds Try.pinned (OpenSpec.upto semiringValueAxiomsSpec)

/-- 'emendatelaw26.SemiringBoolean', WHERE WHAT IT READS IS OF BULK AT MOST 1048576: true; the input reads as it did. -/
def semiringBooleanUptoRow : OpenClaim := { program := "ytdnkkeabimjbaaa", sum := "9c0fe6bae7e65eb1e53c97ec712beff732a461478592d9d6c00d8958d79d3e63", func := "emendate/emendatelaw26.SemiringBoolean", spec := "semiringBoolean", unfollowed := true, recurses := true, apart := false, narrowed := true }
def SemiringBooleanUptoSaid : Prop := semiringBooleanUptoRow.holds Try.pinned (OpenSpec.upto semiringBooleanSpec)

/-- 'emendatelaw26.SemiringTropical', WHERE WHAT IT READS IS OF BULK AT MOST 1048576: true; the input reads as it did. -/
def semiringTropicalUptoRow : OpenClaim := { program := "ytdnkkeabimjbaaa", sum := "9c0fe6bae7e65eb1e53c97ec712beff732a461478592d9d6c00d8958d79d3e63", func := "emendate/emendatelaw26.SemiringTropical", spec := "semiringTropical", unfollowed := true, recurses := true, apart := false, narrowed := true }
def SemiringTropicalUptoSaid : Prop := semiringTropicalUptoRow.holds Try.pinned (OpenSpec.upto semiringTropicalSpec)

/-- 'emendatelaw26.SemiringCounting', WHERE WHAT IT READS IS OF BULK AT MOST 1048576: true; the input reads as it did. -/
def semiringCountingUptoRow : OpenClaim := { program := "ytdnkkeabimjbaaa", sum := "9c0fe6bae7e65eb1e53c97ec712beff732a461478592d9d6c00d8958d79d3e63", func := "emendate/emendatelaw26.SemiringCounting", spec := "semiringCounting", unfollowed := true, recurses := true, apart := false, narrowed := true }
def SemiringCountingUptoSaid : Prop := semiringCountingUptoRow.holds Try.pinned (OpenSpec.upto semiringCountingSpec)

/-- 'emendatelaw26.SemiringHomomorphisms', WHERE WHAT IT READS IS OF BULK AT MOST 1048576: true; the input reads as it did. -/
def semiringHomomorphismsUptoRow : OpenClaim := { program := "ytdnkkeabimjbaaa", sum := "9c0fe6bae7e65eb1e53c97ec712beff732a461478592d9d6c00d8958d79d3e63", func := "emendate/emendatelaw26.SemiringHomomorphisms", spec := "semiringHomomorphisms", unfollowed := true, recurses := true, apart := false, narrowed := true }
def SemiringHomomorphismsUptoSaid : Prop := semiringHomomorphismsUptoRow.holds Try.pinned (OpenSpec.upto semiringHomomorphismsSpec)

end Rows
end Go.Proofs.Ytdnkkeabimjbaaa
