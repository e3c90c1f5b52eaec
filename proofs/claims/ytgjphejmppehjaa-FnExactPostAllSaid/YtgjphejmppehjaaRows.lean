/-
  No cell of these rows narrows 'for every input' (looked for: loops, veiled, ifaces, maps, wideKeys, modest, calm, conditions, laid).
  DERIVED. THE GIVEN ROWS OF THIS SEAT. 9 by the template 'for every input the law returns true; each argument reads behind the call as it read before'; 0 by the template 'total and deterministic' (their statements: YtgjphejmppehjaaTotals.lean).
  GIVEN WITH THE SEED: the statements are not yours to turn. If you find one false, say at which input.
  Laid BY PROGRAM, IN A SANDBOX (cutbox-rows.mjs): the forced cells as the released guide's own fill.sh prints them over the translation 9979819ff9d89cd9… (all of the seat's roots in one cut). By AI agents, Wed Nov 11 2026. No macro, syntax, notation, axiom, sorry.
-/
import Derived.Test.YtgjphejmppehjaaChecked
import GoSem.Claim
import GoSem.ClaimJoined
import GoSem.ClaimMapViews
import Derived.JoinedTies
import Derived.KernelRfl
namespace Go.Proofs.Ytgjphejmppehjaa
/- THE CELL 'sum', in the pinned program and in every row, IS THE sha256 OF THE DUMP (.gsa) THAT YtgjphejmppehjaaProg.lean LOADS. Nothing in Lean hashes anything: it is a label: what it is worth is what the hold of that sum in a sandbox is worth. -/
noncomputable def Try.pinned : Pinned := { name := "ytgjphejmppehjaa", sum := "9979819ff9d89cd9cf47ab7c7c096917ed3d7d745f5c4bf081cdb4bbfdd30b45", checked := Try.checked }
namespace Rows
def none {H : Type} : Left H := { results := [], args := [] }

/-- 'laws.FnExactLinesOk': WHATEVER THE INPUT: true; the input reads as it did. -/
def fnExactLinesOkSpec : ChangeSpec := { name := "fnExactLinesOk", fn := fun _ => fun
  | [d] => { results := [.lit (.bool true)], args := [d] }
  | _ => none }
def fnExactLinesOkRow : OpenClaim := { program := "ytgjphejmppehjaa", sum := "9979819ff9d89cd9cf47ab7c7c096917ed3d7d745f5c4bf081cdb4bbfdd30b45", func := "loop.example/g00400/laws.FnExactLinesOk", spec := "fnExactLinesOk", apart := false }
def FnExactLinesOkSaid : Prop := fnExactLinesOkRow.holds Try.pinned (OpenSpec.ofChange fnExactLinesOkSpec)

/-- ITS FALSE NEIGHBOUR: 'it returns false'. Refute it at one input. -/
def fnExactLinesOkWrong : ChangeSpec := { name := "fnExactLinesOk", fn := fun _ => fun
  | [d] => { results := [.lit (.bool false)], args := [d] }
  | _ => none }
def FnExactLinesOkWrongFalsely : Prop := fnExactLinesOkRow.holds Try.pinned (OpenSpec.ofChange fnExactLinesOkWrong)

/-- 'laws.FnExactLedgerOk': WHATEVER THE INPUT: true; the input reads as it did. -/
def fnExactLedgerOkSpec : ChangeSpec := { name := "fnExactLedgerOk", fn := fun _ => fun
  | [d] => { results := [.lit (.bool true)], args := [d] }
  | _ => none }
def fnExactLedgerOkRow : OpenClaim := { program := "ytgjphejmppehjaa", sum := "9979819ff9d89cd9cf47ab7c7c096917ed3d7d745f5c4bf081cdb4bbfdd30b45", func := "loop.example/g00400/laws.FnExactLedgerOk", spec := "fnExactLedgerOk", apart := false }
def FnExactLedgerOkSaid : Prop := fnExactLedgerOkRow.holds Try.pinned (OpenSpec.ofChange fnExactLedgerOkSpec)

/-- ITS FALSE NEIGHBOUR: 'it returns false'. Refute it at one input. -/
def fnExactLedgerOkWrong : ChangeSpec := { name := "fnExactLedgerOk", fn := fun _ => fun
  | [d] => { results := [.lit (.bool false)], args := [d] }
  | _ => none }
def FnExactLedgerOkWrongFalsely : Prop := fnExactLedgerOkRow.holds Try.pinned (OpenSpec.ofChange fnExactLedgerOkWrong)

/-- 'laws.FnExactPostingOk': WHATEVER THE INPUT: true; the input reads as it did. -/
def fnExactPostingOkSpec : ChangeSpec := { name := "fnExactPostingOk", fn := fun _ => fun
  | [d] => { results := [.lit (.bool true)], args := [d] }
  | _ => none }
def fnExactPostingOkRow : OpenClaim := { program := "ytgjphejmppehjaa", sum := "9979819ff9d89cd9cf47ab7c7c096917ed3d7d745f5c4bf081cdb4bbfdd30b45", func := "loop.example/g00400/laws.FnExactPostingOk", spec := "fnExactPostingOk", apart := false }
def FnExactPostingOkSaid : Prop := fnExactPostingOkRow.holds Try.pinned (OpenSpec.ofChange fnExactPostingOkSpec)

/-- ITS FALSE NEIGHBOUR: 'it returns false'. Refute it at one input. -/
def fnExactPostingOkWrong : ChangeSpec := { name := "fnExactPostingOk", fn := fun _ => fun
  | [d] => { results := [.lit (.bool false)], args := [d] }
  | _ => none }
def FnExactPostingOkWrongFalsely : Prop := fnExactPostingOkRow.holds Try.pinned (OpenSpec.ofChange fnExactPostingOkWrong)

/-- 'laws.FnExactBalance': WHATEVER THE INPUT: true; the input reads as it did. -/
def fnExactBalanceSpec : ChangeSpec := { name := "fnExactBalance", fn := fun _ => fun
  | [d1, d2] => { results := [.lit (.bool true)], args := [d1, d2] }
  | _ => none }
def fnExactBalanceRow : OpenClaim := { program := "ytgjphejmppehjaa", sum := "9979819ff9d89cd9cf47ab7c7c096917ed3d7d745f5c4bf081cdb4bbfdd30b45", func := "loop.example/g00400/laws.FnExactBalance", spec := "fnExactBalance", apart := false }
def FnExactBalanceSaid : Prop := fnExactBalanceRow.holds Try.pinned (OpenSpec.ofChange fnExactBalanceSpec)

/-- ITS FALSE NEIGHBOUR: 'it returns false'. Refute it at one input. -/
def fnExactBalanceWrong : ChangeSpec := { name := "fnExactBalance", fn := fun _ => fun
  | [d1, d2] => { results := [.lit (.bool false)], args := [d1, d2] }
  | _ => none }
def FnExactBalanceWrongFalsely : Prop := fnExactBalanceRow.holds Try.pinned (OpenSpec.ofChange fnExactBalanceWrong)

/-- 'laws.FnExactWorth': WHATEVER THE INPUT: true; the input reads as it did. -/
def fnExactWorthSpec : ChangeSpec := { name := "fnExactWorth", fn := fun _ => fun
  | [d] => { results := [.lit (.bool true)], args := [d] }
  | _ => none }
def fnExactWorthRow : OpenClaim := { program := "ytgjphejmppehjaa", sum := "9979819ff9d89cd9cf47ab7c7c096917ed3d7d745f5c4bf081cdb4bbfdd30b45", func := "loop.example/g00400/laws.FnExactWorth", spec := "fnExactWorth", apart := false }
def FnExactWorthSaid : Prop := fnExactWorthRow.holds Try.pinned (OpenSpec.ofChange fnExactWorthSpec)

/-- ITS FALSE NEIGHBOUR: 'it returns false'. Refute it at one input. -/
def fnExactWorthWrong : ChangeSpec := { name := "fnExactWorth", fn := fun _ => fun
  | [d] => { results := [.lit (.bool false)], args := [d] }
  | _ => none }
def FnExactWorthWrongFalsely : Prop := fnExactWorthRow.holds Try.pinned (OpenSpec.ofChange fnExactWorthWrong)

/-- 'laws.FnExactPost': WHATEVER THE INPUT: true; the input reads as it did. -/
def fnExactPostSpec : ChangeSpec := { name := "fnExactPost", fn := fun _ => fun
  | [d1, d2] => { results := [.lit (.bool true)], args := [d1, d2] }
  | _ => none }
def fnExactPostRow : OpenClaim := { program := "ytgjphejmppehjaa", sum := "9979819ff9d89cd9cf47ab7c7c096917ed3d7d745f5c4bf081cdb4bbfdd30b45", func := "loop.example/g00400/laws.FnExactPost", spec := "fnExactPost", apart := false }
def FnExactPostSaid : Prop := fnExactPostRow.holds Try.pinned (OpenSpec.ofChange fnExactPostSpec)

/-- ITS FALSE NEIGHBOUR: 'it returns false'. Refute it at one input. -/
def fnExactPostWrong : ChangeSpec := { name := "fnExactPost", fn := fun _ => fun
  | [d1, d2] => { results := [.lit (.bool false)], args := [d1, d2] }
  | _ => none }
def FnExactPostWrongFalsely : Prop := fnExactPostRow.holds Try.pinned (OpenSpec.ofChange fnExactPostWrong)

/-- 'laws.FnZero': WHATEVER THE INPUT: true; the input reads as it did. -/
def fnZeroSpec : ChangeSpec := { name := "fnZero", fn := fun _ => fun
  | [d] => { results := [.lit (.bool true)], args := [d] }
  | _ => none }
def fnZeroRow : OpenClaim := { program := "ytgjphejmppehjaa", sum := "9979819ff9d89cd9cf47ab7c7c096917ed3d7d745f5c4bf081cdb4bbfdd30b45", func := "loop.example/g00400/laws.FnZero", spec := "fnZero", apart := false }
def FnZeroSaid : Prop := fnZeroRow.holds Try.pinned (OpenSpec.ofChange fnZeroSpec)

/-- ITS FALSE NEIGHBOUR: 'it returns false'. Refute it at one input. -/
def fnZeroWrong : ChangeSpec := { name := "fnZero", fn := fun _ => fun
  | [d] => { results := [.lit (.bool false)], args := [d] }
  | _ => none }
def FnZeroWrongFalsely : Prop := fnZeroRow.holds Try.pinned (OpenSpec.ofChange fnZeroWrong)

/-- 'laws.FnWorth': WHATEVER THE INPUT: true; the input reads as it did. -/
def fnWorthSpec : ChangeSpec := { name := "fnWorth", fn := fun _ => fun
  | [d] => { results := [.lit (.bool true)], args := [d] }
  | _ => none }
def fnWorthRow : OpenClaim := { program := "ytgjphejmppehjaa", sum := "9979819ff9d89cd9cf47ab7c7c096917ed3d7d745f5c4bf081cdb4bbfdd30b45", func := "loop.example/g00400/laws.FnWorth", spec := "fnWorth", apart := false }
def FnWorthSaid : Prop := fnWorthRow.holds Try.pinned (OpenSpec.ofChange fnWorthSpec)

/-- ITS FALSE NEIGHBOUR: 'it returns false'. Refute it at one input. -/
def fnWorthWrong : ChangeSpec := { name := "fnWorth", fn := fun _ => fun
  | [d] => { results := [.lit (.bool false)], args := [d] }
  | _ => none }
def FnWorthWrongFalsely : Prop := fnWorthRow.holds Try.pinned (OpenSpec.ofChange fnWorthWrong)

/-- 'laws.FnExactPostAll': WHATEVER THE INPUT: true; the input reads as it did. -/
def fnExactPostAllSpec : ChangeSpec := { name := "fnExactPostAll", fn := fun _ => fun
  | [d1, d2] => { results := [.lit (.bool true)], args := [d1, d2] }
  | _ => none }
def fnExactPostAllRow : OpenClaim := { program := "ytgjphejmppehjaa", sum := "9979819ff9d89cd9cf47ab7c7c096917ed3d7d745f5c4bf081cdb4bbfdd30b45", func := "loop.example/g00400/laws.FnExactPostAll", spec := "fnExactPostAll", apart := false }
def FnExactPostAllSaid : Prop := fnExactPostAllRow.holds Try.pinned (OpenSpec.ofChange fnExactPostAllSpec)

/-- ITS FALSE NEIGHBOUR: 'it returns false'. Refute it at one input. -/
def fnExactPostAllWrong : ChangeSpec := { name := "fnExactPostAll", fn := fun _ => fun
  | [d1, d2] => { results := [.lit (.bool false)], args := [d1, d2] }
  | _ => none }
def FnExactPostAllWrongFalsely : Prop := fnExactPostAllRow.holds Try.pinned (OpenSpec.ofChange fnExactPostAllWrong)

/- THE SECOND FORM. 'bulk': how many values and letters a reading holds, each counted each time it is reached (what is shared counts as often as it is met; a slice's spare places count too). A statement '..UptoSaid' is the law's where the arguments, and the package variables that the reading takes, are together of bulk at most 1048576: NARROWER than '..Said'. Prove '..Said' where nothing that the law and all that it calls make is longer than what came in: it says more and counts as full. Else prove '..UptoSaid'. A law counts once. -/
mutual
def uptoBulk {H : Type} : DataW H → Nat
  | .lit (.string bytes) => bytes.length + 1
  | .lit _ => 1
  | .nil => 1
  | .ptr d => uptoBulk d + 1
  | .slice elems spare => uptoBulkAll elems + uptoBulkAll spare + 1
  | .agg parts => uptoBulkAll parts + 1
  | .iface _ d => uptoBulk d + 1
  | .map entries => uptoBulkEntries entries + 1
  | .held _ => 1
def uptoBulkAll {H : Type} : List (DataW H) → Nat
  | [] => 0
  | d :: r => uptoBulk d + uptoBulkAll r
def uptoBulkEntries {H : Type} : List (Lit × DataW H) → Nat
  | [] => 0
  | x :: r => uptoBulkEntry x + uptoBulkEntries r
def uptoBulkEntry {H : Type} : Lit × DataW H → Nat
  | (.string bytes, d) => bytes.length + uptoBulk d + 1
  | (_, d) => uptoBulk d + 1
 end
def uptoSmall : (H : Type) → List (DataW H) → Bool := fun _ ds => decide (uptoBulkAll ds ≤ 1048576)
def OpenSpec.upto (s : _root_.Go.ChangeSpec) : _root_.Go.OpenSpec := { _root_.Go.OpenSpec.ofChange s with cond := some uptoSmall }

/-- 'laws.FnExactLinesOk', WHERE WHAT IT READS IS OF BULK AT MOST 1048576: true; the input reads as it did. -/
def fnExactLinesOkUptoRow : OpenClaim := { program := "ytgjphejmppehjaa", sum := "9979819ff9d89cd9cf47ab7c7c096917ed3d7d745f5c4bf081cdb4bbfdd30b45", func := "loop.example/g00400/laws.FnExactLinesOk", spec := "fnExactLinesOk", apart := false, narrowed := true }
def FnExactLinesOkUptoSaid : Prop := fnExactLinesOkUptoRow.holds Try.pinned (OpenSpec.upto fnExactLinesOkSpec)

/-- 'laws.FnExactLedgerOk', WHERE WHAT IT READS IS OF BULK AT MOST 1048576: true; the input reads as it did. -/
def fnExactLedgerOkUptoRow : OpenClaim := { program := "ytgjphejmppehjaa", sum := "9979819ff9d89cd9cf47ab7c7c096917ed3d7d745f5c4bf081cdb4bbfdd30b45", func := "loop.example/g00400/laws.FnExactLedgerOk", spec := "fnExactLedgerOk", apart := false, narrowed := true }
def FnExactLedgerOkUptoSaid : Prop := fnExactLedgerOkUptoRow.holds Try.pinned (OpenSpec.upto fnExactLedgerOkSpec)

/-- 'laws.FnExactPostingOk', WHERE WHAT IT READS IS OF BULK AT MOST 1048576: true; the input reads as it did. -/
def fnExactPostingOkUptoRow : OpenClaim := { program := "ytgjphejmppehjaa", sum := "9979819ff9d89cd9cf47ab7c7c096917ed3d7d745f5c4bf081cdb4bbfdd30b45", func := "loop.example/g00400/laws.FnExactPostingOk", spec := "fnExactPostingOk", apart := false, narrowed := true }
def FnExactPostingOkUptoSaid : Prop := fnExactPostingOkUptoRow.holds Try.pinned (OpenSpec.upto fnExactPostingOkSpec)

/-- 'laws.FnExactBalance', WHERE WHAT IT READS IS OF BULK AT MOST 1048576: true; the input reads as it did. -/
def fnExactBalanceUptoRow : OpenClaim := { program := "ytgjphejmppehjaa", sum := "9979819ff9d89cd9cf47ab7c7c096917ed3d7d745f5c4bf081cdb4bbfdd30b45", func := "loop.example/g00400/laws.FnExactBalance", spec := "fnExactBalance", apart := false, narrowed := true }
def FnExactBalanceUptoSaid : Prop := fnExactBalanceUptoRow.holds Try.pinned (OpenSpec.upto fnExactBalanceSpec)

/-- 'laws.FnExactWorth', WHERE WHAT IT READS IS OF BULK AT MOST 1048576: true; the input reads as it did. -/
def fnExactWorthUptoRow : OpenClaim := { program := "ytgjphejmppehjaa", sum := "9979819ff9d89cd9cf47ab7c7c096917ed3d7d745f5c4bf081cdb4bbfdd30b45", func := "loop.example/g00400/laws.FnExactWorth", spec := "fnExactWorth", apart := false, narrowed := true }
def FnExactWorthUptoSaid : Prop := fnExactWorthUptoRow.holds Try.pinned (OpenSpec.upto fnExactWorthSpec)

/-- 'laws.FnExactPost', WHERE WHAT IT READS IS OF BULK AT MOST 1048576: true; the input reads as it did. -/
def fnExactPostUptoRow : OpenClaim := { program := "ytgjphejmppehjaa", sum := "9979819ff9d89cd9cf47ab7c7c096917ed3d7d745f5c4bf081cdb4bbfdd30b45", func := "loop.example/g00400/laws.FnExactPost", spec := "fnExactPost", apart := false, narrowed := true }
def FnExactPostUptoSaid : Prop := fnExactPostUptoRow.holds Try.pinned (OpenSpec.upto fnExactPostSpec)

/-- 'laws.FnZero', WHERE WHAT IT READS IS OF BULK AT MOST 1048576: true; the input reads as it did. -/
def fnZeroUptoRow : OpenClaim := { program := "ytgjphejmppehjaa", sum := "9979819ff9d89cd9cf47ab7c7c096917ed3d7d745f5c4bf081cdb4bbfdd30b45", func := "loop.example/g00400/laws.FnZero", spec := "fnZero", apart := false, narrowed := true }
def FnZeroUptoSaid : Prop := fnZeroUptoRow.holds Try.pinned (OpenSpec.upto fnZeroSpec)

/-- 'laws.FnWorth', WHERE WHAT IT READS IS OF BULK AT MOST 1048576: true; the input reads as it did. -/
def fnWorthUptoRow : OpenClaim := { program := "ytgjphejmppehjaa", sum := "9979819ff9d89cd9cf47ab7c7c096917ed3d7d745f5c4bf081cdb4bbfdd30b45", func := "loop.example/g00400/laws.FnWorth", spec := "fnWorth", apart := false, narrowed := true }
def FnWorthUptoSaid : Prop := fnWorthUptoRow.holds Try.pinned (OpenSpec.upto fnWorthSpec)

/-- 'laws.FnExactPostAll', WHERE WHAT IT READS IS OF BULK AT MOST 1048576: true; the input reads as it did. -/
def fnExactPostAllUptoRow : OpenClaim := { program := "ytgjphejmppehjaa", sum := "9979819ff9d89cd9cf47ab7c7c096917ed3d7d745f5c4bf081cdb4bbfdd30b45", func := "loop.example/g00400/laws.FnExactPostAll", spec := "fnExactPostAll", apart := false, narrowed := true }
def FnExactPostAllUptoSaid : Prop := fnExactPostAllUptoRow.holds Try.pinned (OpenSpec.upto fnExactPostAllSpec)

end Rows
end Go.Proofs.Ytgjphejmppehjaa
