/-
  No cell of these rows narrows 'for every input' (looked for: loops, veiled, ifaces, maps, wideKeys, modest, calm, conditions, laid).
  DERIVED. THE GIVEN ROWS OF THIS SEAT. 8 by the template 'for every input the law returns true; each argument reads behind the call as it read before'; 0 by the template 'total and deterministic' (their statements: YtblenfhacaecmaaTotals.lean).
  GIVEN WITH THE SEED: the statements are not yours to turn. If you find one false, say at which input.
  Laid BY PROGRAM, IN A SANDBOX (cutbox-rows.mjs): the forced cells as the released guide's own fill.sh prints them over the translation 1d6ae8a859c527e8… (all of the seat's roots in one cut). By AI agents, Wed Nov 11 2026. No macro, syntax, notation, axiom, sorry.
-/
import Derived.Test.YtblenfhacaecmaaChecked
import GoSem.Claim
import GoSem.ClaimJoined
import GoSem.ClaimMapViews
import Derived.JoinedTies
import Derived.KernelRfl
namespace Go.Proofs.Ytblenfhacaecmaa
/- THE CELL 'sum', in the pinned program and in every row, IS THE sha256 OF THE DUMP (.gsa) THAT YtblenfhacaecmaaProg.lean LOADS. Nothing in Lean hashes anything: it is a label: what it is worth is what the hold of that sum in a sandbox is worth. -/
noncomputable def Try.pinned : Pinned := { name := "ytblenfhacaecmaa", sum := "1d6ae8a859c527e8cc1ed9fc935ed0db429d2871884908b39380c3bb51ba8f06", checked := Try.checked }
namespace Rows
def none {H : Type} : Left H := { results := [], args := [] }

/-- 'laws.FnExactDiskRead': WHATEVER THE INPUT: true; the input reads as it did. -/
def fnExactDiskReadSpec : ChangeSpec := { name := "fnExactDiskRead", fn := fun _ => fun
  | [d1, d2] => { results := [.lit (.bool true)], args := [d1, d2] }
  | _ => none }
def fnExactDiskReadRow : OpenClaim := { program := "ytblenfhacaecmaa", sum := "1d6ae8a859c527e8cc1ed9fc935ed0db429d2871884908b39380c3bb51ba8f06", func := "loop.example/g00400/laws.FnExactDiskRead", spec := "fnExactDiskRead", apart := false }
def FnExactDiskReadSaid : Prop := fnExactDiskReadRow.holds Try.pinned (OpenSpec.ofChange fnExactDiskReadSpec)

/-- ITS FALSE NEIGHBOUR: 'it returns false'. Refute it at one input. -/
def fnExactDiskReadWrong : ChangeSpec := { name := "fnExactDiskRead", fn := fun _ => fun
  | [d1, d2] => { results := [.lit (.bool false)], args := [d1, d2] }
  | _ => none }
def FnExactDiskReadWrongFalsely : Prop := fnExactDiskReadRow.holds Try.pinned (OpenSpec.ofChange fnExactDiskReadWrong)

/-- 'laws.FnExactDiskWrite': WHATEVER THE INPUT: true; the input reads as it did. -/
def fnExactDiskWriteSpec : ChangeSpec := { name := "fnExactDiskWrite", fn := fun _ => fun
  | [d1, d2, d3] => { results := [.lit (.bool true)], args := [d1, d2, d3] }
  | _ => none }
def fnExactDiskWriteRow : OpenClaim := { program := "ytblenfhacaecmaa", sum := "1d6ae8a859c527e8cc1ed9fc935ed0db429d2871884908b39380c3bb51ba8f06", func := "loop.example/g00400/laws.FnExactDiskWrite", spec := "fnExactDiskWrite", apart := false }
def FnExactDiskWriteSaid : Prop := fnExactDiskWriteRow.holds Try.pinned (OpenSpec.ofChange fnExactDiskWriteSpec)

/-- ITS FALSE NEIGHBOUR: 'it returns false'. Refute it at one input. -/
def fnExactDiskWriteWrong : ChangeSpec := { name := "fnExactDiskWrite", fn := fun _ => fun
  | [d1, d2, d3] => { results := [.lit (.bool false)], args := [d1, d2, d3] }
  | _ => none }
def FnExactDiskWriteWrongFalsely : Prop := fnExactDiskWriteRow.holds Try.pinned (OpenSpec.ofChange fnExactDiskWriteWrong)

/-- 'laws.FnSync': WHATEVER THE INPUT: true; the input reads as it did. -/
def fnSyncSpec : ChangeSpec := { name := "fnSync", fn := fun _ => fun
  | [d] => { results := [.lit (.bool true)], args := [d] }
  | _ => none }
def fnSyncRow : OpenClaim := { program := "ytblenfhacaecmaa", sum := "1d6ae8a859c527e8cc1ed9fc935ed0db429d2871884908b39380c3bb51ba8f06", func := "loop.example/g00400/laws.FnSync", spec := "fnSync", apart := false }
def FnSyncSaid : Prop := fnSyncRow.holds Try.pinned (OpenSpec.ofChange fnSyncSpec)

/-- ITS FALSE NEIGHBOUR: 'it returns false'. Refute it at one input. -/
def fnSyncWrong : ChangeSpec := { name := "fnSync", fn := fun _ => fun
  | [d] => { results := [.lit (.bool false)], args := [d] }
  | _ => none }
def FnSyncWrongFalsely : Prop := fnSyncRow.holds Try.pinned (OpenSpec.ofChange fnSyncWrong)

/-- 'laws.FnExactDiskSync': WHATEVER THE INPUT: true; the input reads as it did. -/
def fnExactDiskSyncSpec : ChangeSpec := { name := "fnExactDiskSync", fn := fun _ => fun
  | [d] => { results := [.lit (.bool true)], args := [d] }
  | _ => none }
def fnExactDiskSyncRow : OpenClaim := { program := "ytblenfhacaecmaa", sum := "1d6ae8a859c527e8cc1ed9fc935ed0db429d2871884908b39380c3bb51ba8f06", func := "loop.example/g00400/laws.FnExactDiskSync", spec := "fnExactDiskSync", apart := false }
def FnExactDiskSyncSaid : Prop := fnExactDiskSyncRow.holds Try.pinned (OpenSpec.ofChange fnExactDiskSyncSpec)

/-- ITS FALSE NEIGHBOUR: 'it returns false'. Refute it at one input. -/
def fnExactDiskSyncWrong : ChangeSpec := { name := "fnExactDiskSync", fn := fun _ => fun
  | [d] => { results := [.lit (.bool false)], args := [d] }
  | _ => none }
def FnExactDiskSyncWrongFalsely : Prop := fnExactDiskSyncRow.holds Try.pinned (OpenSpec.ofChange fnExactDiskSyncWrong)

/-- 'laws.FnExactLogTop': WHATEVER THE INPUT: true; the input reads as it did. -/
def fnExactLogTopSpec : ChangeSpec := { name := "fnExactLogTop", fn := fun _ => fun
  | [d] => { results := [.lit (.bool true)], args := [d] }
  | _ => none }
def fnExactLogTopRow : OpenClaim := { program := "ytblenfhacaecmaa", sum := "1d6ae8a859c527e8cc1ed9fc935ed0db429d2871884908b39380c3bb51ba8f06", func := "loop.example/g00400/laws.FnExactLogTop", spec := "fnExactLogTop", unfollowed := true, recurses := true, apart := false }
def FnExactLogTopSaid : Prop := fnExactLogTopRow.holds Try.pinned (OpenSpec.ofChange fnExactLogTopSpec)

/-- ITS FALSE NEIGHBOUR: 'it returns false'. Refute it at one input. -/
def fnExactLogTopWrong : ChangeSpec := { name := "fnExactLogTop", fn := fun _ => fun
  | [d] => { results := [.lit (.bool false)], args := [d] }
  | _ => none }
def FnExactLogTopWrongFalsely : Prop := fnExactLogTopRow.holds Try.pinned (OpenSpec.ofChange fnExactLogTopWrong)

/-- 'laws.FnExactDiskCrash': WHATEVER THE INPUT: true; the input reads as it did. -/
def fnExactDiskCrashSpec : ChangeSpec := { name := "fnExactDiskCrash", fn := fun _ => fun
  | [d1, d2] => { results := [.lit (.bool true)], args := [d1, d2] }
  | _ => none }
def fnExactDiskCrashRow : OpenClaim := { program := "ytblenfhacaecmaa", sum := "1d6ae8a859c527e8cc1ed9fc935ed0db429d2871884908b39380c3bb51ba8f06", func := "loop.example/g00400/laws.FnExactDiskCrash", spec := "fnExactDiskCrash", apart := false }
def FnExactDiskCrashSaid : Prop := fnExactDiskCrashRow.holds Try.pinned (OpenSpec.ofChange fnExactDiskCrashSpec)

/-- ITS FALSE NEIGHBOUR: 'it returns false'. Refute it at one input. -/
def fnExactDiskCrashWrong : ChangeSpec := { name := "fnExactDiskCrash", fn := fun _ => fun
  | [d1, d2] => { results := [.lit (.bool false)], args := [d1, d2] }
  | _ => none }
def FnExactDiskCrashWrongFalsely : Prop := fnExactDiskCrashRow.holds Try.pinned (OpenSpec.ofChange fnExactDiskCrashWrong)

/-- 'laws.FnExactLogSync': WHATEVER THE INPUT: true; the input reads as it did. -/
def fnExactLogSyncSpec : ChangeSpec := { name := "fnExactLogSync", fn := fun _ => fun
  | [d] => { results := [.lit (.bool true)], args := [d] }
  | _ => none }
def fnExactLogSyncRow : OpenClaim := { program := "ytblenfhacaecmaa", sum := "1d6ae8a859c527e8cc1ed9fc935ed0db429d2871884908b39380c3bb51ba8f06", func := "loop.example/g00400/laws.FnExactLogSync", spec := "fnExactLogSync", apart := false }
def FnExactLogSyncSaid : Prop := fnExactLogSyncRow.holds Try.pinned (OpenSpec.ofChange fnExactLogSyncSpec)

/-- ITS FALSE NEIGHBOUR: 'it returns false'. Refute it at one input. -/
def fnExactLogSyncWrong : ChangeSpec := { name := "fnExactLogSync", fn := fun _ => fun
  | [d] => { results := [.lit (.bool false)], args := [d] }
  | _ => none }
def FnExactLogSyncWrongFalsely : Prop := fnExactLogSyncRow.holds Try.pinned (OpenSpec.ofChange fnExactLogSyncWrong)

/-- 'laws.FnExactLogRead': WHATEVER THE INPUT: true; the input reads as it did. -/
def fnExactLogReadSpec : ChangeSpec := { name := "fnExactLogRead", fn := fun _ => fun
  | [d] => { results := [.lit (.bool true)], args := [d] }
  | _ => none }
def fnExactLogReadRow : OpenClaim := { program := "ytblenfhacaecmaa", sum := "1d6ae8a859c527e8cc1ed9fc935ed0db429d2871884908b39380c3bb51ba8f06", func := "loop.example/g00400/laws.FnExactLogRead", spec := "fnExactLogRead", unfollowed := true, recurses := true, apart := false }
def FnExactLogReadSaid : Prop := fnExactLogReadRow.holds Try.pinned (OpenSpec.ofChange fnExactLogReadSpec)

/-- ITS FALSE NEIGHBOUR: 'it returns false'. Refute it at one input. -/
def fnExactLogReadWrong : ChangeSpec := { name := "fnExactLogRead", fn := fun _ => fun
  | [d] => { results := [.lit (.bool false)], args := [d] }
  | _ => none }
def FnExactLogReadWrongFalsely : Prop := fnExactLogReadRow.holds Try.pinned (OpenSpec.ofChange fnExactLogReadWrong)

/- THE SECOND FORM. 'bulk': how many values and letters a reading holds, each counted each time it is reached (what is shared counts as often as it is met; a slice's spare places count too). A statement '..UptoSaid' is the law's where the arguments, and the package variables that the reading takes, are together of bulk at most 1048576: NARROWER than '..Said'. Prove '..Said' where nothing that the law and all that it calls make is longer than what came in: it says more and counts as full. Else prove '..UptoSaid'. A law counts once. -/
mutual
def uptoBulk {H : Type} : DataW H → Nat
  | .lit (.string bytes) => bytes.length + 1
  | .lit _ => 1
  | .nil => 1
  | .ptr d => uptoBulk d + 1
  | .slice elems spare => uptoBulkAll elems + uptoBulkAll spare + 1
  | .agg parts => uptoBulkAll parts + 1
  | .iface _ d => uptoBulk d + 1
  | .map entries => uptoBulkEntries entries + 1
  | .held _ => 1
def uptoBulkAll {H : Type} : List (DataW H) → Nat
  | [] => 0
  | d :: r => uptoBulk d + uptoBulkAll r
def uptoBulkEntries {H : Type} : List (Lit × DataW H) → Nat
  | [] => 0
  | x :: r => uptoBulkEntry x + uptoBulkEntries r
def uptoBulkEntry {H : Type} : Lit × DataW H → Nat
  | (.string bytes, d) => bytes.length + uptoBulk d + 1
  | (_, d) => uptoBulk d + 1
 end
def uptoSmall : (H : Type) → List (DataW H) → Bool := fun _ ds => decide (uptoBulkAll ds ≤ 1048576)
def OpenSpec.upto (s : _root_.Go.ChangeSpec) : _root_.Go.OpenSpec := { _root_.Go.OpenSpec.ofChange s with cond := some uptoSmall }

/-- 'laws.FnExactDiskRead', WHERE WHAT IT READS IS OF BULK AT MOST 1048576: true; the input reads as it did. -/
def fnExactDiskReadUptoRow : OpenClaim := { program := "ytblenfhacaecmaa", sum := "1d6ae8a859c527e8cc1ed9fc935ed0db429d2871884908b39380c3bb51ba8f06", func := "loop.example/g00400/laws.FnExactDiskRead", spec := "fnExactDiskRead", apart := false, narrowed := true }
def FnExactDiskReadUptoSaid : Prop := fnExactDiskReadUptoRow.holds Try.pinned (OpenSpec.upto fnExactDiskReadSpec)

/-- 'laws.FnExactDiskWrite', WHERE WHAT IT READS IS OF BULK AT MOST 1048576: true; the input reads as it did. -/
def fnExactDiskWriteUptoRow : OpenClaim := { program := "ytblenfhacaecmaa", sum := "1d6ae8a859c527e8cc1ed9fc935ed0db429d2871884908b39380c3bb51ba8f06", func := "loop.example/g00400/laws.FnExactDiskWrite", spec := "fnExactDiskWrite", apart := false, narrowed := true }
def FnExactDiskWriteUptoSaid : Prop := fnExactDiskWriteUptoRow.holds Try.pinned (OpenSpec.upto fnExactDiskWriteSpec)

/-- 'laws.FnSync', WHERE WHAT IT READS IS OF BULK AT MOST 1048576: true; the input reads as it did. -/
def fnSyncUptoRow : OpenClaim := { program := "ytblenfhacaecmaa", sum := "1d6ae8a859c527e8cc1ed9fc935ed0db429d2871884908b39380c3bb51ba8f06", func := "loop.example/g00400/laws.FnSync", spec := "fnSync", apart := false, narrowed := true }
def FnSyncUptoSaid : Prop := fnSyncUptoRow.holds Try.pinned (OpenSpec.upto fnSyncSpec)

/-- 'laws.FnExactDiskSync', WHERE WHAT IT READS IS OF BULK AT MOST 1048576: true; the input reads as it did. -/
def fnExactDiskSyncUptoRow : OpenClaim := { program := "ytblenfhacaecmaa", sum := "1d6ae8a859c527e8cc1ed9fc935ed0db429d2871884908b39380c3bb51ba8f06", func := "loop.example/g00400/laws.FnExactDiskSync", spec := "fnExactDiskSync", apart := false, narrowed := true }
def FnExactDiskSyncUptoSaid : Prop := fnExactDiskSyncUptoRow.holds Try.pinned (OpenSpec.upto fnExactDiskSyncSpec)

/-- 'laws.FnExactLogTop', WHERE WHAT IT READS IS OF BULK AT MOST 1048576: true; the input reads as it did. -/
def fnExactLogTopUptoRow : OpenClaim := { program := "ytblenfhacaecmaa", sum := "1d6ae8a859c527e8cc1ed9fc935ed0db429d2871884908b39380c3bb51ba8f06", func := "loop.example/g00400/laws.FnExactLogTop", spec := "fnExactLogTop", unfollowed := true, recurses := true, apart := false, narrowed := true }
def FnExactLogTopUptoSaid : Prop := fnExactLogTopUptoRow.holds Try.pinned (OpenSpec.upto fnExactLogTopSpec)

/-- 'laws.FnExactDiskCrash', WHERE WHAT IT READS IS OF BULK AT MOST 1048576: true; the input reads as it did. -/
def fnExactDiskCrashUptoRow : OpenClaim := { program := "ytblenfhacaecmaa", sum := "1d6ae8a859c527e8cc1ed9fc935ed0db429d2871884908b39380c3bb51ba8f06", func := "loop.example/g00400/laws.FnExactDiskCrash", spec := "fnExactDiskCrash", apart := false, narrowed := true }
def FnExactDiskCrashUptoSaid : Prop := fnExactDiskCrashUptoRow.holds Try.pinned (OpenSpec.upto fnExactDiskCrashSpec)

/-- 'laws.FnExactLogSync', WHERE WHAT IT READS IS OF BULK AT MOST 1048576: true; the input reads as it did. -/
def fnExactLogSyncUptoRow : OpenClaim := { program := "ytblenfhacaecmaa", sum := "1d6ae8a859c527e8cc1ed9fc935ed0db429d2871884908b39380c3bb51ba8f06", func := "loop.example/g00400/laws.FnExactLogSync", spec := "fnExactLogSync", apart := false, narrowed := true }
def FnExactLogSyncUptoSaid : Prop := fnExactLogSyncUptoRow.holds Try.pinned (OpenSpec.upto fnExactLogSyncSpec)

/-- 'laws.FnExactLogRead', WHERE WHAT IT READS IS OF BULK AT MOST 1048576: true; the input reads as it did. -/
def fnExactLogReadUptoRow : OpenClaim := { program := "ytblenfhacaecmaa", sum := "1d6ae8a859c527e8cc1ed9fc935ed0db429d2871884908b39380c3bb51ba8f06", func := "loop.example/g00400/laws.FnExactLogRead", spec := "fnExactLogRead", unfollowed := true, recurses := true, apart := false, narrowed := true }
def FnExactLogReadUptoSaid : Prop := fnExactLogReadUptoRow.holds Try.pinned (OpenSpec.upto fnExactLogReadSpec)

end Rows
end Go.Proofs.Ytblenfhacaecmaa
