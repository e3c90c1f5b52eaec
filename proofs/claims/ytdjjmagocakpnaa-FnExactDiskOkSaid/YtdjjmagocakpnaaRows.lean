/-
  No cell of these rows narrows 'for every input' (looked for: loops, veiled, ifaces, maps, wideKeys, modest, calm, conditions, laid).
  DERIVED. THE GIVEN ROWS OF THIS SEAT. 12 by the template 'for every input the law returns true; each argument reads behind the call as it read before'; 0 by the template 'total and deterministic' (their statements: YtdjjmagocakpnaaTotals.lean).
  GIVEN WITH THE SEED: the statements are not yours to turn. If you find one false, say at which input.
  Laid BY PROGRAM, IN A SANDBOX (cutbox-rows.mjs): the forced cells as the released guide's own fill.sh prints them over the translation 59336d929954e9c5… (all of the seat's roots in one cut). By AI agents, Wed Nov 11 2026. No macro, syntax, notation, axiom, sorry.
-/
import Derived.Test.YtdjjmagocakpnaaChecked
import GoSem.Claim
import GoSem.ClaimJoined
import GoSem.ClaimMapViews
import Derived.JoinedTies
import Derived.KernelRfl
namespace Go.Proofs.Ytdjjmagocakpnaa
/- THE CELL 'sum', in the pinned program and in every row, IS THE sha256 OF THE DUMP (.gsa) THAT YtdjjmagocakpnaaProg.lean LOADS. Nothing in Lean hashes anything: it is a label: what it is worth is what the hold of that sum in a sandbox is worth. -/
noncomputable def Try.pinned : Pinned := { name := "ytdjjmagocakpnaa", sum := "59336d929954e9c5aeec9dc7b89b5f4467043794a493f43ce7cee2b2828300fc", checked := Try.checked }
namespace Rows
def none {H : Type} : Left H := { results := [], args := [] }

/-- 'laws.FnExactGetNum': WHATEVER THE INPUT: true; the input reads as it did. -/
def fnExactGetNumSpec : ChangeSpec := { name := "fnExactGetNum", fn := fun _ => fun
  | [d1, d2, d3] => { results := [.lit (.bool true)], args := [d1, d2, d3] }
  | _ => none }
def fnExactGetNumRow : OpenClaim := { program := "ytdjjmagocakpnaa", sum := "59336d929954e9c5aeec9dc7b89b5f4467043794a493f43ce7cee2b2828300fc", func := "loop.example/g00400/laws.FnExactGetNum", spec := "fnExactGetNum", apart := false }
def FnExactGetNumSaid : Prop := fnExactGetNumRow.holds Try.pinned (OpenSpec.ofChange fnExactGetNumSpec)

/-- ITS FALSE NEIGHBOUR: 'it returns false'. Refute it at one input. -/
def fnExactGetNumWrong : ChangeSpec := { name := "fnExactGetNum", fn := fun _ => fun
  | [d1, d2, d3] => { results := [.lit (.bool false)], args := [d1, d2, d3] }
  | _ => none }
def FnExactGetNumWrongFalsely : Prop := fnExactGetNumRow.holds Try.pinned (OpenSpec.ofChange fnExactGetNumWrong)

/-- 'laws.FnExactSectorOk': WHATEVER THE INPUT: true; the input reads as it did. -/
def fnExactSectorOkSpec : ChangeSpec := { name := "fnExactSectorOk", fn := fun _ => fun
  | [d] => { results := [.lit (.bool true)], args := [d] }
  | _ => none }
def fnExactSectorOkRow : OpenClaim := { program := "ytdjjmagocakpnaa", sum := "59336d929954e9c5aeec9dc7b89b5f4467043794a493f43ce7cee2b2828300fc", func := "loop.example/g00400/laws.FnExactSectorOk", spec := "fnExactSectorOk", apart := false }
def FnExactSectorOkSaid : Prop := fnExactSectorOkRow.holds Try.pinned (OpenSpec.ofChange fnExactSectorOkSpec)

/-- ITS FALSE NEIGHBOUR: 'it returns false'. Refute it at one input. -/
def fnExactSectorOkWrong : ChangeSpec := { name := "fnExactSectorOk", fn := fun _ => fun
  | [d] => { results := [.lit (.bool false)], args := [d] }
  | _ => none }
def FnExactSectorOkWrongFalsely : Prop := fnExactSectorOkRow.holds Try.pinned (OpenSpec.ofChange fnExactSectorOkWrong)

/-- 'laws.FnExactPutNum': WHATEVER THE INPUT: true; the input reads as it did. -/
def fnExactPutNumSpec : ChangeSpec := { name := "fnExactPutNum", fn := fun _ => fun
  | [d1, d2, d3] => { results := [.lit (.bool true)], args := [d1, d2, d3] }
  | _ => none }
def fnExactPutNumRow : OpenClaim := { program := "ytdjjmagocakpnaa", sum := "59336d929954e9c5aeec9dc7b89b5f4467043794a493f43ce7cee2b2828300fc", func := "loop.example/g00400/laws.FnExactPutNum", spec := "fnExactPutNum", apart := false }
def FnExactPutNumSaid : Prop := fnExactPutNumRow.holds Try.pinned (OpenSpec.ofChange fnExactPutNumSpec)

/-- ITS FALSE NEIGHBOUR: 'it returns false'. Refute it at one input. -/
def fnExactPutNumWrong : ChangeSpec := { name := "fnExactPutNum", fn := fun _ => fun
  | [d1, d2, d3] => { results := [.lit (.bool false)], args := [d1, d2, d3] }
  | _ => none }
def FnExactPutNumWrongFalsely : Prop := fnExactPutNumRow.holds Try.pinned (OpenSpec.ofChange fnExactPutNumWrong)

/-- 'laws.FnExactEventOk': WHATEVER THE INPUT: true; the input reads as it did. -/
def fnExactEventOkSpec : ChangeSpec := { name := "fnExactEventOk", fn := fun _ => fun
  | [d] => { results := [.lit (.bool true)], args := [d] }
  | _ => none }
def fnExactEventOkRow : OpenClaim := { program := "ytdjjmagocakpnaa", sum := "59336d929954e9c5aeec9dc7b89b5f4467043794a493f43ce7cee2b2828300fc", func := "loop.example/g00400/laws.FnExactEventOk", spec := "fnExactEventOk", apart := false }
def FnExactEventOkSaid : Prop := fnExactEventOkRow.holds Try.pinned (OpenSpec.ofChange fnExactEventOkSpec)

/-- ITS FALSE NEIGHBOUR: 'it returns false'. Refute it at one input. -/
def fnExactEventOkWrong : ChangeSpec := { name := "fnExactEventOk", fn := fun _ => fun
  | [d] => { results := [.lit (.bool false)], args := [d] }
  | _ => none }
def FnExactEventOkWrongFalsely : Prop := fnExactEventOkRow.holds Try.pinned (OpenSpec.ofChange fnExactEventOkWrong)

/-- 'laws.FnTear': WHATEVER THE INPUT: true; the input reads as it did. -/
def fnTearSpec : ChangeSpec := { name := "fnTear", fn := fun _ => fun
  | [d] => { results := [.lit (.bool true)], args := [d] }
  | _ => none }
def fnTearRow : OpenClaim := { program := "ytdjjmagocakpnaa", sum := "59336d929954e9c5aeec9dc7b89b5f4467043794a493f43ce7cee2b2828300fc", func := "loop.example/g00400/laws.FnTear", spec := "fnTear", apart := false }
def FnTearSaid : Prop := fnTearRow.holds Try.pinned (OpenSpec.ofChange fnTearSpec)

/-- ITS FALSE NEIGHBOUR: 'it returns false'. Refute it at one input. -/
def fnTearWrong : ChangeSpec := { name := "fnTear", fn := fun _ => fun
  | [d] => { results := [.lit (.bool false)], args := [d] }
  | _ => none }
def FnTearWrongFalsely : Prop := fnTearRow.holds Try.pinned (OpenSpec.ofChange fnTearWrong)

/-- 'laws.FnExactSectorBytes': WHATEVER THE INPUT: true; the input reads as it did. -/
def fnExactSectorBytesSpec : ChangeSpec := { name := "fnExactSectorBytes", fn := fun _ => fun
  | [d] => { results := [.lit (.bool true)], args := [d] }
  | _ => none }
def fnExactSectorBytesRow : OpenClaim := { program := "ytdjjmagocakpnaa", sum := "59336d929954e9c5aeec9dc7b89b5f4467043794a493f43ce7cee2b2828300fc", func := "loop.example/g00400/laws.FnExactSectorBytes", spec := "fnExactSectorBytes", apart := false }
def FnExactSectorBytesSaid : Prop := fnExactSectorBytesRow.holds Try.pinned (OpenSpec.ofChange fnExactSectorBytesSpec)

/-- ITS FALSE NEIGHBOUR: 'it returns false'. Refute it at one input. -/
def fnExactSectorBytesWrong : ChangeSpec := { name := "fnExactSectorBytes", fn := fun _ => fun
  | [d] => { results := [.lit (.bool false)], args := [d] }
  | _ => none }
def FnExactSectorBytesWrongFalsely : Prop := fnExactSectorBytesRow.holds Try.pinned (OpenSpec.ofChange fnExactSectorBytesWrong)

/-- 'laws.FnExactDiskNew': WHATEVER THE INPUT: true; the input reads as it did. -/
def fnExactDiskNewSpec : ChangeSpec := { name := "fnExactDiskNew", fn := fun _ => fun
  | [d] => { results := [.lit (.bool true)], args := [d] }
  | _ => none }
def fnExactDiskNewRow : OpenClaim := { program := "ytdjjmagocakpnaa", sum := "59336d929954e9c5aeec9dc7b89b5f4467043794a493f43ce7cee2b2828300fc", func := "loop.example/g00400/laws.FnExactDiskNew", spec := "fnExactDiskNew", apart := false }
def FnExactDiskNewSaid : Prop := fnExactDiskNewRow.holds Try.pinned (OpenSpec.ofChange fnExactDiskNewSpec)

/-- ITS FALSE NEIGHBOUR: 'it returns false'. Refute it at one input. -/
def fnExactDiskNewWrong : ChangeSpec := { name := "fnExactDiskNew", fn := fun _ => fun
  | [d] => { results := [.lit (.bool false)], args := [d] }
  | _ => none }
def FnExactDiskNewWrongFalsely : Prop := fnExactDiskNewRow.holds Try.pinned (OpenSpec.ofChange fnExactDiskNewWrong)

/-- 'laws.FnSector': WHATEVER THE INPUT: true; the input reads as it did. -/
def fnSectorSpec : ChangeSpec := { name := "fnSector", fn := fun _ => fun
  | [d] => { results := [.lit (.bool true)], args := [d] }
  | _ => none }
def fnSectorRow : OpenClaim := { program := "ytdjjmagocakpnaa", sum := "59336d929954e9c5aeec9dc7b89b5f4467043794a493f43ce7cee2b2828300fc", func := "loop.example/g00400/laws.FnSector", spec := "fnSector", apart := false }
def FnSectorSaid : Prop := fnSectorRow.holds Try.pinned (OpenSpec.ofChange fnSectorSpec)

/-- ITS FALSE NEIGHBOUR: 'it returns false'. Refute it at one input. -/
def fnSectorWrong : ChangeSpec := { name := "fnSector", fn := fun _ => fun
  | [d] => { results := [.lit (.bool false)], args := [d] }
  | _ => none }
def FnSectorWrongFalsely : Prop := fnSectorRow.holds Try.pinned (OpenSpec.ofChange fnSectorWrong)

/-- 'laws.FnExactSectorRead': WHATEVER THE INPUT: true; the input reads as it did. -/
def fnExactSectorReadSpec : ChangeSpec := { name := "fnExactSectorRead", fn := fun _ => fun
  | [d] => { results := [.lit (.bool true)], args := [d] }
  | _ => none }
def fnExactSectorReadRow : OpenClaim := { program := "ytdjjmagocakpnaa", sum := "59336d929954e9c5aeec9dc7b89b5f4467043794a493f43ce7cee2b2828300fc", func := "loop.example/g00400/laws.FnExactSectorRead", spec := "fnExactSectorRead", apart := false }
def FnExactSectorReadSaid : Prop := fnExactSectorReadRow.holds Try.pinned (OpenSpec.ofChange fnExactSectorReadSpec)

/-- ITS FALSE NEIGHBOUR: 'it returns false'. Refute it at one input. -/
def fnExactSectorReadWrong : ChangeSpec := { name := "fnExactSectorRead", fn := fun _ => fun
  | [d] => { results := [.lit (.bool false)], args := [d] }
  | _ => none }
def FnExactSectorReadWrongFalsely : Prop := fnExactSectorReadRow.holds Try.pinned (OpenSpec.ofChange fnExactSectorReadWrong)

/-- 'laws.FnExactEventBody': WHATEVER THE INPUT: true; the input reads as it did. -/
def fnExactEventBodySpec : ChangeSpec := { name := "fnExactEventBody", fn := fun _ => fun
  | [d] => { results := [.lit (.bool true)], args := [d] }
  | _ => none }
def fnExactEventBodyRow : OpenClaim := { program := "ytdjjmagocakpnaa", sum := "59336d929954e9c5aeec9dc7b89b5f4467043794a493f43ce7cee2b2828300fc", func := "loop.example/g00400/laws.FnExactEventBody", spec := "fnExactEventBody", apart := false }
def FnExactEventBodySaid : Prop := fnExactEventBodyRow.holds Try.pinned (OpenSpec.ofChange fnExactEventBodySpec)

/-- ITS FALSE NEIGHBOUR: 'it returns false'. Refute it at one input. -/
def fnExactEventBodyWrong : ChangeSpec := { name := "fnExactEventBody", fn := fun _ => fun
  | [d] => { results := [.lit (.bool false)], args := [d] }
  | _ => none }
def FnExactEventBodyWrongFalsely : Prop := fnExactEventBodyRow.holds Try.pinned (OpenSpec.ofChange fnExactEventBodyWrong)

/-- 'laws.FnExactDiskOk': WHATEVER THE INPUT: true; the input reads as it did. -/
def fnExactDiskOkSpec : ChangeSpec := { name := "fnExactDiskOk", fn := fun _ => fun
  | [d] => { results := [.lit (.bool true)], args := [d] }
  | _ => none }
def fnExactDiskOkRow : OpenClaim := { program := "ytdjjmagocakpnaa", sum := "59336d929954e9c5aeec9dc7b89b5f4467043794a493f43ce7cee2b2828300fc", func := "loop.example/g00400/laws.FnExactDiskOk", spec := "fnExactDiskOk", apart := false }
def FnExactDiskOkSaid : Prop := fnExactDiskOkRow.holds Try.pinned (OpenSpec.ofChange fnExactDiskOkSpec)

/-- ITS FALSE NEIGHBOUR: 'it returns false'. Refute it at one input. -/
def fnExactDiskOkWrong : ChangeSpec := { name := "fnExactDiskOk", fn := fun _ => fun
  | [d] => { results := [.lit (.bool false)], args := [d] }
  | _ => none }
def FnExactDiskOkWrongFalsely : Prop := fnExactDiskOkRow.holds Try.pinned (OpenSpec.ofChange fnExactDiskOkWrong)

/-- 'laws.FnExactBodyEvent': WHATEVER THE INPUT: true; the input reads as it did. -/
def fnExactBodyEventSpec : ChangeSpec := { name := "fnExactBodyEvent", fn := fun _ => fun
  | [d] => { results := [.lit (.bool true)], args := [d] }
  | _ => none }
def fnExactBodyEventRow : OpenClaim := { program := "ytdjjmagocakpnaa", sum := "59336d929954e9c5aeec9dc7b89b5f4467043794a493f43ce7cee2b2828300fc", func := "loop.example/g00400/laws.FnExactBodyEvent", spec := "fnExactBodyEvent", apart := false }
def FnExactBodyEventSaid : Prop := fnExactBodyEventRow.holds Try.pinned (OpenSpec.ofChange fnExactBodyEventSpec)

/-- ITS FALSE NEIGHBOUR: 'it returns false'. Refute it at one input. -/
def fnExactBodyEventWrong : ChangeSpec := { name := "fnExactBodyEvent", fn := fun _ => fun
  | [d] => { results := [.lit (.bool false)], args := [d] }
  | _ => none }
def FnExactBodyEventWrongFalsely : Prop := fnExactBodyEventRow.holds Try.pinned (OpenSpec.ofChange fnExactBodyEventWrong)

/- THE SECOND FORM. 'bulk': how many values and letters a reading holds, each counted each time it is reached (what is shared counts as often as it is met; a slice's spare places count too). A statement '..UptoSaid' is the law's where the arguments, and the package variables that the reading takes, are together of bulk at most 1048576: NARROWER than '..Said'. Prove '..Said' where nothing that the law and all that it calls make is longer than what came in: it says more and counts as full. Else prove '..UptoSaid'. A law counts once. -/
mutual
def uptoBulk {H : Type} : DataW H → Nat
  | .lit (.string bytes) => bytes.length + 1
  | .lit _ => 1
  | .nil => 1
  | .ptr d => uptoBulk d + 1
  | .slice elems spare => uptoBulkAll elems + uptoBulkAll spare + 1
  | .agg parts => uptoBulkAll parts + 1
  | .iface _ d => uptoBulk d + 1
  | .map entries => uptoBulkEntries entries + 1
  | .held _ => 1
def uptoBulkAll {H : Type} : List (DataW H) → Nat
  | [] => 0
  | d :: r => uptoBulk d + uptoBulkAll r
def uptoBulkEntries {H : Type} : List (Lit × DataW H) → Nat
  | [] => 0
  | x :: r => uptoBulkEntry x + uptoBulkEntries r
def uptoBulkEntry {H : Type} : Lit × DataW H → Nat
  | (.string bytes, d) => bytes.length + uptoBulk d + 1
  | (_, d) => uptoBulk d + 1
 end
def uptoSmall : (H : Type) → List (DataW H) → Bool := fun _ ds => decide (uptoBulkAll ds ≤ 1048576)
def OpenSpec.upto (s : _root_.Go.ChangeSpec) : _root_.Go.OpenSpec := { _root_.Go.OpenSpec.ofChange s with cond := some uptoSmall }

/-- 'laws.FnExactGetNum', WHERE WHAT IT READS IS OF BULK AT MOST 1048576: true; the input reads as it did. -/
def fnExactGetNumUptoRow : OpenClaim := { program := "ytdjjmagocakpnaa", sum := "59336d929954e9c5aeec9dc7b89b5f4467043794a493f43ce7cee2b2828300fc", func := "loop.example/g00400/laws.FnExactGetNum", spec := "fnExactGetNum", apart := false, narrowed := true }
def FnExactGetNumUptoSaid : Prop := fnExactGetNumUptoRow.holds Try.pinned (OpenSpec.upto fnExactGetNumSpec)

/-- 'laws.FnExactSectorOk', WHERE WHAT IT READS IS OF BULK AT MOST 1048576: true; the input reads as it did. -/
def fnExactSectorOkUptoRow : OpenClaim := { program := "ytdjjmagocakpnaa", sum := "59336d929954e9c5aeec9dc7b89b5f4467043794a493f43ce7cee2b2828300fc", func := "loop.example/g00400/laws.FnExactSectorOk", spec := "fnExactSectorOk", apart := false, narrowed := true }
def FnExactSectorOkUptoSaid : Prop := fnExactSectorOkUptoRow.holds Try.pinned (OpenSpec.upto fnExactSectorOkSpec)

/-- 'laws.FnExactPutNum', WHERE WHAT IT READS IS OF BULK AT MOST 1048576: true; the input reads as it did. -/
def fnExactPutNumUptoRow : OpenClaim := { program := "ytdjjmagocakpnaa", sum := "59336d929954e9c5aeec9dc7b89b5f4467043794a493f43ce7cee2b2828300fc", func := "loop.example/g00400/laws.FnExactPutNum", spec := "fnExactPutNum", apart := false, narrowed := true }
def FnExactPutNumUptoSaid : Prop := fnExactPutNumUptoRow.holds Try.pinned (OpenSpec.upto fnExactPutNumSpec)

/-- 'laws.FnExactEventOk', WHERE WHAT IT READS IS OF BULK AT MOST 1048576: true; the input reads as it did. -/
def fnExactEventOkUptoRow : OpenClaim := { program := "ytdjjmagocakpnaa", sum := "59336d929954e9c5aeec9dc7b89b5f4467043794a493f43ce7cee2b2828300fc", func := "loop.example/g00400/laws.FnExactEventOk", spec := "fnExactEventOk", apart := false, narrowed := true }
def FnExactEventOkUptoSaid : Prop := fnExactEventOkUptoRow.holds Try.pinned (OpenSpec.upto fnExactEventOkSpec)

/-- 'laws.FnTear', WHERE WHAT IT READS IS OF BULK AT MOST 1048576: true; the input reads as it did. -/
def fnTearUptoRow : OpenClaim := { program := "ytdjjmagocakpnaa", sum := "59336d929954e9c5aeec9dc7b89b5f4467043794a493f43ce7cee2b2828300fc", func := "loop.example/g00400/laws.FnTear", spec := "fnTear", apart := false, narrowed := true }
def FnTearUptoSaid : Prop := fnTearUptoRow.holds Try.pinned (OpenSpec.upto fnTearSpec)

/-- 'laws.FnExactSectorBytes', WHERE WHAT IT READS IS OF BULK AT MOST 1048576: true; the input reads as it did. -/
def fnExactSectorBytesUptoRow : OpenClaim := { program := "ytdjjmagocakpnaa", sum := "59336d929954e9c5aeec9dc7b89b5f4467043794a493f43ce7cee2b2828300fc", func := "loop.example/g00400/laws.FnExactSectorBytes", spec := "fnExactSectorBytes", apart := false, narrowed := true }
def FnExactSectorBytesUptoSaid : Prop := fnExactSectorBytesUptoRow.holds Try.pinned (OpenSpec.upto fnExactSectorBytesSpec)

/-- 'laws.FnExactDiskNew', WHERE WHAT IT READS IS OF BULK AT MOST 1048576: true; the input reads as it did. -/
def fnExactDiskNewUptoRow : OpenClaim := { program := "ytdjjmagocakpnaa", sum := "59336d929954e9c5aeec9dc7b89b5f4467043794a493f43ce7cee2b2828300fc", func := "loop.example/g00400/laws.FnExactDiskNew", spec := "fnExactDiskNew", apart := false, narrowed := true }
def FnExactDiskNewUptoSaid : Prop := fnExactDiskNewUptoRow.holds Try.pinned (OpenSpec.upto fnExactDiskNewSpec)

/-- 'laws.FnSector', WHERE WHAT IT READS IS OF BULK AT MOST 1048576: true; the input reads as it did. -/
def fnSectorUptoRow : OpenClaim := { program := "ytdjjmagocakpnaa", sum := "59336d929954e9c5aeec9dc7b89b5f4467043794a493f43ce7cee2b2828300fc", func := "loop.example/g00400/laws.FnSector", spec := "fnSector", apart := false, narrowed := true }
def FnSectorUptoSaid : Prop := fnSectorUptoRow.holds Try.pinned (OpenSpec.upto fnSectorSpec)

/-- 'laws.FnExactSectorRead', WHERE WHAT IT READS IS OF BULK AT MOST 1048576: true; the input reads as it did. -/
def fnExactSectorReadUptoRow : OpenClaim := { program := "ytdjjmagocakpnaa", sum := "59336d929954e9c5aeec9dc7b89b5f4467043794a493f43ce7cee2b2828300fc", func := "loop.example/g00400/laws.FnExactSectorRead", spec := "fnExactSectorRead", apart := false, narrowed := true }
def FnExactSectorReadUptoSaid : Prop := fnExactSectorReadUptoRow.holds Try.pinned (OpenSpec.upto fnExactSectorReadSpec)

/-- 'laws.FnExactEventBody', WHERE WHAT IT READS IS OF BULK AT MOST 1048576: true; the input reads as it did. -/
def fnExactEventBodyUptoRow : OpenClaim := { program := "ytdjjmagocakpnaa", sum := "59336d929954e9c5aeec9dc7b89b5f4467043794a493f43ce7cee2b2828300fc", func := "loop.example/g00400/laws.FnExactEventBody", spec := "fnExactEventBody", apart := false, narrowed := true }
def FnExactEventBodyUptoSaid : Prop := fnExactEventBodyUptoRow.holds Try.pinned (OpenSpec.upto fnExactEventBodySpec)

/-- 'laws.FnExactDiskOk', WHERE WHAT IT READS IS OF BULK AT MOST 1048576: true; the input reads as it did. -/
def fnExactDiskOkUptoRow : OpenClaim := { program := "ytdjjmagocakpnaa", sum := "59336d929954e9c5aeec9dc7b89b5f4467043794a493f43ce7cee2b2828300fc", func := "loop.example/g00400/laws.FnExactDiskOk", spec := "fnExactDiskOk", apart := false, narrowed := true }
def FnExactDiskOkUptoSaid : Prop := fnExactDiskOkUptoRow.holds Try.pinned (OpenSpec.upto fnExactDiskOkSpec)

/-- 'laws.FnExactBodyEvent', WHERE WHAT IT READS IS OF BULK AT MOST 1048576: true; the input reads as it did. -/
def fnExactBodyEventUptoRow : OpenClaim := { program := "ytdjjmagocakpnaa", sum := "59336d929954e9c5aeec9dc7b89b5f4467043794a493f43ce7cee2b2828300fc", func := "loop.example/g00400/laws.FnExactBodyEvent", spec := "fnExactBodyEvent", apart := false, narrowed := true }
def FnExactBodyEventUptoSaid : Prop := fnExactBodyEventUptoRow.holds Try.pinned (OpenSpec.upto fnExactBodyEventSpec)

end Rows
end Go.Proofs.Ytdjjmagocakpnaa
