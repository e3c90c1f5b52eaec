/-
  No cell of these rows narrows 'for every input' (looked for: loops, veiled, ifaces, maps, wideKeys, modest, calm, conditions, laid).
  DERIVED. THE GIVEN ROWS OF THIS SEAT. 12 by the template 'for every input the law returns true; each argument reads behind the call as it read before'; 0 by the template 'total and deterministic' (their statements: YtoeegfcbicjhgaaTotals.lean).
  GIVEN WITH THE SEED: the statements are not yours to turn. If you find one false, say at which input.
  Laid BY PROGRAM, IN A SANDBOX (cutbox-rows.mjs): the forced cells as the released guide's own fill.sh prints them over the translation f8c74444114aa52b… (all of the seat's roots in one cut). By AI agents, Wed Nov 11 2026. No macro, syntax, notation, axiom, sorry.
-/
import Derived.Test.YtoeegfcbicjhgaaChecked
import GoSem.Claim
import GoSem.ClaimJoined
import GoSem.ClaimMapViews
import Derived.JoinedTies
import Derived.KernelRfl
namespace Go.Proofs.Ytoeegfcbicjhgaa
/- THE CELL 'sum', in the pinned program and in every row, IS THE sha256 OF THE DUMP (.gsa) THAT YtoeegfcbicjhgaaProg.lean LOADS. Nothing in Lean hashes anything: it is a label: what it is worth is what the hold of that sum in a sandbox is worth. -/
noncomputable def Try.pinned : Pinned := { name := "ytoeegfcbicjhgaa", sum := "f8c74444114aa52bf211d7da03cfb8e714a3f0d3067f3c17b622cd652dc3b014", checked := Try.checked }
namespace Rows
def none {H : Type} : Left H := { results := [], args := [] }

/-- 'laws.FnExactConstants': WHATEVER THE INPUT: true; the input reads as it did. -/
def fnExactConstantsSpec : ChangeSpec := { name := "fnExactConstants", fn := fun _ => fun
  | [] => { results := [.lit (.bool true)], args := [] }
  | _ => none }
def fnExactConstantsRow : OpenClaim := { program := "ytoeegfcbicjhgaa", sum := "f8c74444114aa52bf211d7da03cfb8e714a3f0d3067f3c17b622cd652dc3b014", func := "loop.example/g00400/laws.FnExactConstants", spec := "fnExactConstants", apart := false }
def FnExactConstantsSaid : Prop := fnExactConstantsRow.holds Try.pinned (OpenSpec.ofChange fnExactConstantsSpec)

/-- ITS FALSE NEIGHBOUR: 'it returns false'. Refute it at one input. -/
def fnExactConstantsWrong : ChangeSpec := { name := "fnExactConstants", fn := fun _ => fun
  | [] => { results := [.lit (.bool false)], args := [] }
  | _ => none }
def FnExactConstantsWrongFalsely : Prop := fnExactConstantsRow.holds Try.pinned (OpenSpec.ofChange fnExactConstantsWrong)

/-- 'laws.FnExactAmtOk': WHATEVER THE INPUT: true; the input reads as it did. -/
def fnExactAmtOkSpec : ChangeSpec := { name := "fnExactAmtOk", fn := fun _ => fun
  | [d] => { results := [.lit (.bool true)], args := [d] }
  | _ => none }
def fnExactAmtOkRow : OpenClaim := { program := "ytoeegfcbicjhgaa", sum := "f8c74444114aa52bf211d7da03cfb8e714a3f0d3067f3c17b622cd652dc3b014", func := "loop.example/g00400/laws.FnExactAmtOk", spec := "fnExactAmtOk", apart := false }
def FnExactAmtOkSaid : Prop := fnExactAmtOkRow.holds Try.pinned (OpenSpec.ofChange fnExactAmtOkSpec)

/-- ITS FALSE NEIGHBOUR: 'it returns false'. Refute it at one input. -/
def fnExactAmtOkWrong : ChangeSpec := { name := "fnExactAmtOk", fn := fun _ => fun
  | [d] => { results := [.lit (.bool false)], args := [d] }
  | _ => none }
def FnExactAmtOkWrongFalsely : Prop := fnExactAmtOkRow.holds Try.pinned (OpenSpec.ofChange fnExactAmtOkWrong)

/-- 'laws.FnExactClamp': WHATEVER THE INPUT: true; the input reads as it did. -/
def fnExactClampSpec : ChangeSpec := { name := "fnExactClamp", fn := fun _ => fun
  | [d1, d2, d3] => { results := [.lit (.bool true)], args := [d1, d2, d3] }
  | _ => none }
def fnExactClampRow : OpenClaim := { program := "ytoeegfcbicjhgaa", sum := "f8c74444114aa52bf211d7da03cfb8e714a3f0d3067f3c17b622cd652dc3b014", func := "loop.example/g00400/laws.FnExactClamp", spec := "fnExactClamp", apart := false }
def FnExactClampSaid : Prop := fnExactClampRow.holds Try.pinned (OpenSpec.ofChange fnExactClampSpec)

/-- ITS FALSE NEIGHBOUR: 'it returns false'. Refute it at one input. -/
def fnExactClampWrong : ChangeSpec := { name := "fnExactClamp", fn := fun _ => fun
  | [d1, d2, d3] => { results := [.lit (.bool false)], args := [d1, d2, d3] }
  | _ => none }
def FnExactClampWrongFalsely : Prop := fnExactClampRow.holds Try.pinned (OpenSpec.ofChange fnExactClampWrong)

/-- 'laws.FnExactWordOk': WHATEVER THE INPUT: true; the input reads as it did. -/
def fnExactWordOkSpec : ChangeSpec := { name := "fnExactWordOk", fn := fun _ => fun
  | [d] => { results := [.lit (.bool true)], args := [d] }
  | _ => none }
def fnExactWordOkRow : OpenClaim := { program := "ytoeegfcbicjhgaa", sum := "f8c74444114aa52bf211d7da03cfb8e714a3f0d3067f3c17b622cd652dc3b014", func := "loop.example/g00400/laws.FnExactWordOk", spec := "fnExactWordOk", apart := false }
def FnExactWordOkSaid : Prop := fnExactWordOkRow.holds Try.pinned (OpenSpec.ofChange fnExactWordOkSpec)

/-- ITS FALSE NEIGHBOUR: 'it returns false'. Refute it at one input. -/
def fnExactWordOkWrong : ChangeSpec := { name := "fnExactWordOk", fn := fun _ => fun
  | [d] => { results := [.lit (.bool false)], args := [d] }
  | _ => none }
def FnExactWordOkWrongFalsely : Prop := fnExactWordOkRow.holds Try.pinned (OpenSpec.ofChange fnExactWordOkWrong)

/-- 'laws.FnExactAddAmt': WHATEVER THE INPUT: true; the input reads as it did. -/
def fnExactAddAmtSpec : ChangeSpec := { name := "fnExactAddAmt", fn := fun _ => fun
  | [d1, d2] => { results := [.lit (.bool true)], args := [d1, d2] }
  | _ => none }
def fnExactAddAmtRow : OpenClaim := { program := "ytoeegfcbicjhgaa", sum := "f8c74444114aa52bf211d7da03cfb8e714a3f0d3067f3c17b622cd652dc3b014", func := "loop.example/g00400/laws.FnExactAddAmt", spec := "fnExactAddAmt", apart := false }
def FnExactAddAmtSaid : Prop := fnExactAddAmtRow.holds Try.pinned (OpenSpec.ofChange fnExactAddAmtSpec)

/-- ITS FALSE NEIGHBOUR: 'it returns false'. Refute it at one input. -/
def fnExactAddAmtWrong : ChangeSpec := { name := "fnExactAddAmt", fn := fun _ => fun
  | [d1, d2] => { results := [.lit (.bool false)], args := [d1, d2] }
  | _ => none }
def FnExactAddAmtWrongFalsely : Prop := fnExactAddAmtRow.holds Try.pinned (OpenSpec.ofChange fnExactAddAmtWrong)

/-- 'laws.FnExactSubAmt': WHATEVER THE INPUT: true; the input reads as it did. -/
def fnExactSubAmtSpec : ChangeSpec := { name := "fnExactSubAmt", fn := fun _ => fun
  | [d1, d2] => { results := [.lit (.bool true)], args := [d1, d2] }
  | _ => none }
def fnExactSubAmtRow : OpenClaim := { program := "ytoeegfcbicjhgaa", sum := "f8c74444114aa52bf211d7da03cfb8e714a3f0d3067f3c17b622cd652dc3b014", func := "loop.example/g00400/laws.FnExactSubAmt", spec := "fnExactSubAmt", apart := false }
def FnExactSubAmtSaid : Prop := fnExactSubAmtRow.holds Try.pinned (OpenSpec.ofChange fnExactSubAmtSpec)

/-- ITS FALSE NEIGHBOUR: 'it returns false'. Refute it at one input. -/
def fnExactSubAmtWrong : ChangeSpec := { name := "fnExactSubAmt", fn := fun _ => fun
  | [d1, d2] => { results := [.lit (.bool false)], args := [d1, d2] }
  | _ => none }
def FnExactSubAmtWrongFalsely : Prop := fnExactSubAmtRow.holds Try.pinned (OpenSpec.ofChange fnExactSubAmtWrong)

/-- 'laws.FnExactAccOk': WHATEVER THE INPUT: true; the input reads as it did. -/
def fnExactAccOkSpec : ChangeSpec := { name := "fnExactAccOk", fn := fun _ => fun
  | [d] => { results := [.lit (.bool true)], args := [d] }
  | _ => none }
def fnExactAccOkRow : OpenClaim := { program := "ytoeegfcbicjhgaa", sum := "f8c74444114aa52bf211d7da03cfb8e714a3f0d3067f3c17b622cd652dc3b014", func := "loop.example/g00400/laws.FnExactAccOk", spec := "fnExactAccOk", apart := false }
def FnExactAccOkSaid : Prop := fnExactAccOkRow.holds Try.pinned (OpenSpec.ofChange fnExactAccOkSpec)

/-- ITS FALSE NEIGHBOUR: 'it returns false'. Refute it at one input. -/
def fnExactAccOkWrong : ChangeSpec := { name := "fnExactAccOk", fn := fun _ => fun
  | [d] => { results := [.lit (.bool false)], args := [d] }
  | _ => none }
def FnExactAccOkWrongFalsely : Prop := fnExactAccOkRow.holds Try.pinned (OpenSpec.ofChange fnExactAccOkWrong)

/-- 'laws.FnExactMulDiv': WHATEVER THE INPUT: true; the input reads as it did. -/
def fnExactMulDivSpec : ChangeSpec := { name := "fnExactMulDiv", fn := fun _ => fun
  | [d1, d2, d3] => { results := [.lit (.bool true)], args := [d1, d2, d3] }
  | _ => none }
def fnExactMulDivRow : OpenClaim := { program := "ytoeegfcbicjhgaa", sum := "f8c74444114aa52bf211d7da03cfb8e714a3f0d3067f3c17b622cd652dc3b014", func := "loop.example/g00400/laws.FnExactMulDiv", spec := "fnExactMulDiv", named := ["math/bits.divideError", "math/bits.overflowError"], apart := false }
def FnExactMulDivSaid : Prop := fnExactMulDivRow.holds Try.pinned (OpenSpec.ofChange fnExactMulDivSpec)

/-- ITS FALSE NEIGHBOUR: 'it returns false'. Refute it at one input. -/
def fnExactMulDivWrong : ChangeSpec := { name := "fnExactMulDiv", fn := fun _ => fun
  | [d1, d2, d3] => { results := [.lit (.bool false)], args := [d1, d2, d3] }
  | _ => none }
def FnExactMulDivWrongFalsely : Prop := fnExactMulDivRow.holds Try.pinned (OpenSpec.ofChange fnExactMulDivWrong)

/-- 'laws.FnExactFee': WHATEVER THE INPUT: true; the input reads as it did. -/
def fnExactFeeSpec : ChangeSpec := { name := "fnExactFee", fn := fun _ => fun
  | [d1, d2, d3] => { results := [.lit (.bool true)], args := [d1, d2, d3] }
  | _ => none }
def fnExactFeeRow : OpenClaim := { program := "ytoeegfcbicjhgaa", sum := "f8c74444114aa52bf211d7da03cfb8e714a3f0d3067f3c17b622cd652dc3b014", func := "loop.example/g00400/laws.FnExactFee", spec := "fnExactFee", named := ["math/bits.divideError", "math/bits.overflowError"], apart := false }
def FnExactFeeSaid : Prop := fnExactFeeRow.holds Try.pinned (OpenSpec.ofChange fnExactFeeSpec)

/-- ITS FALSE NEIGHBOUR: 'it returns false'. Refute it at one input. -/
def fnExactFeeWrong : ChangeSpec := { name := "fnExactFee", fn := fun _ => fun
  | [d1, d2, d3] => { results := [.lit (.bool false)], args := [d1, d2, d3] }
  | _ => none }
def FnExactFeeWrongFalsely : Prop := fnExactFeeRow.holds Try.pinned (OpenSpec.ofChange fnExactFeeWrong)

/-- 'laws.FnExactFeeUp': WHATEVER THE INPUT: true; the input reads as it did. -/
def fnExactFeeUpSpec : ChangeSpec := { name := "fnExactFeeUp", fn := fun _ => fun
  | [d1, d2, d3] => { results := [.lit (.bool true)], args := [d1, d2, d3] }
  | _ => none }
def fnExactFeeUpRow : OpenClaim := { program := "ytoeegfcbicjhgaa", sum := "f8c74444114aa52bf211d7da03cfb8e714a3f0d3067f3c17b622cd652dc3b014", func := "loop.example/g00400/laws.FnExactFeeUp", spec := "fnExactFeeUp", named := ["math/bits.divideError", "math/bits.overflowError"], apart := false }
def FnExactFeeUpSaid : Prop := fnExactFeeUpRow.holds Try.pinned (OpenSpec.ofChange fnExactFeeUpSpec)

/-- ITS FALSE NEIGHBOUR: 'it returns false'. Refute it at one input. -/
def fnExactFeeUpWrong : ChangeSpec := { name := "fnExactFeeUp", fn := fun _ => fun
  | [d1, d2, d3] => { results := [.lit (.bool false)], args := [d1, d2, d3] }
  | _ => none }
def FnExactFeeUpWrongFalsely : Prop := fnExactFeeUpRow.holds Try.pinned (OpenSpec.ofChange fnExactFeeUpWrong)

/-- 'laws.FnMulDiv': WHATEVER THE INPUT: true; the input reads as it did. -/
def fnMulDivSpec : ChangeSpec := { name := "fnMulDiv", fn := fun _ => fun
  | [d] => { results := [.lit (.bool true)], args := [d] }
  | _ => none }
def fnMulDivRow : OpenClaim := { program := "ytoeegfcbicjhgaa", sum := "f8c74444114aa52bf211d7da03cfb8e714a3f0d3067f3c17b622cd652dc3b014", func := "loop.example/g00400/laws.FnMulDiv", spec := "fnMulDiv", named := ["math/bits.divideError", "math/bits.overflowError"], apart := false }
def FnMulDivSaid : Prop := fnMulDivRow.holds Try.pinned (OpenSpec.ofChange fnMulDivSpec)

/-- ITS FALSE NEIGHBOUR: 'it returns false'. Refute it at one input. -/
def fnMulDivWrong : ChangeSpec := { name := "fnMulDiv", fn := fun _ => fun
  | [d] => { results := [.lit (.bool false)], args := [d] }
  | _ => none }
def FnMulDivWrongFalsely : Prop := fnMulDivRow.holds Try.pinned (OpenSpec.ofChange fnMulDivWrong)

/-- 'laws.FnFee': WHATEVER THE INPUT: true; the input reads as it did. -/
def fnFeeSpec : ChangeSpec := { name := "fnFee", fn := fun _ => fun
  | [d] => { results := [.lit (.bool true)], args := [d] }
  | _ => none }
def fnFeeRow : OpenClaim := { program := "ytoeegfcbicjhgaa", sum := "f8c74444114aa52bf211d7da03cfb8e714a3f0d3067f3c17b622cd652dc3b014", func := "loop.example/g00400/laws.FnFee", spec := "fnFee", named := ["math/bits.divideError", "math/bits.overflowError"], apart := false }
def FnFeeSaid : Prop := fnFeeRow.holds Try.pinned (OpenSpec.ofChange fnFeeSpec)

/-- ITS FALSE NEIGHBOUR: 'it returns false'. Refute it at one input. -/
def fnFeeWrong : ChangeSpec := { name := "fnFee", fn := fun _ => fun
  | [d] => { results := [.lit (.bool false)], args := [d] }
  | _ => none }
def FnFeeWrongFalsely : Prop := fnFeeRow.holds Try.pinned (OpenSpec.ofChange fnFeeWrong)

/- THE SECOND FORM. 'bulk': how many values and letters a reading holds, each counted each time it is reached (what is shared counts as often as it is met; a slice's spare places count too). A statement '..UptoSaid' is the law's where the arguments, and the package variables that the reading takes, are together of bulk at most 1048576: NARROWER than '..Said'. Prove '..Said' where nothing that the law and all that it calls make is longer than what came in: it says more and counts as full. Else prove '..UptoSaid'. A law counts once. -/
mutual
def uptoBulk {H : Type} : DataW H → Nat
  | .lit (.string bytes) => bytes.length + 1
  | .lit _ => 1
  | .nil => 1
  | .ptr d => uptoBulk d + 1
  | .slice elems spare => uptoBulkAll elems + uptoBulkAll spare + 1
  | .agg parts => uptoBulkAll parts + 1
  | .iface _ d => uptoBulk d + 1
  | .map entries => uptoBulkEntries entries + 1
  | .held _ => 1
def uptoBulkAll {H : Type} : List (DataW H) → Nat
  | [] => 0
  | d :: r => uptoBulk d + uptoBulkAll r
def uptoBulkEntries {H : Type} : List (Lit × DataW H) → Nat
  | [] => 0
  | x :: r => uptoBulkEntry x + uptoBulkEntries r
def uptoBulkEntry {H : Type} : Lit × DataW H → Nat
  | (.string bytes, d) => bytes.length + uptoBulk d + 1
  | (_, d) => uptoBulk d + 1
 end
def uptoSmall : (H : Type) → List (DataW H) → Bool := fun _ ds => decide (uptoBulkAll ds ≤ 1048576)
def OpenSpec.upto (s : _root_.Go.ChangeSpec) : _root_.Go.OpenSpec := { _root_.Go.OpenSpec.ofChange s with cond := some uptoSmall }

/-- 'laws.FnExactConstants', WHERE WHAT IT READS IS OF BULK AT MOST 1048576: true; the input reads as it did. -/
def fnExactConstantsUptoRow : OpenClaim := { program := "ytoeegfcbicjhgaa", sum := "f8c74444114aa52bf211d7da03cfb8e714a3f0d3067f3c17b622cd652dc3b014", func := "loop.example/g00400/laws.FnExactConstants", spec := "fnExactConstants", apart := false, narrowed := true }
def FnExactConstantsUptoSaid : Prop := fnExactConstantsUptoRow.holds Try.pinned (OpenSpec.upto fnExactConstantsSpec)

/-- 'laws.FnExactAmtOk', WHERE WHAT IT READS IS OF BULK AT MOST 1048576: true; the input reads as it did. -/
def fnExactAmtOkUptoRow : OpenClaim := { program := "ytoeegfcbicjhgaa", sum := "f8c74444114aa52bf211d7da03cfb8e714a3f0d3067f3c17b622cd652dc3b014", func := "loop.example/g00400/laws.FnExactAmtOk", spec := "fnExactAmtOk", apart := false, narrowed := true }
def FnExactAmtOkUptoSaid : Prop := fnExactAmtOkUptoRow.holds Try.pinned (OpenSpec.upto fnExactAmtOkSpec)

/-- 'laws.FnExactClamp', WHERE WHAT IT READS IS OF BULK AT MOST 1048576: true; the input reads as it did. -/
def fnExactClampUptoRow : OpenClaim := { program := "ytoeegfcbicjhgaa", sum := "f8c74444114aa52bf211d7da03cfb8e714a3f0d3067f3c17b622cd652dc3b014", func := "loop.example/g00400/laws.FnExactClamp", spec := "fnExactClamp", apart := false, narrowed := true }
def FnExactClampUptoSaid : Prop := fnExactClampUptoRow.holds Try.pinned (OpenSpec.upto fnExactClampSpec)

/-- 'laws.FnExactWordOk', WHERE WHAT IT READS IS OF BULK AT MOST 1048576: true; the input reads as it did. -/
def fnExactWordOkUptoRow : OpenClaim := { program := "ytoeegfcbicjhgaa", sum := "f8c74444114aa52bf211d7da03cfb8e714a3f0d3067f3c17b622cd652dc3b014", func := "loop.example/g00400/laws.FnExactWordOk", spec := "fnExactWordOk", apart := false, narrowed := true }
def FnExactWordOkUptoSaid : Prop := fnExactWordOkUptoRow.holds Try.pinned (OpenSpec.upto fnExactWordOkSpec)

/-- 'laws.FnExactAddAmt', WHERE WHAT IT READS IS OF BULK AT MOST 1048576: true; the input reads as it did. -/
def fnExactAddAmtUptoRow : OpenClaim := { program := "ytoeegfcbicjhgaa", sum := "f8c74444114aa52bf211d7da03cfb8e714a3f0d3067f3c17b622cd652dc3b014", func := "loop.example/g00400/laws.FnExactAddAmt", spec := "fnExactAddAmt", apart := false, narrowed := true }
def FnExactAddAmtUptoSaid : Prop := fnExactAddAmtUptoRow.holds Try.pinned (OpenSpec.upto fnExactAddAmtSpec)

/-- 'laws.FnExactSubAmt', WHERE WHAT IT READS IS OF BULK AT MOST 1048576: true; the input reads as it did. -/
def fnExactSubAmtUptoRow : OpenClaim := { program := "ytoeegfcbicjhgaa", sum := "f8c74444114aa52bf211d7da03cfb8e714a3f0d3067f3c17b622cd652dc3b014", func := "loop.example/g00400/laws.FnExactSubAmt", spec := "fnExactSubAmt", apart := false, narrowed := true }
def FnExactSubAmtUptoSaid : Prop := fnExactSubAmtUptoRow.holds Try.pinned (OpenSpec.upto fnExactSubAmtSpec)

/-- 'laws.FnExactAccOk', WHERE WHAT IT READS IS OF BULK AT MOST 1048576: true; the input reads as it did. -/
def fnExactAccOkUptoRow : OpenClaim := { program := "ytoeegfcbicjhgaa", sum := "f8c74444114aa52bf211d7da03cfb8e714a3f0d3067f3c17b622cd652dc3b014", func := "loop.example/g00400/laws.FnExactAccOk", spec := "fnExactAccOk", apart := false, narrowed := true }
def FnExactAccOkUptoSaid : Prop := fnExactAccOkUptoRow.holds Try.pinned (OpenSpec.upto fnExactAccOkSpec)

/-- 'laws.FnExactMulDiv', WHERE WHAT IT READS IS OF BULK AT MOST 1048576: true; the input reads as it did. -/
def fnExactMulDivUptoRow : OpenClaim := { program := "ytoeegfcbicjhgaa", sum := "f8c74444114aa52bf211d7da03cfb8e714a3f0d3067f3c17b622cd652dc3b014", func := "loop.example/g00400/laws.FnExactMulDiv", spec := "fnExactMulDiv", named := ["math/bits.divideError", "math/bits.overflowError"], apart := false, narrowed := true }
def FnExactMulDivUptoSaid : Prop := fnExactMulDivUptoRow.holds Try.pinned (OpenSpec.upto fnExactMulDivSpec)

/-- 'laws.FnExactFee', WHERE WHAT IT READS IS OF BULK AT MOST 1048576: true; the input reads as it did. -/
def fnExactFeeUptoRow : OpenClaim := { program := "ytoeegfcbicjhgaa", sum := "f8c74444114aa52bf211d7da03cfb8e714a3f0d3067f3c17b622cd652dc3b014", func := "loop.example/g00400/laws.FnExactFee", spec := "fnExactFee", named := ["math/bits.divideError", "math/bits.overflowError"], apart := false, narrowed := true }
def FnExactFeeUptoSaid : Prop := fnExactFeeUptoRow.holds Try.pinned (OpenSpec.upto fnExactFeeSpec)

/-- 'laws.FnExactFeeUp', WHERE WHAT IT READS IS OF BULK AT MOST 1048576: true; the input reads as it did. -/
def fnExactFeeUpUptoRow : OpenClaim := { program := "ytoeegfcbicjhgaa", sum := "f8c74444114aa52bf211d7da03cfb8e714a3f0d3067f3c17b622cd652dc3b014", func := "loop.example/g00400/laws.FnExactFeeUp", spec := "fnExactFeeUp", named := ["math/bits.divideError", "math/bits.overflowError"], apart := false, narrowed := true }
def FnExactFeeUpUptoSaid : Prop := fnExactFeeUpUptoRow.holds Try.pinned (OpenSpec.upto fnExactFeeUpSpec)

/-- 'laws.FnMulDiv', WHERE WHAT IT READS IS OF BULK AT MOST 1048576: true; the input reads as it did. -/
def fnMulDivUptoRow : OpenClaim := { program := "ytoeegfcbicjhgaa", sum := "f8c74444114aa52bf211d7da03cfb8e714a3f0d3067f3c17b622cd652dc3b014", func := "loop.example/g00400/laws.FnMulDiv", spec := "fnMulDiv", named := ["math/bits.divideError", "math/bits.overflowError"], apart := false, narrowed := true }
def FnMulDivUptoSaid : Prop := fnMulDivUptoRow.holds Try.pinned (OpenSpec.upto fnMulDivSpec)

/-- 'laws.FnFee', WHERE WHAT IT READS IS OF BULK AT MOST 1048576: true; the input reads as it did. -/
def fnFeeUptoRow : OpenClaim := { program := "ytoeegfcbicjhgaa", sum := "f8c74444114aa52bf211d7da03cfb8e714a3f0d3067f3c17b622cd652dc3b014", func := "loop.example/g00400/laws.FnFee", spec := "fnFee", named := ["math/bits.divideError", "math/bits.overflowError"], apart := false, narrowed := true }
def FnFeeUptoSaid : Prop := fnFeeUptoRow.holds Try.pinned (OpenSpec.upto fnFeeSpec)

end Rows
end Go.Proofs.Ytoeegfcbicjhgaa
