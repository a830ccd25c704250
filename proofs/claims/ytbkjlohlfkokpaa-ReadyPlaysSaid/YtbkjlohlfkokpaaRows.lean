/-
  No cell of these rows narrows 'for every input' (looked for: loops, veiled, ifaces, maps, wideKeys, modest, calm, conditions, laid).
  DERIVED. THE GIVEN ROWS OF THIS SEAT. 13 by the template 'for every input the law returns true; each argument reads behind the call as it read before'; 0 by the template 'total and deterministic' (their statements: YtbkjlohlfkokpaaTotals.lean).
  GIVEN WITH THE SEED: the statements are not yours to turn. If you find one false, say at which input.
  Laid BY PROGRAM, IN A SANDBOX (cutbox-rows.mjs): the forced cells as the released guide's own fill.sh prints them over the translation 6e70b7ceccc69b1e… (all of the seat's roots in one cut). By AI agents, Wed Nov 11 2026. No macro, syntax, notation, axiom, sorry.
-/
import Derived.Test.YtbkjlohlfkokpaaChecked
import GoSem.Claim
import GoSem.ClaimJoined
import GoSem.ClaimMapViews
import Derived.JoinedTies
import Derived.KernelRfl
namespace Go.Proofs.Ytbkjlohlfkokpaa
/- THE CELL 'sum', in the pinned program and in every row, IS THE sha256 OF THE DUMP (.gsa) THAT YtbkjlohlfkokpaaProg.lean LOADS. Nothing in Lean hashes anything: it is a label: what it is worth is what the hold of that sum in a sandbox is worth. -/
noncomputable def Try.pinned : Pinned := { name := "ytbkjlohlfkokpaa", sum := "6e70b7ceccc69b1ed4e7450497e2e883e3d6f4dc408a56b83ecfa47858c0bd9e", checked := Try.checked }
namespace Rows
def none {H : Type} : Left H := { results := [], args := [] }

/-- 'tourbillonlaw10.IpiPlays': WHATEVER THE INPUT: true; the input reads as it did. -/
def ipiPlaysSpec : ChangeSpec := { name := "ipiPlays", fn := fun _ => fun
  | [d1, d2] => { results := [.lit (.bool true)], args := [d1, d2] }
  | _ => none }
def ipiPlaysRow : OpenClaim := { program := "ytbkjlohlfkokpaa", sum := "6e70b7ceccc69b1ed4e7450497e2e883e3d6f4dc408a56b83ecfa47858c0bd9e", func := "tourbillon/tourbillonlaw10.IpiPlays", spec := "ipiPlays", unfollowed := true, recurses := true, plainKeys := false, apart := false }
def IpiPlaysSaid : Prop := ipiPlaysRow.holds Try.pinned (OpenSpec.ofChange ipiPlaysSpec)

/-- ITS FALSE NEIGHBOUR: 'it returns false'. Refute it at one input. -/
def ipiPlaysWrong : ChangeSpec := { name := "ipiPlays", fn := fun _ => fun
  | [d1, d2] => { results := [.lit (.bool false)], args := [d1, d2] }
  | _ => none }
def IpiPlaysWrongFalsely : Prop := ipiPlaysRow.holds Try.pinned (OpenSpec.ofChange ipiPlaysWrong)

/-- 'tourbillonlaw10.IpiOnce': WHATEVER THE INPUT: true; the input reads as it did. -/
def ipiOnceSpec : ChangeSpec := { name := "ipiOnce", fn := fun _ => fun
  | [d1, d2, d3] => { results := [.lit (.bool true)], args := [d1, d2, d3] }
  | _ => none }
def ipiOnceRow : OpenClaim := { program := "ytbkjlohlfkokpaa", sum := "6e70b7ceccc69b1ed4e7450497e2e883e3d6f4dc408a56b83ecfa47858c0bd9e", func := "tourbillon/tourbillonlaw10.IpiOnce", spec := "ipiOnce", unfollowed := true, recurses := true, plainKeys := false, apart := false }
def IpiOnceSaid : Prop := ipiOnceRow.holds Try.pinned (OpenSpec.ofChange ipiOnceSpec)

/-- ITS FALSE NEIGHBOUR: 'it returns false'. Refute it at one input. -/
def ipiOnceWrong : ChangeSpec := { name := "ipiOnce", fn := fun _ => fun
  | [d1, d2, d3] => { results := [.lit (.bool false)], args := [d1, d2, d3] }
  | _ => none }
def IpiOnceWrongFalsely : Prop := ipiOnceRow.holds Try.pinned (OpenSpec.ofChange ipiOnceWrong)

/-- 'tourbillonlaw10.IpiOne': WHATEVER THE INPUT: true; the input reads as it did. -/
def ipiOneSpec : ChangeSpec := { name := "ipiOne", fn := fun _ => fun
  | [d1, d2, d3, d4, d5, d6] => { results := [.lit (.bool true)], args := [d1, d2, d3, d4, d5, d6] }
  | _ => none }
def ipiOneRow : OpenClaim := { program := "ytbkjlohlfkokpaa", sum := "6e70b7ceccc69b1ed4e7450497e2e883e3d6f4dc408a56b83ecfa47858c0bd9e", func := "tourbillon/tourbillonlaw10.IpiOne", spec := "ipiOne", unfollowed := true, recurses := true, plainKeys := false, apart := false }
def IpiOneSaid : Prop := ipiOneRow.holds Try.pinned (OpenSpec.ofChange ipiOneSpec)

/-- ITS FALSE NEIGHBOUR: 'it returns false'. Refute it at one input. -/
def ipiOneWrong : ChangeSpec := { name := "ipiOne", fn := fun _ => fun
  | [d1, d2, d3, d4, d5, d6] => { results := [.lit (.bool false)], args := [d1, d2, d3, d4, d5, d6] }
  | _ => none }
def IpiOneWrongFalsely : Prop := ipiOneRow.holds Try.pinned (OpenSpec.ofChange ipiOneWrong)

/-- 'tourbillonlaw02.HeapKeeps': WHATEVER THE INPUT: true; the input reads as it did. -/
def heapKeepsSpec : ChangeSpec := { name := "heapKeeps", fn := fun _ => fun
  | [d1, d2] => { results := [.lit (.bool true)], args := [d1, d2] }
  | _ => none }
def heapKeepsRow : OpenClaim := { program := "ytbkjlohlfkokpaa", sum := "6e70b7ceccc69b1ed4e7450497e2e883e3d6f4dc408a56b83ecfa47858c0bd9e", func := "tourbillon/tourbillonlaw02.HeapKeeps", spec := "heapKeeps", unfollowed := true, recurses := true, plainKeys := false, apart := false }
def HeapKeepsSaid : Prop := heapKeepsRow.holds Try.pinned (OpenSpec.ofChange heapKeepsSpec)

/-- ITS FALSE NEIGHBOUR: 'it returns false'. Refute it at one input. -/
def heapKeepsWrong : ChangeSpec := { name := "heapKeeps", fn := fun _ => fun
  | [d1, d2] => { results := [.lit (.bool false)], args := [d1, d2] }
  | _ => none }
def HeapKeepsWrongFalsely : Prop := heapKeepsRow.holds Try.pinned (OpenSpec.ofChange heapKeepsWrong)

/-- 'tourbillonlaw02.HeapTurns': WHATEVER THE INPUT: true; the input reads as it did. -/
def heapTurnsSpec : ChangeSpec := { name := "heapTurns", fn := fun _ => fun
  | [d1, d2] => { results := [.lit (.bool true)], args := [d1, d2] }
  | _ => none }
def heapTurnsRow : OpenClaim := { program := "ytbkjlohlfkokpaa", sum := "6e70b7ceccc69b1ed4e7450497e2e883e3d6f4dc408a56b83ecfa47858c0bd9e", func := "tourbillon/tourbillonlaw02.HeapTurns", spec := "heapTurns", unfollowed := true, recurses := true, plainKeys := false, apart := false }
def HeapTurnsSaid : Prop := heapTurnsRow.holds Try.pinned (OpenSpec.ofChange heapTurnsSpec)

/-- ITS FALSE NEIGHBOUR: 'it returns false'. Refute it at one input. -/
def heapTurnsWrong : ChangeSpec := { name := "heapTurns", fn := fun _ => fun
  | [d1, d2] => { results := [.lit (.bool false)], args := [d1, d2] }
  | _ => none }
def HeapTurnsWrongFalsely : Prop := heapTurnsRow.holds Try.pinned (OpenSpec.ofChange heapTurnsWrong)

/-- 'tourbillonlaw02.HeapSorts': WHATEVER THE INPUT: true; the input reads as it did. -/
def heapSortsSpec : ChangeSpec := { name := "heapSorts", fn := fun _ => fun
  | [d] => { results := [.lit (.bool true)], args := [d] }
  | _ => none }
def heapSortsRow : OpenClaim := { program := "ytbkjlohlfkokpaa", sum := "6e70b7ceccc69b1ed4e7450497e2e883e3d6f4dc408a56b83ecfa47858c0bd9e", func := "tourbillon/tourbillonlaw02.HeapSorts", spec := "heapSorts", unfollowed := true, recurses := true, plainKeys := false, apart := false }
def HeapSortsSaid : Prop := heapSortsRow.holds Try.pinned (OpenSpec.ofChange heapSortsSpec)

/-- ITS FALSE NEIGHBOUR: 'it returns false'. Refute it at one input. -/
def heapSortsWrong : ChangeSpec := { name := "heapSorts", fn := fun _ => fun
  | [d] => { results := [.lit (.bool false)], args := [d] }
  | _ => none }
def HeapSortsWrongFalsely : Prop := heapSortsRow.holds Try.pinned (OpenSpec.ofChange heapSortsWrong)

/-- 'tourbillonlaw02.HeapRoom': WHATEVER THE INPUT: true; the input reads as it did. -/
def heapRoomSpec : ChangeSpec := { name := "heapRoom", fn := fun _ => fun
  | [d1, d2] => { results := [.lit (.bool true)], args := [d1, d2] }
  | _ => none }
def heapRoomRow : OpenClaim := { program := "ytbkjlohlfkokpaa", sum := "6e70b7ceccc69b1ed4e7450497e2e883e3d6f4dc408a56b83ecfa47858c0bd9e", func := "tourbillon/tourbillonlaw02.HeapRoom", spec := "heapRoom", unfollowed := true, recurses := true, plainKeys := false, apart := false }
def HeapRoomSaid : Prop := heapRoomRow.holds Try.pinned (OpenSpec.ofChange heapRoomSpec)

/-- ITS FALSE NEIGHBOUR: 'it returns false'. Refute it at one input. -/
def heapRoomWrong : ChangeSpec := { name := "heapRoom", fn := fun _ => fun
  | [d1, d2] => { results := [.lit (.bool false)], args := [d1, d2] }
  | _ => none }
def HeapRoomWrongFalsely : Prop := heapRoomRow.holds Try.pinned (OpenSpec.ofChange heapRoomWrong)

/-- 'tourbillonlaw02.HeapAgain': WHATEVER THE INPUT: true; the input reads as it did. -/
def heapAgainSpec : ChangeSpec := { name := "heapAgain", fn := fun _ => fun
  | [d1, d2, d3] => { results := [.lit (.bool true)], args := [d1, d2, d3] }
  | _ => none }
def heapAgainRow : OpenClaim := { program := "ytbkjlohlfkokpaa", sum := "6e70b7ceccc69b1ed4e7450497e2e883e3d6f4dc408a56b83ecfa47858c0bd9e", func := "tourbillon/tourbillonlaw02.HeapAgain", spec := "heapAgain", unfollowed := true, recurses := true, plainKeys := false, apart := false }
def HeapAgainSaid : Prop := heapAgainRow.holds Try.pinned (OpenSpec.ofChange heapAgainSpec)

/-- ITS FALSE NEIGHBOUR: 'it returns false'. Refute it at one input. -/
def heapAgainWrong : ChangeSpec := { name := "heapAgain", fn := fun _ => fun
  | [d1, d2, d3] => { results := [.lit (.bool false)], args := [d1, d2, d3] }
  | _ => none }
def HeapAgainWrongFalsely : Prop := heapAgainRow.holds Try.pinned (OpenSpec.ofChange heapAgainWrong)

/-- 'tourbillonlaw02.HeapPlays': WHATEVER THE INPUT: true; the input reads as it did. -/
def heapPlaysSpec : ChangeSpec := { name := "heapPlays", fn := fun _ => fun
  | [d1, d2] => { results := [.lit (.bool true)], args := [d1, d2] }
  | _ => none }
def heapPlaysRow : OpenClaim := { program := "ytbkjlohlfkokpaa", sum := "6e70b7ceccc69b1ed4e7450497e2e883e3d6f4dc408a56b83ecfa47858c0bd9e", func := "tourbillon/tourbillonlaw02.HeapPlays", spec := "heapPlays", unfollowed := true, recurses := true, plainKeys := false, apart := false }
def HeapPlaysSaid : Prop := heapPlaysRow.holds Try.pinned (OpenSpec.ofChange heapPlaysSpec)

/-- ITS FALSE NEIGHBOUR: 'it returns false'. Refute it at one input. -/
def heapPlaysWrong : ChangeSpec := { name := "heapPlays", fn := fun _ => fun
  | [d1, d2] => { results := [.lit (.bool false)], args := [d1, d2] }
  | _ => none }
def HeapPlaysWrongFalsely : Prop := heapPlaysRow.holds Try.pinned (OpenSpec.ofChange heapPlaysWrong)

/-- 'tourbillonlaw12.ReadyLeast': WHATEVER THE INPUT: true; the input reads as it did. -/
def readyLeastSpec : ChangeSpec := { name := "readyLeast", fn := fun _ => fun
  | [d1, d2, d3] => { results := [.lit (.bool true)], args := [d1, d2, d3] }
  | _ => none }
def readyLeastRow : OpenClaim := { program := "ytbkjlohlfkokpaa", sum := "6e70b7ceccc69b1ed4e7450497e2e883e3d6f4dc408a56b83ecfa47858c0bd9e", func := "tourbillon/tourbillonlaw12.ReadyLeast", spec := "readyLeast", unfollowed := true, recurses := true, plainKeys := false, apart := false }
def ReadyLeastSaid : Prop := readyLeastRow.holds Try.pinned (OpenSpec.ofChange readyLeastSpec)

/-- ITS FALSE NEIGHBOUR: 'it returns false'. Refute it at one input. -/
def readyLeastWrong : ChangeSpec := { name := "readyLeast", fn := fun _ => fun
  | [d1, d2, d3] => { results := [.lit (.bool false)], args := [d1, d2, d3] }
  | _ => none }
def ReadyLeastWrongFalsely : Prop := readyLeastRow.holds Try.pinned (OpenSpec.ofChange readyLeastWrong)

/-- 'tourbillonlaw12.ReadyRaises': WHATEVER THE INPUT: true; the input reads as it did. -/
def readyRaisesSpec : ChangeSpec := { name := "readyRaises", fn := fun _ => fun
  | [d1, d2, d3] => { results := [.lit (.bool true)], args := [d1, d2, d3] }
  | _ => none }
def readyRaisesRow : OpenClaim := { program := "ytbkjlohlfkokpaa", sum := "6e70b7ceccc69b1ed4e7450497e2e883e3d6f4dc408a56b83ecfa47858c0bd9e", func := "tourbillon/tourbillonlaw12.ReadyRaises", spec := "readyRaises", unfollowed := true, recurses := true, plainKeys := false, apart := false }
def ReadyRaisesSaid : Prop := readyRaisesRow.holds Try.pinned (OpenSpec.ofChange readyRaisesSpec)

/-- ITS FALSE NEIGHBOUR: 'it returns false'. Refute it at one input. -/
def readyRaisesWrong : ChangeSpec := { name := "readyRaises", fn := fun _ => fun
  | [d1, d2, d3] => { results := [.lit (.bool false)], args := [d1, d2, d3] }
  | _ => none }
def ReadyRaisesWrongFalsely : Prop := readyRaisesRow.holds Try.pinned (OpenSpec.ofChange readyRaisesWrong)

/-- 'tourbillonlaw12.ReadyStays': WHATEVER THE INPUT: true; the input reads as it did. -/
def readyStaysSpec : ChangeSpec := { name := "readyStays", fn := fun _ => fun
  | [d1, d2, d3] => { results := [.lit (.bool true)], args := [d1, d2, d3] }
  | _ => none }
def readyStaysRow : OpenClaim := { program := "ytbkjlohlfkokpaa", sum := "6e70b7ceccc69b1ed4e7450497e2e883e3d6f4dc408a56b83ecfa47858c0bd9e", func := "tourbillon/tourbillonlaw12.ReadyStays", spec := "readyStays", unfollowed := true, recurses := true, plainKeys := false, apart := false }
def ReadyStaysSaid : Prop := readyStaysRow.holds Try.pinned (OpenSpec.ofChange readyStaysSpec)

/-- ITS FALSE NEIGHBOUR: 'it returns false'. Refute it at one input. -/
def readyStaysWrong : ChangeSpec := { name := "readyStays", fn := fun _ => fun
  | [d1, d2, d3] => { results := [.lit (.bool false)], args := [d1, d2, d3] }
  | _ => none }
def ReadyStaysWrongFalsely : Prop := readyStaysRow.holds Try.pinned (OpenSpec.ofChange readyStaysWrong)

/-- 'tourbillonlaw12.ReadyPlays': WHATEVER THE INPUT: true; the input reads as it did. -/
def readyPlaysSpec : ChangeSpec := { name := "readyPlays", fn := fun _ => fun
  | [d1, d2] => { results := [.lit (.bool true)], args := [d1, d2] }
  | _ => none }
def readyPlaysRow : OpenClaim := { program := "ytbkjlohlfkokpaa", sum := "6e70b7ceccc69b1ed4e7450497e2e883e3d6f4dc408a56b83ecfa47858c0bd9e", func := "tourbillon/tourbillonlaw12.ReadyPlays", spec := "readyPlays", unfollowed := true, recurses := true, plainKeys := false, apart := false }
def ReadyPlaysSaid : Prop := readyPlaysRow.holds Try.pinned (OpenSpec.ofChange readyPlaysSpec)

/-- ITS FALSE NEIGHBOUR: 'it returns false'. Refute it at one input. -/
def readyPlaysWrong : ChangeSpec := { name := "readyPlays", fn := fun _ => fun
  | [d1, d2] => { results := [.lit (.bool false)], args := [d1, d2] }
  | _ => none }
def ReadyPlaysWrongFalsely : Prop := readyPlaysRow.holds Try.pinned (OpenSpec.ofChange readyPlaysWrong)

/- THE SECOND FORM. 'bulk': how many values and letters a reading holds, each counted each time it is reached (what is shared counts as often as it is met; a slice's spare places count too). A statement '..UptoSaid' is the law's where the arguments, and the package variables that the reading takes, are together of bulk at most 1048576: NARROWER than '..Said'. Prove '..Said' where nothing that the law and all that it calls make is longer than what came in: it says more and counts as full. Else prove '..UptoSaid'. A law counts once. -/
mutual
def uptoBulk {H : Type} : DataW H → Nat
  | .lit (.string bytes) => bytes.length + 1
  | .lit _ => 1
  | .nil => 1
  | .ptr d => uptoBulk d + 1
  | .slice elems spare => uptoBulkAll elems + uptoBulkAll spare + 1
  | .agg parts => uptoBulkAll parts + 1
  | .iface _ d => uptoBulk d + 1
  | .map entries => uptoBulkEntries entries + 1
  | .held _ => 1
def uptoBulkAll {H : Type} : List (DataW H) → Nat
  | [] => 0
  | d :: r => uptoBulk d + uptoBulkAll r
def uptoBulkEntries {H : Type} : List (Lit × DataW H) → Nat
  | [] => 0
  | x :: r => uptoBulkEntry x + uptoBulkEntries r
def uptoBulkEntry {H : Type} : Lit × DataW H → Nat
  | (.string bytes, d) => bytes.length + uptoBulk d + 1
  | (_, d) => uptoBulk d + 1
 end
def uptoSmall : (H : Type) → List (DataW H) → Bool := fun _ ds => decide (uptoBulkAll ds ≤ 1048576)
def OpenSpec.upto (s : _root_.Go.ChangeSpec) : _root_.Go.OpenSpec := { _root_.Go.OpenSpec.ofChange s with cond := some uptoSmall }

/-- 'tourbillonlaw10.IpiPlays', WHERE WHAT IT READS IS OF BULK AT MOST 1048576: true; the input reads as it did. -/
def ipiPlaysUptoRow : OpenClaim := { program := "ytbkjlohlfkokpaa", sum := "6e70b7ceccc69b1ed4e7450497e2e883e3d6f4dc408a56b83ecfa47858c0bd9e", func := "tourbillon/tourbillonlaw10.IpiPlays", spec := "ipiPlays", unfollowed := true, recurses := true, plainKeys := false, apart := false, narrowed := true }
def IpiPlaysUptoSaid : Prop := ipiPlaysUptoRow.holds Try.pinned (OpenSpec.upto ipiPlaysSpec)

/-- 'tourbillonlaw10.IpiOnce', WHERE WHAT IT READS IS OF BULK AT MOST 1048576: true; the input reads as it did. -/
def ipiOnceUptoRow : OpenClaim := { program := "ytbkjlohlfkokpaa", sum := "6e70b7ceccc69b1ed4e7450497e2e883e3d6f4dc408a56b83ecfa47858c0bd9e", func := "tourbillon/tourbillonlaw10.IpiOnce", spec := "ipiOnce", unfollowed := true, recurses := true, plainKeys := false, apart := false, narrowed := true }
def IpiOnceUptoSaid : Prop := ipiOnceUptoRow.holds Try.pinned (OpenSpec.upto ipiOnceSpec)

/-- 'tourbillonlaw10.IpiOne', WHERE WHAT IT READS IS OF BULK AT MOST 1048576: true; the input reads as it did. -/
def ipiOneUptoRow : OpenClaim := { program := "ytbkjlohlfkokpaa", sum := "6e70b7ceccc69b1ed4e7450497e2e883e3d6f4dc408a56b83ecfa47858c0bd9e", func := "tourbillon/tourbillonlaw10.IpiOne", spec := "ipiOne", unfollowed := true, recurses := true, plainKeys := false, apart := false, narrowed := true }
def IpiOneUptoSaid : Prop := ipiOneUptoRow.holds Try.pinned (OpenSpec.upto ipiOneSpec)

/-- 'tourbillonlaw02.HeapKeeps', WHERE WHAT IT READS IS OF BULK AT MOST 1048576: true; the input reads as it did. -/
def heapKeepsUptoRow : OpenClaim := { program := "ytbkjlohlfkokpaa", sum := "6e70b7ceccc69b1ed4e7450497e2e883e3d6f4dc408a56b83ecfa47858c0bd9e", func := "tourbillon/tourbillonlaw02.HeapKeeps", spec := "heapKeeps", unfollowed := true, recurses := true, plainKeys := false, apart := false, narrowed := true }
def HeapKeepsUptoSaid : Prop := heapKeepsUptoRow.holds Try.pinned (OpenSpec.upto heapKeepsSpec)

/-- 'tourbillonlaw02.HeapTurns', WHERE WHAT IT READS IS OF BULK AT MOST 1048576: true; the input reads as it did. -/
def heapTurnsUptoRow : OpenClaim := { program := "ytbkjlohlfkokpaa", sum := "6e70b7ceccc69b1ed4e7450497e2e883e3d6f4dc408a56b83ecfa47858c0bd9e", func := "tourbillon/tourbillonlaw02.HeapTurns", spec := "heapTurns", unfollowed := true, recurses := true, plainKeys := false, apart := false, narrowed := true }
def HeapTurnsUptoSaid : Prop := heapTurnsUptoRow.holds Try.pinned (OpenSpec.upto heapTurnsSpec)

/-- 'tourbillonlaw02.HeapSorts', WHERE WHAT IT READS IS OF BULK AT MOST 1048576: true; the input reads as it did. -/
def heapSortsUptoRow : OpenClaim := { program := "ytbkjlohlfkokpaa", sum := "6e70b7ceccc69b1ed4e7450497e2e883e3d6f4dc408a56b83ecfa47858c0bd9e", func := "tourbillon/tourbillonlaw02.HeapSorts", spec := "heapSorts", unfollowed := true, recurses := true, plainKeys := false, apart := false, narrowed := true }
def HeapSortsUptoSaid : Prop := heapSortsUptoRow.holds Try.pinned (OpenSpec.upto heapSortsSpec)

/-- 'tourbillonlaw02.HeapRoom', WHERE WHAT IT READS IS OF BULK AT MOST 1048576: true; the input reads as it did. -/
def heapRoomUptoRow : OpenClaim := { program := "ytbkjlohlfkokpaa", sum := "6e70b7ceccc69b1ed4e7450497e2e883e3d6f4dc408a56b83ecfa47858c0bd9e", func := "tourbillon/tourbillonlaw02.HeapRoom", spec := "heapRoom", unfollowed := true, recurses := true, plainKeys := false, apart := false, narrowed := true }
def HeapRoomUptoSaid : Prop := heapRoomUptoRow.holds Try.pinned (OpenSpec.upto heapRoomSpec)

/-- 'tourbillonlaw02.HeapAgain', WHERE WHAT IT READS IS OF BULK AT MOST 1048576: true; the input reads as it did. -/
def heapAgainUptoRow : OpenClaim := { program := "ytbkjlohlfkokpaa", sum := "6e70b7ceccc69b1ed4e7450497e2e883e3d6f4dc408a56b83ecfa47858c0bd9e", func := "tourbillon/tourbillonlaw02.HeapAgain", spec := "heapAgain", unfollowed := true, recurses := true, plainKeys := false, apart := false, narrowed := true }
def HeapAgainUptoSaid : Prop := heapAgainUptoRow.holds Try.pinned (OpenSpec.upto heapAgainSpec)

/-- 'tourbillonlaw02.HeapPlays', WHERE WHAT IT READS IS OF BULK AT MOST 1048576: true; the input reads as it did. -/
def heapPlaysUptoRow : OpenClaim := { program := "ytbkjlohlfkokpaa", sum := "6e70b7ceccc69b1ed4e7450497e2e883e3d6f4dc408a56b83ecfa47858c0bd9e", func := "tourbillon/tourbillonlaw02.HeapPlays", spec := "heapPlays", unfollowed := true, recurses := true, plainKeys := false, apart := false, narrowed := true }
def HeapPlaysUptoSaid : Prop := heapPlaysUptoRow.holds Try.pinned (OpenSpec.upto heapPlaysSpec)

/-- 'tourbillonlaw12.ReadyLeast', WHERE WHAT IT READS IS OF BULK AT MOST 1048576: true; the input reads as it did. -/
def readyLeastUptoRow : OpenClaim := { program := "ytbkjlohlfkokpaa", sum := "6e70b7ceccc69b1ed4e7450497e2e883e3d6f4dc408a56b83ecfa47858c0bd9e", func := "tourbillon/tourbillonlaw12.ReadyLeast", spec := "readyLeast", unfollowed := true, recurses := true, plainKeys := false, apart := false, narrowed := true }
def ReadyLeastUptoSaid : Prop := readyLeastUptoRow.holds Try.pinned (OpenSpec.upto readyLeastSpec)

/-- 'tourbillonlaw12.ReadyRaises', WHERE WHAT IT READS IS OF BULK AT MOST 1048576: true; the input reads as it did. -/
def readyRaisesUptoRow : OpenClaim := { program := "ytbkjlohlfkokpaa", sum := "6e70b7ceccc69b1ed4e7450497e2e883e3d6f4dc408a56b83ecfa47858c0bd9e", func := "tourbillon/tourbillonlaw12.ReadyRaises", spec := "readyRaises", unfollowed := true, recurses := true, plainKeys := false, apart := false, narrowed := true }
def ReadyRaisesUptoSaid : Prop := readyRaisesUptoRow.holds Try.pinned (OpenSpec.upto readyRaisesSpec)

/-- 'tourbillonlaw12.ReadyStays', WHERE WHAT IT READS IS OF BULK AT MOST 1048576: true; the input reads as it did. -/
def readyStaysUptoRow : OpenClaim := { program := "ytbkjlohlfkokpaa", sum := "6e70b7ceccc69b1ed4e7450497e2e883e3d6f4dc408a56b83ecfa47858c0bd9e", func := "tourbillon/tourbillonlaw12.ReadyStays", spec := "readyStays", unfollowed := true, recurses := true, plainKeys := false, apart := false, narrowed := true }
def ReadyStaysUptoSaid : Prop := readyStaysUptoRow.holds Try.pinned (OpenSpec.upto readyStaysSpec)

/-- 'tourbillonlaw12.ReadyPlays', WHERE WHAT IT READS IS OF BULK AT MOST 1048576: true; the input reads as it did. -/
def readyPlaysUptoRow : OpenClaim := { program := "ytbkjlohlfkokpaa", sum := "6e70b7ceccc69b1ed4e7450497e2e883e3d6f4dc408a56b83ecfa47858c0bd9e", func := "tourbillon/tourbillonlaw12.ReadyPlays", spec := "readyPlays", unfollowed := true, recurses := true, plainKeys := false, apart := false, narrowed := true }
def ReadyPlaysUptoSaid : Prop := readyPlaysUptoRow.holds Try.pinned (OpenSpec.upto readyPlaysSpec)

end Rows
end Go.Proofs.Ytbkjlohlfkokpaa
