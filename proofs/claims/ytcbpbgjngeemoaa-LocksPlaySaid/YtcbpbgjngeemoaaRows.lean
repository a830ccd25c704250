/-
  No cell of these rows narrows 'for every input' (looked for: loops, veiled, ifaces, maps, wideKeys, modest, calm, conditions, laid).
  DERIVED. THE GIVEN ROWS OF THIS SEAT. 12 by the template 'for every input the law returns true; each argument reads behind the call as it read before'; 0 by the template 'total and deterministic' (their statements: YtcbpbgjngeemoaaTotals.lean).
  GIVEN WITH THE SEED: the statements are not yours to turn. If you find one false, say at which input.
  Laid BY PROGRAM, IN A SANDBOX (cutbox-rows.mjs): the forced cells as the released guide's own fill.sh prints them over the translation 8de3a4d4affd10c6… (all of the seat's roots in one cut). By AI agents, Wed Nov 11 2026. No macro, syntax, notation, axiom, sorry.
-/
import Derived.Test.YtcbpbgjngeemoaaChecked
import GoSem.Claim
import GoSem.ClaimJoined
import GoSem.ClaimMapViews
import Derived.JoinedTies
import Derived.KernelRfl
namespace Go.Proofs.Ytcbpbgjngeemoaa
/- THE CELL 'sum', in the pinned program and in every row, IS THE sha256 OF THE DUMP (.gsa) THAT YtcbpbgjngeemoaaProg.lean LOADS. Nothing in Lean hashes anything: it is a label: what it is worth is what the hold of that sum in a sandbox is worth. -/
noncomputable def Try.pinned : Pinned := { name := "ytcbpbgjngeemoaa", sum := "8de3a4d4affd10c66a3aebf38b5f45f32e2ba35191a280bc095bcca787b99c5a", checked := Try.checked }
namespace Rows
def none {H : Type} : Left H := { results := [], args := [] }

/-- 'tourbillonlaw04.RingRoom': WHATEVER THE INPUT: true; the input reads as it did. -/
def ringRoomSpec : ChangeSpec := { name := "ringRoom", fn := fun _ => fun
  | [d1, d2] => { results := [.lit (.bool true)], args := [d1, d2] }
  | _ => none }
def ringRoomRow : OpenClaim := { program := "ytcbpbgjngeemoaa", sum := "8de3a4d4affd10c66a3aebf38b5f45f32e2ba35191a280bc095bcca787b99c5a", func := "tourbillon/tourbillonlaw04.RingRoom", spec := "ringRoom", plainKeys := false, apart := false }
def RingRoomSaid : Prop := ringRoomRow.holds Try.pinned (OpenSpec.ofChange ringRoomSpec)

/-- ITS FALSE NEIGHBOUR: 'it returns false'. Refute it at one input. -/
def ringRoomWrong : ChangeSpec := { name := "ringRoom", fn := fun _ => fun
  | [d1, d2] => { results := [.lit (.bool false)], args := [d1, d2] }
  | _ => none }
def RingRoomWrongFalsely : Prop := ringRoomRow.holds Try.pinned (OpenSpec.ofChange ringRoomWrong)

/-- 'tourbillonlaw11.JobApart': WHATEVER THE INPUT: true; the input reads as it did. -/
def jobApartSpec : ChangeSpec := { name := "jobApart", fn := fun _ => fun
  | [d1, d2, d3] => { results := [.lit (.bool true)], args := [d1, d2, d3] }
  | _ => none }
def jobApartRow : OpenClaim := { program := "ytcbpbgjngeemoaa", sum := "8de3a4d4affd10c66a3aebf38b5f45f32e2ba35191a280bc095bcca787b99c5a", func := "tourbillon/tourbillonlaw11.JobApart", spec := "jobApart", plainKeys := false, apart := false }
def JobApartSaid : Prop := jobApartRow.holds Try.pinned (OpenSpec.ofChange jobApartSpec)

/-- ITS FALSE NEIGHBOUR: 'it returns false'. Refute it at one input. -/
def jobApartWrong : ChangeSpec := { name := "jobApart", fn := fun _ => fun
  | [d1, d2, d3] => { results := [.lit (.bool false)], args := [d1, d2, d3] }
  | _ => none }
def JobApartWrongFalsely : Prop := jobApartRow.holds Try.pinned (OpenSpec.ofChange jobApartWrong)

/-- 'tourbillonlaw11.JobEach': WHATEVER THE INPUT: true; the input reads as it did. -/
def jobEachSpec : ChangeSpec := { name := "jobEach", fn := fun _ => fun
  | [d1, d2] => { results := [.lit (.bool true)], args := [d1, d2] }
  | _ => none }
def jobEachRow : OpenClaim := { program := "ytcbpbgjngeemoaa", sum := "8de3a4d4affd10c66a3aebf38b5f45f32e2ba35191a280bc095bcca787b99c5a", func := "tourbillon/tourbillonlaw11.JobEach", spec := "jobEach", plainKeys := false, apart := false }
def JobEachSaid : Prop := jobEachRow.holds Try.pinned (OpenSpec.ofChange jobEachSpec)

/-- ITS FALSE NEIGHBOUR: 'it returns false'. Refute it at one input. -/
def jobEachWrong : ChangeSpec := { name := "jobEach", fn := fun _ => fun
  | [d1, d2] => { results := [.lit (.bool false)], args := [d1, d2] }
  | _ => none }
def JobEachWrongFalsely : Prop := jobEachRow.holds Try.pinned (OpenSpec.ofChange jobEachWrong)

/-- 'tourbillonlaw11.JobCuts': WHATEVER THE INPUT: true; the input reads as it did. -/
def jobCutsSpec : ChangeSpec := { name := "jobCuts", fn := fun _ => fun
  | [d1, d2, d3, d4] => { results := [.lit (.bool true)], args := [d1, d2, d3, d4] }
  | _ => none }
def jobCutsRow : OpenClaim := { program := "ytcbpbgjngeemoaa", sum := "8de3a4d4affd10c66a3aebf38b5f45f32e2ba35191a280bc095bcca787b99c5a", func := "tourbillon/tourbillonlaw11.JobCuts", spec := "jobCuts", plainKeys := false, apart := false }
def JobCutsSaid : Prop := jobCutsRow.holds Try.pinned (OpenSpec.ofChange jobCutsSpec)

/-- ITS FALSE NEIGHBOUR: 'it returns false'. Refute it at one input. -/
def jobCutsWrong : ChangeSpec := { name := "jobCuts", fn := fun _ => fun
  | [d1, d2, d3, d4] => { results := [.lit (.bool false)], args := [d1, d2, d3, d4] }
  | _ => none }
def JobCutsWrongFalsely : Prop := jobCutsRow.holds Try.pinned (OpenSpec.ofChange jobCutsWrong)

/-- 'tourbillonlaw04.RingFirst': WHATEVER THE INPUT: true; the input reads as it did. -/
def ringFirstSpec : ChangeSpec := { name := "ringFirst", fn := fun _ => fun
  | [d] => { results := [.lit (.bool true)], args := [d] }
  | _ => none }
def ringFirstRow : OpenClaim := { program := "ytcbpbgjngeemoaa", sum := "8de3a4d4affd10c66a3aebf38b5f45f32e2ba35191a280bc095bcca787b99c5a", func := "tourbillon/tourbillonlaw04.RingFirst", spec := "ringFirst", plainKeys := false, apart := false }
def RingFirstSaid : Prop := ringFirstRow.holds Try.pinned (OpenSpec.ofChange ringFirstSpec)

/-- ITS FALSE NEIGHBOUR: 'it returns false'. Refute it at one input. -/
def ringFirstWrong : ChangeSpec := { name := "ringFirst", fn := fun _ => fun
  | [d] => { results := [.lit (.bool false)], args := [d] }
  | _ => none }
def RingFirstWrongFalsely : Prop := ringFirstRow.holds Try.pinned (OpenSpec.ofChange ringFirstWrong)

/-- 'tourbillonlaw04.RingPlays': WHATEVER THE INPUT: true; the input reads as it did. -/
def ringPlaysSpec : ChangeSpec := { name := "ringPlays", fn := fun _ => fun
  | [d1, d2] => { results := [.lit (.bool true)], args := [d1, d2] }
  | _ => none }
def ringPlaysRow : OpenClaim := { program := "ytcbpbgjngeemoaa", sum := "8de3a4d4affd10c66a3aebf38b5f45f32e2ba35191a280bc095bcca787b99c5a", func := "tourbillon/tourbillonlaw04.RingPlays", spec := "ringPlays", plainKeys := false, apart := false }
def RingPlaysSaid : Prop := ringPlaysRow.holds Try.pinned (OpenSpec.ofChange ringPlaysSpec)

/-- ITS FALSE NEIGHBOUR: 'it returns false'. Refute it at one input. -/
def ringPlaysWrong : ChangeSpec := { name := "ringPlays", fn := fun _ => fun
  | [d1, d2] => { results := [.lit (.bool false)], args := [d1, d2] }
  | _ => none }
def RingPlaysWrongFalsely : Prop := ringPlaysRow.holds Try.pinned (OpenSpec.ofChange ringPlaysWrong)

/-- 'tourbillonlaw04.RingDrops': WHATEVER THE INPUT: true; the input reads as it did. -/
def ringDropsSpec : ChangeSpec := { name := "ringDrops", fn := fun _ => fun
  | [d1, d2] => { results := [.lit (.bool true)], args := [d1, d2] }
  | _ => none }
def ringDropsRow : OpenClaim := { program := "ytcbpbgjngeemoaa", sum := "8de3a4d4affd10c66a3aebf38b5f45f32e2ba35191a280bc095bcca787b99c5a", func := "tourbillon/tourbillonlaw04.RingDrops", spec := "ringDrops", plainKeys := false, apart := false }
def RingDropsSaid : Prop := ringDropsRow.holds Try.pinned (OpenSpec.ofChange ringDropsSpec)

/-- ITS FALSE NEIGHBOUR: 'it returns false'. Refute it at one input. -/
def ringDropsWrong : ChangeSpec := { name := "ringDrops", fn := fun _ => fun
  | [d1, d2] => { results := [.lit (.bool false)], args := [d1, d2] }
  | _ => none }
def RingDropsWrongFalsely : Prop := ringDropsRow.holds Try.pinned (OpenSpec.ofChange ringDropsWrong)

/-- 'tourbillonlaw13.LocksPlay': WHATEVER THE INPUT: true; the input reads as it did. -/
def locksPlaySpec : ChangeSpec := { name := "locksPlay", fn := fun _ => fun
  | [d1, d2] => { results := [.lit (.bool true)], args := [d1, d2] }
  | _ => none }
def locksPlayRow : OpenClaim := { program := "ytcbpbgjngeemoaa", sum := "8de3a4d4affd10c66a3aebf38b5f45f32e2ba35191a280bc095bcca787b99c5a", func := "tourbillon/tourbillonlaw13.LocksPlay", spec := "locksPlay", plainKeys := false, apart := false }
def LocksPlaySaid : Prop := locksPlayRow.holds Try.pinned (OpenSpec.ofChange locksPlaySpec)

/-- ITS FALSE NEIGHBOUR: 'it returns false'. Refute it at one input. -/
def locksPlayWrong : ChangeSpec := { name := "locksPlay", fn := fun _ => fun
  | [d1, d2] => { results := [.lit (.bool false)], args := [d1, d2] }
  | _ => none }
def LocksPlayWrongFalsely : Prop := locksPlayRow.holds Try.pinned (OpenSpec.ofChange locksPlayWrong)

/-- 'tourbillonlaw13.LocksFirst': WHATEVER THE INPUT: true; the input reads as it did. -/
def locksFirstSpec : ChangeSpec := { name := "locksFirst", fn := fun _ => fun
  | [d] => { results := [.lit (.bool true)], args := [d] }
  | _ => none }
def locksFirstRow : OpenClaim := { program := "ytcbpbgjngeemoaa", sum := "8de3a4d4affd10c66a3aebf38b5f45f32e2ba35191a280bc095bcca787b99c5a", func := "tourbillon/tourbillonlaw13.LocksFirst", spec := "locksFirst", plainKeys := false, apart := false }
def LocksFirstSaid : Prop := locksFirstRow.holds Try.pinned (OpenSpec.ofChange locksFirstSpec)

/-- ITS FALSE NEIGHBOUR: 'it returns false'. Refute it at one input. -/
def locksFirstWrong : ChangeSpec := { name := "locksFirst", fn := fun _ => fun
  | [d] => { results := [.lit (.bool false)], args := [d] }
  | _ => none }
def LocksFirstWrongFalsely : Prop := locksFirstRow.holds Try.pinned (OpenSpec.ofChange locksFirstWrong)

/-- 'tourbillonlaw13.LocksApart': WHATEVER THE INPUT: true; the input reads as it did. -/
def locksApartSpec : ChangeSpec := { name := "locksApart", fn := fun _ => fun
  | [d] => { results := [.lit (.bool true)], args := [d] }
  | _ => none }
def locksApartRow : OpenClaim := { program := "ytcbpbgjngeemoaa", sum := "8de3a4d4affd10c66a3aebf38b5f45f32e2ba35191a280bc095bcca787b99c5a", func := "tourbillon/tourbillonlaw13.LocksApart", spec := "locksApart", plainKeys := false, apart := false }
def LocksApartSaid : Prop := locksApartRow.holds Try.pinned (OpenSpec.ofChange locksApartSpec)

/-- ITS FALSE NEIGHBOUR: 'it returns false'. Refute it at one input. -/
def locksApartWrong : ChangeSpec := { name := "locksApart", fn := fun _ => fun
  | [d] => { results := [.lit (.bool false)], args := [d] }
  | _ => none }
def LocksApartWrongFalsely : Prop := locksApartRow.holds Try.pinned (OpenSpec.ofChange locksApartWrong)

/-- 'tourbillonlaw10.IpiPlays': WHATEVER THE INPUT: true; the input reads as it did. -/
def ipiPlaysSpec : ChangeSpec := { name := "ipiPlays", fn := fun _ => fun
  | [d1, d2] => { results := [.lit (.bool true)], args := [d1, d2] }
  | _ => none }
def ipiPlaysRow : OpenClaim := { program := "ytcbpbgjngeemoaa", sum := "8de3a4d4affd10c66a3aebf38b5f45f32e2ba35191a280bc095bcca787b99c5a", func := "tourbillon/tourbillonlaw10.IpiPlays", spec := "ipiPlays", unfollowed := true, recurses := true, plainKeys := false, apart := false }
def IpiPlaysSaid : Prop := ipiPlaysRow.holds Try.pinned (OpenSpec.ofChange ipiPlaysSpec)

/-- ITS FALSE NEIGHBOUR: 'it returns false'. Refute it at one input. -/
def ipiPlaysWrong : ChangeSpec := { name := "ipiPlays", fn := fun _ => fun
  | [d1, d2] => { results := [.lit (.bool false)], args := [d1, d2] }
  | _ => none }
def IpiPlaysWrongFalsely : Prop := ipiPlaysRow.holds Try.pinned (OpenSpec.ofChange ipiPlaysWrong)

/-- 'tourbillonlaw10.IpiOnce': WHATEVER THE INPUT: true; the input reads as it did. -/
def ipiOnceSpec : ChangeSpec := { name := "ipiOnce", fn := fun _ => fun
  | [d1, d2, d3] => { results := [.lit (.bool true)], args := [d1, d2, d3] }
  | _ => none }
def ipiOnceRow : OpenClaim := { program := "ytcbpbgjngeemoaa", sum := "8de3a4d4affd10c66a3aebf38b5f45f32e2ba35191a280bc095bcca787b99c5a", func := "tourbillon/tourbillonlaw10.IpiOnce", spec := "ipiOnce", unfollowed := true, recurses := true, plainKeys := false, apart := false }
def IpiOnceSaid : Prop := ipiOnceRow.holds Try.pinned (OpenSpec.ofChange ipiOnceSpec)

/-- ITS FALSE NEIGHBOUR: 'it returns false'. Refute it at one input. -/
def ipiOnceWrong : ChangeSpec := { name := "ipiOnce", fn := fun _ => fun
  | [d1, d2, d3] => { results := [.lit (.bool false)], args := [d1, d2, d3] }
  | _ => none }
def IpiOnceWrongFalsely : Prop := ipiOnceRow.holds Try.pinned (OpenSpec.ofChange ipiOnceWrong)

/- THE SECOND FORM. 'bulk': how many values and letters a reading holds, each counted each time it is reached (what is shared counts as often as it is met; a slice's spare places count too). A statement '..UptoSaid' is the law's where the arguments, and the package variables that the reading takes, are together of bulk at most 1048576: NARROWER than '..Said'. Prove '..Said' where nothing that the law and all that it calls make is longer than what came in: it says more and counts as full. Else prove '..UptoSaid'. A law counts once. -/
mutual
def uptoBulk {H : Type} : DataW H → Nat
  | .lit (.string bytes) => bytes.length + 1
  | .lit _ => 1
  | .nil => 1
  | .ptr d => uptoBulk d + 1
  | .slice elems spare => uptoBulkAll elems + uptoBulkAll spare + 1
  | .agg parts => uptoBulkAll parts + 1
  | .iface _ d => uptoBulk d + 1
  | .map entries => uptoBulkEntries entries + 1
  | .held _ => 1
def uptoBulkAll {H : Type} : List (DataW H) → Nat
  | [] => 0
  | d :: r => uptoBulk d + uptoBulkAll r
def uptoBulkEntries {H : Type} : List (Lit × DataW H) → Nat
  | [] => 0
  | x :: r => uptoBulkEntry x + uptoBulkEntries r
def uptoBulkEntry {H : Type} : Lit × DataW H → Nat
  | (.string bytes, d) => bytes.length + uptoBulk d + 1
  | (_, d) => uptoBulk d + 1
 end
def uptoSmall : (H : Type) → List (DataW H) → Bool := fun _ ds => decide (uptoBulkAll ds ≤ 1048576)
def OpenSpec.upto (s : _root_.Go.ChangeSpec) : _root_.Go.OpenSpec := { _root_.Go.OpenSpec.ofChange s with cond := some uptoSmall }

/-- 'tourbillonlaw04.RingRoom', WHERE WHAT IT READS IS OF BULK AT MOST 1048576: true; the input reads as it did. -/
def ringRoomUptoRow : OpenClaim := { program := "ytcbpbgjngeemoaa", sum := "8de3a4d4affd10c66a3aebf38b5f45f32e2ba35191a280bc095bcca787b99c5a", func := "tourbillon/tourbillonlaw04.RingRoom", spec := "ringRoom", plainKeys := false, apart := false, narrowed := true }
def RingRoomUptoSaid : Prop := ringRoomUptoRow.holds Try.pinned (OpenSpec.upto ringRoomSpec)

/-- 'tourbillonlaw11.JobApart', WHERE WHAT IT READS IS OF BULK AT MOST 1048576: true; the input reads as it did. -/
def jobApartUptoRow : OpenClaim := { program := "ytcbpbgjngeemoaa", sum := "8de3a4d4affd10c66a3aebf38b5f45f32e2ba35191a280bc095bcca787b99c5a", func := "tourbillon/tourbillonlaw11.JobApart", spec := "jobApart", plainKeys := false, apart := false, narrowed := true }
def JobApartUptoSaid : Prop := jobApartUptoRow.holds Try.pinned (OpenSpec.upto jobApartSpec)

/-- 'tourbillonlaw11.JobEach', WHERE WHAT IT READS IS OF BULK AT MOST 1048576: true; the input reads as it did. -/
def jobEachUptoRow : OpenClaim := { program := "ytcbpbgjngeemoaa", sum := "8de3a4d4affd10c66a3aebf38b5f45f32e2ba35191a280bc095bcca787b99c5a", func := "tourbillon/tourbillonlaw11.JobEach", spec := "jobEach", plainKeys := false, apart := false, narrowed := true }
def JobEachUptoSaid : Prop := jobEachUptoRow.holds Try.pinned (OpenSpec.upto jobEachSpec)

/-- 'tourbillonlaw11.JobCuts', WHERE WHAT IT READS IS OF BULK AT MOST 1048576: true; the input reads as it did. -/
def jobCutsUptoRow : OpenClaim := { program := "ytcbpbgjngeemoaa", sum := "8de3a4d4affd10c66a3aebf38b5f45f32e2ba35191a280bc095bcca787b99c5a", func := "tourbillon/tourbillonlaw11.JobCuts", spec := "jobCuts", plainKeys := false, apart := false, narrowed := true }
def JobCutsUptoSaid : Prop := jobCutsUptoRow.holds Try.pinned (OpenSpec.upto jobCutsSpec)

/-- 'tourbillonlaw04.RingFirst', WHERE WHAT IT READS IS OF BULK AT MOST 1048576: true; the input reads as it did. -/
def ringFirstUptoRow : OpenClaim := { program := "ytcbpbgjngeemoaa", sum := "8de3a4d4affd10c66a3aebf38b5f45f32e2ba35191a280bc095bcca787b99c5a", func := "tourbillon/tourbillonlaw04.RingFirst", spec := "ringFirst", plainKeys := false, apart := false, narrowed := true }
def RingFirstUptoSaid : Prop := ringFirstUptoRow.holds Try.pinned (OpenSpec.upto ringFirstSpec)

/-- 'tourbillonlaw04.RingPlays', WHERE WHAT IT READS IS OF BULK AT MOST 1048576: true; the input reads as it did. -/
def ringPlaysUptoRow : OpenClaim := { program := "ytcbpbgjngeemoaa", sum := "8de3a4d4affd10c66a3aebf38b5f45f32e2ba35191a280bc095bcca787b99c5a", func := "tourbillon/tourbillonlaw04.RingPlays", spec := "ringPlays", plainKeys := false, apart := false, narrowed := true }
def RingPlaysUptoSaid : Prop := ringPlaysUptoRow.holds Try.pinned (OpenSpec.upto ringPlaysSpec)

/-- 'tourbillonlaw04.RingDrops', WHERE WHAT IT READS IS OF BULK AT MOST 1048576: true; the input reads as it did. -/
def ringDropsUptoRow : OpenClaim := { program := "ytcbpbgjngeemoaa", sum := "8de3a4d4affd10c66a3aebf38b5f45f32e2ba35191a280bc095bcca787b99c5a", func := "tourbillon/tourbillonlaw04.RingDrops", spec := "ringDrops", plainKeys := false, apart := false, narrowed := true }
def RingDropsUptoSaid : Prop := ringDropsUptoRow.holds Try.pinned (OpenSpec.upto ringDropsSpec)

/-- 'tourbillonlaw13.LocksPlay', WHERE WHAT IT READS IS OF BULK AT MOST 1048576: true; the input reads as it did. -/
def locksPlayUptoRow : OpenClaim := { program := "ytcbpbgjngeemoaa", sum := "8de3a4d4affd10c66a3aebf38b5f45f32e2ba35191a280bc095bcca787b99c5a", func := "tourbillon/tourbillonlaw13.LocksPlay", spec := "locksPlay", plainKeys := false, apart := false, narrowed := true }
def LocksPlayUptoSaid : Prop := locksPlayUptoRow.holds Try.pinned (OpenSpec.upto locksPlaySpec)

/-- 'tourbillonlaw13.LocksFirst', WHERE WHAT IT READS IS OF BULK AT MOST 1048576: true; the input reads as it did. -/
def locksFirstUptoRow : OpenClaim := { program := "ytcbpbgjngeemoaa", sum := "8de3a4d4affd10c66a3aebf38b5f45f32e2ba35191a280bc095bcca787b99c5a", func := "tourbillon/tourbillonlaw13.LocksFirst", spec := "locksFirst", plainKeys := false, apart := false, narrowed := true }
def LocksFirstUptoSaid : Prop := locksFirstUptoRow.holds Try.pinned (OpenSpec.upto locksFirstSpec)

/-- 'tourbillonlaw13.LocksApart', WHERE WHAT IT READS IS OF BULK AT MOST 1048576: true; the input reads as it did. -/
def locksApartUptoRow : OpenClaim := { program := "ytcbpbgjngeemoaa", sum := "8de3a4d4affd10c66a3aebf38b5f45f32e2ba35191a280bc095bcca787b99c5a", func := "tourbillon/tourbillonlaw13.LocksApart", spec := "locksApart", plainKeys := false, apart := false, narrowed := true }
def LocksApartUptoSaid : Prop := locksApartUptoRow.holds Try.pinned (OpenSpec.upto locksApartSpec)

/-- 'tourbillonlaw10.IpiPlays', WHERE WHAT IT READS IS OF BULK AT MOST 1048576: true; the input reads as it did. -/
def ipiPlaysUptoRow : OpenClaim := { program := "ytcbpbgjngeemoaa", sum := "8de3a4d4affd10c66a3aebf38b5f45f32e2ba35191a280bc095bcca787b99c5a", func := "tourbillon/tourbillonlaw10.IpiPlays", spec := "ipiPlays", unfollowed := true, recurses := true, plainKeys := false, apart := false, narrowed := true }
def IpiPlaysUptoSaid : Prop := ipiPlaysUptoRow.holds Try.pinned (OpenSpec.upto ipiPlaysSpec)

/-- 'tourbillonlaw10.IpiOnce', WHERE WHAT IT READS IS OF BULK AT MOST 1048576: true; the input reads as it did. -/
def ipiOnceUptoRow : OpenClaim := { program := "ytcbpbgjngeemoaa", sum := "8de3a4d4affd10c66a3aebf38b5f45f32e2ba35191a280bc095bcca787b99c5a", func := "tourbillon/tourbillonlaw10.IpiOnce", spec := "ipiOnce", unfollowed := true, recurses := true, plainKeys := false, apart := false, narrowed := true }
def IpiOnceUptoSaid : Prop := ipiOnceUptoRow.holds Try.pinned (OpenSpec.upto ipiOnceSpec)

end Rows
end Go.Proofs.Ytcbpbgjngeemoaa
