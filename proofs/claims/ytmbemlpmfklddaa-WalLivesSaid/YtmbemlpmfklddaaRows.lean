/-
  No cell of these rows narrows 'for every input' (looked for: loops, veiled, ifaces, maps, wideKeys, modest, calm, conditions, laid).
  DERIVED. THE GIVEN ROWS OF THIS SEAT. 13 by the template 'for every input the law returns true; each argument reads behind the call as it read before'; 0 by the template 'total and deterministic' (their statements: YtmbemlpmfklddaaTotals.lean).
  GIVEN WITH THE SEED: the statements are not yours to turn. If you find one false, say at which input.
  Laid BY PROGRAM, IN A SANDBOX (cutbox-rows.mjs): the forced cells as the released guide's own fill.sh prints them over the translation b95b3d44f9c85c02… (all of the seat's roots in one cut). By AI agents, Wed Nov 11 2026. No macro, syntax, notation, axiom, sorry.
-/
import Derived.Test.YtmbemlpmfklddaaChecked
import GoSem.Claim
import GoSem.ClaimJoined
import GoSem.ClaimMapViews
import Derived.JoinedTies
import Derived.KernelRfl
namespace Go.Proofs.Ytmbemlpmfklddaa
/- THE CELL 'sum', in the pinned program and in every row, IS THE sha256 OF THE DUMP (.gsa) THAT YtmbemlpmfklddaaProg.lean LOADS. Nothing in Lean hashes anything: it is a label: what it is worth is what the hold of that sum in a sandbox is worth. -/
noncomputable def Try.pinned : Pinned := { name := "ytmbemlpmfklddaa", sum := "b95b3d44f9c85c02a7fc34f194d22db703138e54b635532d84dfc95e34469d2c", checked := Try.checked }
namespace Rows
def none {H : Type} : Left H := { results := [], args := [] }

/-- 'truglaw01.CrcTells': WHATEVER THE INPUT: true; the input reads as it did. -/
def crcTellsSpec : ChangeSpec := { name := "crcTells", fn := fun _ => fun
  | [d1, d2, d3] => { results := [.lit (.bool true)], args := [d1, d2, d3] }
  | _ => none }
def crcTellsRow : OpenClaim := { program := "ytmbemlpmfklddaa", sum := "b95b3d44f9c85c02a7fc34f194d22db703138e54b635532d84dfc95e34469d2c", func := "trug/truglaw01.CrcTells", spec := "crcTells", apart := false }
def CrcTellsSaid : Prop := crcTellsRow.holds Try.pinned (OpenSpec.ofChange crcTellsSpec)

/-- ITS FALSE NEIGHBOUR: 'it returns false'. Refute it at one input. -/
def crcTellsWrong : ChangeSpec := { name := "crcTells", fn := fun _ => fun
  | [d1, d2, d3] => { results := [.lit (.bool false)], args := [d1, d2, d3] }
  | _ => none }
def CrcTellsWrongFalsely : Prop := crcTellsRow.holds Try.pinned (OpenSpec.ofChange crcTellsWrong)

/-- 'truglaw01.CrcBursts': WHATEVER THE INPUT: true; the input reads as it did. -/
def crcBurstsSpec : ChangeSpec := { name := "crcBursts", fn := fun _ => fun
  | [d1, d2, d3] => { results := [.lit (.bool true)], args := [d1, d2, d3] }
  | _ => none }
def crcBurstsRow : OpenClaim := { program := "ytmbemlpmfklddaa", sum := "b95b3d44f9c85c02a7fc34f194d22db703138e54b635532d84dfc95e34469d2c", func := "trug/truglaw01.CrcBursts", spec := "crcBursts", apart := false }
def CrcBurstsSaid : Prop := crcBurstsRow.holds Try.pinned (OpenSpec.ofChange crcBurstsSpec)

/-- ITS FALSE NEIGHBOUR: 'it returns false'. Refute it at one input. -/
def crcBurstsWrong : ChangeSpec := { name := "crcBursts", fn := fun _ => fun
  | [d1, d2, d3] => { results := [.lit (.bool false)], args := [d1, d2, d3] }
  | _ => none }
def CrcBurstsWrongFalsely : Prop := crcBurstsRow.holds Try.pinned (OpenSpec.ofChange crcBurstsWrong)

/-- 'truglaw01.CrcCuts': WHATEVER THE INPUT: true; the input reads as it did. -/
def crcCutsSpec : ChangeSpec := { name := "crcCuts", fn := fun _ => fun
  | [d1, d2] => { results := [.lit (.bool true)], args := [d1, d2] }
  | _ => none }
def crcCutsRow : OpenClaim := { program := "ytmbemlpmfklddaa", sum := "b95b3d44f9c85c02a7fc34f194d22db703138e54b635532d84dfc95e34469d2c", func := "trug/truglaw01.CrcCuts", spec := "crcCuts", apart := false }
def CrcCutsSaid : Prop := crcCutsRow.holds Try.pinned (OpenSpec.ofChange crcCutsSpec)

/-- ITS FALSE NEIGHBOUR: 'it returns false'. Refute it at one input. -/
def crcCutsWrong : ChangeSpec := { name := "crcCuts", fn := fun _ => fun
  | [d1, d2] => { results := [.lit (.bool false)], args := [d1, d2] }
  | _ => none }
def CrcCutsWrongFalsely : Prop := crcCutsRow.holds Try.pinned (OpenSpec.ofChange crcCutsWrong)

/-- 'truglaw12.DiskFirst': WHATEVER THE INPUT: true; the input reads as it did. -/
def diskFirstSpec : ChangeSpec := { name := "diskFirst", fn := fun _ => fun
  | [d1, d2] => { results := [.lit (.bool true)], args := [d1, d2] }
  | _ => none }
def diskFirstRow : OpenClaim := { program := "ytmbemlpmfklddaa", sum := "b95b3d44f9c85c02a7fc34f194d22db703138e54b635532d84dfc95e34469d2c", func := "trug/truglaw12.DiskFirst", spec := "diskFirst", unfollowed := true, recurses := true, apart := false }
def DiskFirstSaid : Prop := diskFirstRow.holds Try.pinned (OpenSpec.ofChange diskFirstSpec)

/-- ITS FALSE NEIGHBOUR: 'it returns false'. Refute it at one input. -/
def diskFirstWrong : ChangeSpec := { name := "diskFirst", fn := fun _ => fun
  | [d1, d2] => { results := [.lit (.bool false)], args := [d1, d2] }
  | _ => none }
def DiskFirstWrongFalsely : Prop := diskFirstRow.holds Try.pinned (OpenSpec.ofChange diskFirstWrong)

/-- 'truglaw12.DiskGoes': WHATEVER THE INPUT: true; the input reads as it did. -/
def diskGoesSpec : ChangeSpec := { name := "diskGoes", fn := fun _ => fun
  | [d1, d2, d3] => { results := [.lit (.bool true)], args := [d1, d2, d3] }
  | _ => none }
def diskGoesRow : OpenClaim := { program := "ytmbemlpmfklddaa", sum := "b95b3d44f9c85c02a7fc34f194d22db703138e54b635532d84dfc95e34469d2c", func := "trug/truglaw12.DiskGoes", spec := "diskGoes", unfollowed := true, recurses := true, apart := false }
def DiskGoesSaid : Prop := diskGoesRow.holds Try.pinned (OpenSpec.ofChange diskGoesSpec)

/-- ITS FALSE NEIGHBOUR: 'it returns false'. Refute it at one input. -/
def diskGoesWrong : ChangeSpec := { name := "diskGoes", fn := fun _ => fun
  | [d1, d2, d3] => { results := [.lit (.bool false)], args := [d1, d2, d3] }
  | _ => none }
def DiskGoesWrongFalsely : Prop := diskGoesRow.holds Try.pinned (OpenSpec.ofChange diskGoesWrong)

/-- 'truglaw13.FramesTorn': WHATEVER THE INPUT: true; the input reads as it did. -/
def framesTornSpec : ChangeSpec := { name := "framesTorn", fn := fun _ => fun
  | [d1, d2, d3] => { results := [.lit (.bool true)], args := [d1, d2, d3] }
  | _ => none }
def framesTornRow : OpenClaim := { program := "ytmbemlpmfklddaa", sum := "b95b3d44f9c85c02a7fc34f194d22db703138e54b635532d84dfc95e34469d2c", func := "trug/truglaw13.FramesTorn", spec := "framesTorn", apart := false }
def FramesTornSaid : Prop := framesTornRow.holds Try.pinned (OpenSpec.ofChange framesTornSpec)

/-- ITS FALSE NEIGHBOUR: 'it returns false'. Refute it at one input. -/
def framesTornWrong : ChangeSpec := { name := "framesTorn", fn := fun _ => fun
  | [d1, d2, d3] => { results := [.lit (.bool false)], args := [d1, d2, d3] }
  | _ => none }
def FramesTornWrongFalsely : Prop := framesTornRow.holds Try.pinned (OpenSpec.ofChange framesTornWrong)

/-- 'truglaw13.FramesJoin': WHATEVER THE INPUT: true; the input reads as it did. -/
def framesJoinSpec : ChangeSpec := { name := "framesJoin", fn := fun _ => fun
  | [d1, d2] => { results := [.lit (.bool true)], args := [d1, d2] }
  | _ => none }
def framesJoinRow : OpenClaim := { program := "ytmbemlpmfklddaa", sum := "b95b3d44f9c85c02a7fc34f194d22db703138e54b635532d84dfc95e34469d2c", func := "trug/truglaw13.FramesJoin", spec := "framesJoin", apart := false }
def FramesJoinSaid : Prop := framesJoinRow.holds Try.pinned (OpenSpec.ofChange framesJoinSpec)

/-- ITS FALSE NEIGHBOUR: 'it returns false'. Refute it at one input. -/
def framesJoinWrong : ChangeSpec := { name := "framesJoin", fn := fun _ => fun
  | [d1, d2] => { results := [.lit (.bool false)], args := [d1, d2] }
  | _ => none }
def FramesJoinWrongFalsely : Prop := framesJoinRow.holds Try.pinned (OpenSpec.ofChange framesJoinWrong)

/-- 'truglaw13.FramesTell': WHATEVER THE INPUT: true; the input reads as it did. -/
def framesTellSpec : ChangeSpec := { name := "framesTell", fn := fun _ => fun
  | [d1, d2] => { results := [.lit (.bool true)], args := [d1, d2] }
  | _ => none }
def framesTellRow : OpenClaim := { program := "ytmbemlpmfklddaa", sum := "b95b3d44f9c85c02a7fc34f194d22db703138e54b635532d84dfc95e34469d2c", func := "trug/truglaw13.FramesTell", spec := "framesTell", apart := false }
def FramesTellSaid : Prop := framesTellRow.holds Try.pinned (OpenSpec.ofChange framesTellSpec)

/-- ITS FALSE NEIGHBOUR: 'it returns false'. Refute it at one input. -/
def framesTellWrong : ChangeSpec := { name := "framesTell", fn := fun _ => fun
  | [d1, d2] => { results := [.lit (.bool false)], args := [d1, d2] }
  | _ => none }
def FramesTellWrongFalsely : Prop := framesTellRow.holds Try.pinned (OpenSpec.ofChange framesTellWrong)

/-- 'truglaw14.WalOpens': WHATEVER THE INPUT: true; the input reads as it did. -/
def walOpensSpec : ChangeSpec := { name := "walOpens", fn := fun _ => fun
  | [d1, d2, d3] => { results := [.lit (.bool true)], args := [d1, d2, d3] }
  | _ => none }
def walOpensRow : OpenClaim := { program := "ytmbemlpmfklddaa", sum := "b95b3d44f9c85c02a7fc34f194d22db703138e54b635532d84dfc95e34469d2c", func := "trug/truglaw14.WalOpens", spec := "walOpens", unfollowed := true, recurses := true, apart := false }
def WalOpensSaid : Prop := walOpensRow.holds Try.pinned (OpenSpec.ofChange walOpensSpec)

/-- ITS FALSE NEIGHBOUR: 'it returns false'. Refute it at one input. -/
def walOpensWrong : ChangeSpec := { name := "walOpens", fn := fun _ => fun
  | [d1, d2, d3] => { results := [.lit (.bool false)], args := [d1, d2, d3] }
  | _ => none }
def WalOpensWrongFalsely : Prop := walOpensRow.holds Try.pinned (OpenSpec.ofChange walOpensWrong)

/-- 'truglaw14.WalWiped': WHATEVER THE INPUT: true; the input reads as it did. -/
def walWipedSpec : ChangeSpec := { name := "walWiped", fn := fun _ => fun
  | [d1, d2] => { results := [.lit (.bool true)], args := [d1, d2] }
  | _ => none }
def walWipedRow : OpenClaim := { program := "ytmbemlpmfklddaa", sum := "b95b3d44f9c85c02a7fc34f194d22db703138e54b635532d84dfc95e34469d2c", func := "trug/truglaw14.WalWiped", spec := "walWiped", unfollowed := true, recurses := true, apart := false }
def WalWipedSaid : Prop := walWipedRow.holds Try.pinned (OpenSpec.ofChange walWipedSpec)

/-- ITS FALSE NEIGHBOUR: 'it returns false'. Refute it at one input. -/
def walWipedWrong : ChangeSpec := { name := "walWiped", fn := fun _ => fun
  | [d1, d2] => { results := [.lit (.bool false)], args := [d1, d2] }
  | _ => none }
def WalWipedWrongFalsely : Prop := walWipedRow.holds Try.pinned (OpenSpec.ofChange walWipedWrong)

/-- 'truglaw14.WalRoom': WHATEVER THE INPUT: true; the input reads as it did. -/
def walRoomSpec : ChangeSpec := { name := "walRoom", fn := fun _ => fun
  | [d1, d2] => { results := [.lit (.bool true)], args := [d1, d2] }
  | _ => none }
def walRoomRow : OpenClaim := { program := "ytmbemlpmfklddaa", sum := "b95b3d44f9c85c02a7fc34f194d22db703138e54b635532d84dfc95e34469d2c", func := "trug/truglaw14.WalRoom", spec := "walRoom", unfollowed := true, recurses := true, apart := false }
def WalRoomSaid : Prop := walRoomRow.holds Try.pinned (OpenSpec.ofChange walRoomSpec)

/-- ITS FALSE NEIGHBOUR: 'it returns false'. Refute it at one input. -/
def walRoomWrong : ChangeSpec := { name := "walRoom", fn := fun _ => fun
  | [d1, d2] => { results := [.lit (.bool false)], args := [d1, d2] }
  | _ => none }
def WalRoomWrongFalsely : Prop := walRoomRow.holds Try.pinned (OpenSpec.ofChange walRoomWrong)

/-- 'truglaw14.WalLives': WHATEVER THE INPUT: true; the input reads as it did. -/
def walLivesSpec : ChangeSpec := { name := "walLives", fn := fun _ => fun
  | [d1, d2] => { results := [.lit (.bool true)], args := [d1, d2] }
  | _ => none }
def walLivesRow : OpenClaim := { program := "ytmbemlpmfklddaa", sum := "b95b3d44f9c85c02a7fc34f194d22db703138e54b635532d84dfc95e34469d2c", func := "trug/truglaw14.WalLives", spec := "walLives", unfollowed := true, recurses := true, apart := false }
def WalLivesSaid : Prop := walLivesRow.holds Try.pinned (OpenSpec.ofChange walLivesSpec)

/-- ITS FALSE NEIGHBOUR: 'it returns false'. Refute it at one input. -/
def walLivesWrong : ChangeSpec := { name := "walLives", fn := fun _ => fun
  | [d1, d2] => { results := [.lit (.bool false)], args := [d1, d2] }
  | _ => none }
def WalLivesWrongFalsely : Prop := walLivesRow.holds Try.pinned (OpenSpec.ofChange walLivesWrong)

/-- 'truglaw14.WalBegins': WHATEVER THE INPUT: true; the input reads as it did. -/
def walBeginsSpec : ChangeSpec := { name := "walBegins", fn := fun _ => fun
  | [d1, d2] => { results := [.lit (.bool true)], args := [d1, d2] }
  | _ => none }
def walBeginsRow : OpenClaim := { program := "ytmbemlpmfklddaa", sum := "b95b3d44f9c85c02a7fc34f194d22db703138e54b635532d84dfc95e34469d2c", func := "trug/truglaw14.WalBegins", spec := "walBegins", unfollowed := true, recurses := true, apart := false }
def WalBeginsSaid : Prop := walBeginsRow.holds Try.pinned (OpenSpec.ofChange walBeginsSpec)

/-- ITS FALSE NEIGHBOUR: 'it returns false'. Refute it at one input. -/
def walBeginsWrong : ChangeSpec := { name := "walBegins", fn := fun _ => fun
  | [d1, d2] => { results := [.lit (.bool false)], args := [d1, d2] }
  | _ => none }
def WalBeginsWrongFalsely : Prop := walBeginsRow.holds Try.pinned (OpenSpec.ofChange walBeginsWrong)

/- THE SECOND FORM. 'bulk': how many values and letters a reading holds, each counted each time it is reached (what is shared counts as often as it is met; a slice's spare places count too). A statement '..UptoSaid' is the law's where the arguments, and the package variables that the reading takes, are together of bulk at most 1048576: NARROWER than '..Said'. Prove '..Said' where nothing that the law and all that it calls make is longer than what came in: it says more and counts as full. Else prove '..UptoSaid'. A law counts once. -/
mutual
def uptoBulk {H : Type} : DataW H → Nat
  | .lit (.string bytes) => bytes.length + 1
  | .lit _ => 1
  | .nil => 1
  | .ptr d => uptoBulk d + 1
  | .slice elems spare => uptoBulkAll elems + uptoBulkAll spare + 1
  | .agg parts => uptoBulkAll parts + 1
  | .iface _ d => uptoBulk d + 1
  | .map entries => uptoBulkEntries entries + 1
  | .held _ => 1
def uptoBulkAll {H : Type} : List (DataW H) → Nat
  | [] => 0
  | d :: r => uptoBulk d + uptoBulkAll r
def uptoBulkEntries {H : Type} : List (Lit × DataW H) → Nat
  | [] => 0
  | x :: r => uptoBulkEntry x + uptoBulkEntries r
def uptoBulkEntry {H : Type} : Lit × DataW H → Nat
  | (.string bytes, d) => bytes.length + uptoBulk d + 1
  | (_, d) => uptoBulk d + 1
 end
def uptoSmall : (H : Type) → List (DataW H) → Bool := fun _ ds => decide (uptoBulkAll ds ≤ 1048576)
def OpenSpec.upto (s : _root_.Go.ChangeSpec) : _root_.Go.OpenSpec := { _root_.Go.OpenSpec.ofChange s with cond := some uptoSmall }

/-- 'truglaw01.CrcTells', WHERE WHAT IT READS IS OF BULK AT MOST 1048576: true; the input reads as it did. -/
def crcTellsUptoRow : OpenClaim := { program := "ytmbemlpmfklddaa", sum := "b95b3d44f9c85c02a7fc34f194d22db703138e54b635532d84dfc95e34469d2c", func := "trug/truglaw01.CrcTells", spec := "crcTells", apart := false, narrowed := true }
def CrcTellsUptoSaid : Prop := crcTellsUptoRow.holds Try.pinned (OpenSpec.upto crcTellsSpec)

/-- 'truglaw01.CrcBursts', WHERE WHAT IT READS IS OF BULK AT MOST 1048576: true; the input reads as it did. -/
def crcBurstsUptoRow : OpenClaim := { program := "ytmbemlpmfklddaa", sum := "b95b3d44f9c85c02a7fc34f194d22db703138e54b635532d84dfc95e34469d2c", func := "trug/truglaw01.CrcBursts", spec := "crcBursts", apart := false, narrowed := true }
def CrcBurstsUptoSaid : Prop := crcBurstsUptoRow.holds Try.pinned (OpenSpec.upto crcBurstsSpec)

/-- 'truglaw01.CrcCuts', WHERE WHAT IT READS IS OF BULK AT MOST 1048576: true; the input reads as it did. -/
def crcCutsUptoRow : OpenClaim := { program := "ytmbemlpmfklddaa", sum := "b95b3d44f9c85c02a7fc34f194d22db703138e54b635532d84dfc95e34469d2c", func := "trug/truglaw01.CrcCuts", spec := "crcCuts", apart := false, narrowed := true }
def CrcCutsUptoSaid : Prop := crcCutsUptoRow.holds Try.pinned (OpenSpec.upto crcCutsSpec)

/-- 'truglaw12.DiskFirst', WHERE WHAT IT READS IS OF BULK AT MOST 1048576: true; the input reads as it did. -/
def diskFirstUptoRow : OpenClaim := { program := "ytmbemlpmfklddaa", sum := "b95b3d44f9c85c02a7fc34f194d22db703138e54b635532d84dfc95e34469d2c", func := "trug/truglaw12.DiskFirst", spec := "diskFirst", unfollowed := true, recurses := true, apart := false, narrowed := true }
def DiskFirstUptoSaid : Prop := diskFirstUptoRow.holds Try.pinned (OpenSpec.upto diskFirstSpec)

/-- 'truglaw12.DiskGoes', WHERE WHAT IT READS IS OF BULK AT MOST 1048576: true; the input reads as it did. -/
def diskGoesUptoRow : OpenClaim := { program := "ytmbemlpmfklddaa", sum := "b95b3d44f9c85c02a7fc34f194d22db703138e54b635532d84dfc95e34469d2c", func := "trug/truglaw12.DiskGoes", spec := "diskGoes", unfollowed := true, recurses := true, apart := false, narrowed := true }
def DiskGoesUptoSaid : Prop := diskGoesUptoRow.holds Try.pinned (OpenSpec.upto diskGoesSpec)

/-- 'truglaw13.FramesTorn', WHERE WHAT IT READS IS OF BULK AT MOST 1048576: true; the input reads as it did. -/
def framesTornUptoRow : OpenClaim := { program := "ytmbemlpmfklddaa", sum := "b95b3d44f9c85c02a7fc34f194d22db703138e54b635532d84dfc95e34469d2c", func := "trug/truglaw13.FramesTorn", spec := "framesTorn", apart := false, narrowed := true }
def FramesTornUptoSaid : Prop := framesTornUptoRow.holds Try.pinned (OpenSpec.upto framesTornSpec)

/-- 'truglaw13.FramesJoin', WHERE WHAT IT READS IS OF BULK AT MOST 1048576: true; the input reads as it did. -/
def framesJoinUptoRow : OpenClaim := { program := "ytmbemlpmfklddaa", sum := "b95b3d44f9c85c02a7fc34f194d22db703138e54b635532d84dfc95e34469d2c", func := "trug/truglaw13.FramesJoin", spec := "framesJoin", apart := false, narrowed := true }
def FramesJoinUptoSaid : Prop := framesJoinUptoRow.holds Try.pinned (OpenSpec.upto framesJoinSpec)

/-- 'truglaw13.FramesTell', WHERE WHAT IT READS IS OF BULK AT MOST 1048576: true; the input reads as it did. -/
def framesTellUptoRow : OpenClaim := { program := "ytmbemlpmfklddaa", sum := "b95b3d44f9c85c02a7fc34f194d22db703138e54b635532d84dfc95e34469d2c", func := "trug/truglaw13.FramesTell", spec := "framesTell", apart := false, narrowed := true }
def FramesTellUptoSaid : Prop := framesTellUptoRow.holds Try.pinned (OpenSpec.upto framesTellSpec)

/-- 'truglaw14.WalOpens', WHERE WHAT IT READS IS OF BULK AT MOST 1048576: true; the input reads as it did. -/
def walOpensUptoRow : OpenClaim := { program := "ytmbemlpmfklddaa", sum := "b95b3d44f9c85c02a7fc34f194d22db703138e54b635532d84dfc95e34469d2c", func := "trug/truglaw14.WalOpens", spec := "walOpens", unfollowed := true, recurses := true, apart := false, narrowed := true }
def WalOpensUptoSaid : Prop := walOpensUptoRow.holds Try.pinned (OpenSpec.upto walOpensSpec)

/-- 'truglaw14.WalWiped', WHERE WHAT IT READS IS OF BULK AT MOST 1048576: true; the input reads as it did. -/
def walWipedUptoRow : OpenClaim := { program := "ytmbemlpmfklddaa", sum := "b95b3d44f9c85c02a7fc34f194d22db703138e54b635532d84dfc95e34469d2c", func := "trug/truglaw14.WalWiped", spec := "walWiped", unfollowed := true, recurses := true, apart := false, narrowed := true }
def WalWipedUptoSaid : Prop := walWipedUptoRow.holds Try.pinned (OpenSpec.upto walWipedSpec)

/-- 'truglaw14.WalRoom', WHERE WHAT IT READS IS OF BULK AT MOST 1048576: true; the input reads as it did. -/
def walRoomUptoRow : OpenClaim := { program := "ytmbemlpmfklddaa", sum := "b95b3d44f9c85c02a7fc34f194d22db703138e54b635532d84dfc95e34469d2c", func := "trug/truglaw14.WalRoom", spec := "walRoom", unfollowed := true, recurses := true, apart := false, narrowed := true }
def WalRoomUptoSaid : Prop := walRoomUptoRow.holds Try.pinned (OpenSpec.upto walRoomSpec)

/-- 'truglaw14.WalLives', WHERE WHAT IT READS IS OF BULK AT MOST 1048576: true; the input reads as it did. -/
def walLivesUptoRow : OpenClaim := { program := "ytmbemlpmfklddaa", sum := "b95b3d44f9c85c02a7fc34f194d22db703138e54b635532d84dfc95e34469d2c", func := "trug/truglaw14.WalLives", spec := "walLives", unfollowed := true, recurses := true, apart := false, narrowed := true }
def WalLivesUptoSaid : Prop := walLivesUptoRow.holds Try.pinned (OpenSpec.upto walLivesSpec)

/-- 'truglaw14.WalBegins', WHERE WHAT IT READS IS OF BULK AT MOST 1048576: true; the input reads as it did. -/
def walBeginsUptoRow : OpenClaim := { program := "ytmbemlpmfklddaa", sum := "b95b3d44f9c85c02a7fc34f194d22db703138e54b635532d84dfc95e34469d2c", func := "trug/truglaw14.WalBegins", spec := "walBegins", unfollowed := true, recurses := true, apart := false, narrowed := true }
def WalBeginsUptoSaid : Prop := walBeginsUptoRow.holds Try.pinned (OpenSpec.upto walBeginsSpec)

end Rows
end Go.Proofs.Ytmbemlpmfklddaa
