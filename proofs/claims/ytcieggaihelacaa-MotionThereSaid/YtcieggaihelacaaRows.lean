/-
  No cell of these rows narrows 'for every input' (looked for: loops, veiled, ifaces, maps, wideKeys, modest, calm, conditions, laid).
  DERIVED. THE GIVEN ROWS OF THIS SEAT. 17 by the template 'for every input the law returns true; each argument reads behind the call as it read before'; 0 by the template 'total and deterministic' (their statements: YtcieggaihelacaaTotals.lean).
  GIVEN WITH THE SEED: the statements are not yours to turn. If you find one false, say at which input.
  Laid BY PROGRAM, IN A SANDBOX (cutbox-rows.mjs): the forced cells as the released guide's own fill.sh prints them over the translation a9617a898434d156… (all of the seat's roots in one cut). By AI agents, Wed Nov 11 2026. No macro, syntax, notation, axiom, sorry.
-/
import Derived.Test.YtcieggaihelacaaChecked
import GoSem.Claim
import GoSem.ClaimJoined
import GoSem.ClaimMapViews
import Derived.JoinedTies
import Derived.KernelRfl
namespace Go.Proofs.Ytcieggaihelacaa
/- THE CELL 'sum', in the pinned program and in every row, IS THE sha256 OF THE DUMP (.gsa) THAT YtcieggaihelacaaProg.lean LOADS. Nothing in Lean hashes anything: it is a label: what it is worth is what the hold of that sum in a sandbox is worth. -/
noncomputable def Try.pinned : Pinned := { name := "ytcieggaihelacaa", sum := "a9617a898434d156bce7d48f1d180e03e9ffc9b4529d1752595ebf0228b81b7f", checked := Try.checked }
namespace Rows
def none {H : Type} : Left H := { results := [], args := [] }

/-- 'praxinoscopelaw14.MotionFetches': WHATEVER THE INPUT: true; the input reads as it did. -/
def motionFetchesSpec : ChangeSpec := { name := "motionFetches", fn := fun _ => fun
  | [d1, d2, d3, d4, d5, d6, d7] => { results := [.lit (.bool true)], args := [d1, d2, d3, d4, d5, d6, d7] }
  | _ => none }
def motionFetchesRow : OpenClaim := { program := "ytcieggaihelacaa", sum := "a9617a898434d156bce7d48f1d180e03e9ffc9b4529d1752595ebf0228b81b7f", func := "praxinoscope/praxinoscopelaw14.MotionFetches", spec := "motionFetches", unfollowed := true, recurses := true, apart := false }
def MotionFetchesSaid : Prop := motionFetchesRow.holds Try.pinned (OpenSpec.ofChange motionFetchesSpec)

/-- ITS FALSE NEIGHBOUR: 'it returns false'. Refute it at one input. -/
def motionFetchesWrong : ChangeSpec := { name := "motionFetches", fn := fun _ => fun
  | [d1, d2, d3, d4, d5, d6, d7] => { results := [.lit (.bool false)], args := [d1, d2, d3, d4, d5, d6, d7] }
  | _ => none }
def MotionFetchesWrongFalsely : Prop := motionFetchesRow.holds Try.pinned (OpenSpec.ofChange motionFetchesWrong)

/-- 'praxinoscopelaw14.MotionHalves': WHATEVER THE INPUT: true; the input reads as it did. -/
def motionHalvesSpec : ChangeSpec := { name := "motionHalves", fn := fun _ => fun
  | [d] => { results := [.lit (.bool true)], args := [d] }
  | _ => none }
def motionHalvesRow : OpenClaim := { program := "ytcieggaihelacaa", sum := "a9617a898434d156bce7d48f1d180e03e9ffc9b4529d1752595ebf0228b81b7f", func := "praxinoscope/praxinoscopelaw14.MotionHalves", spec := "motionHalves", unfollowed := true, recurses := true, apart := false }
def MotionHalvesSaid : Prop := motionHalvesRow.holds Try.pinned (OpenSpec.ofChange motionHalvesSpec)

/-- ITS FALSE NEIGHBOUR: 'it returns false'. Refute it at one input. -/
def motionHalvesWrong : ChangeSpec := { name := "motionHalves", fn := fun _ => fun
  | [d] => { results := [.lit (.bool false)], args := [d] }
  | _ => none }
def MotionHalvesWrongFalsely : Prop := motionHalvesRow.holds Try.pinned (OpenSpec.ofChange motionHalvesWrong)

/-- 'praxinoscopelaw14.MotionKnown': WHATEVER THE INPUT: true; the input reads as it did. -/
def motionKnownSpec : ChangeSpec := { name := "motionKnown", fn := fun _ => fun
  | [] => { results := [.lit (.bool true)], args := [] }
  | _ => none }
def motionKnownRow : OpenClaim := { program := "ytcieggaihelacaa", sum := "a9617a898434d156bce7d48f1d180e03e9ffc9b4529d1752595ebf0228b81b7f", func := "praxinoscope/praxinoscopelaw14.MotionKnown", spec := "motionKnown", unfollowed := true, recurses := true, apart := false }
def MotionKnownSaid : Prop := motionKnownRow.holds Try.pinned (OpenSpec.ofChange motionKnownSpec)

/-- ITS FALSE NEIGHBOUR: 'it returns false'. Refute it at one input. -/
def motionKnownWrong : ChangeSpec := { name := "motionKnown", fn := fun _ => fun
  | [] => { results := [.lit (.bool false)], args := [] }
  | _ => none }
def MotionKnownWrongFalsely : Prop := motionKnownRow.holds Try.pinned (OpenSpec.ofChange motionKnownWrong)

/-- 'praxinoscopelaw14.MotionShared': WHATEVER THE INPUT: true; the input reads as it did. -/
def motionSharedSpec : ChangeSpec := { name := "motionShared", fn := fun _ => fun
  | [d1, d2, d3, d4, d5, d6, d7] => { results := [.lit (.bool true)], args := [d1, d2, d3, d4, d5, d6, d7] }
  | _ => none }
def motionSharedRow : OpenClaim := { program := "ytcieggaihelacaa", sum := "a9617a898434d156bce7d48f1d180e03e9ffc9b4529d1752595ebf0228b81b7f", func := "praxinoscope/praxinoscopelaw14.MotionShared", spec := "motionShared", unfollowed := true, recurses := true, apart := false }
def MotionSharedSaid : Prop := motionSharedRow.holds Try.pinned (OpenSpec.ofChange motionSharedSpec)

/-- ITS FALSE NEIGHBOUR: 'it returns false'. Refute it at one input. -/
def motionSharedWrong : ChangeSpec := { name := "motionShared", fn := fun _ => fun
  | [d1, d2, d3, d4, d5, d6, d7] => { results := [.lit (.bool false)], args := [d1, d2, d3, d4, d5, d6, d7] }
  | _ => none }
def MotionSharedWrongFalsely : Prop := motionSharedRow.holds Try.pinned (OpenSpec.ofChange motionSharedWrong)

/-- 'praxinoscopelaw14.MotionAlone': WHATEVER THE INPUT: true; the input reads as it did. -/
def motionAloneSpec : ChangeSpec := { name := "motionAlone", fn := fun _ => fun
  | [d1, d2, d3, d4, d5, d6, d7, d8] => { results := [.lit (.bool true)], args := [d1, d2, d3, d4, d5, d6, d7, d8] }
  | _ => none }
def motionAloneRow : OpenClaim := { program := "ytcieggaihelacaa", sum := "a9617a898434d156bce7d48f1d180e03e9ffc9b4529d1752595ebf0228b81b7f", func := "praxinoscope/praxinoscopelaw14.MotionAlone", spec := "motionAlone", unfollowed := true, recurses := true, apart := false }
def MotionAloneSaid : Prop := motionAloneRow.holds Try.pinned (OpenSpec.ofChange motionAloneSpec)

/-- ITS FALSE NEIGHBOUR: 'it returns false'. Refute it at one input. -/
def motionAloneWrong : ChangeSpec := { name := "motionAlone", fn := fun _ => fun
  | [d1, d2, d3, d4, d5, d6, d7, d8] => { results := [.lit (.bool false)], args := [d1, d2, d3, d4, d5, d6, d7, d8] }
  | _ => none }
def MotionAloneWrongFalsely : Prop := motionAloneRow.holds Try.pinned (OpenSpec.ofChange motionAloneWrong)

/-- 'praxinoscopelaw13.FrameTells': WHATEVER THE INPUT: true; the input reads as it did. -/
def frameTellsSpec : ChangeSpec := { name := "frameTells", fn := fun _ => fun
  | [d1, d2] => { results := [.lit (.bool true)], args := [d1, d2] }
  | _ => none }
def frameTellsRow : OpenClaim := { program := "ytcieggaihelacaa", sum := "a9617a898434d156bce7d48f1d180e03e9ffc9b4529d1752595ebf0228b81b7f", func := "praxinoscope/praxinoscopelaw13.FrameTells", spec := "frameTells", unfollowed := true, recurses := true, apart := false }
def FrameTellsSaid : Prop := frameTellsRow.holds Try.pinned (OpenSpec.ofChange frameTellsSpec)

/-- ITS FALSE NEIGHBOUR: 'it returns false'. Refute it at one input. -/
def frameTellsWrong : ChangeSpec := { name := "frameTells", fn := fun _ => fun
  | [d1, d2] => { results := [.lit (.bool false)], args := [d1, d2] }
  | _ => none }
def FrameTellsWrongFalsely : Prop := frameTellsRow.holds Try.pinned (OpenSpec.ofChange frameTellsWrong)

/-- 'praxinoscopelaw13.FramePlaces': WHATEVER THE INPUT: true; the input reads as it did. -/
def framePlacesSpec : ChangeSpec := { name := "framePlaces", fn := fun _ => fun
  | [d1, d2, d3, d4] => { results := [.lit (.bool true)], args := [d1, d2, d3, d4] }
  | _ => none }
def framePlacesRow : OpenClaim := { program := "ytcieggaihelacaa", sum := "a9617a898434d156bce7d48f1d180e03e9ffc9b4529d1752595ebf0228b81b7f", func := "praxinoscope/praxinoscopelaw13.FramePlaces", spec := "framePlaces", unfollowed := true, recurses := true, apart := false }
def FramePlacesSaid : Prop := framePlacesRow.holds Try.pinned (OpenSpec.ofChange framePlacesSpec)

/-- ITS FALSE NEIGHBOUR: 'it returns false'. Refute it at one input. -/
def framePlacesWrong : ChangeSpec := { name := "framePlaces", fn := fun _ => fun
  | [d1, d2, d3, d4] => { results := [.lit (.bool false)], args := [d1, d2, d3, d4] }
  | _ => none }
def FramePlacesWrongFalsely : Prop := framePlacesRow.holds Try.pinned (OpenSpec.ofChange framePlacesWrong)

/-- 'praxinoscopelaw13.FrameKnown': WHATEVER THE INPUT: true; the input reads as it did. -/
def frameKnownSpec : ChangeSpec := { name := "frameKnown", fn := fun _ => fun
  | [] => { results := [.lit (.bool true)], args := [] }
  | _ => none }
def frameKnownRow : OpenClaim := { program := "ytcieggaihelacaa", sum := "a9617a898434d156bce7d48f1d180e03e9ffc9b4529d1752595ebf0228b81b7f", func := "praxinoscope/praxinoscopelaw13.FrameKnown", spec := "frameKnown", unfollowed := true, recurses := true, apart := false }
def FrameKnownSaid : Prop := frameKnownRow.holds Try.pinned (OpenSpec.ofChange frameKnownSpec)

/-- ITS FALSE NEIGHBOUR: 'it returns false'. Refute it at one input. -/
def frameKnownWrong : ChangeSpec := { name := "frameKnown", fn := fun _ => fun
  | [] => { results := [.lit (.bool false)], args := [] }
  | _ => none }
def FrameKnownWrongFalsely : Prop := frameKnownRow.holds Try.pinned (OpenSpec.ofChange frameKnownWrong)

/-- 'praxinoscopelaw13.FrameWhole': WHATEVER THE INPUT: true; the input reads as it did. -/
def frameWholeSpec : ChangeSpec := { name := "frameWhole", fn := fun _ => fun
  | [d] => { results := [.lit (.bool true)], args := [d] }
  | _ => none }
def frameWholeRow : OpenClaim := { program := "ytcieggaihelacaa", sum := "a9617a898434d156bce7d48f1d180e03e9ffc9b4529d1752595ebf0228b81b7f", func := "praxinoscope/praxinoscopelaw13.FrameWhole", spec := "frameWhole", unfollowed := true, recurses := true, apart := false }
def FrameWholeSaid : Prop := frameWholeRow.holds Try.pinned (OpenSpec.ofChange frameWholeSpec)

/-- ITS FALSE NEIGHBOUR: 'it returns false'. Refute it at one input. -/
def frameWholeWrong : ChangeSpec := { name := "frameWhole", fn := fun _ => fun
  | [d] => { results := [.lit (.bool false)], args := [d] }
  | _ => none }
def FrameWholeWrongFalsely : Prop := frameWholeRow.holds Try.pinned (OpenSpec.ofChange frameWholeWrong)

/-- 'praxinoscopelaw13.FrameRows': WHATEVER THE INPUT: true; the input reads as it did. -/
def frameRowsSpec : ChangeSpec := { name := "frameRows", fn := fun _ => fun
  | [d1, d2, d3] => { results := [.lit (.bool true)], args := [d1, d2, d3] }
  | _ => none }
def frameRowsRow : OpenClaim := { program := "ytcieggaihelacaa", sum := "a9617a898434d156bce7d48f1d180e03e9ffc9b4529d1752595ebf0228b81b7f", func := "praxinoscope/praxinoscopelaw13.FrameRows", spec := "frameRows", unfollowed := true, recurses := true, apart := false }
def FrameRowsSaid : Prop := frameRowsRow.holds Try.pinned (OpenSpec.ofChange frameRowsSpec)

/-- ITS FALSE NEIGHBOUR: 'it returns false'. Refute it at one input. -/
def frameRowsWrong : ChangeSpec := { name := "frameRows", fn := fun _ => fun
  | [d1, d2, d3] => { results := [.lit (.bool false)], args := [d1, d2, d3] }
  | _ => none }
def FrameRowsWrongFalsely : Prop := frameRowsRow.holds Try.pinned (OpenSpec.ofChange frameRowsWrong)

/-- 'praxinoscopelaw16.PaintAll': WHATEVER THE INPUT: true; the input reads as it did. -/
def paintAllSpec : ChangeSpec := { name := "paintAll", fn := fun _ => fun
  | [d1, d2, d3, d4] => { results := [.lit (.bool true)], args := [d1, d2, d3, d4] }
  | _ => none }
def paintAllRow : OpenClaim := { program := "ytcieggaihelacaa", sum := "a9617a898434d156bce7d48f1d180e03e9ffc9b4529d1752595ebf0228b81b7f", func := "praxinoscope/praxinoscopelaw16.PaintAll", spec := "paintAll", unfollowed := true, recurses := true, apart := false }
def PaintAllSaid : Prop := paintAllRow.holds Try.pinned (OpenSpec.ofChange paintAllSpec)

/-- ITS FALSE NEIGHBOUR: 'it returns false'. Refute it at one input. -/
def paintAllWrong : ChangeSpec := { name := "paintAll", fn := fun _ => fun
  | [d1, d2, d3, d4] => { results := [.lit (.bool false)], args := [d1, d2, d3, d4] }
  | _ => none }
def PaintAllWrongFalsely : Prop := paintAllRow.holds Try.pinned (OpenSpec.ofChange paintAllWrong)

/-- 'praxinoscopelaw16.PaintAdds': WHATEVER THE INPUT: true; the input reads as it did. -/
def paintAddsSpec : ChangeSpec := { name := "paintAdds", fn := fun _ => fun
  | [d1, d2, d3] => { results := [.lit (.bool true)], args := [d1, d2, d3] }
  | _ => none }
def paintAddsRow : OpenClaim := { program := "ytcieggaihelacaa", sum := "a9617a898434d156bce7d48f1d180e03e9ffc9b4529d1752595ebf0228b81b7f", func := "praxinoscope/praxinoscopelaw16.PaintAdds", spec := "paintAdds", unfollowed := true, recurses := true, apart := false }
def PaintAddsSaid : Prop := paintAddsRow.holds Try.pinned (OpenSpec.ofChange paintAddsSpec)

/-- ITS FALSE NEIGHBOUR: 'it returns false'. Refute it at one input. -/
def paintAddsWrong : ChangeSpec := { name := "paintAdds", fn := fun _ => fun
  | [d1, d2, d3] => { results := [.lit (.bool false)], args := [d1, d2, d3] }
  | _ => none }
def PaintAddsWrongFalsely : Prop := paintAddsRow.holds Try.pinned (OpenSpec.ofChange paintAddsWrong)

/-- 'praxinoscopelaw14.MotionThere': WHATEVER THE INPUT: true; the input reads as it did. -/
def motionThereSpec : ChangeSpec := { name := "motionThere", fn := fun _ => fun
  | [d1, d2, d3, d4, d5, d6, d7, d8] => { results := [.lit (.bool true)], args := [d1, d2, d3, d4, d5, d6, d7, d8] }
  | _ => none }
def motionThereRow : OpenClaim := { program := "ytcieggaihelacaa", sum := "a9617a898434d156bce7d48f1d180e03e9ffc9b4529d1752595ebf0228b81b7f", func := "praxinoscope/praxinoscopelaw14.MotionThere", spec := "motionThere", unfollowed := true, recurses := true, apart := false }
def MotionThereSaid : Prop := motionThereRow.holds Try.pinned (OpenSpec.ofChange motionThereSpec)

/-- ITS FALSE NEIGHBOUR: 'it returns false'. Refute it at one input. -/
def motionThereWrong : ChangeSpec := { name := "motionThere", fn := fun _ => fun
  | [d1, d2, d3, d4, d5, d6, d7, d8] => { results := [.lit (.bool false)], args := [d1, d2, d3, d4, d5, d6, d7, d8] }
  | _ => none }
def MotionThereWrongFalsely : Prop := motionThereRow.holds Try.pinned (OpenSpec.ofChange motionThereWrong)

/-- 'praxinoscopelaw16.PaintOnly': WHATEVER THE INPUT: true; the input reads as it did. -/
def paintOnlySpec : ChangeSpec := { name := "paintOnly", fn := fun _ => fun
  | [d1, d2, d3, d4, d5, d6, d7] => { results := [.lit (.bool true)], args := [d1, d2, d3, d4, d5, d6, d7] }
  | _ => none }
def paintOnlyRow : OpenClaim := { program := "ytcieggaihelacaa", sum := "a9617a898434d156bce7d48f1d180e03e9ffc9b4529d1752595ebf0228b81b7f", func := "praxinoscope/praxinoscopelaw16.PaintOnly", spec := "paintOnly", unfollowed := true, recurses := true, apart := false }
def PaintOnlySaid : Prop := paintOnlyRow.holds Try.pinned (OpenSpec.ofChange paintOnlySpec)

/-- ITS FALSE NEIGHBOUR: 'it returns false'. Refute it at one input. -/
def paintOnlyWrong : ChangeSpec := { name := "paintOnly", fn := fun _ => fun
  | [d1, d2, d3, d4, d5, d6, d7] => { results := [.lit (.bool false)], args := [d1, d2, d3, d4, d5, d6, d7] }
  | _ => none }
def PaintOnlyWrongFalsely : Prop := paintOnlyRow.holds Try.pinned (OpenSpec.ofChange paintOnlyWrong)

/-- 'praxinoscopelaw16.PaintLays': WHATEVER THE INPUT: true; the input reads as it did. -/
def paintLaysSpec : ChangeSpec := { name := "paintLays", fn := fun _ => fun
  | [d1, d2, d3, d4, d5, d6, d7, d8] => { results := [.lit (.bool true)], args := [d1, d2, d3, d4, d5, d6, d7, d8] }
  | _ => none }
def paintLaysRow : OpenClaim := { program := "ytcieggaihelacaa", sum := "a9617a898434d156bce7d48f1d180e03e9ffc9b4529d1752595ebf0228b81b7f", func := "praxinoscope/praxinoscopelaw16.PaintLays", spec := "paintLays", inPlace := ["internal/bytealg.MakeNoZero"], unfollowed := true, recurses := true, apart := false }
def PaintLaysSaid : Prop := paintLaysRow.holds Try.pinned (OpenSpec.ofChange paintLaysSpec)

/-- ITS FALSE NEIGHBOUR: 'it returns false'. Refute it at one input. -/
def paintLaysWrong : ChangeSpec := { name := "paintLays", fn := fun _ => fun
  | [d1, d2, d3, d4, d5, d6, d7, d8] => { results := [.lit (.bool false)], args := [d1, d2, d3, d4, d5, d6, d7, d8] }
  | _ => none }
def PaintLaysWrongFalsely : Prop := paintLaysRow.holds Try.pinned (OpenSpec.ofChange paintLaysWrong)

/-- 'praxinoscopelaw16.PaintKnown': WHATEVER THE INPUT: true; the input reads as it did. -/
def paintKnownSpec : ChangeSpec := { name := "paintKnown", fn := fun _ => fun
  | [] => { results := [.lit (.bool true)], args := [] }
  | _ => none }
def paintKnownRow : OpenClaim := { program := "ytcieggaihelacaa", sum := "a9617a898434d156bce7d48f1d180e03e9ffc9b4529d1752595ebf0228b81b7f", func := "praxinoscope/praxinoscopelaw16.PaintKnown", spec := "paintKnown", inPlace := ["internal/bytealg.MakeNoZero"], unfollowed := true, recurses := true, apart := false }
def PaintKnownSaid : Prop := paintKnownRow.holds Try.pinned (OpenSpec.ofChange paintKnownSpec)

/-- ITS FALSE NEIGHBOUR: 'it returns false'. Refute it at one input. -/
def paintKnownWrong : ChangeSpec := { name := "paintKnown", fn := fun _ => fun
  | [] => { results := [.lit (.bool false)], args := [] }
  | _ => none }
def PaintKnownWrongFalsely : Prop := paintKnownRow.holds Try.pinned (OpenSpec.ofChange paintKnownWrong)

/-- 'praxinoscopelaw16.PaintBack': WHATEVER THE INPUT: true; the input reads as it did. -/
def paintBackSpec : ChangeSpec := { name := "paintBack", fn := fun _ => fun
  | [d1, d2, d3, d4, d5, d6, d7, d8, d9] => { results := [.lit (.bool true)], args := [d1, d2, d3, d4, d5, d6, d7, d8, d9] }
  | _ => none }
def paintBackRow : OpenClaim := { program := "ytcieggaihelacaa", sum := "a9617a898434d156bce7d48f1d180e03e9ffc9b4529d1752595ebf0228b81b7f", func := "praxinoscope/praxinoscopelaw16.PaintBack", spec := "paintBack", inPlace := ["internal/bytealg.MakeNoZero"], unfollowed := true, recurses := true, apart := false }
def PaintBackSaid : Prop := paintBackRow.holds Try.pinned (OpenSpec.ofChange paintBackSpec)

/-- ITS FALSE NEIGHBOUR: 'it returns false'. Refute it at one input. -/
def paintBackWrong : ChangeSpec := { name := "paintBack", fn := fun _ => fun
  | [d1, d2, d3, d4, d5, d6, d7, d8, d9] => { results := [.lit (.bool false)], args := [d1, d2, d3, d4, d5, d6, d7, d8, d9] }
  | _ => none }
def PaintBackWrongFalsely : Prop := paintBackRow.holds Try.pinned (OpenSpec.ofChange paintBackWrong)

/- THE SECOND FORM. 'bulk': how many values and letters a reading holds, each counted each time it is reached (what is shared counts as often as it is met; a slice's spare places count too). A statement '..UptoSaid' is the law's where the arguments, and the package variables that the reading takes, are together of bulk at most 1048576: NARROWER than '..Said'. Prove '..Said' where nothing that the law and all that it calls make is longer than what came in: it says more and counts as full. Else prove '..UptoSaid'. A law counts once. -/
mutual
def uptoBulk {H : Type} : DataW H → Nat
  | .lit (.string bytes) => bytes.length + 1
  | .lit _ => 1
  | .nil => 1
  | .ptr d => uptoBulk d + 1
  | .slice elems spare => uptoBulkAll elems + uptoBulkAll spare + 1
  | .agg parts => uptoBulkAll parts + 1
  | .iface _ d => uptoBulk d + 1
  | .map entries => uptoBulkEntries entries + 1
  | .held _ => 1
def uptoBulkAll {H : Type} : List (DataW H) → Nat
  | [] => 0
  | d :: r => uptoBulk d + uptoBulkAll r
def uptoBulkEntries {H : Type} : List (Lit × DataW H) → Nat
  | [] => 0
  | x :: r => uptoBulkEntry x + uptoBulkEntries r
def uptoBulkEntry {H : Type} : Lit × DataW H → Nat
  | (.string bytes, d) => bytes.length + uptoBulk d + 1
  | (_, d) => uptoBulk d + 1
 end
def uptoSmall : (H : Type) → List (DataW H) → Bool := fun _ ds => decide (uptoBulkAll ds ≤ 1048576)
def OpenSpec.upto (s : _root_.Go.ChangeSpec) : _root_.Go.OpenSpec := { _root_.Go.OpenSpec.ofChange s with cond := some uptoSmall }

/-- 'praxinoscopelaw14.MotionFetches', WHERE WHAT IT READS IS OF BULK AT MOST 1048576: true; the input reads as it did. -/
def motionFetchesUptoRow : OpenClaim := { program := "ytcieggaihelacaa", sum := "a9617a898434d156bce7d48f1d180e03e9ffc9b4529d1752595ebf0228b81b7f", func := "praxinoscope/praxinoscopelaw14.MotionFetches", spec := "motionFetches", unfollowed := true, recurses := true, apart := false, narrowed := true }
def MotionFetchesUptoSaid : Prop := motionFetchesUptoRow.holds Try.pinned (OpenSpec.upto motionFetchesSpec)

/-- 'praxinoscopelaw14.MotionHalves', WHERE WHAT IT READS IS OF BULK AT MOST 1048576: true; the input reads as it did. -/
def motionHalvesUptoRow : OpenClaim := { program := "ytcieggaihelacaa", sum := "a9617a898434d156bce7d48f1d180e03e9ffc9b4529d1752595ebf0228b81b7f", func := "praxinoscope/praxinoscopelaw14.MotionHalves", spec := "motionHalves", unfollowed := true, recurses := true, apart := false, narrowed := true }
def MotionHalvesUptoSaid : Prop := motionHalvesUptoRow.holds Try.pinned (OpenSpec.upto motionHalvesSpec)

/-- 'praxinoscopelaw14.MotionKnown', WHERE WHAT IT READS IS OF BULK AT MOST 1048576: true; the input reads as it did. -/
def motionKnownUptoRow : OpenClaim := { program := "ytcieggaihelacaa", sum := "a9617a898434d156bce7d48f1d180e03e9ffc9b4529d1752595ebf0228b81b7f", func := "praxinoscope/praxinoscopelaw14.MotionKnown", spec := "motionKnown", unfollowed := true, recurses := true, apart := false, narrowed := true }
def MotionKnownUptoSaid : Prop := motionKnownUptoRow.holds Try.pinned (OpenSpec.upto motionKnownSpec)

/-- 'praxinoscopelaw14.MotionShared', WHERE WHAT IT READS IS OF BULK AT MOST 1048576: true; the input reads as it did. -/
def motionSharedUptoRow : OpenClaim := { program := "ytcieggaihelacaa", sum := "a9617a898434d156bce7d48f1d180e03e9ffc9b4529d1752595ebf0228b81b7f", func := "praxinoscope/praxinoscopelaw14.MotionShared", spec := "motionShared", unfollowed := true, recurses := true, apart := false, narrowed := true }
def MotionSharedUptoSaid : Prop := motionSharedUptoRow.holds Try.pinned (OpenSpec.upto motionSharedSpec)

/-- 'praxinoscopelaw14.MotionAlone', WHERE WHAT IT READS IS OF BULK AT MOST 1048576: true; the input reads as it did. -/
def motionAloneUptoRow : OpenClaim := { program := "ytcieggaihelacaa", sum := "a9617a898434d156bce7d48f1d180e03e9ffc9b4529d1752595ebf0228b81b7f", func := "praxinoscope/praxinoscopelaw14.MotionAlone", spec := "motionAlone", unfollowed := true, recurses := true, apart := false, narrowed := true }
def MotionAloneUptoSaid : Prop := motionAloneUptoRow.holds Try.pinned (OpenSpec.upto motionAloneSpec)

/-- 'praxinoscopelaw13.FrameTells', WHERE WHAT IT READS IS OF BULK AT MOST 1048576: true; the input reads as it did. -/
def frameTellsUptoRow : OpenClaim := { program := "ytcieggaihelacaa", sum := "a9617a898434d156bce7d48f1d180e03e9ffc9b4529d1752595ebf0228b81b7f", func := "praxinoscope/praxinoscopelaw13.FrameTells", spec := "frameTells", unfollowed := true, recurses := true, apart := false, narrowed := true }
def FrameTellsUptoSaid : Prop := frameTellsUptoRow.holds Try.pinned (OpenSpec.upto frameTellsSpec)

/-- 'praxinoscopelaw13.FramePlaces', WHERE WHAT IT READS IS OF BULK AT MOST 1048576: true; the input reads as it did. -/
def framePlacesUptoRow : OpenClaim := { program := "ytcieggaihelacaa", sum := "a9617a898434d156bce7d48f1d180e03e9ffc9b4529d1752595ebf0228b81b7f", func := "praxinoscope/praxinoscopelaw13.FramePlaces", spec := "framePlaces", unfollowed := true, recurses := true, apart := false, narrowed := true }
def FramePlacesUptoSaid : Prop := framePlacesUptoRow.holds Try.pinned (OpenSpec.upto framePlacesSpec)

/-- 'praxinoscopelaw13.FrameKnown', WHERE WHAT IT READS IS OF BULK AT MOST 1048576: true; the input reads as it did. -/
def frameKnownUptoRow : OpenClaim := { program := "ytcieggaihelacaa", sum := "a9617a898434d156bce7d48f1d180e03e9ffc9b4529d1752595ebf0228b81b7f", func := "praxinoscope/praxinoscopelaw13.FrameKnown", spec := "frameKnown", unfollowed := true, recurses := true, apart := false, narrowed := true }
def FrameKnownUptoSaid : Prop := frameKnownUptoRow.holds Try.pinned (OpenSpec.upto frameKnownSpec)

/-- 'praxinoscopelaw13.FrameWhole', WHERE WHAT IT READS IS OF BULK AT MOST 1048576: true; the input reads as it did. -/
def frameWholeUptoRow : OpenClaim := { program := "ytcieggaihelacaa", sum := "a9617a898434d156bce7d48f1d180e03e9ffc9b4529d1752595ebf0228b81b7f", func := "praxinoscope/praxinoscopelaw13.FrameWhole", spec := "frameWhole", unfollowed := true, recurses := true, apart := false, narrowed := true }
def FrameWholeUptoSaid : Prop := frameWholeUptoRow.holds Try.pinned (OpenSpec.upto frameWholeSpec)

/-- 'praxinoscopelaw13.FrameRows', WHERE WHAT IT READS IS OF BULK AT MOST 1048576: true; the input reads as it did. -/
def frameRowsUptoRow : OpenClaim := { program := "ytcieggaihelacaa", sum := "a9617a898434d156bce7d48f1d180e03e9ffc9b4529d1752595ebf0228b81b7f", func := "praxinoscope/praxinoscopelaw13.FrameRows", spec := "frameRows", unfollowed := true, recurses := true, apart := false, narrowed := true }
def FrameRowsUptoSaid : Prop := frameRowsUptoRow.holds Try.pinned (OpenSpec.upto frameRowsSpec)

/-- 'praxinoscopelaw16.PaintAll', WHERE WHAT IT READS IS OF BULK AT MOST 1048576: true; the input reads as it did. -/
def paintAllUptoRow : OpenClaim := { program := "ytcieggaihelacaa", sum := "a9617a898434d156bce7d48f1d180e03e9ffc9b4529d1752595ebf0228b81b7f", func := "praxinoscope/praxinoscopelaw16.PaintAll", spec := "paintAll", unfollowed := true, recurses := true, apart := false, narrowed := true }
def PaintAllUptoSaid : Prop := paintAllUptoRow.holds Try.pinned (OpenSpec.upto paintAllSpec)

/-- 'praxinoscopelaw16.PaintAdds', WHERE WHAT IT READS IS OF BULK AT MOST 1048576: true; the input reads as it did. -/
def paintAddsUptoRow : OpenClaim := { program := "ytcieggaihelacaa", sum := "a9617a898434d156bce7d48f1d180e03e9ffc9b4529d1752595ebf0228b81b7f", func := "praxinoscope/praxinoscopelaw16.PaintAdds", spec := "paintAdds", unfollowed := true, recurses := true, apart := false, narrowed := true }
def PaintAddsUptoSaid : Prop := paintAddsUptoRow.holds Try.pinned (OpenSpec.upto paintAddsSpec)

/-- 'praxinoscopelaw14.MotionThere', WHERE WHAT IT READS IS OF BULK AT MOST 1048576: true; the input reads as it did. -/
def motionThereUptoRow : OpenClaim := { program := "ytcieggaihelacaa", sum := "a9617a898434d156bce7d48f1d180e03e9ffc9b4529d1752595ebf0228b81b7f", func := "praxinoscope/praxinoscopelaw14.MotionThere", spec := "motionThere", unfollowed := true, recurses := true, apart := false, narrowed := true }
def MotionThereUptoSaid : Prop := motionThereUptoRow.holds Try.pinned (OpenSpec.upto motionThereSpec)

/-- 'praxinoscopelaw16.PaintOnly', WHERE WHAT IT READS IS OF BULK AT MOST 1048576: true; the input reads as it did. -/
def paintOnlyUptoRow : OpenClaim := { program := "ytcieggaihelacaa", sum := "a9617a898434d156bce7d48f1d180e03e9ffc9b4529d1752595ebf0228b81b7f", func := "praxinoscope/praxinoscopelaw16.PaintOnly", spec := "paintOnly", unfollowed := true, recurses := true, apart := false, narrowed := true }
def PaintOnlyUptoSaid : Prop := paintOnlyUptoRow.holds Try.pinned (OpenSpec.upto paintOnlySpec)

/-- 'praxinoscopelaw16.PaintLays', WHERE WHAT IT READS IS OF BULK AT MOST 1048576: true; the input reads as it did. -/
def paintLaysUptoRow : OpenClaim := { program := "ytcieggaihelacaa", sum := "a9617a898434d156bce7d48f1d180e03e9ffc9b4529d1752595ebf0228b81b7f", func := "praxinoscope/praxinoscopelaw16.PaintLays", spec := "paintLays", inPlace := ["internal/bytealg.MakeNoZero"], unfollowed := true, recurses := true, apart := false, narrowed := true }
def PaintLaysUptoSaid : Prop := paintLaysUptoRow.holds Try.pinned (OpenSpec.upto paintLaysSpec)

/-- 'praxinoscopelaw16.PaintKnown', WHERE WHAT IT READS IS OF BULK AT MOST 1048576: true; the input reads as it did. -/
def paintKnownUptoRow : OpenClaim := { program := "ytcieggaihelacaa", sum := "a9617a898434d156bce7d48f1d180e03e9ffc9b4529d1752595ebf0228b81b7f", func := "praxinoscope/praxinoscopelaw16.PaintKnown", spec := "paintKnown", inPlace := ["internal/bytealg.MakeNoZero"], unfollowed := true, recurses := true, apart := false, narrowed := true }
def PaintKnownUptoSaid : Prop := paintKnownUptoRow.holds Try.pinned (OpenSpec.upto paintKnownSpec)

/-- 'praxinoscopelaw16.PaintBack', WHERE WHAT IT READS IS OF BULK AT MOST 1048576: true; the input reads as it did. -/
def paintBackUptoRow : OpenClaim := { program := "ytcieggaihelacaa", sum := "a9617a898434d156bce7d48f1d180e03e9ffc9b4529d1752595ebf0228b81b7f", func := "praxinoscope/praxinoscopelaw16.PaintBack", spec := "paintBack", inPlace := ["internal/bytealg.MakeNoZero"], unfollowed := true, recurses := true, apart := false, narrowed := true }
def PaintBackUptoSaid : Prop := paintBackUptoRow.holds Try.pinned (OpenSpec.upto paintBackSpec)

end Rows
end Go.Proofs.Ytcieggaihelacaa
