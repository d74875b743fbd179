/-
  No cell of these rows narrows 'for every input' (looked for: loops, veiled, ifaces, maps, wideKeys, modest, calm, conditions, laid).
  DERIVED. THE GIVEN ROWS OF THIS SEAT. 11 by the template 'for every input the law returns true; each argument reads behind the call as it read before'; 0 by the template 'total and deterministic' (their statements: YtlineikeafepcaaTotals.lean).
  GIVEN WITH THE SEED: the statements are not yours to turn. If you find one false, say at which input.
  Laid BY PROGRAM, IN A SANDBOX (cutbox-rows.mjs): the forced cells as the released guide's own fill.sh prints them over the translation 4f19e5dca98a80d6… (all of the seat's roots in one cut). By AI agents, Wed Nov 11 2026. No macro, syntax, notation, axiom, sorry.
-/
import Derived.Test.YtlineikeafepcaaChecked
import GoSem.Claim
import GoSem.ClaimJoined
import GoSem.ClaimMapViews
import Derived.JoinedTies
import Derived.KernelRfl
namespace Go.Proofs.Ytlineikeafepcaa
/- THE CELL 'sum', in the pinned program and in every row, IS THE sha256 OF THE DUMP (.gsa) THAT YtlineikeafepcaaProg.lean LOADS. Nothing in Lean hashes anything: it is a label: what it is worth is what the hold of that sum in a sandbox is worth. -/
noncomputable def Try.pinned : Pinned := { name := "ytlineikeafepcaa", sum := "4f19e5dca98a80d62c69b0add6e54c383b42011ffc513af61232b21adb62b0ec", checked := Try.checked }
namespace Rows
def none {H : Type} : Left H := { results := [], args := [] }

/-- 'archipelagolaw26.ModelPlays': WHATEVER THE INPUT: true; the input reads as it did. -/
def modelPlaysSpec : ChangeSpec := { name := "modelPlays", fn := fun _ => fun
  | [d1, d2, d3] => { results := [.lit (.bool true)], args := [d1, d2, d3] }
  | _ => none }
def modelPlaysRow : OpenClaim := { program := "ytlineikeafepcaa", sum := "4f19e5dca98a80d62c69b0add6e54c383b42011ffc513af61232b21adb62b0ec", func := "archipelago/archipelagolaw26.ModelPlays", spec := "modelPlays", unfollowed := true, recurses := true, plainKeys := false, apart := false }
def ModelPlaysSaid : Prop := modelPlaysRow.holds Try.pinned (OpenSpec.ofChange modelPlaysSpec)

/-- ITS FALSE NEIGHBOUR: 'it returns false'. Refute it at one input. -/
def modelPlaysWrong : ChangeSpec := { name := "modelPlays", fn := fun _ => fun
  | [d1, d2, d3] => { results := [.lit (.bool false)], args := [d1, d2, d3] }
  | _ => none }
def ModelPlaysWrongFalsely : Prop := modelPlaysRow.holds Try.pinned (OpenSpec.ofChange modelPlaysWrong)

/-- 'archipelagolaw26.ModelNone': WHATEVER THE INPUT: true; the input reads as it did. -/
def modelNoneSpec : ChangeSpec := { name := "modelNone", fn := fun _ => fun
  | [d1, d2, d3] => { results := [.lit (.bool true)], args := [d1, d2, d3] }
  | _ => none }
def modelNoneRow : OpenClaim := { program := "ytlineikeafepcaa", sum := "4f19e5dca98a80d62c69b0add6e54c383b42011ffc513af61232b21adb62b0ec", func := "archipelago/archipelagolaw26.ModelNone", spec := "modelNone", unfollowed := true, recurses := true, plainKeys := false, apart := false }
def ModelNoneSaid : Prop := modelNoneRow.holds Try.pinned (OpenSpec.ofChange modelNoneSpec)

/-- ITS FALSE NEIGHBOUR: 'it returns false'. Refute it at one input. -/
def modelNoneWrong : ChangeSpec := { name := "modelNone", fn := fun _ => fun
  | [d1, d2, d3] => { results := [.lit (.bool false)], args := [d1, d2, d3] }
  | _ => none }
def ModelNoneWrongFalsely : Prop := modelNoneRow.holds Try.pinned (OpenSpec.ofChange modelNoneWrong)

/-- 'archipelagolaw26.ModelOnce': WHATEVER THE INPUT: true; the input reads as it did. -/
def modelOnceSpec : ChangeSpec := { name := "modelOnce", fn := fun _ => fun
  | [d1, d2] => { results := [.lit (.bool true)], args := [d1, d2] }
  | _ => none }
def modelOnceRow : OpenClaim := { program := "ytlineikeafepcaa", sum := "4f19e5dca98a80d62c69b0add6e54c383b42011ffc513af61232b21adb62b0ec", func := "archipelago/archipelagolaw26.ModelOnce", spec := "modelOnce", unfollowed := true, recurses := true, plainKeys := false, apart := false }
def ModelOnceSaid : Prop := modelOnceRow.holds Try.pinned (OpenSpec.ofChange modelOnceSpec)

/-- ITS FALSE NEIGHBOUR: 'it returns false'. Refute it at one input. -/
def modelOnceWrong : ChangeSpec := { name := "modelOnce", fn := fun _ => fun
  | [d1, d2] => { results := [.lit (.bool false)], args := [d1, d2] }
  | _ => none }
def ModelOnceWrongFalsely : Prop := modelOnceRow.holds Try.pinned (OpenSpec.ofChange modelOnceWrong)

/-- 'archipelagolaw26.ModelDecides': WHATEVER THE INPUT: true; the input reads as it did. -/
def modelDecidesSpec : ChangeSpec := { name := "modelDecides", fn := fun _ => fun
  | [d1, d2] => { results := [.lit (.bool true)], args := [d1, d2] }
  | _ => none }
def modelDecidesRow : OpenClaim := { program := "ytlineikeafepcaa", sum := "4f19e5dca98a80d62c69b0add6e54c383b42011ffc513af61232b21adb62b0ec", func := "archipelago/archipelagolaw26.ModelDecides", spec := "modelDecides", unfollowed := true, recurses := true, plainKeys := false, apart := false }
def ModelDecidesSaid : Prop := modelDecidesRow.holds Try.pinned (OpenSpec.ofChange modelDecidesSpec)

/-- ITS FALSE NEIGHBOUR: 'it returns false'. Refute it at one input. -/
def modelDecidesWrong : ChangeSpec := { name := "modelDecides", fn := fun _ => fun
  | [d1, d2] => { results := [.lit (.bool false)], args := [d1, d2] }
  | _ => none }
def ModelDecidesWrongFalsely : Prop := modelDecidesRow.holds Try.pinned (OpenSpec.ofChange modelDecidesWrong)

/-- 'archipelagolaw26.ModelApart': WHATEVER THE INPUT: true; the input reads as it did. -/
def modelApartSpec : ChangeSpec := { name := "modelApart", fn := fun _ => fun
  | [d] => { results := [.lit (.bool true)], args := [d] }
  | _ => none }
def modelApartRow : OpenClaim := { program := "ytlineikeafepcaa", sum := "4f19e5dca98a80d62c69b0add6e54c383b42011ffc513af61232b21adb62b0ec", func := "archipelago/archipelagolaw26.ModelApart", spec := "modelApart", unfollowed := true, recurses := true, plainKeys := false, apart := false }
def ModelApartSaid : Prop := modelApartRow.holds Try.pinned (OpenSpec.ofChange modelApartSpec)

/-- ITS FALSE NEIGHBOUR: 'it returns false'. Refute it at one input. -/
def modelApartWrong : ChangeSpec := { name := "modelApart", fn := fun _ => fun
  | [d] => { results := [.lit (.bool false)], args := [d] }
  | _ => none }
def ModelApartWrongFalsely : Prop := modelApartRow.holds Try.pinned (OpenSpec.ofChange modelApartWrong)

/-- 'archipelagolaw06.EpochsTurns': WHATEVER THE INPUT: true; the input reads as it did. -/
def epochsTurnsSpec : ChangeSpec := { name := "epochsTurns", fn := fun _ => fun
  | [d1, d2, d3] => { results := [.lit (.bool true)], args := [d1, d2, d3] }
  | _ => none }
def epochsTurnsRow : OpenClaim := { program := "ytlineikeafepcaa", sum := "4f19e5dca98a80d62c69b0add6e54c383b42011ffc513af61232b21adb62b0ec", func := "archipelago/archipelagolaw06.EpochsTurns", spec := "epochsTurns", recurses := true, plainKeys := false, apart := false }
def EpochsTurnsSaid : Prop := epochsTurnsRow.holds Try.pinned (OpenSpec.ofChange epochsTurnsSpec)

/-- ITS FALSE NEIGHBOUR: 'it returns false'. Refute it at one input. -/
def epochsTurnsWrong : ChangeSpec := { name := "epochsTurns", fn := fun _ => fun
  | [d1, d2, d3] => { results := [.lit (.bool false)], args := [d1, d2, d3] }
  | _ => none }
def EpochsTurnsWrongFalsely : Prop := epochsTurnsRow.holds Try.pinned (OpenSpec.ofChange epochsTurnsWrong)

/-- 'archipelagolaw06.EpochsMost': WHATEVER THE INPUT: true; the input reads as it did. -/
def epochsMostSpec : ChangeSpec := { name := "epochsMost", fn := fun _ => fun
  | [d1, d2] => { results := [.lit (.bool true)], args := [d1, d2] }
  | _ => none }
def epochsMostRow : OpenClaim := { program := "ytlineikeafepcaa", sum := "4f19e5dca98a80d62c69b0add6e54c383b42011ffc513af61232b21adb62b0ec", func := "archipelago/archipelagolaw06.EpochsMost", spec := "epochsMost", recurses := true, plainKeys := false, apart := false }
def EpochsMostSaid : Prop := epochsMostRow.holds Try.pinned (OpenSpec.ofChange epochsMostSpec)

/-- ITS FALSE NEIGHBOUR: 'it returns false'. Refute it at one input. -/
def epochsMostWrong : ChangeSpec := { name := "epochsMost", fn := fun _ => fun
  | [d1, d2] => { results := [.lit (.bool false)], args := [d1, d2] }
  | _ => none }
def EpochsMostWrongFalsely : Prop := epochsMostRow.holds Try.pinned (OpenSpec.ofChange epochsMostWrong)

/-- 'archipelagolaw06.EpochsLeast': WHATEVER THE INPUT: true; the input reads as it did. -/
def epochsLeastSpec : ChangeSpec := { name := "epochsLeast", fn := fun _ => fun
  | [d1, d2, d3] => { results := [.lit (.bool true)], args := [d1, d2, d3] }
  | _ => none }
def epochsLeastRow : OpenClaim := { program := "ytlineikeafepcaa", sum := "4f19e5dca98a80d62c69b0add6e54c383b42011ffc513af61232b21adb62b0ec", func := "archipelago/archipelagolaw06.EpochsLeast", spec := "epochsLeast", recurses := true, plainKeys := false, apart := false }
def EpochsLeastSaid : Prop := epochsLeastRow.holds Try.pinned (OpenSpec.ofChange epochsLeastSpec)

/-- ITS FALSE NEIGHBOUR: 'it returns false'. Refute it at one input. -/
def epochsLeastWrong : ChangeSpec := { name := "epochsLeast", fn := fun _ => fun
  | [d1, d2, d3] => { results := [.lit (.bool false)], args := [d1, d2, d3] }
  | _ => none }
def EpochsLeastWrongFalsely : Prop := epochsLeastRow.holds Try.pinned (OpenSpec.ofChange epochsLeastWrong)

/-- 'archipelagolaw06.EpochsMeet': WHATEVER THE INPUT: true; the input reads as it did. -/
def epochsMeetSpec : ChangeSpec := { name := "epochsMeet", fn := fun _ => fun
  | [d1, d2, d3] => { results := [.lit (.bool true)], args := [d1, d2, d3] }
  | _ => none }
def epochsMeetRow : OpenClaim := { program := "ytlineikeafepcaa", sum := "4f19e5dca98a80d62c69b0add6e54c383b42011ffc513af61232b21adb62b0ec", func := "archipelago/archipelagolaw06.EpochsMeet", spec := "epochsMeet", recurses := true, plainKeys := false, apart := false }
def EpochsMeetSaid : Prop := epochsMeetRow.holds Try.pinned (OpenSpec.ofChange epochsMeetSpec)

/-- ITS FALSE NEIGHBOUR: 'it returns false'. Refute it at one input. -/
def epochsMeetWrong : ChangeSpec := { name := "epochsMeet", fn := fun _ => fun
  | [d1, d2, d3] => { results := [.lit (.bool false)], args := [d1, d2, d3] }
  | _ => none }
def EpochsMeetWrongFalsely : Prop := epochsMeetRow.holds Try.pinned (OpenSpec.ofChange epochsMeetWrong)

/-- 'archipelagolaw06.EpochsAt': WHATEVER THE INPUT: true; the input reads as it did. -/
def epochsAtSpec : ChangeSpec := { name := "epochsAt", fn := fun _ => fun
  | [d1, d2, d3] => { results := [.lit (.bool true)], args := [d1, d2, d3] }
  | _ => none }
def epochsAtRow : OpenClaim := { program := "ytlineikeafepcaa", sum := "4f19e5dca98a80d62c69b0add6e54c383b42011ffc513af61232b21adb62b0ec", func := "archipelago/archipelagolaw06.EpochsAt", spec := "epochsAt", recurses := true, plainKeys := false, apart := false }
def EpochsAtSaid : Prop := epochsAtRow.holds Try.pinned (OpenSpec.ofChange epochsAtSpec)

/-- ITS FALSE NEIGHBOUR: 'it returns false'. Refute it at one input. -/
def epochsAtWrong : ChangeSpec := { name := "epochsAt", fn := fun _ => fun
  | [d1, d2, d3] => { results := [.lit (.bool false)], args := [d1, d2, d3] }
  | _ => none }
def EpochsAtWrongFalsely : Prop := epochsAtRow.holds Try.pinned (OpenSpec.ofChange epochsAtWrong)

/-- 'archipelagolaw06.EpochsShared': WHATEVER THE INPUT: true; the input reads as it did. -/
def epochsSharedSpec : ChangeSpec := { name := "epochsShared", fn := fun _ => fun
  | [d1, d2, d3] => { results := [.lit (.bool true)], args := [d1, d2, d3] }
  | _ => none }
def epochsSharedRow : OpenClaim := { program := "ytlineikeafepcaa", sum := "4f19e5dca98a80d62c69b0add6e54c383b42011ffc513af61232b21adb62b0ec", func := "archipelago/archipelagolaw06.EpochsShared", spec := "epochsShared", recurses := true, plainKeys := false, apart := false }
def EpochsSharedSaid : Prop := epochsSharedRow.holds Try.pinned (OpenSpec.ofChange epochsSharedSpec)

/-- ITS FALSE NEIGHBOUR: 'it returns false'. Refute it at one input. -/
def epochsSharedWrong : ChangeSpec := { name := "epochsShared", fn := fun _ => fun
  | [d1, d2, d3] => { results := [.lit (.bool false)], args := [d1, d2, d3] }
  | _ => none }
def EpochsSharedWrongFalsely : Prop := epochsSharedRow.holds Try.pinned (OpenSpec.ofChange epochsSharedWrong)

/- THE SECOND FORM. 'bulk': how many values and letters a reading holds, each counted each time it is reached (what is shared counts as often as it is met; a slice's spare places count too). A statement '..UptoSaid' is the law's where the arguments, and the package variables that the reading takes, are together of bulk at most 1048576: NARROWER than '..Said'. Prove '..Said' where nothing that the law and all that it calls make is longer than what came in: it says more and counts as full. Else prove '..UptoSaid'. A law counts once. -/
mutual
def uptoBulk {H : Type} : DataW H → Nat
  | .lit (.string bytes) => bytes.length + 1
  | .lit _ => 1
  | .nil => 1
  | .ptr d => uptoBulk d + 1
  | .slice elems spare => uptoBulkAll elems + uptoBulkAll spare + 1
  | .agg parts => uptoBulkAll parts + 1
  | .iface _ d => uptoBulk d + 1
  | .map entries => uptoBulkEntries entries + 1
  | .held _ => 1
def uptoBulkAll {H : Type} : List (DataW H) → Nat
  | [] => 0
  | d :: r => uptoBulk d + uptoBulkAll r
def uptoBulkEntries {H : Type} : List (Lit × DataW H) → Nat
  | [] => 0
  | x :: r => uptoBulkEntry x + uptoBulkEntries r
def uptoBulkEntry {H : Type} : Lit × DataW H → Nat
  | (.string bytes, d) => bytes.length + uptoBulk d + 1
  | (_, d) => uptoBulk d + 1
 end
def uptoSmall : (H : Type) → List (DataW H) → Bool := fun _ ds => decide (uptoBulkAll ds ≤ 1048576)
def OpenSpec.upto (s : _root_.Go.ChangeSpec) : _root_.Go.OpenSpec := { _root_.Go.OpenSpec.ofChange s with cond := some uptoSmall }

/-- 'archipelagolaw26.ModelPlays', WHERE WHAT IT READS IS OF BULK AT MOST 1048576: true; the input reads as it did. -/
def modelPlaysUptoRow : OpenClaim := { program := "ytlineikeafepcaa", sum := "4f19e5dca98a80d62c69b0add6e54c383b42011ffc513af61232b21adb62b0ec", func := "archipelago/archipelagolaw26.ModelPlays", spec := "modelPlays", unfollowed := true, recurses := true, plainKeys := false, apart := false, narrowed := true }
def ModelPlaysUptoSaid : Prop := modelPlaysUptoRow.holds Try.pinned (OpenSpec.upto modelPlaysSpec)

/-- 'archipelagolaw26.ModelNone', WHERE WHAT IT READS IS OF BULK AT MOST 1048576: true; the input reads as it did. -/
def modelNoneUptoRow : OpenClaim := { program := "ytlineikeafepcaa", sum := "4f19e5dca98a80d62c69b0add6e54c383b42011ffc513af61232b21adb62b0ec", func := "archipelago/archipelagolaw26.ModelNone", spec := "modelNone", unfollowed := true, recurses := true, plainKeys := false, apart := false, narrowed := true }
def ModelNoneUptoSaid : Prop := modelNoneUptoRow.holds Try.pinned (OpenSpec.upto modelNoneSpec)

/-- 'archipelagolaw26.ModelOnce', WHERE WHAT IT READS IS OF BULK AT MOST 1048576: true; the input reads as it did. -/
def modelOnceUptoRow : OpenClaim := { program := "ytlineikeafepcaa", sum := "4f19e5dca98a80d62c69b0add6e54c383b42011ffc513af61232b21adb62b0ec", func := "archipelago/archipelagolaw26.ModelOnce", spec := "modelOnce", unfollowed := true, recurses := true, plainKeys := false, apart := false, narrowed := true }
def ModelOnceUptoSaid : Prop := modelOnceUptoRow.holds Try.pinned (OpenSpec.upto modelOnceSpec)

/-- 'archipelagolaw26.ModelDecides', WHERE WHAT IT READS IS OF BULK AT MOST 1048576: true; the input reads as it did. -/
def modelDecidesUptoRow : OpenClaim := { program := "ytlineikeafepcaa", sum := "4f19e5dca98a80d62c69b0add6e54c383b42011ffc513af61232b21adb62b0ec", func := "archipelago/archipelagolaw26.ModelDecides", spec := "modelDecides", unfollowed := true, recurses := true, plainKeys := false, apart := false, narrowed := true }
def ModelDecidesUptoSaid : Prop := modelDecidesUptoRow.holds Try.pinned (OpenSpec.upto modelDecidesSpec)

/-- 'archipelagolaw26.ModelApart', WHERE WHAT IT READS IS OF BULK AT MOST 1048576: true; the input reads as it did. -/
def modelApartUptoRow : OpenClaim := { program := "ytlineikeafepcaa", sum := "4f19e5dca98a80d62c69b0add6e54c383b42011ffc513af61232b21adb62b0ec", func := "archipelago/archipelagolaw26.ModelApart", spec := "modelApart", unfollowed := true, recurses := true, plainKeys := false, apart := false, narrowed := true }
def ModelApartUptoSaid : Prop := modelApartUptoRow.holds Try.pinned (OpenSpec.upto modelApartSpec)

/-- 'archipelagolaw06.EpochsTurns', WHERE WHAT IT READS IS OF BULK AT MOST 1048576: true; the input reads as it did. -/
def epochsTurnsUptoRow : OpenClaim := { program := "ytlineikeafepcaa", sum := "4f19e5dca98a80d62c69b0add6e54c383b42011ffc513af61232b21adb62b0ec", func := "archipelago/archipelagolaw06.EpochsTurns", spec := "epochsTurns", recurses := true, plainKeys := false, apart := false, narrowed := true }
def EpochsTurnsUptoSaid : Prop := epochsTurnsUptoRow.holds Try.pinned (OpenSpec.upto epochsTurnsSpec)

/-- 'archipelagolaw06.EpochsMost', WHERE WHAT IT READS IS OF BULK AT MOST 1048576: true; the input reads as it did. -/
def epochsMostUptoRow : OpenClaim := { program := "ytlineikeafepcaa", sum := "4f19e5dca98a80d62c69b0add6e54c383b42011ffc513af61232b21adb62b0ec", func := "archipelago/archipelagolaw06.EpochsMost", spec := "epochsMost", recurses := true, plainKeys := false, apart := false, narrowed := true }
def EpochsMostUptoSaid : Prop := epochsMostUptoRow.holds Try.pinned (OpenSpec.upto epochsMostSpec)

/-- 'archipelagolaw06.EpochsLeast', WHERE WHAT IT READS IS OF BULK AT MOST 1048576: true; the input reads as it did. -/
def epochsLeastUptoRow : OpenClaim := { program := "ytlineikeafepcaa", sum := "4f19e5dca98a80d62c69b0add6e54c383b42011ffc513af61232b21adb62b0ec", func := "archipelago/archipelagolaw06.EpochsLeast", spec := "epochsLeast", recurses := true, plainKeys := false, apart := false, narrowed := true }
def EpochsLeastUptoSaid : Prop := epochsLeastUptoRow.holds Try.pinned (OpenSpec.upto epochsLeastSpec)

/-- 'archipelagolaw06.EpochsMeet', WHERE WHAT IT READS IS OF BULK AT MOST 1048576: true; the input reads as it did. -/
def epochsMeetUptoRow : OpenClaim := { program := "ytlineikeafepcaa", sum := "4f19e5dca98a80d62c69b0add6e54c383b42011ffc513af61232b21adb62b0ec", func := "archipelago/archipelagolaw06.EpochsMeet", spec := "epochsMeet", recurses := true, plainKeys := false, apart := false, narrowed := true }
def EpochsMeetUptoSaid : Prop := epochsMeetUptoRow.holds Try.pinned (OpenSpec.upto epochsMeetSpec)

/-- 'archipelagolaw06.EpochsAt', WHERE WHAT IT READS IS OF BULK AT MOST 1048576: true; the input reads as it did. -/
def epochsAtUptoRow : OpenClaim := { program := "ytlineikeafepcaa", sum := "4f19e5dca98a80d62c69b0add6e54c383b42011ffc513af61232b21adb62b0ec", func := "archipelago/archipelagolaw06.EpochsAt", spec := "epochsAt", recurses := true, plainKeys := false, apart := false, narrowed := true }
def EpochsAtUptoSaid : Prop := epochsAtUptoRow.holds Try.pinned (OpenSpec.upto epochsAtSpec)

/-- 'archipelagolaw06.EpochsShared', WHERE WHAT IT READS IS OF BULK AT MOST 1048576: true; the input reads as it did. -/
def epochsSharedUptoRow : OpenClaim := { program := "ytlineikeafepcaa", sum := "4f19e5dca98a80d62c69b0add6e54c383b42011ffc513af61232b21adb62b0ec", func := "archipelago/archipelagolaw06.EpochsShared", spec := "epochsShared", recurses := true, plainKeys := false, apart := false, narrowed := true }
def EpochsSharedUptoSaid : Prop := epochsSharedUptoRow.holds Try.pinned (OpenSpec.upto epochsSharedSpec)

end Rows
end Go.Proofs.Ytlineikeafepcaa
