/-
  No cell of these rows narrows 'for every input' (looked for: loops, veiled, ifaces, maps, wideKeys, modest, calm, conditions, laid).
  DERIVED. THE GIVEN ROWS OF THIS SEAT. 11 by the template 'for every input the law returns true; each argument reads behind the call as it read before'; 0 by the template 'total and deterministic' (their statements: YtbicefilfhcgoaaTotals.lean).
  GIVEN WITH THE SEED: the statements are not yours to turn. If you find one false, say at which input.
  Laid BY PROGRAM, IN A SANDBOX (cutbox-rows.mjs): the forced cells as the released guide's own fill.sh prints them over the translation bb8b8467a89696e2… (all of the seat's roots in one cut). By AI agents, Wed Nov 11 2026. No macro, syntax, notation, axiom, sorry.
-/
import Derived.Test.YtbicefilfhcgoaaChecked
import GoSem.Claim
import GoSem.ClaimJoined
import GoSem.ClaimMapViews
import Derived.JoinedTies
import Derived.KernelRfl
namespace Go.Proofs.Ytbicefilfhcgoaa
/- THE CELL 'sum', in the pinned program and in every row, IS THE sha256 OF THE DUMP (.gsa) THAT YtbicefilfhcgoaaProg.lean LOADS. Nothing in Lean hashes anything: it is a label: what it is worth is what the hold of that sum in a sandbox is worth. -/
noncomputable def Try.pinned : Pinned := { name := "ytbicefilfhcgoaa", sum := "bb8b8467a89696e2ec261909bba80e3a00f0b01559052666ead51ee228c3ac71", checked := Try.checked }
namespace Rows
def none {H : Type} : Left H := { results := [], args := [] }

/-- 'archipelagolaw15.RegisterTells': WHATEVER THE INPUT: true; the input reads as it did. -/
def registerTellsSpec : ChangeSpec := { name := "registerTells", fn := fun _ => fun
  | [d1, d2] => { results := [.lit (.bool true)], args := [d1, d2] }
  | _ => none }
def registerTellsRow : OpenClaim := { program := "ytbicefilfhcgoaa", sum := "bb8b8467a89696e2ec261909bba80e3a00f0b01559052666ead51ee228c3ac71", func := "archipelago/archipelagolaw15.RegisterTells", spec := "registerTells", unfollowed := true, recurses := true, apart := false }
def RegisterTellsSaid : Prop := registerTellsRow.holds Try.pinned (OpenSpec.ofChange registerTellsSpec)

/-- ITS FALSE NEIGHBOUR: 'it returns false'. Refute it at one input. -/
def registerTellsWrong : ChangeSpec := { name := "registerTells", fn := fun _ => fun
  | [d1, d2] => { results := [.lit (.bool false)], args := [d1, d2] }
  | _ => none }
def RegisterTellsWrongFalsely : Prop := registerTellsRow.holds Try.pinned (OpenSpec.ofChange registerTellsWrong)

/-- 'archipelagolaw15.RegisterPlays': WHATEVER THE INPUT: true; the input reads as it did. -/
def registerPlaysSpec : ChangeSpec := { name := "registerPlays", fn := fun _ => fun
  | [d] => { results := [.lit (.bool true)], args := [d] }
  | _ => none }
def registerPlaysRow : OpenClaim := { program := "ytbicefilfhcgoaa", sum := "bb8b8467a89696e2ec261909bba80e3a00f0b01559052666ead51ee228c3ac71", func := "archipelago/archipelagolaw15.RegisterPlays", spec := "registerPlays", unfollowed := true, recurses := true, apart := false }
def RegisterPlaysSaid : Prop := registerPlaysRow.holds Try.pinned (OpenSpec.ofChange registerPlaysSpec)

/-- ITS FALSE NEIGHBOUR: 'it returns false'. Refute it at one input. -/
def registerPlaysWrong : ChangeSpec := { name := "registerPlays", fn := fun _ => fun
  | [d] => { results := [.lit (.bool false)], args := [d] }
  | _ => none }
def RegisterPlaysWrongFalsely : Prop := registerPlaysRow.holds Try.pinned (OpenSpec.ofChange registerPlaysWrong)

/-- 'archipelagolaw15.RegisterStays': WHATEVER THE INPUT: true; the input reads as it did. -/
def registerStaysSpec : ChangeSpec := { name := "registerStays", fn := fun _ => fun
  | [d] => { results := [.lit (.bool true)], args := [d] }
  | _ => none }
def registerStaysRow : OpenClaim := { program := "ytbicefilfhcgoaa", sum := "bb8b8467a89696e2ec261909bba80e3a00f0b01559052666ead51ee228c3ac71", func := "archipelago/archipelagolaw15.RegisterStays", spec := "registerStays", unfollowed := true, recurses := true, apart := false }
def RegisterStaysSaid : Prop := registerStaysRow.holds Try.pinned (OpenSpec.ofChange registerStaysSpec)

/-- ITS FALSE NEIGHBOUR: 'it returns false'. Refute it at one input. -/
def registerStaysWrong : ChangeSpec := { name := "registerStays", fn := fun _ => fun
  | [d] => { results := [.lit (.bool false)], args := [d] }
  | _ => none }
def RegisterStaysWrongFalsely : Prop := registerStaysRow.holds Try.pinned (OpenSpec.ofChange registerStaysWrong)

/-- 'archipelagolaw15.RegisterTwice': WHATEVER THE INPUT: true; the input reads as it did. -/
def registerTwiceSpec : ChangeSpec := { name := "registerTwice", fn := fun _ => fun
  | [d] => { results := [.lit (.bool true)], args := [d] }
  | _ => none }
def registerTwiceRow : OpenClaim := { program := "ytbicefilfhcgoaa", sum := "bb8b8467a89696e2ec261909bba80e3a00f0b01559052666ead51ee228c3ac71", func := "archipelago/archipelagolaw15.RegisterTwice", spec := "registerTwice", unfollowed := true, recurses := true, apart := false }
def RegisterTwiceSaid : Prop := registerTwiceRow.holds Try.pinned (OpenSpec.ofChange registerTwiceSpec)

/-- ITS FALSE NEIGHBOUR: 'it returns false'. Refute it at one input. -/
def registerTwiceWrong : ChangeSpec := { name := "registerTwice", fn := fun _ => fun
  | [d] => { results := [.lit (.bool false)], args := [d] }
  | _ => none }
def RegisterTwiceWrongFalsely : Prop := registerTwiceRow.holds Try.pinned (OpenSpec.ofChange registerTwiceWrong)

/-- 'archipelagolaw15.RegisterPieces': WHATEVER THE INPUT: true; the input reads as it did. -/
def registerPiecesSpec : ChangeSpec := { name := "registerPieces", fn := fun _ => fun
  | [d1, d2, d3] => { results := [.lit (.bool true)], args := [d1, d2, d3] }
  | _ => none }
def registerPiecesRow : OpenClaim := { program := "ytbicefilfhcgoaa", sum := "bb8b8467a89696e2ec261909bba80e3a00f0b01559052666ead51ee228c3ac71", func := "archipelago/archipelagolaw15.RegisterPieces", spec := "registerPieces", unfollowed := true, recurses := true, apart := false }
def RegisterPiecesSaid : Prop := registerPiecesRow.holds Try.pinned (OpenSpec.ofChange registerPiecesSpec)

/-- ITS FALSE NEIGHBOUR: 'it returns false'. Refute it at one input. -/
def registerPiecesWrong : ChangeSpec := { name := "registerPieces", fn := fun _ => fun
  | [d1, d2, d3] => { results := [.lit (.bool false)], args := [d1, d2, d3] }
  | _ => none }
def RegisterPiecesWrongFalsely : Prop := registerPiecesRow.holds Try.pinned (OpenSpec.ofChange registerPiecesWrong)

/-- 'archipelagolaw15.RegisterBase': WHATEVER THE INPUT: true; the input reads as it did. -/
def registerBaseSpec : ChangeSpec := { name := "registerBase", fn := fun _ => fun
  | [d1, d2] => { results := [.lit (.bool true)], args := [d1, d2] }
  | _ => none }
def registerBaseRow : OpenClaim := { program := "ytbicefilfhcgoaa", sum := "bb8b8467a89696e2ec261909bba80e3a00f0b01559052666ead51ee228c3ac71", func := "archipelago/archipelagolaw15.RegisterBase", spec := "registerBase", unfollowed := true, recurses := true, apart := false }
def RegisterBaseSaid : Prop := registerBaseRow.holds Try.pinned (OpenSpec.ofChange registerBaseSpec)

/-- ITS FALSE NEIGHBOUR: 'it returns false'. Refute it at one input. -/
def registerBaseWrong : ChangeSpec := { name := "registerBase", fn := fun _ => fun
  | [d1, d2] => { results := [.lit (.bool false)], args := [d1, d2] }
  | _ => none }
def RegisterBaseWrongFalsely : Prop := registerBaseRow.holds Try.pinned (OpenSpec.ofChange registerBaseWrong)

/-- 'archipelagolaw18.BallotsOrder': WHATEVER THE INPUT: true; the input reads as it did. -/
def ballotsOrderSpec : ChangeSpec := { name := "ballotsOrder", fn := fun _ => fun
  | [d1, d2] => { results := [.lit (.bool true)], args := [d1, d2] }
  | _ => none }
def ballotsOrderRow : OpenClaim := { program := "ytbicefilfhcgoaa", sum := "bb8b8467a89696e2ec261909bba80e3a00f0b01559052666ead51ee228c3ac71", func := "archipelago/archipelagolaw18.BallotsOrder", spec := "ballotsOrder", unfollowed := true, recurses := true, apart := false }
def BallotsOrderSaid : Prop := ballotsOrderRow.holds Try.pinned (OpenSpec.ofChange ballotsOrderSpec)

/-- ITS FALSE NEIGHBOUR: 'it returns false'. Refute it at one input. -/
def ballotsOrderWrong : ChangeSpec := { name := "ballotsOrder", fn := fun _ => fun
  | [d1, d2] => { results := [.lit (.bool false)], args := [d1, d2] }
  | _ => none }
def BallotsOrderWrongFalsely : Prop := ballotsOrderRow.holds Try.pinned (OpenSpec.ofChange ballotsOrderWrong)

/-- 'archipelagolaw18.BallotsAsk': WHATEVER THE INPUT: true; the input reads as it did. -/
def ballotsAskSpec : ChangeSpec := { name := "ballotsAsk", fn := fun _ => fun
  | [d1, d2] => { results := [.lit (.bool true)], args := [d1, d2] }
  | _ => none }
def ballotsAskRow : OpenClaim := { program := "ytbicefilfhcgoaa", sum := "bb8b8467a89696e2ec261909bba80e3a00f0b01559052666ead51ee228c3ac71", func := "archipelago/archipelagolaw18.BallotsAsk", spec := "ballotsAsk", unfollowed := true, recurses := true, apart := false }
def BallotsAskSaid : Prop := ballotsAskRow.holds Try.pinned (OpenSpec.ofChange ballotsAskSpec)

/-- ITS FALSE NEIGHBOUR: 'it returns false'. Refute it at one input. -/
def ballotsAskWrong : ChangeSpec := { name := "ballotsAsk", fn := fun _ => fun
  | [d1, d2] => { results := [.lit (.bool false)], args := [d1, d2] }
  | _ => none }
def BallotsAskWrongFalsely : Prop := ballotsAskRow.holds Try.pinned (OpenSpec.ofChange ballotsAskWrong)

/-- 'archipelagolaw18.BallotsKeep': WHATEVER THE INPUT: true; the input reads as it did. -/
def ballotsKeepSpec : ChangeSpec := { name := "ballotsKeep", fn := fun _ => fun
  | [d1, d2, d3] => { results := [.lit (.bool true)], args := [d1, d2, d3] }
  | _ => none }
def ballotsKeepRow : OpenClaim := { program := "ytbicefilfhcgoaa", sum := "bb8b8467a89696e2ec261909bba80e3a00f0b01559052666ead51ee228c3ac71", func := "archipelago/archipelagolaw18.BallotsKeep", spec := "ballotsKeep", unfollowed := true, recurses := true, apart := false }
def BallotsKeepSaid : Prop := ballotsKeepRow.holds Try.pinned (OpenSpec.ofChange ballotsKeepSpec)

/-- ITS FALSE NEIGHBOUR: 'it returns false'. Refute it at one input. -/
def ballotsKeepWrong : ChangeSpec := { name := "ballotsKeep", fn := fun _ => fun
  | [d1, d2, d3] => { results := [.lit (.bool false)], args := [d1, d2, d3] }
  | _ => none }
def BallotsKeepWrongFalsely : Prop := ballotsKeepRow.holds Try.pinned (OpenSpec.ofChange ballotsKeepWrong)

/-- 'archipelagolaw18.BallotsPlay': WHATEVER THE INPUT: true; the input reads as it did. -/
def ballotsPlaySpec : ChangeSpec := { name := "ballotsPlay", fn := fun _ => fun
  | [d1, d2] => { results := [.lit (.bool true)], args := [d1, d2] }
  | _ => none }
def ballotsPlayRow : OpenClaim := { program := "ytbicefilfhcgoaa", sum := "bb8b8467a89696e2ec261909bba80e3a00f0b01559052666ead51ee228c3ac71", func := "archipelago/archipelagolaw18.BallotsPlay", spec := "ballotsPlay", unfollowed := true, recurses := true, apart := false }
def BallotsPlaySaid : Prop := ballotsPlayRow.holds Try.pinned (OpenSpec.ofChange ballotsPlaySpec)

/-- ITS FALSE NEIGHBOUR: 'it returns false'. Refute it at one input. -/
def ballotsPlayWrong : ChangeSpec := { name := "ballotsPlay", fn := fun _ => fun
  | [d1, d2] => { results := [.lit (.bool false)], args := [d1, d2] }
  | _ => none }
def BallotsPlayWrongFalsely : Prop := ballotsPlayRow.holds Try.pinned (OpenSpec.ofChange ballotsPlayWrong)

/-- 'archipelagolaw18.BallotsNone': WHATEVER THE INPUT: true; the input reads as it did. -/
def ballotsNoneSpec : ChangeSpec := { name := "ballotsNone", fn := fun _ => fun
  | [d] => { results := [.lit (.bool true)], args := [d] }
  | _ => none }
def ballotsNoneRow : OpenClaim := { program := "ytbicefilfhcgoaa", sum := "bb8b8467a89696e2ec261909bba80e3a00f0b01559052666ead51ee228c3ac71", func := "archipelago/archipelagolaw18.BallotsNone", spec := "ballotsNone", unfollowed := true, recurses := true, apart := false }
def BallotsNoneSaid : Prop := ballotsNoneRow.holds Try.pinned (OpenSpec.ofChange ballotsNoneSpec)

/-- ITS FALSE NEIGHBOUR: 'it returns false'. Refute it at one input. -/
def ballotsNoneWrong : ChangeSpec := { name := "ballotsNone", fn := fun _ => fun
  | [d] => { results := [.lit (.bool false)], args := [d] }
  | _ => none }
def BallotsNoneWrongFalsely : Prop := ballotsNoneRow.holds Try.pinned (OpenSpec.ofChange ballotsNoneWrong)

/- THE SECOND FORM. 'bulk': how many values and letters a reading holds, each counted each time it is reached (what is shared counts as often as it is met; a slice's spare places count too). A statement '..UptoSaid' is the law's where the arguments, and the package variables that the reading takes, are together of bulk at most 1048576: NARROWER than '..Said'. Prove '..Said' where nothing that the law and all that it calls make is longer than what came in: it says more and counts as full. Else prove '..UptoSaid'. A law counts once. -/
mutual
def uptoBulk {H : Type} : DataW H → Nat
  | .lit (.string bytes) => bytes.length + 1
  | .lit _ => 1
  | .nil => 1
  | .ptr d => uptoBulk d + 1
  | .slice elems spare => uptoBulkAll elems + uptoBulkAll spare + 1
  | .agg parts => uptoBulkAll parts + 1
  | .iface _ d => uptoBulk d + 1
  | .map entries => uptoBulkEntries entries + 1
  | .held _ => 1
def uptoBulkAll {H : Type} : List (DataW H) → Nat
  | [] => 0
  | d :: r => uptoBulk d + uptoBulkAll r
def uptoBulkEntries {H : Type} : List (Lit × DataW H) → Nat
  | [] => 0
  | x :: r => uptoBulkEntry x + uptoBulkEntries r
def uptoBulkEntry {H : Type} : Lit × DataW H → Nat
  | (.string bytes, d) => bytes.length + uptoBulk d + 1
  | (_, d) => uptoBulk d + 1
 end
def uptoSmall : (H : Type) → List (DataW H) → Bool := fun _ ds => decide (uptoBulkAll ds ≤ 1048576)
def OpenSpec.upto (s : _root_.Go.ChangeSpec) : _root_.Go.OpenSpec := { _root_.Go.OpenSpec.ofChange s with cond := some uptoSmall }

/-- 'archipelagolaw15.RegisterTells', WHERE WHAT IT READS IS OF BULK AT MOST 1048576: true; the input reads as it did. -/
def registerTellsUptoRow : OpenClaim := { program := "ytbicefilfhcgoaa", sum := "bb8b8467a89696e2ec261909bba80e3a00f0b01559052666ead51ee228c3ac71", func := "archipelago/archipelagolaw15.RegisterTells", spec := "registerTells", unfollowed := true, recurses := true, apart := false, narrowed := true }
def RegisterTellsUptoSaid : Prop := registerTellsUptoRow.holds Try.pinned (OpenSpec.upto registerTellsSpec)

/-- 'archipelagolaw15.RegisterPlays', WHERE WHAT IT READS IS OF BULK AT MOST 1048576: true; the input reads as it did. -/
def registerPlaysUptoRow : OpenClaim := { program := "ytbicefilfhcgoaa", sum := "bb8b8467a89696e2ec261909bba80e3a00f0b01559052666ead51ee228c3ac71", func := "archipelago/archipelagolaw15.RegisterPlays", spec := "registerPlays", unfollowed := true, recurses := true, apart := false, narrowed := true }
def RegisterPlaysUptoSaid : Prop := registerPlaysUptoRow.holds Try.pinned (OpenSpec.upto registerPlaysSpec)

/-- 'archipelagolaw15.RegisterStays', WHERE WHAT IT READS IS OF BULK AT MOST 1048576: true; the input reads as it did. -/
def registerStaysUptoRow : OpenClaim := { program := "ytbicefilfhcgoaa", sum := "bb8b8467a89696e2ec261909bba80e3a00f0b01559052666ead51ee228c3ac71", func := "archipelago/archipelagolaw15.RegisterStays", spec := "registerStays", unfollowed := true, recurses := true, apart := false, narrowed := true }
def RegisterStaysUptoSaid : Prop := registerStaysUptoRow.holds Try.pinned (OpenSpec.upto registerStaysSpec)

/-- 'archipelagolaw15.RegisterTwice', WHERE WHAT IT READS IS OF BULK AT MOST 1048576: true; the input reads as it did. -/
def registerTwiceUptoRow : OpenClaim := { program := "ytbicefilfhcgoaa", sum := "bb8b8467a89696e2ec261909bba80e3a00f0b01559052666ead51ee228c3ac71", func := "archipelago/archipelagolaw15.RegisterTwice", spec := "registerTwice", unfollowed := true, recurses := true, apart := false, narrowed := true }
def RegisterTwiceUptoSaid : Prop := registerTwiceUptoRow.holds Try.pinned (OpenSpec.upto registerTwiceSpec)

/-- 'archipelagolaw15.RegisterPieces', WHERE WHAT IT READS IS OF BULK AT MOST 1048576: true; the input reads as it did. -/
def registerPiecesUptoRow : OpenClaim := { program := "ytbicefilfhcgoaa", sum := "bb8b8467a89696e2ec261909bba80e3a00f0b01559052666ead51ee228c3ac71", func := "archipelago/archipelagolaw15.RegisterPieces", spec := "registerPieces", unfollowed := true, recurses := true, apart := false, narrowed := true }
def RegisterPiecesUptoSaid : Prop := registerPiecesUptoRow.holds Try.pinned (OpenSpec.upto registerPiecesSpec)

/-- 'archipelagolaw15.RegisterBase', WHERE WHAT IT READS IS OF BULK AT MOST 1048576: true; the input reads as it did. -/
def registerBaseUptoRow : OpenClaim := { program := "ytbicefilfhcgoaa", sum := "bb8b8467a89696e2ec261909bba80e3a00f0b01559052666ead51ee228c3ac71", func := "archipelago/archipelagolaw15.RegisterBase", spec := "registerBase", unfollowed := true, recurses := true, apart := false, narrowed := true }
def RegisterBaseUptoSaid : Prop := registerBaseUptoRow.holds Try.pinned (OpenSpec.upto registerBaseSpec)

/-- 'archipelagolaw18.BallotsOrder', WHERE WHAT IT READS IS OF BULK AT MOST 1048576: true; the input reads as it did. -/
def ballotsOrderUptoRow : OpenClaim := { program := "ytbicefilfhcgoaa", sum := "bb8b8467a89696e2ec261909bba80e3a00f0b01559052666ead51ee228c3ac71", func := "archipelago/archipelagolaw18.BallotsOrder", spec := "ballotsOrder", unfollowed := true, recurses := true, apart := false, narrowed := true }
def BallotsOrderUptoSaid : Prop := ballotsOrderUptoRow.holds Try.pinned (OpenSpec.upto ballotsOrderSpec)

/-- 'archipelagolaw18.BallotsAsk', WHERE WHAT IT READS IS OF BULK AT MOST 1048576: true; the input reads as it did. -/
def ballotsAskUptoRow : OpenClaim := { program := "ytbicefilfhcgoaa", sum := "bb8b8467a89696e2ec261909bba80e3a00f0b01559052666ead51ee228c3ac71", func := "archipelago/archipelagolaw18.BallotsAsk", spec := "ballotsAsk", unfollowed := true, recurses := true, apart := false, narrowed := true }
def BallotsAskUptoSaid : Prop := ballotsAskUptoRow.holds Try.pinned (OpenSpec.upto ballotsAskSpec)

/-- 'archipelagolaw18.BallotsKeep', WHERE WHAT IT READS IS OF BULK AT MOST 1048576: true; the input reads as it did. -/
def ballotsKeepUptoRow : OpenClaim := { program := "ytbicefilfhcgoaa", sum := "bb8b8467a89696e2ec261909bba80e3a00f0b01559052666ead51ee228c3ac71", func := "archipelago/archipelagolaw18.BallotsKeep", spec := "ballotsKeep", unfollowed := true, recurses := true, apart := false, narrowed := true }
def BallotsKeepUptoSaid : Prop := ballotsKeepUptoRow.holds Try.pinned (OpenSpec.upto ballotsKeepSpec)

/-- 'archipelagolaw18.BallotsPlay', WHERE WHAT IT READS IS OF BULK AT MOST 1048576: true; the input reads as it did. -/
def ballotsPlayUptoRow : OpenClaim := { program := "ytbicefilfhcgoaa", sum := "bb8b8467a89696e2ec261909bba80e3a00f0b01559052666ead51ee228c3ac71", func := "archipelago/archipelagolaw18.BallotsPlay", spec := "ballotsPlay", unfollowed := true, recurses := true, apart := false, narrowed := true }
def BallotsPlayUptoSaid : Prop := ballotsPlayUptoRow.holds Try.pinned (OpenSpec.upto ballotsPlaySpec)

/-- 'archipelagolaw18.BallotsNone', WHERE WHAT IT READS IS OF BULK AT MOST 1048576: true; the input reads as it did. -/
def ballotsNoneUptoRow : OpenClaim := { program := "ytbicefilfhcgoaa", sum := "bb8b8467a89696e2ec261909bba80e3a00f0b01559052666ead51ee228c3ac71", func := "archipelago/archipelagolaw18.BallotsNone", spec := "ballotsNone", unfollowed := true, recurses := true, apart := false, narrowed := true }
def BallotsNoneUptoSaid : Prop := ballotsNoneUptoRow.holds Try.pinned (OpenSpec.upto ballotsNoneSpec)

end Rows
end Go.Proofs.Ytbicefilfhcgoaa
