/-
  No cell of these rows narrows 'for every input' (looked for: loops, veiled, ifaces, maps, wideKeys, modest, calm, conditions, laid).
  DERIVED. THE GIVEN ROWS OF THIS SEAT. 11 by the template 'for every input the law returns true; each argument reads behind the call as it read before'; 0 by the template 'total and deterministic' (their statements: YtifeokabecgimaaTotals.lean).
  GIVEN WITH THE SEED: the statements are not yours to turn. If you find one false, say at which input.
  Laid BY PROGRAM, IN A SANDBOX (cutbox-rows.mjs): the forced cells as the released guide's own fill.sh prints them over the translation 8c9cb1e60ef61f68… (all of the seat's roots in one cut). By AI agents, Wed Nov 11 2026. No macro, syntax, notation, axiom, sorry.
-/
import Derived.Test.YtifeokabecgimaaChecked
import GoSem.Claim
import GoSem.ClaimJoined
import GoSem.ClaimMapViews
import Derived.JoinedTies
import Derived.KernelRfl
namespace Go.Proofs.Ytifeokabecgimaa
/- THE CELL 'sum', in the pinned program and in every row, IS THE sha256 OF THE DUMP (.gsa) THAT YtifeokabecgimaaProg.lean LOADS. Nothing in Lean hashes anything: it is a label: what it is worth is what the hold of that sum in a sandbox is worth. -/
noncomputable def Try.pinned : Pinned := { name := "ytifeokabecgimaa", sum := "8c9cb1e60ef61f68fcd54c3cfcf18ce2f7aa19e83a2f21e516b13f166b0dbd8b", checked := Try.checked }
namespace Rows
def none {H : Type} : Left H := { results := [], args := [] }

/-- 'archipelagolaw13.FoldsOf': WHATEVER THE INPUT: true; the input reads as it did. -/
def foldsOfSpec : ChangeSpec := { name := "foldsOf", fn := fun _ => fun
  | [d] => { results := [.lit (.bool true)], args := [d] }
  | _ => none }
def foldsOfRow : OpenClaim := { program := "ytifeokabecgimaa", sum := "8c9cb1e60ef61f68fcd54c3cfcf18ce2f7aa19e83a2f21e516b13f166b0dbd8b", func := "archipelago/archipelagolaw13.FoldsOf", spec := "foldsOf", unfollowed := true, recurses := true, plainKeys := false, apart := false }
def FoldsOfSaid : Prop := foldsOfRow.holds Try.pinned (OpenSpec.ofChange foldsOfSpec)

/-- ITS FALSE NEIGHBOUR: 'it returns false'. Refute it at one input. -/
def foldsOfWrong : ChangeSpec := { name := "foldsOf", fn := fun _ => fun
  | [d] => { results := [.lit (.bool false)], args := [d] }
  | _ => none }
def FoldsOfWrongFalsely : Prop := foldsOfRow.holds Try.pinned (OpenSpec.ofChange foldsOfWrong)

/-- 'archipelagolaw13.FoldsFind': WHATEVER THE INPUT: true; the input reads as it did. -/
def foldsFindSpec : ChangeSpec := { name := "foldsFind", fn := fun _ => fun
  | [d1, d2] => { results := [.lit (.bool true)], args := [d1, d2] }
  | _ => none }
def foldsFindRow : OpenClaim := { program := "ytifeokabecgimaa", sum := "8c9cb1e60ef61f68fcd54c3cfcf18ce2f7aa19e83a2f21e516b13f166b0dbd8b", func := "archipelago/archipelagolaw13.FoldsFind", spec := "foldsFind", unfollowed := true, recurses := true, plainKeys := false, apart := false }
def FoldsFindSaid : Prop := foldsFindRow.holds Try.pinned (OpenSpec.ofChange foldsFindSpec)

/-- ITS FALSE NEIGHBOUR: 'it returns false'. Refute it at one input. -/
def foldsFindWrong : ChangeSpec := { name := "foldsFind", fn := fun _ => fun
  | [d1, d2] => { results := [.lit (.bool false)], args := [d1, d2] }
  | _ => none }
def FoldsFindWrongFalsely : Prop := foldsFindRow.holds Try.pinned (OpenSpec.ofChange foldsFindWrong)

/-- 'archipelagolaw13.FoldsPrefix': WHATEVER THE INPUT: true; the input reads as it did. -/
def foldsPrefixSpec : ChangeSpec := { name := "foldsPrefix", fn := fun _ => fun
  | [d1, d2] => { results := [.lit (.bool true)], args := [d1, d2] }
  | _ => none }
def foldsPrefixRow : OpenClaim := { program := "ytifeokabecgimaa", sum := "8c9cb1e60ef61f68fcd54c3cfcf18ce2f7aa19e83a2f21e516b13f166b0dbd8b", func := "archipelago/archipelagolaw13.FoldsPrefix", spec := "foldsPrefix", unfollowed := true, recurses := true, plainKeys := false, apart := false }
def FoldsPrefixSaid : Prop := foldsPrefixRow.holds Try.pinned (OpenSpec.ofChange foldsPrefixSpec)

/-- ITS FALSE NEIGHBOUR: 'it returns false'. Refute it at one input. -/
def foldsPrefixWrong : ChangeSpec := { name := "foldsPrefix", fn := fun _ => fun
  | [d1, d2] => { results := [.lit (.bool false)], args := [d1, d2] }
  | _ => none }
def FoldsPrefixWrongFalsely : Prop := foldsPrefixRow.holds Try.pinned (OpenSpec.ofChange foldsPrefixWrong)

/-- 'archipelagolaw13.FoldsState': WHATEVER THE INPUT: true; the input reads as it did. -/
def foldsStateSpec : ChangeSpec := { name := "foldsState", fn := fun _ => fun
  | [d] => { results := [.lit (.bool true)], args := [d] }
  | _ => none }
def foldsStateRow : OpenClaim := { program := "ytifeokabecgimaa", sum := "8c9cb1e60ef61f68fcd54c3cfcf18ce2f7aa19e83a2f21e516b13f166b0dbd8b", func := "archipelago/archipelagolaw13.FoldsState", spec := "foldsState", unfollowed := true, recurses := true, plainKeys := false, apart := false }
def FoldsStateSaid : Prop := foldsStateRow.holds Try.pinned (OpenSpec.ofChange foldsStateSpec)

/-- ITS FALSE NEIGHBOUR: 'it returns false'. Refute it at one input. -/
def foldsStateWrong : ChangeSpec := { name := "foldsState", fn := fun _ => fun
  | [d] => { results := [.lit (.bool false)], args := [d] }
  | _ => none }
def FoldsStateWrongFalsely : Prop := foldsStateRow.holds Try.pinned (OpenSpec.ofChange foldsStateWrong)

/-- 'archipelagolaw13.FoldsOnce': WHATEVER THE INPUT: true; the input reads as it did. -/
def foldsOnceSpec : ChangeSpec := { name := "foldsOnce", fn := fun _ => fun
  | [d1, d2, d3] => { results := [.lit (.bool true)], args := [d1, d2, d3] }
  | _ => none }
def foldsOnceRow : OpenClaim := { program := "ytifeokabecgimaa", sum := "8c9cb1e60ef61f68fcd54c3cfcf18ce2f7aa19e83a2f21e516b13f166b0dbd8b", func := "archipelago/archipelagolaw13.FoldsOnce", spec := "foldsOnce", unfollowed := true, recurses := true, plainKeys := false, apart := false }
def FoldsOnceSaid : Prop := foldsOnceRow.holds Try.pinned (OpenSpec.ofChange foldsOnceSpec)

/-- ITS FALSE NEIGHBOUR: 'it returns false'. Refute it at one input. -/
def foldsOnceWrong : ChangeSpec := { name := "foldsOnce", fn := fun _ => fun
  | [d1, d2, d3] => { results := [.lit (.bool false)], args := [d1, d2, d3] }
  | _ => none }
def FoldsOnceWrongFalsely : Prop := foldsOnceRow.holds Try.pinned (OpenSpec.ofChange foldsOnceWrong)

/-- 'archipelagolaw13.FoldsEpochs': WHATEVER THE INPUT: true; the input reads as it did. -/
def foldsEpochsSpec : ChangeSpec := { name := "foldsEpochs", fn := fun _ => fun
  | [d1, d2] => { results := [.lit (.bool true)], args := [d1, d2] }
  | _ => none }
def foldsEpochsRow : OpenClaim := { program := "ytifeokabecgimaa", sum := "8c9cb1e60ef61f68fcd54c3cfcf18ce2f7aa19e83a2f21e516b13f166b0dbd8b", func := "archipelago/archipelagolaw13.FoldsEpochs", spec := "foldsEpochs", unfollowed := true, recurses := true, plainKeys := false, apart := false }
def FoldsEpochsSaid : Prop := foldsEpochsRow.holds Try.pinned (OpenSpec.ofChange foldsEpochsSpec)

/-- ITS FALSE NEIGHBOUR: 'it returns false'. Refute it at one input. -/
def foldsEpochsWrong : ChangeSpec := { name := "foldsEpochs", fn := fun _ => fun
  | [d1, d2] => { results := [.lit (.bool false)], args := [d1, d2] }
  | _ => none }
def FoldsEpochsWrongFalsely : Prop := foldsEpochsRow.holds Try.pinned (OpenSpec.ofChange foldsEpochsWrong)

/-- 'archipelagolaw13.FoldsNext': WHATEVER THE INPUT: true; the input reads as it did. -/
def foldsNextSpec : ChangeSpec := { name := "foldsNext", fn := fun _ => fun
  | [d1, d2] => { results := [.lit (.bool true)], args := [d1, d2] }
  | _ => none }
def foldsNextRow : OpenClaim := { program := "ytifeokabecgimaa", sum := "8c9cb1e60ef61f68fcd54c3cfcf18ce2f7aa19e83a2f21e516b13f166b0dbd8b", func := "archipelago/archipelagolaw13.FoldsNext", spec := "foldsNext", unfollowed := true, recurses := true, plainKeys := false, apart := false }
def FoldsNextSaid : Prop := foldsNextRow.holds Try.pinned (OpenSpec.ofChange foldsNextSpec)

/-- ITS FALSE NEIGHBOUR: 'it returns false'. Refute it at one input. -/
def foldsNextWrong : ChangeSpec := { name := "foldsNext", fn := fun _ => fun
  | [d1, d2] => { results := [.lit (.bool false)], args := [d1, d2] }
  | _ => none }
def FoldsNextWrongFalsely : Prop := foldsNextRow.holds Try.pinned (OpenSpec.ofChange foldsNextWrong)

/-- 'archipelagolaw22.FeedsTell': WHATEVER THE INPUT: true; the input reads as it did. -/
def feedsTellSpec : ChangeSpec := { name := "feedsTell", fn := fun _ => fun
  | [d1, d2] => { results := [.lit (.bool true)], args := [d1, d2] }
  | _ => none }
def feedsTellRow : OpenClaim := { program := "ytifeokabecgimaa", sum := "8c9cb1e60ef61f68fcd54c3cfcf18ce2f7aa19e83a2f21e516b13f166b0dbd8b", func := "archipelago/archipelagolaw22.FeedsTell", spec := "feedsTell", unfollowed := true, recurses := true, plainKeys := false, apart := false }
def FeedsTellSaid : Prop := feedsTellRow.holds Try.pinned (OpenSpec.ofChange feedsTellSpec)

/-- ITS FALSE NEIGHBOUR: 'it returns false'. Refute it at one input. -/
def feedsTellWrong : ChangeSpec := { name := "feedsTell", fn := fun _ => fun
  | [d1, d2] => { results := [.lit (.bool false)], args := [d1, d2] }
  | _ => none }
def FeedsTellWrongFalsely : Prop := feedsTellRow.holds Try.pinned (OpenSpec.ofChange feedsTellWrong)

/-- 'archipelagolaw22.FeedsPages': WHATEVER THE INPUT: true; the input reads as it did. -/
def feedsPagesSpec : ChangeSpec := { name := "feedsPages", fn := fun _ => fun
  | [d1, d2, d3] => { results := [.lit (.bool true)], args := [d1, d2, d3] }
  | _ => none }
def feedsPagesRow : OpenClaim := { program := "ytifeokabecgimaa", sum := "8c9cb1e60ef61f68fcd54c3cfcf18ce2f7aa19e83a2f21e516b13f166b0dbd8b", func := "archipelago/archipelagolaw22.FeedsPages", spec := "feedsPages", unfollowed := true, recurses := true, plainKeys := false, apart := false }
def FeedsPagesSaid : Prop := feedsPagesRow.holds Try.pinned (OpenSpec.ofChange feedsPagesSpec)

/-- ITS FALSE NEIGHBOUR: 'it returns false'. Refute it at one input. -/
def feedsPagesWrong : ChangeSpec := { name := "feedsPages", fn := fun _ => fun
  | [d1, d2, d3] => { results := [.lit (.bool false)], args := [d1, d2, d3] }
  | _ => none }
def FeedsPagesWrongFalsely : Prop := feedsPagesRow.holds Try.pinned (OpenSpec.ofChange feedsPagesWrong)

/-- 'archipelagolaw22.FeedsGrow': WHATEVER THE INPUT: true; the input reads as it did. -/
def feedsGrowSpec : ChangeSpec := { name := "feedsGrow", fn := fun _ => fun
  | [d1, d2, d3] => { results := [.lit (.bool true)], args := [d1, d2, d3] }
  | _ => none }
def feedsGrowRow : OpenClaim := { program := "ytifeokabecgimaa", sum := "8c9cb1e60ef61f68fcd54c3cfcf18ce2f7aa19e83a2f21e516b13f166b0dbd8b", func := "archipelago/archipelagolaw22.FeedsGrow", spec := "feedsGrow", unfollowed := true, recurses := true, plainKeys := false, apart := false }
def FeedsGrowSaid : Prop := feedsGrowRow.holds Try.pinned (OpenSpec.ofChange feedsGrowSpec)

/-- ITS FALSE NEIGHBOUR: 'it returns false'. Refute it at one input. -/
def feedsGrowWrong : ChangeSpec := { name := "feedsGrow", fn := fun _ => fun
  | [d1, d2, d3] => { results := [.lit (.bool false)], args := [d1, d2, d3] }
  | _ => none }
def FeedsGrowWrongFalsely : Prop := feedsGrowRow.holds Try.pinned (OpenSpec.ofChange feedsGrowWrong)

/-- 'archipelagolaw22.FeedsBad': WHATEVER THE INPUT: true; the input reads as it did. -/
def feedsBadSpec : ChangeSpec := { name := "feedsBad", fn := fun _ => fun
  | [d1, d2] => { results := [.lit (.bool true)], args := [d1, d2] }
  | _ => none }
def feedsBadRow : OpenClaim := { program := "ytifeokabecgimaa", sum := "8c9cb1e60ef61f68fcd54c3cfcf18ce2f7aa19e83a2f21e516b13f166b0dbd8b", func := "archipelago/archipelagolaw22.FeedsBad", spec := "feedsBad", unfollowed := true, recurses := true, plainKeys := false, apart := false }
def FeedsBadSaid : Prop := feedsBadRow.holds Try.pinned (OpenSpec.ofChange feedsBadSpec)

/-- ITS FALSE NEIGHBOUR: 'it returns false'. Refute it at one input. -/
def feedsBadWrong : ChangeSpec := { name := "feedsBad", fn := fun _ => fun
  | [d1, d2] => { results := [.lit (.bool false)], args := [d1, d2] }
  | _ => none }
def FeedsBadWrongFalsely : Prop := feedsBadRow.holds Try.pinned (OpenSpec.ofChange feedsBadWrong)

/- THE SECOND FORM. 'bulk': how many values and letters a reading holds, each counted each time it is reached (what is shared counts as often as it is met; a slice's spare places count too). A statement '..UptoSaid' is the law's where the arguments, and the package variables that the reading takes, are together of bulk at most 1048576: NARROWER than '..Said'. Prove '..Said' where nothing that the law and all that it calls make is longer than what came in: it says more and counts as full. Else prove '..UptoSaid'. A law counts once. -/
mutual
def uptoBulk {H : Type} : DataW H → Nat
  | .lit (.string bytes) => bytes.length + 1
  | .lit _ => 1
  | .nil => 1
  | .ptr d => uptoBulk d + 1
  | .slice elems spare => uptoBulkAll elems + uptoBulkAll spare + 1
  | .agg parts => uptoBulkAll parts + 1
  | .iface _ d => uptoBulk d + 1
  | .map entries => uptoBulkEntries entries + 1
  | .held _ => 1
def uptoBulkAll {H : Type} : List (DataW H) → Nat
  | [] => 0
  | d :: r => uptoBulk d + uptoBulkAll r
def uptoBulkEntries {H : Type} : List (Lit × DataW H) → Nat
  | [] => 0
  | x :: r => uptoBulkEntry x + uptoBulkEntries r
def uptoBulkEntry {H : Type} : Lit × DataW H → Nat
  | (.string bytes, d) => bytes.length + uptoBulk d + 1
  | (_, d) => uptoBulk d + 1
 end
def uptoSmall : (H : Type) → List (DataW H) → Bool := fun _ ds => decide (uptoBulkAll ds ≤ 1048576)
def OpenSpec.upto (s : _root_.Go.ChangeSpec) : _root_.Go.OpenSpec := { _root_.Go.OpenSpec.ofChange s with cond := some uptoSmall }

/-- 'archipelagolaw13.FoldsOf', WHERE WHAT IT READS IS OF BULK AT MOST 1048576: true; the input reads as it did. -/
def foldsOfUptoRow : OpenClaim := { program := "ytifeokabecgimaa", sum := "8c9cb1e60ef61f68fcd54c3cfcf18ce2f7aa19e83a2f21e516b13f166b0dbd8b", func := "archipelago/archipelagolaw13.FoldsOf", spec := "foldsOf", unfollowed := true, recurses := true, plainKeys := false, apart := false, narrowed := true }
def FoldsOfUptoSaid : Prop := foldsOfUptoRow.holds Try.pinned (OpenSpec.upto foldsOfSpec)

/-- 'archipelagolaw13.FoldsFind', WHERE WHAT IT READS IS OF BULK AT MOST 1048576: true; the input reads as it did. -/
def foldsFindUptoRow : OpenClaim := { program := "ytifeokabecgimaa", sum := "8c9cb1e60ef61f68fcd54c3cfcf18ce2f7aa19e83a2f21e516b13f166b0dbd8b", func := "archipelago/archipelagolaw13.FoldsFind", spec := "foldsFind", unfollowed := true, recurses := true, plainKeys := false, apart := false, narrowed := true }
def FoldsFindUptoSaid : Prop := foldsFindUptoRow.holds Try.pinned (OpenSpec.upto foldsFindSpec)

/-- 'archipelagolaw13.FoldsPrefix', WHERE WHAT IT READS IS OF BULK AT MOST 1048576: true; the input reads as it did. -/
def foldsPrefixUptoRow : OpenClaim := { program := "ytifeokabecgimaa", sum := "8c9cb1e60ef61f68fcd54c3cfcf18ce2f7aa19e83a2f21e516b13f166b0dbd8b", func := "archipelago/archipelagolaw13.FoldsPrefix", spec := "foldsPrefix", unfollowed := true, recurses := true, plainKeys := false, apart := false, narrowed := true }
def FoldsPrefixUptoSaid : Prop := foldsPrefixUptoRow.holds Try.pinned (OpenSpec.upto foldsPrefixSpec)

/-- 'archipelagolaw13.FoldsState', WHERE WHAT IT READS IS OF BULK AT MOST 1048576: true; the input reads as it did. -/
def foldsStateUptoRow : OpenClaim := { program := "ytifeokabecgimaa", sum := "8c9cb1e60ef61f68fcd54c3cfcf18ce2f7aa19e83a2f21e516b13f166b0dbd8b", func := "archipelago/archipelagolaw13.FoldsState", spec := "foldsState", unfollowed := true, recurses := true, plainKeys := false, apart := false, narrowed := true }
def FoldsStateUptoSaid : Prop := foldsStateUptoRow.holds Try.pinned (OpenSpec.upto foldsStateSpec)

/-- 'archipelagolaw13.FoldsOnce', WHERE WHAT IT READS IS OF BULK AT MOST 1048576: true; the input reads as it did. -/
def foldsOnceUptoRow : OpenClaim := { program := "ytifeokabecgimaa", sum := "8c9cb1e60ef61f68fcd54c3cfcf18ce2f7aa19e83a2f21e516b13f166b0dbd8b", func := "archipelago/archipelagolaw13.FoldsOnce", spec := "foldsOnce", unfollowed := true, recurses := true, plainKeys := false, apart := false, narrowed := true }
def FoldsOnceUptoSaid : Prop := foldsOnceUptoRow.holds Try.pinned (OpenSpec.upto foldsOnceSpec)

/-- 'archipelagolaw13.FoldsEpochs', WHERE WHAT IT READS IS OF BULK AT MOST 1048576: true; the input reads as it did. -/
def foldsEpochsUptoRow : OpenClaim := { program := "ytifeokabecgimaa", sum := "8c9cb1e60ef61f68fcd54c3cfcf18ce2f7aa19e83a2f21e516b13f166b0dbd8b", func := "archipelago/archipelagolaw13.FoldsEpochs", spec := "foldsEpochs", unfollowed := true, recurses := true, plainKeys := false, apart := false, narrowed := true }
def FoldsEpochsUptoSaid : Prop := foldsEpochsUptoRow.holds Try.pinned (OpenSpec.upto foldsEpochsSpec)

/-- 'archipelagolaw13.FoldsNext', WHERE WHAT IT READS IS OF BULK AT MOST 1048576: true; the input reads as it did. -/
def foldsNextUptoRow : OpenClaim := { program := "ytifeokabecgimaa", sum := "8c9cb1e60ef61f68fcd54c3cfcf18ce2f7aa19e83a2f21e516b13f166b0dbd8b", func := "archipelago/archipelagolaw13.FoldsNext", spec := "foldsNext", unfollowed := true, recurses := true, plainKeys := false, apart := false, narrowed := true }
def FoldsNextUptoSaid : Prop := foldsNextUptoRow.holds Try.pinned (OpenSpec.upto foldsNextSpec)

/-- 'archipelagolaw22.FeedsTell', WHERE WHAT IT READS IS OF BULK AT MOST 1048576: true; the input reads as it did. -/
def feedsTellUptoRow : OpenClaim := { program := "ytifeokabecgimaa", sum := "8c9cb1e60ef61f68fcd54c3cfcf18ce2f7aa19e83a2f21e516b13f166b0dbd8b", func := "archipelago/archipelagolaw22.FeedsTell", spec := "feedsTell", unfollowed := true, recurses := true, plainKeys := false, apart := false, narrowed := true }
def FeedsTellUptoSaid : Prop := feedsTellUptoRow.holds Try.pinned (OpenSpec.upto feedsTellSpec)

/-- 'archipelagolaw22.FeedsPages', WHERE WHAT IT READS IS OF BULK AT MOST 1048576: true; the input reads as it did. -/
def feedsPagesUptoRow : OpenClaim := { program := "ytifeokabecgimaa", sum := "8c9cb1e60ef61f68fcd54c3cfcf18ce2f7aa19e83a2f21e516b13f166b0dbd8b", func := "archipelago/archipelagolaw22.FeedsPages", spec := "feedsPages", unfollowed := true, recurses := true, plainKeys := false, apart := false, narrowed := true }
def FeedsPagesUptoSaid : Prop := feedsPagesUptoRow.holds Try.pinned (OpenSpec.upto feedsPagesSpec)

/-- 'archipelagolaw22.FeedsGrow', WHERE WHAT IT READS IS OF BULK AT MOST 1048576: true; the input reads as it did. -/
def feedsGrowUptoRow : OpenClaim := { program := "ytifeokabecgimaa", sum := "8c9cb1e60ef61f68fcd54c3cfcf18ce2f7aa19e83a2f21e516b13f166b0dbd8b", func := "archipelago/archipelagolaw22.FeedsGrow", spec := "feedsGrow", unfollowed := true, recurses := true, plainKeys := false, apart := false, narrowed := true }
def FeedsGrowUptoSaid : Prop := feedsGrowUptoRow.holds Try.pinned (OpenSpec.upto feedsGrowSpec)

/-- 'archipelagolaw22.FeedsBad', WHERE WHAT IT READS IS OF BULK AT MOST 1048576: true; the input reads as it did. -/
def feedsBadUptoRow : OpenClaim := { program := "ytifeokabecgimaa", sum := "8c9cb1e60ef61f68fcd54c3cfcf18ce2f7aa19e83a2f21e516b13f166b0dbd8b", func := "archipelago/archipelagolaw22.FeedsBad", spec := "feedsBad", unfollowed := true, recurses := true, plainKeys := false, apart := false, narrowed := true }
def FeedsBadUptoSaid : Prop := feedsBadUptoRow.holds Try.pinned (OpenSpec.upto feedsBadSpec)

end Rows
end Go.Proofs.Ytifeokabecgimaa
