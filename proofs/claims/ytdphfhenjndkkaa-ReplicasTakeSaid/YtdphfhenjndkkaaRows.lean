/-
  No cell of these rows narrows 'for every input' (looked for: loops, veiled, ifaces, maps, wideKeys, modest, calm, conditions, laid).
  DERIVED. THE GIVEN ROWS OF THIS SEAT. 7 by the template 'for every input the law returns true; each argument reads behind the call as it read before'; 0 by the template 'total and deterministic' (their statements: YtdphfhenjndkkaaTotals.lean).
  GIVEN WITH THE SEED: the statements are not yours to turn. If you find one false, say at which input.
  Laid BY PROGRAM, IN A SANDBOX (cutbox-rows.mjs): the forced cells as the released guide's own fill.sh prints them over the translation 3f08bced4799a879… (all of the seat's roots in one cut). By AI agents, Wed Nov 11 2026. No macro, syntax, notation, axiom, sorry.
-/
import Derived.Test.YtdphfhenjndkkaaChecked
import GoSem.Claim
import GoSem.ClaimJoined
import GoSem.ClaimMapViews
import Derived.JoinedTies
import Derived.KernelRfl
namespace Go.Proofs.Ytdphfhenjndkkaa
/- THE CELL 'sum', in the pinned program and in every row, IS THE sha256 OF THE DUMP (.gsa) THAT YtdphfhenjndkkaaProg.lean LOADS. Nothing in Lean hashes anything: it is a label: what it is worth is what the hold of that sum in a sandbox is worth. -/
noncomputable def Try.pinned : Pinned := { name := "ytdphfhenjndkkaa", sum := "3f08bced4799a879d8099463b621a102d4d81d90d87e22700500188eef244d50", checked := Try.checked }
namespace Rows
def none {H : Type} : Left H := { results := [], args := [] }

/-- 'archipelagolaw19.ReplicasTake': WHATEVER THE INPUT: true; the input reads as it did. -/
def replicasTakeSpec : ChangeSpec := { name := "replicasTake", fn := fun _ => fun
  | [d1, d2, d3] => { results := [.lit (.bool true)], args := [d1, d2, d3] }
  | _ => none }
def replicasTakeRow : OpenClaim := { program := "ytdphfhenjndkkaa", sum := "3f08bced4799a879d8099463b621a102d4d81d90d87e22700500188eef244d50", func := "archipelago/archipelagolaw19.ReplicasTake", spec := "replicasTake", unfollowed := true, recurses := true, apart := false }
def ReplicasTakeSaid : Prop := replicasTakeRow.holds Try.pinned (OpenSpec.ofChange replicasTakeSpec)

/-- ITS FALSE NEIGHBOUR: 'it returns false'. Refute it at one input. -/
def replicasTakeWrong : ChangeSpec := { name := "replicasTake", fn := fun _ => fun
  | [d1, d2, d3] => { results := [.lit (.bool false)], args := [d1, d2, d3] }
  | _ => none }
def ReplicasTakeWrongFalsely : Prop := replicasTakeRow.holds Try.pinned (OpenSpec.ofChange replicasTakeWrong)

/-- 'archipelagolaw19.ReplicasTwice': WHATEVER THE INPUT: true; the input reads as it did. -/
def replicasTwiceSpec : ChangeSpec := { name := "replicasTwice", fn := fun _ => fun
  | [d1, d2, d3] => { results := [.lit (.bool true)], args := [d1, d2, d3] }
  | _ => none }
def replicasTwiceRow : OpenClaim := { program := "ytdphfhenjndkkaa", sum := "3f08bced4799a879d8099463b621a102d4d81d90d87e22700500188eef244d50", func := "archipelago/archipelagolaw19.ReplicasTwice", spec := "replicasTwice", unfollowed := true, recurses := true, apart := false }
def ReplicasTwiceSaid : Prop := replicasTwiceRow.holds Try.pinned (OpenSpec.ofChange replicasTwiceSpec)

/-- ITS FALSE NEIGHBOUR: 'it returns false'. Refute it at one input. -/
def replicasTwiceWrong : ChangeSpec := { name := "replicasTwice", fn := fun _ => fun
  | [d1, d2, d3] => { results := [.lit (.bool false)], args := [d1, d2, d3] }
  | _ => none }
def ReplicasTwiceWrongFalsely : Prop := replicasTwiceRow.holds Try.pinned (OpenSpec.ofChange replicasTwiceWrong)

/-- 'archipelagolaw19.ReplicasRefuse': WHATEVER THE INPUT: true; the input reads as it did. -/
def replicasRefuseSpec : ChangeSpec := { name := "replicasRefuse", fn := fun _ => fun
  | [d1, d2] => { results := [.lit (.bool true)], args := [d1, d2] }
  | _ => none }
def replicasRefuseRow : OpenClaim := { program := "ytdphfhenjndkkaa", sum := "3f08bced4799a879d8099463b621a102d4d81d90d87e22700500188eef244d50", func := "archipelago/archipelagolaw19.ReplicasRefuse", spec := "replicasRefuse", unfollowed := true, recurses := true, apart := false }
def ReplicasRefuseSaid : Prop := replicasRefuseRow.holds Try.pinned (OpenSpec.ofChange replicasRefuseSpec)

/-- ITS FALSE NEIGHBOUR: 'it returns false'. Refute it at one input. -/
def replicasRefuseWrong : ChangeSpec := { name := "replicasRefuse", fn := fun _ => fun
  | [d1, d2] => { results := [.lit (.bool false)], args := [d1, d2] }
  | _ => none }
def ReplicasRefuseWrongFalsely : Prop := replicasRefuseRow.holds Try.pinned (OpenSpec.ofChange replicasRefuseWrong)

/-- 'archipelagolaw19.ReplicasCopy': WHATEVER THE INPUT: true; the input reads as it did. -/
def replicasCopySpec : ChangeSpec := { name := "replicasCopy", fn := fun _ => fun
  | [d1, d2, d3] => { results := [.lit (.bool true)], args := [d1, d2, d3] }
  | _ => none }
def replicasCopyRow : OpenClaim := { program := "ytdphfhenjndkkaa", sum := "3f08bced4799a879d8099463b621a102d4d81d90d87e22700500188eef244d50", func := "archipelago/archipelagolaw19.ReplicasCopy", spec := "replicasCopy", unfollowed := true, recurses := true, apart := false }
def ReplicasCopySaid : Prop := replicasCopyRow.holds Try.pinned (OpenSpec.ofChange replicasCopySpec)

/-- ITS FALSE NEIGHBOUR: 'it returns false'. Refute it at one input. -/
def replicasCopyWrong : ChangeSpec := { name := "replicasCopy", fn := fun _ => fun
  | [d1, d2, d3] => { results := [.lit (.bool false)], args := [d1, d2, d3] }
  | _ => none }
def ReplicasCopyWrongFalsely : Prop := replicasCopyRow.holds Try.pinned (OpenSpec.ofChange replicasCopyWrong)

/-- 'archipelagolaw20.OwnersFreeze': WHATEVER THE INPUT: true; the input reads as it did. -/
def ownersFreezeSpec : ChangeSpec := { name := "ownersFreeze", fn := fun _ => fun
  | [d1, d2, d3] => { results := [.lit (.bool true)], args := [d1, d2, d3] }
  | _ => none }
def ownersFreezeRow : OpenClaim := { program := "ytdphfhenjndkkaa", sum := "3f08bced4799a879d8099463b621a102d4d81d90d87e22700500188eef244d50", func := "archipelago/archipelagolaw20.OwnersFreeze", spec := "ownersFreeze", unfollowed := true, recurses := true, apart := false }
def OwnersFreezeSaid : Prop := ownersFreezeRow.holds Try.pinned (OpenSpec.ofChange ownersFreezeSpec)

/-- ITS FALSE NEIGHBOUR: 'it returns false'. Refute it at one input. -/
def ownersFreezeWrong : ChangeSpec := { name := "ownersFreeze", fn := fun _ => fun
  | [d1, d2, d3] => { results := [.lit (.bool false)], args := [d1, d2, d3] }
  | _ => none }
def OwnersFreezeWrongFalsely : Prop := ownersFreezeRow.holds Try.pinned (OpenSpec.ofChange ownersFreezeWrong)

/-- 'archipelagolaw20.OwnersOrder': WHATEVER THE INPUT: true; the input reads as it did. -/
def ownersOrderSpec : ChangeSpec := { name := "ownersOrder", fn := fun _ => fun
  | [d1, d2, d3] => { results := [.lit (.bool true)], args := [d1, d2, d3] }
  | _ => none }
def ownersOrderRow : OpenClaim := { program := "ytdphfhenjndkkaa", sum := "3f08bced4799a879d8099463b621a102d4d81d90d87e22700500188eef244d50", func := "archipelago/archipelagolaw20.OwnersOrder", spec := "ownersOrder", unfollowed := true, recurses := true, apart := false }
def OwnersOrderSaid : Prop := ownersOrderRow.holds Try.pinned (OpenSpec.ofChange ownersOrderSpec)

/-- ITS FALSE NEIGHBOUR: 'it returns false'. Refute it at one input. -/
def ownersOrderWrong : ChangeSpec := { name := "ownersOrder", fn := fun _ => fun
  | [d1, d2, d3] => { results := [.lit (.bool false)], args := [d1, d2, d3] }
  | _ => none }
def OwnersOrderWrongFalsely : Prop := ownersOrderRow.holds Try.pinned (OpenSpec.ofChange ownersOrderWrong)

/-- 'archipelagolaw20.OwnersMail': WHATEVER THE INPUT: true; the input reads as it did. -/
def ownersMailSpec : ChangeSpec := { name := "ownersMail", fn := fun _ => fun
  | [d1, d2, d3] => { results := [.lit (.bool true)], args := [d1, d2, d3] }
  | _ => none }
def ownersMailRow : OpenClaim := { program := "ytdphfhenjndkkaa", sum := "3f08bced4799a879d8099463b621a102d4d81d90d87e22700500188eef244d50", func := "archipelago/archipelagolaw20.OwnersMail", spec := "ownersMail", unfollowed := true, recurses := true, apart := false }
def OwnersMailSaid : Prop := ownersMailRow.holds Try.pinned (OpenSpec.ofChange ownersMailSpec)

/-- ITS FALSE NEIGHBOUR: 'it returns false'. Refute it at one input. -/
def ownersMailWrong : ChangeSpec := { name := "ownersMail", fn := fun _ => fun
  | [d1, d2, d3] => { results := [.lit (.bool false)], args := [d1, d2, d3] }
  | _ => none }
def OwnersMailWrongFalsely : Prop := ownersMailRow.holds Try.pinned (OpenSpec.ofChange ownersMailWrong)

/- THE SECOND FORM. 'bulk': how many values and letters a reading holds, each counted each time it is reached (what is shared counts as often as it is met; a slice's spare places count too). A statement '..UptoSaid' is the law's where the arguments, and the package variables that the reading takes, are together of bulk at most 1048576: NARROWER than '..Said'. Prove '..Said' where nothing that the law and all that it calls make is longer than what came in: it says more and counts as full. Else prove '..UptoSaid'. A law counts once. -/
mutual
def uptoBulk {H : Type} : DataW H → Nat
  | .lit (.string bytes) => bytes.length + 1
  | .lit _ => 1
  | .nil => 1
  | .ptr d => uptoBulk d + 1
  | .slice elems spare => uptoBulkAll elems + uptoBulkAll spare + 1
  | .agg parts => uptoBulkAll parts + 1
  | .iface _ d => uptoBulk d + 1
  | .map entries => uptoBulkEntries entries + 1
  | .held _ => 1
def uptoBulkAll {H : Type} : List (DataW H) → Nat
  | [] => 0
  | d :: r => uptoBulk d + uptoBulkAll r
def uptoBulkEntries {H : Type} : List (Lit × DataW H) → Nat
  | [] => 0
  | x :: r => uptoBulkEntry x + uptoBulkEntries r
def uptoBulkEntry {H : Type} : Lit × DataW H → Nat
  | (.string bytes, d) => bytes.length + uptoBulk d + 1
  | (_, d) => uptoBulk d + 1
 end
def uptoSmall : (H : Type) → List (DataW H) → Bool := fun _ ds => decide (uptoBulkAll ds ≤ 1048576)
def OpenSpec.upto (s : _root_.Go.ChangeSpec) : _root_.Go.OpenSpec := { _root_.Go.OpenSpec.ofChange s with cond := some uptoSmall }

/-- 'archipelagolaw19.ReplicasTake', WHERE WHAT IT READS IS OF BULK AT MOST 1048576: true; the input reads as it did. -/
def replicasTakeUptoRow : OpenClaim := { program := "ytdphfhenjndkkaa", sum := "3f08bced4799a879d8099463b621a102d4d81d90d87e22700500188eef244d50", func := "archipelago/archipelagolaw19.ReplicasTake", spec := "replicasTake", unfollowed := true, recurses := true, apart := false, narrowed := true }
def ReplicasTakeUptoSaid : Prop := replicasTakeUptoRow.holds Try.pinned (OpenSpec.upto replicasTakeSpec)

/-- 'archipelagolaw19.ReplicasTwice', WHERE WHAT IT READS IS OF BULK AT MOST 1048576: true; the input reads as it did. -/
def replicasTwiceUptoRow : OpenClaim := { program := "ytdphfhenjndkkaa", sum := "3f08bced4799a879d8099463b621a102d4d81d90d87e22700500188eef244d50", func := "archipelago/archipelagolaw19.ReplicasTwice", spec := "replicasTwice", unfollowed := true, recurses := true, apart := false, narrowed := true }
def ReplicasTwiceUptoSaid : Prop := replicasTwiceUptoRow.holds Try.pinned (OpenSpec.upto replicasTwiceSpec)

/-- 'archipelagolaw19.ReplicasRefuse', WHERE WHAT IT READS IS OF BULK AT MOST 1048576: true; the input reads as it did. -/
def replicasRefuseUptoRow : OpenClaim := { program := "ytdphfhenjndkkaa", sum := "3f08bced4799a879d8099463b621a102d4d81d90d87e22700500188eef244d50", func := "archipelago/archipelagolaw19.ReplicasRefuse", spec := "replicasRefuse", unfollowed := true, recurses := true, apart := false, narrowed := true }
def ReplicasRefuseUptoSaid : Prop := replicasRefuseUptoRow.holds Try.pinned (OpenSpec.upto replicasRefuseSpec)

/-- 'archipelagolaw19.ReplicasCopy', WHERE WHAT IT READS IS OF BULK AT MOST 1048576: true; the input reads as it did. -/
def replicasCopyUptoRow : OpenClaim := { program := "ytdphfhenjndkkaa", sum := "3f08bced4799a879d8099463b621a102d4d81d90d87e22700500188eef244d50", func := "archipelago/archipelagolaw19.ReplicasCopy", spec := "replicasCopy", unfollowed := true, recurses := true, apart := false, narrowed := true }
def ReplicasCopyUptoSaid : Prop := replicasCopyUptoRow.holds Try.pinned (OpenSpec.upto replicasCopySpec)

/-- 'archipelagolaw20.OwnersFreeze', WHERE WHAT IT READS IS OF BULK AT MOST 1048576: true; the input reads as it did. -/
def ownersFreezeUptoRow : OpenClaim := { program := "ytdphfhenjndkkaa", sum := "3f08bced4799a879d8099463b621a102d4d81d90d87e22700500188eef244d50", func := "archipelago/archipelagolaw20.OwnersFreeze", spec := "ownersFreeze", unfollowed := true, recurses := true, apart := false, narrowed := true }
def OwnersFreezeUptoSaid : Prop := ownersFreezeUptoRow.holds Try.pinned (OpenSpec.upto ownersFreezeSpec)

/-- 'archipelagolaw20.OwnersOrder', WHERE WHAT IT READS IS OF BULK AT MOST 1048576: true; the input reads as it did. -/
def ownersOrderUptoRow : OpenClaim := { program := "ytdphfhenjndkkaa", sum := "3f08bced4799a879d8099463b621a102d4d81d90d87e22700500188eef244d50", func := "archipelago/archipelagolaw20.OwnersOrder", spec := "ownersOrder", unfollowed := true, recurses := true, apart := false, narrowed := true }
def OwnersOrderUptoSaid : Prop := ownersOrderUptoRow.holds Try.pinned (OpenSpec.upto ownersOrderSpec)

/-- 'archipelagolaw20.OwnersMail', WHERE WHAT IT READS IS OF BULK AT MOST 1048576: true; the input reads as it did. -/
def ownersMailUptoRow : OpenClaim := { program := "ytdphfhenjndkkaa", sum := "3f08bced4799a879d8099463b621a102d4d81d90d87e22700500188eef244d50", func := "archipelago/archipelagolaw20.OwnersMail", spec := "ownersMail", unfollowed := true, recurses := true, apart := false, narrowed := true }
def OwnersMailUptoSaid : Prop := ownersMailUptoRow.holds Try.pinned (OpenSpec.upto ownersMailSpec)

end Rows
end Go.Proofs.Ytdphfhenjndkkaa
