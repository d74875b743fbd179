/-
  No cell of these rows narrows 'for every input' (looked for: loops, veiled, ifaces, maps, wideKeys, modest, calm, conditions, laid).
  DERIVED. THE GIVEN ROWS OF THIS SEAT. 10 by the template 'for every input the law returns true; each argument reads behind the call as it read before'; 0 by the template 'total and deterministic' (their statements: YtigkfekidmjpbaaTotals.lean).
  GIVEN WITH THE SEED: the statements are not yours to turn. If you find one false, say at which input.
  Laid BY PROGRAM, IN A SANDBOX (cutbox-rows.mjs): the forced cells as the released guide's own fill.sh prints them over the translation c46a9ba43009ad2a… (all of the seat's roots in one cut). By AI agents, Wed Nov 11 2026. No macro, syntax, notation, axiom, sorry.
-/
import Derived.Test.YtigkfekidmjpbaaChecked
import GoSem.Claim
import GoSem.ClaimJoined
import GoSem.ClaimMapViews
import Derived.JoinedTies
import Derived.KernelRfl
namespace Go.Proofs.Ytigkfekidmjpbaa
/- THE CELL 'sum', in the pinned program and in every row, IS THE sha256 OF THE DUMP (.gsa) THAT YtigkfekidmjpbaaProg.lean LOADS. Nothing in Lean hashes anything: it is a label: what it is worth is what the hold of that sum in a sandbox is worth. -/
noncomputable def Try.pinned : Pinned := { name := "ytigkfekidmjpbaa", sum := "c46a9ba43009ad2a2dee07979f0bebba8596f70eb61c751e1de67f1ad6e88973", checked := Try.checked }
namespace Rows
def none {H : Type} : Left H := { results := [], args := [] }

/-- 'archipelagolaw17.LeasesGrace': WHATEVER THE INPUT: true; the input reads as it did. -/
def leasesGraceSpec : ChangeSpec := { name := "leasesGrace", fn := fun _ => fun
  | [d1, d2] => { results := [.lit (.bool true)], args := [d1, d2] }
  | _ => none }
def leasesGraceRow : OpenClaim := { program := "ytigkfekidmjpbaa", sum := "c46a9ba43009ad2a2dee07979f0bebba8596f70eb61c751e1de67f1ad6e88973", func := "archipelago/archipelagolaw17.LeasesGrace", spec := "leasesGrace", apart := false }
def LeasesGraceSaid : Prop := leasesGraceRow.holds Try.pinned (OpenSpec.ofChange leasesGraceSpec)

/-- ITS FALSE NEIGHBOUR: 'it returns false'. Refute it at one input. -/
def leasesGraceWrong : ChangeSpec := { name := "leasesGrace", fn := fun _ => fun
  | [d1, d2] => { results := [.lit (.bool false)], args := [d1, d2] }
  | _ => none }
def LeasesGraceWrongFalsely : Prop := leasesGraceRow.holds Try.pinned (OpenSpec.ofChange leasesGraceWrong)

/-- 'archipelagolaw17.LeasesPlay': WHATEVER THE INPUT: true; the input reads as it did. -/
def leasesPlaySpec : ChangeSpec := { name := "leasesPlay", fn := fun _ => fun
  | [d1, d2, d3] => { results := [.lit (.bool true)], args := [d1, d2, d3] }
  | _ => none }
def leasesPlayRow : OpenClaim := { program := "ytigkfekidmjpbaa", sum := "c46a9ba43009ad2a2dee07979f0bebba8596f70eb61c751e1de67f1ad6e88973", func := "archipelago/archipelagolaw17.LeasesPlay", spec := "leasesPlay", apart := false }
def LeasesPlaySaid : Prop := leasesPlayRow.holds Try.pinned (OpenSpec.ofChange leasesPlaySpec)

/-- ITS FALSE NEIGHBOUR: 'it returns false'. Refute it at one input. -/
def leasesPlayWrong : ChangeSpec := { name := "leasesPlay", fn := fun _ => fun
  | [d1, d2, d3] => { results := [.lit (.bool false)], args := [d1, d2, d3] }
  | _ => none }
def LeasesPlayWrongFalsely : Prop := leasesPlayRow.holds Try.pinned (OpenSpec.ofChange leasesPlayWrong)

/-- 'archipelagolaw17.LeasesNone': WHATEVER THE INPUT: true; the input reads as it did. -/
def leasesNoneSpec : ChangeSpec := { name := "leasesNone", fn := fun _ => fun
  | [d1, d2, d3] => { results := [.lit (.bool true)], args := [d1, d2, d3] }
  | _ => none }
def leasesNoneRow : OpenClaim := { program := "ytigkfekidmjpbaa", sum := "c46a9ba43009ad2a2dee07979f0bebba8596f70eb61c751e1de67f1ad6e88973", func := "archipelago/archipelagolaw17.LeasesNone", spec := "leasesNone", apart := false }
def LeasesNoneSaid : Prop := leasesNoneRow.holds Try.pinned (OpenSpec.ofChange leasesNoneSpec)

/-- ITS FALSE NEIGHBOUR: 'it returns false'. Refute it at one input. -/
def leasesNoneWrong : ChangeSpec := { name := "leasesNone", fn := fun _ => fun
  | [d1, d2, d3] => { results := [.lit (.bool false)], args := [d1, d2, d3] }
  | _ => none }
def LeasesNoneWrongFalsely : Prop := leasesNoneRow.holds Try.pinned (OpenSpec.ofChange leasesNoneWrong)

/-- 'archipelagolaw17.LeasesApart': WHATEVER THE INPUT: true; the input reads as it did. -/
def leasesApartSpec : ChangeSpec := { name := "leasesApart", fn := fun _ => fun
  | [d1, d2, d3] => { results := [.lit (.bool true)], args := [d1, d2, d3] }
  | _ => none }
def leasesApartRow : OpenClaim := { program := "ytigkfekidmjpbaa", sum := "c46a9ba43009ad2a2dee07979f0bebba8596f70eb61c751e1de67f1ad6e88973", func := "archipelago/archipelagolaw17.LeasesApart", spec := "leasesApart", apart := false }
def LeasesApartSaid : Prop := leasesApartRow.holds Try.pinned (OpenSpec.ofChange leasesApartSpec)

/-- ITS FALSE NEIGHBOUR: 'it returns false'. Refute it at one input. -/
def leasesApartWrong : ChangeSpec := { name := "leasesApart", fn := fun _ => fun
  | [d1, d2, d3] => { results := [.lit (.bool false)], args := [d1, d2, d3] }
  | _ => none }
def LeasesApartWrongFalsely : Prop := leasesApartRow.holds Try.pinned (OpenSpec.ofChange leasesApartWrong)

/-- 'archipelagolaw12.DeedsDecide': WHATEVER THE INPUT: true; the input reads as it did. -/
def deedsDecideSpec : ChangeSpec := { name := "deedsDecide", fn := fun _ => fun
  | [d1, d2] => { results := [.lit (.bool true)], args := [d1, d2] }
  | _ => none }
def deedsDecideRow : OpenClaim := { program := "ytigkfekidmjpbaa", sum := "c46a9ba43009ad2a2dee07979f0bebba8596f70eb61c751e1de67f1ad6e88973", func := "archipelago/archipelagolaw12.DeedsDecide", spec := "deedsDecide", unfollowed := true, recurses := true, apart := false }
def DeedsDecideSaid : Prop := deedsDecideRow.holds Try.pinned (OpenSpec.ofChange deedsDecideSpec)

/-- ITS FALSE NEIGHBOUR: 'it returns false'. Refute it at one input. -/
def deedsDecideWrong : ChangeSpec := { name := "deedsDecide", fn := fun _ => fun
  | [d1, d2] => { results := [.lit (.bool false)], args := [d1, d2] }
  | _ => none }
def DeedsDecideWrongFalsely : Prop := deedsDecideRow.holds Try.pinned (OpenSpec.ofChange deedsDecideWrong)

/-- 'archipelagolaw12.DeedsApply': WHATEVER THE INPUT: true; the input reads as it did. -/
def deedsApplySpec : ChangeSpec := { name := "deedsApply", fn := fun _ => fun
  | [d1, d2] => { results := [.lit (.bool true)], args := [d1, d2] }
  | _ => none }
def deedsApplyRow : OpenClaim := { program := "ytigkfekidmjpbaa", sum := "c46a9ba43009ad2a2dee07979f0bebba8596f70eb61c751e1de67f1ad6e88973", func := "archipelago/archipelagolaw12.DeedsApply", spec := "deedsApply", unfollowed := true, recurses := true, apart := false }
def DeedsApplySaid : Prop := deedsApplyRow.holds Try.pinned (OpenSpec.ofChange deedsApplySpec)

/-- ITS FALSE NEIGHBOUR: 'it returns false'. Refute it at one input. -/
def deedsApplyWrong : ChangeSpec := { name := "deedsApply", fn := fun _ => fun
  | [d1, d2] => { results := [.lit (.bool false)], args := [d1, d2] }
  | _ => none }
def DeedsApplyWrongFalsely : Prop := deedsApplyRow.holds Try.pinned (OpenSpec.ofChange deedsApplyWrong)

/-- 'archipelagolaw12.DeedsLead': WHATEVER THE INPUT: true; the input reads as it did. -/
def deedsLeadSpec : ChangeSpec := { name := "deedsLead", fn := fun _ => fun
  | [d1, d2] => { results := [.lit (.bool true)], args := [d1, d2] }
  | _ => none }
def deedsLeadRow : OpenClaim := { program := "ytigkfekidmjpbaa", sum := "c46a9ba43009ad2a2dee07979f0bebba8596f70eb61c751e1de67f1ad6e88973", func := "archipelago/archipelagolaw12.DeedsLead", spec := "deedsLead", unfollowed := true, recurses := true, apart := false }
def DeedsLeadSaid : Prop := deedsLeadRow.holds Try.pinned (OpenSpec.ofChange deedsLeadSpec)

/-- ITS FALSE NEIGHBOUR: 'it returns false'. Refute it at one input. -/
def deedsLeadWrong : ChangeSpec := { name := "deedsLead", fn := fun _ => fun
  | [d1, d2] => { results := [.lit (.bool false)], args := [d1, d2] }
  | _ => none }
def DeedsLeadWrongFalsely : Prop := deedsLeadRow.holds Try.pinned (OpenSpec.ofChange deedsLeadWrong)

/-- 'archipelagolaw12.DeedsStay': WHATEVER THE INPUT: true; the input reads as it did. -/
def deedsStaySpec : ChangeSpec := { name := "deedsStay", fn := fun _ => fun
  | [d1, d2] => { results := [.lit (.bool true)], args := [d1, d2] }
  | _ => none }
def deedsStayRow : OpenClaim := { program := "ytigkfekidmjpbaa", sum := "c46a9ba43009ad2a2dee07979f0bebba8596f70eb61c751e1de67f1ad6e88973", func := "archipelago/archipelagolaw12.DeedsStay", spec := "deedsStay", unfollowed := true, recurses := true, apart := false }
def DeedsStaySaid : Prop := deedsStayRow.holds Try.pinned (OpenSpec.ofChange deedsStaySpec)

/-- ITS FALSE NEIGHBOUR: 'it returns false'. Refute it at one input. -/
def deedsStayWrong : ChangeSpec := { name := "deedsStay", fn := fun _ => fun
  | [d1, d2] => { results := [.lit (.bool false)], args := [d1, d2] }
  | _ => none }
def DeedsStayWrongFalsely : Prop := deedsStayRow.holds Try.pinned (OpenSpec.ofChange deedsStayWrong)

/-- 'archipelagolaw12.DeedsExpect': WHATEVER THE INPUT: true; the input reads as it did. -/
def deedsExpectSpec : ChangeSpec := { name := "deedsExpect", fn := fun _ => fun
  | [d1, d2, d3] => { results := [.lit (.bool true)], args := [d1, d2, d3] }
  | _ => none }
def deedsExpectRow : OpenClaim := { program := "ytigkfekidmjpbaa", sum := "c46a9ba43009ad2a2dee07979f0bebba8596f70eb61c751e1de67f1ad6e88973", func := "archipelago/archipelagolaw12.DeedsExpect", spec := "deedsExpect", unfollowed := true, recurses := true, apart := false }
def DeedsExpectSaid : Prop := deedsExpectRow.holds Try.pinned (OpenSpec.ofChange deedsExpectSpec)

/-- ITS FALSE NEIGHBOUR: 'it returns false'. Refute it at one input. -/
def deedsExpectWrong : ChangeSpec := { name := "deedsExpect", fn := fun _ => fun
  | [d1, d2, d3] => { results := [.lit (.bool false)], args := [d1, d2, d3] }
  | _ => none }
def DeedsExpectWrongFalsely : Prop := deedsExpectRow.holds Try.pinned (OpenSpec.ofChange deedsExpectWrong)

/-- 'archipelagolaw12.DeedsEither': WHATEVER THE INPUT: true; the input reads as it did. -/
def deedsEitherSpec : ChangeSpec := { name := "deedsEither", fn := fun _ => fun
  | [d1, d2] => { results := [.lit (.bool true)], args := [d1, d2] }
  | _ => none }
def deedsEitherRow : OpenClaim := { program := "ytigkfekidmjpbaa", sum := "c46a9ba43009ad2a2dee07979f0bebba8596f70eb61c751e1de67f1ad6e88973", func := "archipelago/archipelagolaw12.DeedsEither", spec := "deedsEither", unfollowed := true, recurses := true, apart := false }
def DeedsEitherSaid : Prop := deedsEitherRow.holds Try.pinned (OpenSpec.ofChange deedsEitherSpec)

/-- ITS FALSE NEIGHBOUR: 'it returns false'. Refute it at one input. -/
def deedsEitherWrong : ChangeSpec := { name := "deedsEither", fn := fun _ => fun
  | [d1, d2] => { results := [.lit (.bool false)], args := [d1, d2] }
  | _ => none }
def DeedsEitherWrongFalsely : Prop := deedsEitherRow.holds Try.pinned (OpenSpec.ofChange deedsEitherWrong)

/- THE SECOND FORM. 'bulk': how many values and letters a reading holds, each counted each time it is reached (what is shared counts as often as it is met; a slice's spare places count too). A statement '..UptoSaid' is the law's where the arguments, and the package variables that the reading takes, are together of bulk at most 1048576: NARROWER than '..Said'. Prove '..Said' where nothing that the law and all that it calls make is longer than what came in: it says more and counts as full. Else prove '..UptoSaid'. A law counts once. -/
mutual
def uptoBulk {H : Type} : DataW H → Nat
  | .lit (.string bytes) => bytes.length + 1
  | .lit _ => 1
  | .nil => 1
  | .ptr d => uptoBulk d + 1
  | .slice elems spare => uptoBulkAll elems + uptoBulkAll spare + 1
  | .agg parts => uptoBulkAll parts + 1
  | .iface _ d => uptoBulk d + 1
  | .map entries => uptoBulkEntries entries + 1
  | .held _ => 1
def uptoBulkAll {H : Type} : List (DataW H) → Nat
  | [] => 0
  | d :: r => uptoBulk d + uptoBulkAll r
def uptoBulkEntries {H : Type} : List (Lit × DataW H) → Nat
  | [] => 0
  | x :: r => uptoBulkEntry x + uptoBulkEntries r
def uptoBulkEntry {H : Type} : Lit × DataW H → Nat
  | (.string bytes, d) => bytes.length + uptoBulk d + 1
  | (_, d) => uptoBulk d + 1
 end
def uptoSmall : (H : Type) → List (DataW H) → Bool := fun _ ds => decide (uptoBulkAll ds ≤ 1048576)
def OpenSpec.upto (s : _root_.Go.ChangeSpec) : _root_.Go.OpenSpec := { _root_.Go.OpenSpec.ofChange s with cond := some uptoSmall }

/-- 'archipelagolaw17.LeasesGrace', WHERE WHAT IT READS IS OF BULK AT MOST 1048576: true; the input reads as it did. -/
def leasesGraceUptoRow : OpenClaim := { program := "ytigkfekidmjpbaa", sum := "c46a9ba43009ad2a2dee07979f0bebba8596f70eb61c751e1de67f1ad6e88973", func := "archipelago/archipelagolaw17.LeasesGrace", spec := "leasesGrace", apart := false, narrowed := true }
def LeasesGraceUptoSaid : Prop := leasesGraceUptoRow.holds Try.pinned (OpenSpec.upto leasesGraceSpec)

/-- 'archipelagolaw17.LeasesPlay', WHERE WHAT IT READS IS OF BULK AT MOST 1048576: true; the input reads as it did. -/
def leasesPlayUptoRow : OpenClaim := { program := "ytigkfekidmjpbaa", sum := "c46a9ba43009ad2a2dee07979f0bebba8596f70eb61c751e1de67f1ad6e88973", func := "archipelago/archipelagolaw17.LeasesPlay", spec := "leasesPlay", apart := false, narrowed := true }
def LeasesPlayUptoSaid : Prop := leasesPlayUptoRow.holds Try.pinned (OpenSpec.upto leasesPlaySpec)

/-- 'archipelagolaw17.LeasesNone', WHERE WHAT IT READS IS OF BULK AT MOST 1048576: true; the input reads as it did. -/
def leasesNoneUptoRow : OpenClaim := { program := "ytigkfekidmjpbaa", sum := "c46a9ba43009ad2a2dee07979f0bebba8596f70eb61c751e1de67f1ad6e88973", func := "archipelago/archipelagolaw17.LeasesNone", spec := "leasesNone", apart := false, narrowed := true }
def LeasesNoneUptoSaid : Prop := leasesNoneUptoRow.holds Try.pinned (OpenSpec.upto leasesNoneSpec)

/-- 'archipelagolaw17.LeasesApart', WHERE WHAT IT READS IS OF BULK AT MOST 1048576: true; the input reads as it did. -/
def leasesApartUptoRow : OpenClaim := { program := "ytigkfekidmjpbaa", sum := "c46a9ba43009ad2a2dee07979f0bebba8596f70eb61c751e1de67f1ad6e88973", func := "archipelago/archipelagolaw17.LeasesApart", spec := "leasesApart", apart := false, narrowed := true }
def LeasesApartUptoSaid : Prop := leasesApartUptoRow.holds Try.pinned (OpenSpec.upto leasesApartSpec)

/-- 'archipelagolaw12.DeedsDecide', WHERE WHAT IT READS IS OF BULK AT MOST 1048576: true; the input reads as it did. -/
def deedsDecideUptoRow : OpenClaim := { program := "ytigkfekidmjpbaa", sum := "c46a9ba43009ad2a2dee07979f0bebba8596f70eb61c751e1de67f1ad6e88973", func := "archipelago/archipelagolaw12.DeedsDecide", spec := "deedsDecide", unfollowed := true, recurses := true, apart := false, narrowed := true }
def DeedsDecideUptoSaid : Prop := deedsDecideUptoRow.holds Try.pinned (OpenSpec.upto deedsDecideSpec)

/-- 'archipelagolaw12.DeedsApply', WHERE WHAT IT READS IS OF BULK AT MOST 1048576: true; the input reads as it did. -/
def deedsApplyUptoRow : OpenClaim := { program := "ytigkfekidmjpbaa", sum := "c46a9ba43009ad2a2dee07979f0bebba8596f70eb61c751e1de67f1ad6e88973", func := "archipelago/archipelagolaw12.DeedsApply", spec := "deedsApply", unfollowed := true, recurses := true, apart := false, narrowed := true }
def DeedsApplyUptoSaid : Prop := deedsApplyUptoRow.holds Try.pinned (OpenSpec.upto deedsApplySpec)

/-- 'archipelagolaw12.DeedsLead', WHERE WHAT IT READS IS OF BULK AT MOST 1048576: true; the input reads as it did. -/
def deedsLeadUptoRow : OpenClaim := { program := "ytigkfekidmjpbaa", sum := "c46a9ba43009ad2a2dee07979f0bebba8596f70eb61c751e1de67f1ad6e88973", func := "archipelago/archipelagolaw12.DeedsLead", spec := "deedsLead", unfollowed := true, recurses := true, apart := false, narrowed := true }
def DeedsLeadUptoSaid : Prop := deedsLeadUptoRow.holds Try.pinned (OpenSpec.upto deedsLeadSpec)

/-- 'archipelagolaw12.DeedsStay', WHERE WHAT IT READS IS OF BULK AT MOST 1048576: true; the input reads as it did. -/
def deedsStayUptoRow : OpenClaim := { program := "ytigkfekidmjpbaa", sum := "c46a9ba43009ad2a2dee07979f0bebba8596f70eb61c751e1de67f1ad6e88973", func := "archipelago/archipelagolaw12.DeedsStay", spec := "deedsStay", unfollowed := true, recurses := true, apart := false, narrowed := true }
def DeedsStayUptoSaid : Prop := deedsStayUptoRow.holds Try.pinned (OpenSpec.upto deedsStaySpec)

/-- 'archipelagolaw12.DeedsExpect', WHERE WHAT IT READS IS OF BULK AT MOST 1048576: true; the input reads as it did. -/
def deedsExpectUptoRow : OpenClaim := { program := "ytigkfekidmjpbaa", sum := "c46a9ba43009ad2a2dee07979f0bebba8596f70eb61c751e1de67f1ad6e88973", func := "archipelago/archipelagolaw12.DeedsExpect", spec := "deedsExpect", unfollowed := true, recurses := true, apart := false, narrowed := true }
def DeedsExpectUptoSaid : Prop := deedsExpectUptoRow.holds Try.pinned (OpenSpec.upto deedsExpectSpec)

/-- 'archipelagolaw12.DeedsEither', WHERE WHAT IT READS IS OF BULK AT MOST 1048576: true; the input reads as it did. -/
def deedsEitherUptoRow : OpenClaim := { program := "ytigkfekidmjpbaa", sum := "c46a9ba43009ad2a2dee07979f0bebba8596f70eb61c751e1de67f1ad6e88973", func := "archipelago/archipelagolaw12.DeedsEither", spec := "deedsEither", unfollowed := true, recurses := true, apart := false, narrowed := true }
def DeedsEitherUptoSaid : Prop := deedsEitherUptoRow.holds Try.pinned (OpenSpec.upto deedsEitherSpec)

end Rows
end Go.Proofs.Ytigkfekidmjpbaa
