/-
  The walk over the chapter's purse.
-/
import Derived.Test.YtlineikeafepcaaMdlAllows
import Derived.Test.YtlineikeafepcaaMdlSame
set_option linter.unusedSimpArgs false
set_option linter.unusedVariables false
set_option maxRecDepth 100000
namespace Go.Proofs.Ytlineikeafepcaa
open Go Go.RowKit Go.Sq Go.Wd Go.Arch

theorem new_any (w : World) : Calls Try.prog 15 #[] w fun e w' => e = .returned (.pointer (some ⟨w.heap.size, 0, none⟩)) ∧ w' = w.alloc (.cells #[.bool true, .slice none 0 0, .slice none 0 0, .slice none 0 0, .slice none 0 0] 52) := by
  go_enter Try.func15, Try.ntmps15
  go_wp2_with fail
  go_ret
  exact ⟨rfl, rfl⟩
def noLogs : Logs := fun _ => []
def noSl : Nat → SlcE := fun _ => (none, 0, 0)
theorem mdl_new (w : World) : MdlAt (w.alloc (.cells #[.bool true, .slice none 0 0, .slice none 0 0, .slice none 0 0, .slice none 0 0] 52)) w.heap.size noSl noLogs :=
  ⟨Blk.new w 52 [.bool true, .slice none 0 0, .slice none 0 0, .slice none 0 0, .slice none 0 0], fun i _ => World.ownsRow_nil _ _ _ _⟩
/-- Do, with what it comes to told. -/
theorem do_val {M : Logs} {o : Ord} {p : OutS} {er : Int} (hv : (doM M o).2 = (p, er)) (g : Nat) (ss : Nat → SlcE) (w : World) (H : MdlAt w g ss M) (HF : FineM M) :
    Calls Try.prog 16 #[.pointer (some ⟨g, 0, none⟩), .agg (ordv o).toArray] w fun e w' => ∃ ss' sl, e = .returned (.tuple #[.agg (outv p sl).toArray, .int .i64 er]) ∧ MdlAt w' g ss' (doM M o).1 ∧ EvAt w' w.heap.size none sl p.2.2 ∧ w.grownBy w' (some g) := by
  refine (do_any M o g ss w H HF).mono ?_
  rintro e w' ⟨ss', sl, rfl, h1, h2, h3⟩
  rw [hv] at h2 ⊢
  exact ⟨ss', sl, rfl, h1, h2, h3⟩
theorem state_val {M : Logs} {s : Int} {p : St} {er : Int} (hv : stateM M s = (p, er)) (g : Nat) (ss : Nat → SlcE) (w : World) (H : MdlAt w g ss M) (HF : FineM M) :
    Calls Try.prog 19 #[.pointer (some ⟨g, 0, none⟩), .int .i64 s] w fun e w' => e = .returned (.tuple #[.agg (stv p).toArray, .int .i64 er]) ∧ Below w.heap.size w w' := by
  have h := state_any M s g ss w H HF
  rw [hv] at h
  exact h
theorem allows_val {M : Logs} {s : Int} {a : Ans} {b : Bool} (hv : allowsM M s a = b) (g : Nat) (ss : Nat → SlcE) (w : World) (H : MdlAt w g ss M) (HF : FineM M) :
    Calls Try.prog 24 #[.pointer (some ⟨g, 0, none⟩), .int .i64 s, .agg (ansv a).toArray] w fun e w' => e = .returned (.bool b) ∧ Below w.heap.size w w' := by
  have h := allows_any M s a g ss w H HF
  rw [hv] at h
  exact h

/-- A model, and blocks beside it. -/
def LvI (B : Nat) (w0 w : World) (g : Nat) (ss : Nat → SlcE) (M : Logs) (L : List (Nat × TypeId × List Value)) : Prop :=
  Below B w0 w ∧ B ≤ g ∧ B ≤ w.heap.size ∧ MdlAt w g ss M ∧ ∀ q ∈ L, Blk w q.1 q.2.1 q.2.2 ∧ g ≠ q.1
section
variable {B : Nat} {w0 w w1 : World} {g : Nat} {ss ss' : Nat → SlcE} {M M' : Logs} {L : List (Nat × TypeId × List Value)}
theorem LvI.step (h : LvI B w0 w g ss M L) (hg : w.grownBy w1 (some g)) (hm : MdlAt w1 g ss' M') : LvI B w0 w1 g ss' M' L :=
  ⟨h.1.trans (below_grown hg h.2.1 h.2.2.1), h.2.1, Nat.le_trans h.2.2.1 hg.size, hm, fun q hq => ⟨(h.2.2.2.2 q hq).1.grown hg (fun e => (h.2.2.2.2 q hq).2 (Option.some.inj e).symm), (h.2.2.2.2 q hq).2⟩⟩
theorem LvI.keep (h : LvI B w0 w g ss M L) (hb : Below w.heap.size w w1) : LvI B w0 w1 g ss M L :=
  h.step (only_of_below hb _) (h.2.2.2.1.keep hb)
theorem LvI.add (h : LvI B w0 w g ss M L) {o : Obj} {T : TypeId} {cs : List Value} (hg : (w.alloc o).grownBy w1 (some w.heap.size)) (hq : Blk w1 w.heap.size T cs) : LvI B w0 w1 g ss M ((w.heap.size, T, cs) :: L) := by
  have k := h.keep (below_new hg)
  refine ⟨k.1, k.2.1, k.2.2.1, k.2.2.2.1, fun q hq' => ?_⟩
  rcases List.mem_cons.1 hq' with rfl | hq'
  · exact ⟨hq, fun e => by have := h.2.2.2.1.lt; simp at e; omega⟩
  · exact k.2.2.2.2 q hq'
theorem LvI.blk (h : LvI B w0 w g ss M L) (k : Nat) {q : Nat × TypeId × List Value} (hq : L[k]? = some q) : Blk w q.1 q.2.1 q.2.2 := (h.2.2.2.2 q (List.mem_of_getElem? hq)).1
end

def lo1 : Ord := ⟨1, 0, -1, 1, 2⟩
def lo2 : Ord := ⟨2, 0, -1, 3, 5⟩
def lo3 : Ord := ⟨3, 0, -1, 2, 7⟩
def lo4 : Ord := ⟨4, 0, 1, 3, 5⟩
def lM1 : Logs := (doM noLogs lo1).1
def lM2 : Logs := (doM lM1 lo2).1
def lM3 : Logs := (doM lM2 lo3).1
def lM4 : Logs := (doM lM3 lo4).1
def lM5 : Logs := (doM lM4 lo2).1
theorem fn0 : FineM noLogs := fine_nil
theorem fn1 : FineM lM1 := fine_do fn0 lo1
theorem fn2 : FineM lM2 := fine_do fn1 lo2
theorem fn3 : FineM lM3 := fine_do fn2 lo3
theorem fn4 : FineM lM4 := fine_do fn3 lo4
theorem fn5 : FineM lM5 := fine_do fn4 lo2
theorem lv1 : (doM noLogs lo1).2 = ((1, 1, [(1, 2)]), 0) := by rfl
theorem lv2 : (doM lM1 lo2).2 = ((3, 1, []), 0) := by rfl
theorem lv3 : (doM lM2 lo3).2 = ((1, 2, [(2, 7)]), 0) := by rfl
theorem lv4 : (doM lM3 lo4).2 = ((2, 2, []), 0) := by rfl
theorem lv5 : (doM lM4 lo2).2 = ((3, 1, []), 0) := by rfl
theorem lv6 : stateM lM5 0 = (⟨2, false, 7, 2⟩, 0) := by rfl
theorem lv7 : allowsM lM5 0 (3, 1, 2) = true := by rfl
theorem lv8 : allowsM lM5 0 (9, 1, 1) = false := by rfl
theorem lv9 : allowsM lM5 0 (9, 6, 0) = true := by rfl
theorem eql_st (w : World) (s : St) : (binOp .eql 40 (.agg (stv s).toArray) (.agg (stv s).toArray)).run Try.prog w = .ok (.bool true) w := by
  have g0 := Try.underlying40
  simp [stv, go_sem]
end Go.Proofs.Ytlineikeafepcaa
