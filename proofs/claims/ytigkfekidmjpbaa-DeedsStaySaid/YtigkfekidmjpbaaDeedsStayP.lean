/-
  The statement 'DeedsStaySaid': for every input the call returns true, and each argument reads afterwards as before.
  No condition of its own.
-/
import Derived.Test.YtigkfekidmjpbaaRows
import Derived.Test.YtigkfekidmjpbaaDeedsStayW
import Derived.ProofKit
import Derived.OpenShut
import Derived.ShutString
import Derived.ChangeOld
import Derived.Below
import Derived.Deep.Slices
import Derived.Deep.Fields
import Derived.ChangeSame
import Derived.Test.YtigkfekidmjpbaaOpen
set_option linter.unusedSimpArgs false
set_option linter.unusedVariables false
namespace Go.Proofs.Ytigkfekidmjpbaa.deedsStay
open Go.ChangeShapes Go.WideShapes Go.ChangeAt Go.RowKit Go.Deep Go.Sq Go.Arch
set_option linter.unusedVariables false

theorem own : ownKnob Try.prog.godebug = none := by kernel_rfl
theorem laidOut : laidOutB Try.prog = true := by kernel_rfl

theorem open_State {H : Type} {enc : TypeId × Value → H} {w : World} {base : Nat} {spare : Nat → Bool} {held : Bool} {r : Reach} {b0 : Nat} {v : Value} {d : DataW H} {p : List MemPlace}
    (hv : Value.okWide Try.prog w r b0 50 v) (h : DataW.Trod enc Try.prog w base spare held 50 v d p) :
    ∃ (x0 : Int) (x1 : Bool) (x2 : Int) (x3 : Int), v = .agg #[.int .i64 x0, .bool x1, .int .i64 x2, .int .i64 x3] ∧ (Lit.int .i64 x0).wf = true ∧ (Lit.int .i64 x2).wf = true ∧ (Lit.int .i64 x3).wf = true := by
  obtain ⟨l, m, rfl, hl, hf⟩ := open_fields Try.underlying50 (by kernel_rfl) (by kernel_rfl) hv h
  obtain ⟨c0, c1, c2, c3, rfl⟩ := len4 hl
  obtain ⟨_, y0, e0, hy0⟩ := hf 0 _ rfl
  obtain rfl := Option.some.inj e0
  obtain ⟨x0, _, e0', wf0⟩ := DataW.trod_int Try.underlying3 hy0
  obtain ⟨_, y1, e1, hy1⟩ := hf 1 _ rfl
  obtain rfl := Option.some.inj e1
  obtain ⟨x1, _, e1'⟩ := DataW.trod_bool Try.underlying4 hy1
  obtain ⟨_, y2, e2, hy2⟩ := hf 2 _ rfl
  obtain rfl := Option.some.inj e2
  obtain ⟨x2, _, e2', wf2⟩ := DataW.trod_int Try.underlying3 hy2
  obtain ⟨_, y3, e3, hy3⟩ := hf 3 _ rfl
  obtain rfl := Option.some.inj e3
  obtain ⟨x3, _, e3', wf3⟩ := DataW.trod_int Try.underlying3 hy3
  exact ⟨x0, x1, x2, x3, by simp_all, wf0, wf2, wf3⟩

theorem open_Evs {H : Type} {enc : TypeId × Value → H} {w : World} {base : Nat} {spare : Nat → Bool} {held : Bool} {r : Reach} {b0 : Nat} {v : Value} {d : DataW H} {p : List MemPlace}
    (hv : Value.okWide Try.prog w r b0 53 v) (h : DataW.Trod enc Try.prog w base spare held 53 v d p) :
    ∃ (n : Nat) (ev : Nat → Ev), EvRow w v n ev := by
  obtain ⟨a, len, cap, rfl, hl, hm, hf⟩ := open_rows Try.underlying53 Try.underlying59 (by kernel_rfl) (by kernel_rfl) (by decide) hv h
  rcases Nat.eq_zero_or_pos len with h0 | h0
  · subst h0
    exact ⟨0, fun _ => ⟨0, 0⟩, .inl ⟨a, cap, rfl, rfl⟩⟩
  · obtain ⟨b, off, rfl, hb, _⟩ := hf 0 h0
    have key : ∀ i, ∃ e : Ev, i < len → w.cell? ⟨b, off + i * 2, none⟩ = some (.int .i64 e.kind) ∧ w.cell? ⟨b, off + i * 2 + 1, none⟩ = some (.int .i64 e.arg) := fun i => by
      by_cases hi : i < len
      · obtain ⟨b', off', hab, _, n, hg⟩ := hf i hi
        simp at hab
        obtain ⟨rfl, rfl⟩ := hab
        obtain ⟨c0, y0, g0, k0⟩ := hg 0 _ rfl
        obtain ⟨c1, y1, g1, k1⟩ := hg 1 _ rfl
        obtain ⟨x0, e0, _, _⟩ := DataW.trod_int Try.underlying3 k0
        obtain ⟨x1, e1, _, _⟩ := DataW.trod_int Try.underlying3 k1
        simp at e0 e1
        subst e0 e1
        exact ⟨⟨x0, x1⟩, fun _ => ⟨g0, g1⟩⟩
      · exact ⟨⟨0, 0⟩, fun h => absurd h hi⟩
    obtain ⟨ev, hev⟩ := Classical.axiomOfChoice key
    exact ⟨len, ev, .inr ⟨b, off, cap, rfl, hl, hm, hb, hev⟩⟩

set_option maxRecDepth 100000 in
theorem lifted (os : Os) (started : os.Started) (H : Type) (enc : TypeId × Value → H) :
    ReturnsInHanded {} Try.checked os 10 .any (Rows.deedsStaySpec.pre6 enc Try.prog Try.f10 Rows.deedsStayRow.domain false) (Rows.deedsStaySpec.post enc Try.prog Try.f10 false true false false) := by
  refine returnsInHanded_of_change (C := Try.checked) own started (by kernel_rfl) Try.func10
    (ChangeSpec.witness6 (enc := enc) (C := Try.checked) false ⟨#[], #[.agg #[.int .i64 0, .bool false, .int .i64 0, .int .i64 0], .slice none 0 0], []⟩ 8 (by kernel_rfl) (by kernel_rfl) (by kernel_rfl) (by kernel_rfl)) ?_
  intro W base args ds gs before hval0 hW hcnd _
  have hval : ∀ (j : Nat) t v, Try.f10.params[j]? = some t → args[j]? = some v → Value.okWide Try.prog W .any base t v := hval0
  have hW' := hW
  obtain ⟨p, q, hA0, hV, rfl, hfz, hnd⟩ := hW
  have hA : DataW.TrodAll enc Try.prog W 0 (fun _ => true) true Try.f10.params.toList args.toList ds p := hA0
  rw [Try.params10] at hA hval
  obtain ⟨v0, vs0, d0, ds0, p0, q0, hargs, rfl, rfl, h0, r0⟩ := trodAll_cons hA
  obtain ⟨v1, vs1, d1, ds1, p1, q1, rfl, rfl, rfl, h1, r1⟩ := trodAll_cons r0
  obtain ⟨rfl, rfl, rfl⟩ := trodAll_nil r1
  obtain rfl : args = #[v0, v1] := by cases args; simp_all
  obtain ⟨rfl, rfl⟩ := trodVars_none hV
  have kk0 := h0
  have ltt0 : ∀ x ∈ p0, x.block < W.heap.size := by obtain ⟨m, hm⟩ := kk0; exact DataW.trod_lt m _ _ _ hm
  obtain ⟨t, c, s, v, rfl, wf_t, wf_s, wf_v⟩ := open_State (hval 0 50 v0 rfl rfl) h0
  have kk1 := h1
  have ltt1 : ∀ x ∈ p1, x.block < W.heap.size := by obtain ⟨m, hm⟩ := kk1; exact DataW.trod_lt m _ _ _ hm
  obtain ⟨n, ev, hev⟩ := open_Evs (hval 1 53 v1 rfl rfl) h1
  clear hA0 hval0
  refine (law_stay t s v c v1 n ev W hev).mono fun e W' ⟨he, bel⟩ => ?_
  subst he
  exact ⟨_, rfl, _, _, _, [], _, [], hW', trodAll_mk1 (shut_bool Try.underlying4 _), (trodAll_cons_mk (Below.trod laidOut (by kernel_rfl) (of_decide_eq_true (by kernel_rfl)) kk0 bel ltt0) (trodAll_cons_mk (Below.trod laidOut (by kernel_rfl) (of_decide_eq_true (by kernel_rfl)) kk1 bel ltt1) trodAll_mk0)), rfl, bel.frame _, fun h => by cases h⟩

theorem over : Rows.deedsStayRow.holds Try.pinned (OpenSpec.ofChange Rows.deedsStaySpec) :=
  OpenClaim.holds_of_wide 10 Try.f10 rfl rfl rfl rfl rfl rfl rfl ⟨rfl, rfl, rfl, rfl, rfl⟩ rfl rfl rfl rfl rfl (by kernel_rfl) Try.func10 (by kernel_rfl)
    (of_decide_eq_true (by kernel_rfl)) (by unfold Func.isWrapper; first | (rw [if_pos (by decide +kernel)]; kernel_rfl) | (rw [if_neg (by decide +kernel)]; exact ⟨rfl, rfl⟩))
    (fun os started H enc _ => lifted os started H enc)

/-- The statement. -/
theorem proved : Rows.DeedsStaySaid := over
#print axioms proved
end Go.Proofs.Ytigkfekidmjpbaa.deedsStay
