/-
  What a register is, and what becomes of it by a record, in plain Lean.
-/
import Derived.Test.YtbicefilfhcgoaaLogs
import Derived.Test.YtbicefilfhcgoaaDeedsSpec
set_option linter.unusedSimpArgs false
set_option linter.unusedVariables false
set_option maxRecDepth 100000
namespace Go.Proofs.Ytbicefilfhcgoaa
open Go Go.Arch

structure RegS where
  prom : Int
  view : Int
  log : List Ent
  com : Int
structure RecS where
  kind : Int
  stream : Int
  epoch : Int
  view : Int
  from_ : Int
  len : Int
  ents : List Ent
def ordE (e : Ent) : Ord := ⟨e.2.1, e.2.2.1, e.2.2.2.1, e.2.2.2.2.1, e.2.2.2.2.2⟩
def okEnt (v : Int) (e : Ent) : Bool := decide (1 ≤ e.1 ∧ e.1 ≤ v) && ordOk (ordE e)
def okLog (l : List Ent) (v : Int) : Bool := decide (l.length ≤ 64) && (l.all (okEnt v) && risesB l)
def mayR (r : RegS) : Bool := decide (0 ≤ r.view ∧ r.view ≤ r.prom ∧ r.prom ≤ 1048576) && (okLog r.log r.view && decide (0 ≤ r.com ∧ r.com ≤ r.log.length))
def fromR (r : RegS) (x : RecS) : Nat := if x.epoch = r.view then r.log.length else 0
def logR (r : RegS) (x : RecS) : List Ent := r.log.take (fromR r x) ++ x.ents
def viewR (r : RegS) (x : RecS) : Option RegS :=
  if (1 ≤ x.epoch ∧ r.prom ≤ x.epoch ∧ x.epoch ≤ 1048576 ∧ x.from_ = fromR r x) ∧ okLog (logR r x) x.epoch = true ∧ r.log.take r.com.toNat <+: logR r x then some ⟨x.epoch, x.epoch, logR r x, r.com⟩ else none
def applyR (r : RegS) (x : RecS) : Option RegS :=
  if mayR r = true then
    if x.kind = 1 then (if r.prom < x.epoch ∧ x.epoch ≤ 1048576 then some { r with prom := x.epoch } else none)
    else if x.kind = 2 then viewR r x
    else if x.kind = 3 then (if r.com < x.len ∧ x.len ≤ r.log.length then some { r with com := x.len } else none)
    else if x.kind = 4 then (if r.prom = 0 ∧ mayR ⟨x.epoch, x.view, x.ents, x.len⟩ = true then some ⟨x.epoch, x.view, x.ents, x.len⟩ else none)
    else none
  else none
def reg0 : RegS := ⟨0, 0, [], 0⟩
/-- What is told: a register, and whether. -/
def regR (o : Option RegS) : RegS × Bool := match o with | some r => (r, true) | none => (reg0, false)

theorem mayR_iff (r : RegS) : mayR r = true ↔ (0 ≤ r.view ∧ r.view ≤ r.prom ∧ r.prom ≤ 1048576) ∧ okLog r.log r.view = true ∧ 0 ≤ r.com ∧ r.com ≤ r.log.length := by
  unfold mayR; simp only [Bool.and_eq_true, decide_eq_true_eq]
theorem okLog_iff (l : List Ent) (v : Int) : okLog l v = true ↔ l.length ≤ 64 ∧ (∀ e ∈ l, okEnt v e = true) ∧ risesB l = true := by
  unfold okLog; simp only [Bool.and_eq_true, decide_eq_true_eq, List.all_eq_true]
theorem okLog_zero {l : List Ent} (h : okLog l 0 = true) : l = [] := by
  cases l with
  | nil => rfl
  | cons a l =>
    have h1 := ((okLog_iff _ _).1 h).2.1 a (by simp)
    unfold okEnt at h1
    simp only [Bool.and_eq_true, decide_eq_true_eq] at h1
    omega
theorem may_zero {r : RegS} (h : mayR r = true) (h0 : r.prom = 0) : r.view = 0 ∧ r.log = [] ∧ r.com = 0 := by
  obtain ⟨⟨h1, h2, h3⟩, h4, h5, h6⟩ := (mayR_iff r).1 h
  have hv : r.view = 0 := by omega
  rw [hv] at h4
  have hl := okLog_zero h4
  rw [hl] at h6
  exact ⟨hv, hl, by simp at h6; omega⟩
theorem may_reg0 : mayR reg0 = true := by decide

theorem apply_may {r a : RegS} {x : RecS} (h : applyR r x = some a) : mayR r = true := by
  unfold applyR at h
  split at h
  · assumption
  · cases h
theorem apply_cases {r a : RegS} {x : RecS} (h : applyR r x = some a) :
    (x.kind = 1 ∧ r.prom < x.epoch ∧ x.epoch ≤ 1048576 ∧ a = { r with prom := x.epoch }) ∨
    (x.kind = 2 ∧ (1 ≤ x.epoch ∧ r.prom ≤ x.epoch ∧ x.epoch ≤ 1048576 ∧ x.from_ = fromR r x) ∧ okLog (logR r x) x.epoch = true ∧ r.log.take r.com.toNat <+: logR r x ∧ a = ⟨x.epoch, x.epoch, logR r x, r.com⟩) ∨
    (x.kind = 3 ∧ r.com < x.len ∧ x.len ≤ r.log.length ∧ a = { r with com := x.len }) ∨
    (x.kind = 4 ∧ r.prom = 0 ∧ mayR ⟨x.epoch, x.view, x.ents, x.len⟩ = true ∧ a = ⟨x.epoch, x.view, x.ents, x.len⟩) := by
  have hm := apply_may h
  unfold applyR at h
  rw [if_pos hm] at h
  by_cases k1 : x.kind = 1
  · rw [if_pos k1] at h
    split at h
    · rename_i hc
      cases h
      exact .inl ⟨k1, hc.1, hc.2, rfl⟩
    · cases h
  rw [if_neg k1] at h
  by_cases k2 : x.kind = 2
  · rw [if_pos k2] at h
    unfold viewR at h
    split at h
    · rename_i hc
      cases h
      exact .inr (.inl ⟨k2, hc.1, hc.2.1, hc.2.2, rfl⟩)
    · cases h
  rw [if_neg k2] at h
  by_cases k3 : x.kind = 3
  · rw [if_pos k3] at h
    split at h
    · rename_i hc
      cases h
      exact .inr (.inr (.inl ⟨k3, hc.1, hc.2, rfl⟩))
    · cases h
  rw [if_neg k3] at h
  by_cases k4 : x.kind = 4
  · rw [if_pos k4] at h
    split at h
    · rename_i hc
      cases h
      exact .inr (.inr (.inr ⟨k4, hc.1, hc.2, rfl⟩))
    · cases h
  rw [if_neg k4] at h
  cases h

/-- How much of a log must stay. -/
def keepsR (r a : RegS) : Nat := if a.view = r.view then r.log.length else r.com.toNat
theorem apply_stays {r a : RegS} {x : RecS} (h : applyR r x = some a) :
    mayR a = true ∧ r.prom ≤ a.prom ∧ r.view ≤ a.view ∧ r.com ≤ a.com ∧ keepsR r a ≤ a.log.length ∧ a.log.take (keepsR r a) = r.log.take (keepsR r a) := by
  have hm := apply_may h
  obtain ⟨⟨m1, m2, m3⟩, m4, m5, m6⟩ := (mayR_iff r).1 hm
  rcases apply_cases h with ⟨_, h1, h2, rfl⟩ | ⟨_, ⟨h1, h2, h3, h4⟩, h5, h6, rfl⟩ | ⟨_, h1, h2, rfl⟩ | ⟨_, h1, h2, rfl⟩
  · refine ⟨(mayR_iff _).2 ⟨⟨m1, by show r.view ≤ x.epoch; omega, h2⟩, m4, m5, m6⟩, by show r.prom ≤ x.epoch; omega, Int.le_refl _, Int.le_refl _, ?_, rfl⟩
    unfold keepsR; rw [if_pos rfl]; exact Nat.le_refl _
  · have hlen := h6.length_le
    rw [List.length_take, Nat.min_eq_left (by omega)] at hlen
    refine ⟨(mayR_iff _).2 ⟨⟨by show 0 ≤ x.epoch; omega, Int.le_refl _, h3⟩, h5, m5, by show r.com ≤ ((logR r x).length : Int); omega⟩, h2, by show r.view ≤ x.epoch; omega, Int.le_refl _, ?_⟩
    unfold keepsR
    show (if x.epoch = r.view then r.log.length else r.com.toNat) ≤ (logR r x).length ∧ (logR r x).take (if x.epoch = r.view then r.log.length else r.com.toNat) = r.log.take (if x.epoch = r.view then r.log.length else r.com.toNat)
    by_cases he : x.epoch = r.view
    · rw [if_pos he]
      unfold logR fromR
      rw [if_pos he, List.take_length]
      exact ⟨by simp, by simp⟩
    · rw [if_neg he]
      refine ⟨hlen, ?_⟩
      have := List.prefix_iff_eq_take.1 h6
      rw [List.length_take, Nat.min_eq_left (by omega)] at this
      exact this.symm
  · refine ⟨(mayR_iff _).2 ⟨⟨m1, m2, m3⟩, m4, by show 0 ≤ x.len; omega, h2⟩, Int.le_refl _, Int.le_refl _, by show r.com ≤ x.len; omega, ?_, rfl⟩
    unfold keepsR; rw [if_pos rfl]; exact Nat.le_refl _
  · obtain ⟨z1, z2, z3⟩ := may_zero hm h1
    obtain ⟨⟨n1, n2, n3⟩, n4, n5, n6⟩ := (mayR_iff _).1 h2
    dsimp only at n1 n2 n3 n5 n6
    refine ⟨h2, by show r.prom ≤ x.epoch; omega, by show r.view ≤ x.view; omega, by show r.com ≤ x.len; omega, ?_⟩
    have hk : keepsR r ⟨x.epoch, x.view, x.ents, x.len⟩ = 0 := by
      unfold keepsR
      split
      · rw [z2]; rfl
      · rw [z3]; rfl
    rw [hk]
    exact ⟨Nat.zero_le _, rfl⟩
theorem apply_twice {r a b : RegS} {x : RecS} (h : applyR r x = some a) (h' : applyR a x = some b) : b = a := by
  rcases apply_cases h with ⟨k, h1, h2, rfl⟩ | ⟨k, ⟨h1, h2, h3, h4⟩, h5, h6, rfl⟩ | ⟨k, h1, h2, rfl⟩ | ⟨k, h1, h2, rfl⟩
  · rcases apply_cases h' with ⟨_, g1, _⟩ | ⟨k', _⟩ | ⟨k', _⟩ | ⟨k', _⟩
    · have : x.epoch < x.epoch := g1
      omega
    all_goals (rw [k] at k'; exact absurd k' (by decide))
  · rcases apply_cases h' with ⟨k', _⟩ | ⟨_, ⟨g1, g2, g3, g4⟩, g5, g6, rfl⟩ | ⟨k', _⟩ | ⟨k', _⟩
    · rw [k] at k'; exact absurd k' (by decide)
    · have hf : fromR ⟨x.epoch, x.epoch, logR r x, r.com⟩ x = (logR r x).length := by unfold fromR; rw [if_pos rfl]
      rw [hf] at g4
      rw [g4] at h4
      have he : x.ents = [] := by
        have hlen : (logR r x).length = fromR r x := by omega
        have : (logR r x).length = (r.log.take (fromR r x)).length + x.ents.length := by unfold logR; rw [List.length_append]
        have h7 : (r.log.take (fromR r x)).length = fromR r x := by
          rw [List.length_take, Nat.min_eq_left]
          unfold fromR
          split
          · exact Nat.le_refl _
          · exact Nat.zero_le _
        exact List.eq_nil_of_length_eq_zero (by omega)
      have : logR ⟨x.epoch, x.epoch, logR r x, r.com⟩ x = logR r x := by
        show (logR r x).take (fromR ⟨x.epoch, x.epoch, logR r x, r.com⟩ x) ++ x.ents = logR r x
        rw [hf, he, List.append_nil, List.take_length]
      rw [this]
    all_goals (rw [k] at k'; exact absurd k' (by decide))
  · rcases apply_cases h' with ⟨k', _⟩ | ⟨k', _⟩ | ⟨_, g1, _⟩ | ⟨k', _⟩
    · rw [k] at k'; exact absurd k' (by decide)
    · rw [k] at k'; exact absurd k' (by decide)
    · have : x.len < x.len := g1
      omega
    · rw [k] at k'; exact absurd k' (by decide)
  · rcases apply_cases h' with ⟨k', _⟩ | ⟨k', _⟩ | ⟨k', _⟩ | ⟨_, _, _, rfl⟩
    · rw [k] at k'; exact absurd k' (by decide)
    · rw [k] at k'; exact absurd k' (by decide)
    · rw [k] at k'; exact absurd k' (by decide)
    · rfl
/-- The record that says all of a register. -/
def baseR (s : Int) (r : RegS) : RecS := ⟨4, s, r.prom, r.view, 0, r.com, r.log⟩
theorem base_leads {r : RegS} (h : mayR r = true) (s : Int) : applyR reg0 (baseR s r) = some r := by
  unfold applyR
  rw [if_pos may_reg0, if_neg (by show ¬ (4 : Int) = 1; decide), if_neg (by show ¬ (4 : Int) = 2; decide), if_neg (by show ¬ (4 : Int) = 3; decide), if_pos (show (baseR s r).kind = 4 from rfl), if_pos ⟨rfl, h⟩]
  rfl
theorem base_not {r : RegS} (h : r.prom ≠ 0) (s : Int) : applyR r (baseR s r) = none := by
  unfold applyR
  split
  · rw [if_neg (by show ¬ (4 : Int) = 1; decide), if_neg (by show ¬ (4 : Int) = 2; decide), if_neg (by show ¬ (4 : Int) = 3; decide), if_pos (show (baseR s r).kind = 4 from rfl), if_neg (fun hh => h hh.1)]
  · rfl
theorem okLog_more {l more : List Ent} {v : Int} (h : okLog l v = true) (hm : ∀ e ∈ more, e.1 = v ∧ ordOk (ordE e) = true) (h1 : 1 ≤ v) (hl : l.length + more.length ≤ 64) : okLog (l ++ more) v = true := by
  obtain ⟨a1, a2, a3⟩ := (okLog_iff _ _).1 h
  refine (okLog_iff _ _).2 ⟨by rw [List.length_append]; exact hl, fun e he => ?_, (rises_iff _).2 fun i x y hx hy => ?_⟩
  · rcases List.mem_append.1 he with he | he
    · exact a2 e he
    · obtain ⟨e1, e2⟩ := hm e he
      unfold okEnt
      rw [e2, Bool.and_true, decide_eq_true_eq]
      omega
  · have key : ∀ j z, (l ++ more)[j]? = some z → z.1 ≤ v ∧ (l.length ≤ j → z.1 = v) := fun j z hz => by
      rcases Nat.lt_or_ge j l.length with hj | hj
      · rw [List.getElem?_append_left hj] at hz
        have h2 := a2 z (List.mem_of_getElem? hz)
        unfold okEnt at h2
        simp only [Bool.and_eq_true, decide_eq_true_eq] at h2
        exact ⟨h2.1.2, fun h => absurd h (by omega)⟩
      · rw [List.getElem?_append_right hj] at hz
        have := (hm z (List.mem_of_getElem? hz)).1
        exact ⟨by omega, fun _ => this⟩
    rcases Nat.lt_or_ge (i + 1) l.length with hj | hj
    · rw [List.getElem?_append_left (by omega)] at hx
      rw [List.getElem?_append_left hj] at hy
      exact (rises_iff _).1 a3 i x y hx hy
    · have hy' := (key _ _ hy).2 hj
      have hx' := (key _ _ hx).1
      omega
theorem apply_more {r : RegS} (hm : mayR r = true) (hv : r.view = r.prom) (h1 : 1 ≤ r.view) {p : List Ent} (hp : ∀ e ∈ p, e.1 = r.view ∧ ordOk (ordE e) = true) (hl : r.log.length + p.length ≤ 64) (x : RecS)
    (k1 : x.kind = 2) (k2 : x.epoch = r.view) (k3 : x.from_ = r.log.length) (k4 : x.ents = p) : applyR r x = some { r with log := r.log ++ p } := by
  obtain ⟨⟨m1, m2, m3⟩, m4, m5, m6⟩ := (mayR_iff r).1 hm
  have hf : fromR r x = r.log.length := by unfold fromR; rw [if_pos k2]
  have hL : logR r x = r.log ++ p := by unfold logR; rw [hf, List.take_length, k4]
  unfold applyR
  rw [if_pos hm, if_neg (by rw [k1]; decide), if_pos k1]
  unfold viewR
  rw [hf, hL, k2]
  rw [if_pos ⟨⟨h1, by omega, by omega, k3⟩, okLog_more m4 hp h1 hl, (List.take_prefix _ _).trans (List.prefix_append _ _)⟩]
  rw [hv]
theorem more_may {r : RegS} (hm : mayR r = true) (h1 : 1 ≤ r.view) {p : List Ent} (hp : ∀ e ∈ p, e.1 = r.view ∧ ordOk (ordE e) = true) (hl : r.log.length + p.length ≤ 64) : mayR { r with log := r.log ++ p } = true := by
  obtain ⟨⟨m1, m2, m3⟩, m4, m5, m6⟩ := (mayR_iff r).1 hm
  exact (mayR_iff _).2 ⟨⟨m1, m2, m3⟩, okLog_more m4 hp h1 hl, m5, by show r.com ≤ ((r.log ++ p).length : Int); rw [List.length_append]; omega⟩
end Go.Proofs.Ytbicefilfhcgoaa
