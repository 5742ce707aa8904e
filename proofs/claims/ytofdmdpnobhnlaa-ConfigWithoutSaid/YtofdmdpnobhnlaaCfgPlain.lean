/- Chains, in plain Lean: what the functions of package config come to. -/
import Derived.Test.YtofdmdpnobhnlaaCfgMem
namespace Go.Proofs.Ytofdmdpnobhnlaa
set_option linter.unusedVariables false

/-- May a member be? -/
def mayM (n l : Int) : Bool := decide (0 ≤ n) && (decide (n ≤ 7) && (decide (1 ≤ l) && decide (l ≤ 1099511627776)))
theorem mayM_iff {n l : Int} : mayM n l = true ↔ 0 ≤ n ∧ n ≤ 7 ∧ 1 ≤ l ∧ l ≤ 1099511627776 := by simp [mayM]

/-- Seats that may be, no node twice, none of those that were. -/
def seatsOk : List SeatV → Bool
  | [] => true
  | s :: L => mayM s.node s.life && (L.all (fun t => t.node != s.node) && seatsOk L)

/-- May it be a chain? -/
def rightC (c : ConfV) : Bool :=
  decide (1 ≤ c.epoch) && (decide (c.epoch ≤ 1099511627776) && (decide (1 ≤ c.chain.length) && (decide (c.chain.length ≤ 8) && ((c.chain[0]?.map SeatV.sync == some true) && seatsOk c.chain))))
theorem rightC_iff {c : ConfV} : rightC c = true ↔ 1 ≤ c.epoch ∧ c.epoch ≤ 1099511627776 ∧ 1 ≤ c.chain.length ∧ c.chain.length ≤ 8 ∧ c.chain[0]?.map SeatV.sync = some true ∧ seatsOk c.chain = true := by
  simp [rightC]

theorem seatsOk_snoc (L : List SeatV) (s : SeatV) : seatsOk (L ++ [s]) = (seatsOk L && (mayM s.node s.life && L.all (fun t => t.node != s.node))) := by
  induction L with
  | nil => simp [seatsOk]
  | cons x L ih =>
    simp only [List.cons_append, seatsOk, ih, List.all_append, List.all_cons, List.all_nil, Bool.and_true]
    have : (s.node != x.node) = (x.node != s.node) := bne_comm
    rw [this]
    cases mayM x.node x.life <;> cases (L.all fun t => t.node != x.node) <;> cases (x.node != s.node) <;> cases seatsOk L <;> cases mayM s.node s.life <;> cases (L.all fun t => t.node != s.node) <;> rfl
theorem seatsOk_pre {L M : List SeatV} (h : seatsOk L = false) : seatsOk (L ++ M) = false := by
  induction M generalizing L with
  | nil => simpa using h
  | cons s M ih =>
    have : L ++ s :: M = (L ++ [s]) ++ M := by simp
    rw [this]
    exact ih (by rw [seatsOk_snoc, h]; rfl)

/-- Where the first one is that .. -/
def placeBy (p : SeatV → Bool) (L : List SeatV) : Int := match L.findIdx? p with | some i => i | none => -1
def placeC (L : List SeatV) (n l : Int) : Int := placeBy (fun s => s.node == n && s.life == l) L
theorem placeBy_hit {p : SeatV → Bool} {L : List SeatV} {k : Nat} {s : SeatV} (hs : L[k]? = some s) (hp : p s = true) (hn : ∀ j t, j < k → L[j]? = some t → p t = false) : placeBy p L = k := by
  have hk := (List.getElem?_eq_some_iff.1 hs).1
  have : L.findIdx? p = some k := by
    rw [List.findIdx?_eq_some_iff_getElem]
    refine ⟨hk, ?_, fun j hj => ?_⟩
    · rw [(List.getElem?_eq_some_iff.1 hs).2]; exact hp
    · rw [hn j _ hj (List.getElem?_eq_getElem (by omega))]; simp
  rw [placeBy, this]
theorem placeBy_miss {p : SeatV → Bool} {L : List SeatV} (hn : ∀ j t, j < L.length → L[j]? = some t → p t = false) : placeBy p L = -1 := by
  have : L.findIdx? p = none := by
    rw [List.findIdx?_eq_none_iff]
    intro t ht
    obtain ⟨j, hj⟩ := List.getElem?_of_mem ht
    exact hn j t (List.getElem?_eq_some_iff.1 hj).1 hj
  rw [placeBy, this]
theorem placeBy_any (p : SeatV → Bool) (L : List SeatV) : (decide (0 ≤ placeBy p L)) = L.any p := by
  cases h : L.findIdx? p with
  | none =>
    rw [placeBy, h]
    rw [List.findIdx?_eq_none_iff] at h
    rw [Bool.eq_iff_iff]
    simp
    exact fun x hx => h x hx
  | some k =>
    rw [placeBy, h]
    rw [List.findIdx?_eq_some_iff_getElem] at h
    obtain ⟨hk, hp, _⟩ := h
    rw [Bool.eq_iff_iff]
    simp
    exact ⟨L[k], List.getElem_mem hk, hp⟩
theorem placeBy_facts (p : SeatV → Bool) (L : List SeatV) : (placeBy p L = -1 ∧ ∀ s ∈ L, p s = false) ∨ ∃ k s, placeBy p L = (k : Nat) ∧ L[k]? = some s ∧ p s = true ∧ ∀ j t, j < k → L[j]? = some t → p t = false := by
  cases h : L.findIdx? p with
  | none =>
    left
    rw [placeBy, h]
    rw [List.findIdx?_eq_none_iff] at h
    exact ⟨rfl, fun s hs => h s hs⟩
  | some k =>
    right
    rw [placeBy, h]
    rw [List.findIdx?_eq_some_iff_getElem] at h
    obtain ⟨hk, hp, hn⟩ := h
    refine ⟨k, L[k], rfl, List.getElem?_eq_getElem hk, hp, fun j t hj ht => ?_⟩
    have := hn j hj
    rw [(List.getElem?_eq_some_iff.1 ht).2] at this
    simpa using this

/-- Who sits somewhere. -/
def atC (L : List SeatV) (i : Int) : Int × Int × Bool := if i < 0 then (0, 0, false) else match L[i.toNat]? with | some s => (s.node, s.life, true) | none => (0, 0, false)
/-- A chain with other seats, one epoch on; an error. -/
def laterC (e : Int) (L : List SeatV) : ConfV × Int := if 1099511627776 ≤ e then (⟨0, []⟩, 5) else (⟨e + 1, L⟩, 0)
/-- Those that do not go. -/
def leftC (L : List SeatV) (gone : List (Int × Int)) : List SeatV := L.filter fun s => !gone.contains (s.node, s.life)
def withoutC (c : ConfV) (gone : List (Int × Int)) : ConfV × Int :=
  if rightC c = false then (⟨0, []⟩, 3) else
  if (leftC c.chain gone).length = c.chain.length then (⟨0, []⟩, 10) else
  if (leftC c.chain gone)[0]?.map SeatV.sync = some true then laterC c.epoch (leftC c.chain gone) else (⟨0, []⟩, 13)
def joinC (c : ConfV) (n l : Int) : ConfV × Int :=
  if rightC c = false then (⟨0, []⟩, 3) else
  if mayM n l = false then (⟨0, []⟩, 1) else
  if c.chain.any (fun s => s.node == n) = true then (⟨0, []⟩, 11) else laterC c.epoch (c.chain ++ [⟨n, l, false⟩])
def syncedC (c : ConfV) (n l : Int) : ConfV × Int :=
  if rightC c = false then (⟨0, []⟩, 3) else
  match c.chain.findIdx? (fun s => s.node == n && s.life == l) with
  | none => (⟨0, []⟩, 10)
  | some k => if (c.chain[k]?.map SeatV.sync) = some true then (⟨0, []⟩, 11) else (⟨c.epoch, c.chain.set k ⟨n, l, true⟩⟩, 0)
/-- The first chain. -/
def firstSeats (n : Nat) : List SeatV := (List.range n).map fun i : Nat => ⟨(i : Int), 1, true⟩
def firstC (n : Int) : ConfV × Int := if 1 ≤ n ∧ n ≤ 8 then (⟨1, firstSeats n.toNat⟩, 0) else (⟨0, []⟩, 1)
theorem firstSeats_snoc (n : Nat) : firstSeats (n + 1) = firstSeats n ++ [⟨n, 1, true⟩] := by simp [firstSeats, List.range_succ]
end Go.Proofs.Ytofdmdpnobhnlaa
