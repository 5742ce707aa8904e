/- Chains: what they are, and how they lie in memory. Chains, in plain Lean: what the functions of package config come to. Chains as bytes, in plain Lean: what is printed is read as it was; bytes that are a chain are those that it is printed in. Whether a chain may come behind another one: the program's way and the document's come to the same. -/
import Derived.Test.YtomfmejodmfioaaGreatKOp1
import Derived.Test.YtomfmejodmfioaaGreatKCodec
import Derived.Deep.AppendLies
namespace Go.Proofs.YtomfmejodmfioaaGreat
open Go.RowKit Go.ChangeShapes Go.WideShapes Go.Joins
set_option linter.unusedVariables false

/-- A seat: its node, its life, whether it is synced. -/
structure SeatV where
  node : Int
  life : Int
  sync : Bool
deriving DecidableEq

/-- A chain: its epoch, its seats. -/
structure ConfV where
  epoch : Int
  chain : List SeatV
deriving DecidableEq

instance : Inhabited SeatV := ⟨⟨0, 0, false⟩⟩

def SeatOk (s : SeatV) : Prop := W64 s.node ∧ W64 s.life
def seatCells (s : SeatV) : List Value := [.int .i64 s.node, .int .i64 s.life, .bool s.sync]
/-- All seats' cells. -/
def seatsCells (L : List SeatV) : List Value := L.flatMap seatCells

/-- What three cells say. -/
def SeatAt (w : World) (b off : Nat) (s : SeatV) : Prop :=
  w.cell? ⟨b, off, none⟩ = some (.int .i64 s.node) ∧ w.cell? ⟨b, off + 1, none⟩ = some (.int .i64 s.life) ∧ w.cell? ⟨b, off + 2, none⟩ = some (.bool s.sync)

/-- Seats in memory: L. -/
def SeatsAt (w : World) (a : Option Addr) (L : List SeatV) : Prop :=
  L.length ≤ maxLen ∧ (∀ s ∈ L, SeatOk s) ∧ (0 < L.length → ∃ b off, a = some ⟨b, off, none⟩ ∧ b < w.heap.size ∧ ∀ i s, L[i]? = some s → SeatAt w b (off + i * 3) s)

/-- A slice that is the seats L. -/
def ChainAt (w : World) (v : Value) (L : List SeatV) : Prop := ∃ a cap, v = .slice a L.length cap ∧ SeatsAt w a L

theorem SeatAt.of {w w' : World} {b off : Nat} {s : SeatV} (h : SeatAt w b off s) (he : ∀ j, w'.cell? ⟨b, j, none⟩ = w.cell? ⟨b, j, none⟩) : SeatAt w' b off s :=
  ⟨(he _).trans h.1, (he _).trans h.2.1, (he _).trans h.2.2⟩
theorem SeatsAt.below {w w' : World} {a : Option Addr} {L : List SeatV} {n : Nat} (h : SeatsAt w a L) (hb : Below n w w') (hn : n = w.heap.size) : SeatsAt w' a L := by
  subst hn
  refine ⟨h.1, h.2.1, fun hp => ?_⟩
  obtain ⟨b, off, ha, hlt, hc⟩ := h.2.2 hp
  exact ⟨b, off, ha, Nat.lt_of_lt_of_le hlt hb.size, fun i s hi => (hc i s hi).of fun j => hb.cell (p := ⟨b, j, none⟩) hlt⟩
theorem ChainAt.below {w w' : World} {v : Value} {L : List SeatV} (h : ChainAt w v L) (hb : Below w.heap.size w w') : ChainAt w' v L := by
  obtain ⟨a, cap, rfl, hs⟩ := h
  exact ⟨a, cap, rfl, hs.below hb rfl⟩
theorem SeatsAt.alloc {w : World} {a : Option Addr} {L : List SeatV} (h : SeatsAt w a L) (o : Obj) : SeatsAt (w.alloc o) a L := h.below ((Below.refl _ _).alloc (Nat.le_refl _) o) rfl
theorem ChainAt.alloc {w : World} {v : Value} {L : List SeatV} (h : ChainAt w v L) (o : Obj) : ChainAt (w.alloc o) v L := h.below ((Below.refl _ _).alloc (Nat.le_refl _) o)
theorem SeatsAt.drewN {w : World} {a : Option Addr} {L : List SeatV} (h : SeatsAt w a L) (n : Nat) : SeatsAt (w.drewN n) a L := h
theorem ChainAt.drewN {w : World} {v : Value} {L : List SeatV} (h : ChainAt w v L) (n : Nat) : ChainAt (w.drewN n) v L := h
theorem ChainAt.drew {w : World} {v : Value} {L : List SeatV} (h : ChainAt w v L) : ChainAt w.drew v L := h
theorem SeatsAt.drew {w : World} {a : Option Addr} {L : List SeatV} (h : SeatsAt w a L) : SeatsAt w.drew a L := h
theorem ChainAt.nil (w : World) : ChainAt w (.slice none 0 0) [] := ⟨none, 0, rfl, Nat.zero_le _, by simp, by simp⟩

theorem seatsCells_len (L : List SeatV) : (seatsCells L).length = L.length * 3 := by
  induction L with
  | nil => rfl
  | cons s L ih =>
    have : seatsCells (s :: L) = seatCells s ++ seatsCells L := rfl
    rw [this, List.length_append, ih, List.length_cons, seatCells]
    simp
    omega
theorem seatsCells_snoc (L : List SeatV) (s : SeatV) : seatsCells (L ++ [s]) = seatsCells L ++ seatCells s := by simp [seatsCells]
theorem seatsCells_append (L M : List SeatV) : seatsCells (L ++ M) = seatsCells L ++ seatsCells M := by simp [seatsCells]
theorem seatsCells_at : ∀ (L : List SeatV) (i : Nat) (s : SeatV), L[i]? = some s → (seatsCells L)[i * 3]? = some (.int .i64 s.node) ∧ (seatsCells L)[i * 3 + 1]? = some (.int .i64 s.life) ∧ (seatsCells L)[i * 3 + 2]? = some (.bool s.sync)
  | [], i, s, h => by simp at h
  | x :: L, 0, s, h => by
    obtain rfl : x = s := by simpa using h
    exact ⟨rfl, rfl, rfl⟩
  | x :: L, i + 1, s, h => by
    obtain ⟨h0, h1, h2⟩ := seatsCells_at L i s (by simpa using h)
    have : seatsCells (x :: L) = seatCells x ++ seatsCells L := rfl
    rw [this]
    refine ⟨?_, ?_, ?_⟩
    · rw [List.getElem?_append_right (by simp [seatCells]; omega), ← h0]; congr 1; simp [seatCells]; omega
    · rw [List.getElem?_append_right (by simp [seatCells]; omega), ← h1]; congr 1; simp [seatCells]; omega
    · rw [List.getElem?_append_right (by simp [seatCells]; omega), ← h2]; congr 1; simp [seatCells]; omega
theorem seatCells_one {s : SeatV} : ∀ u ∈ seatCells s, u.oneCell' = true := by
  intro u hu
  simp only [seatCells, List.mem_cons, List.not_mem_nil, or_false] at hu
  rcases hu with rfl | rfl | rfl <;> rfl
theorem seatsCells_one {L : List SeatV} : ∀ u ∈ seatsCells L, u.oneCell' = true := by
  intro u hu
  obtain ⟨s, _, hs⟩ := List.mem_flatMap.1 hu
  exact seatCells_one u hs

/-- A slice that the call owns is the seats it holds. -/
theorem chain_of_own {w : World} {base : Nat} {e : TypeId} {v : Value} {L : List SeatV} (h : w.ownsRow base e 3 v L.length (seatsCells L)) (hok : ∀ s ∈ L, SeatOk s) : ChainAt w v L := by
  obtain ⟨h1, h2⟩ := h
  rcases h2 with ⟨rfl, h0⟩ | ⟨g, cap, cur, rfl, hb, hg, hn, hc, hs, ht⟩
  · rw [List.length_eq_zero_iff] at h0
    subst h0
    exact ChainAt.nil w
  · refine ⟨_, cap, rfl, by omega, hok, fun _ => ⟨g, 0, rfl, (Array.getElem?_eq_some_iff.1 hg).1, fun i s hi => ?_⟩⟩
    have hil := (List.getElem?_eq_some_iff.1 hi).1
    have hcell : ∀ j, j < L.length * 3 → w.cell? ⟨g, j, none⟩ = (seatsCells L)[j]? := fun j hj =>
      World.ownsRow.cellAt (w := w) (base := base) (e := e) (size := 3) (g := g) (cap := cap) (n := L.length) (xs := seatsCells L) ⟨h1, .inr ⟨g, cap, cur, rfl, hb, hg, hn, hc, hs, ht⟩⟩ j hj
    obtain ⟨t0, t1, t2⟩ := seatsCells_at L i s hi
    rw [Nat.zero_add]
    exact ⟨by rw [hcell _ (by omega), t0], by rw [hcell _ (by omega), t1], by rw [hcell _ (by omega), t2]⟩
/-- A row that is seats'. -/
def SeatRow (w : World) (v : Value) : Prop := ∀ j, v.ownBlock = some j → ∃ cs fr, w.heap[j]? = some (.cells cs 49 fr)
theorem SeatRow.nil (w : World) (n c : Nat) : SeatRow w (.slice none n c) := fun j hj => by simp [Value.ownBlock] at hj
theorem SeatRow.own {w : World} {base : Nat} {size n : Nat} {v : Value} {xs : List Value} (h : w.ownsRow base 49 size v n xs) : SeatRow w v := fun j hj => by
  rcases h.2 with ⟨rfl, _⟩ | ⟨g, cap, cur, rfl, _, hg, _⟩
  · simp [Value.ownBlock] at hj
  · simp only [Value.ownBlock, Option.some.injEq] at hj
    subst hj
    exact ⟨_, _, hg⟩
theorem SeatRow.below {w w' : World} {v : Value} (h : SeatRow w v) (hb : Below w.heap.size w w') : SeatRow w' v := fun j hj => by
  obtain ⟨cs, fr, hg⟩ := h j hj
  exact ⟨cs, fr, (hb.block j (Array.getElem?_eq_some_iff.1 hg).1).trans hg⟩
theorem SeatRow.setCell {w : World} {v : Value} (h : SeatRow w v) (b i : Nat) (u : Value) : SeatRow (w.setCell ⟨b, i, none⟩ u) v := fun j hj => by
  obtain ⟨cs, fr, hg⟩ := h j hj
  by_cases e : b = j
  · subst e
    simp only [World.setCell, Array.getElem?_modify, hg, if_pos]
    exact ⟨_, _, rfl⟩
  · exact ⟨cs, fr, by simp only [World.setCell, Array.getElem?_modify, if_neg e]; exact hg⟩
/-- A slice that is the seats L, its row seats'. -/
def ChainS (w : World) (v : Value) (L : List SeatV) : Prop := ChainAt w v L ∧ SeatRow w v
theorem ChainS.nil (w : World) : ChainS w (.slice none 0 0) [] := ⟨ChainAt.nil w, SeatRow.nil _ _ _⟩
theorem chainS_of_own {w : World} {base : Nat} {v : Value} {L : List SeatV} (h : w.ownsRow base 49 3 v L.length (seatsCells L)) (hok : ∀ s ∈ L, SeatOk s) : ChainS w v L := ⟨chain_of_own h hok, SeatRow.own h⟩
theorem ChainS.below {w w' : World} {v : Value} {L : List SeatV} (h : ChainS w v L) (hb : Below w.heap.size w w') : ChainS w' v L := ⟨h.1.below hb, h.2.below hb⟩
theorem ChainS.alloc {w : World} {v : Value} {L : List SeatV} (h : ChainS w v L) (o : Obj) : ChainS (w.alloc o) v L := h.below ((Below.refl _ _).alloc (Nat.le_refl _) o)
/-- What is read of seats, as the law of append asks. -/
theorem SeatsAt.cells {w : World} {b off : Nat} {L : List SeatV} (h : ∀ i s, L[i]? = some s → SeatAt w b (off + i * 3) s) : ∀ j u, (seatsCells L)[j]? = some u → w.cell? ⟨b, off + j, none⟩ = some u := by
  intro j u hj
  have hjl := (List.getElem?_eq_some_iff.1 hj).1
  rw [seatsCells_len] at hjl
  have hi : j / 3 < L.length := by omega
  obtain ⟨s, hs⟩ : ∃ s, L[j / 3]? = some s := ⟨_, List.getElem?_eq_getElem hi⟩
  obtain ⟨c0, c1, c2⟩ := h _ _ hs
  obtain ⟨t0, t1, t2⟩ := seatsCells_at L _ s hs
  have hm : j % 3 = 0 ∨ j % 3 = 1 ∨ j % 3 = 2 := by omega
  rcases hm with hm | hm | hm
  · rw [show j / 3 * 3 = j by omega] at t0
    rw [hj] at t0
    rw [t0, ← c0]; congr 2; omega
  · rw [show j / 3 * 3 + 1 = j by omega] at t1
    rw [hj] at t1
    rw [t1, ← c1]; congr 2; omega
  · rw [show j / 3 * 3 + 2 = j by omega] at t2
    rw [hj] at t2
    rw [t2, ← c2]; congr 2; omega
theorem seat_full : (Tryz.prog.info? 49).map (fun i => (i.zero, i.size, i.bytes)) = some (some (.agg (seatCells default).toArray), 3, 24) := by kernel_rfl
end Go.Proofs.YtomfmejodmfioaaGreat
namespace Go.Proofs.YtomfmejodmfioaaGreat
set_option linter.unusedVariables false

/-- May a member be? -/
def mayM (n l : Int) : Bool := decide (0 ≤ n) && (decide (n ≤ 7) && (decide (1 ≤ l) && decide (l ≤ 1099511627776)))
theorem mayM_iff {n l : Int} : mayM n l = true ↔ 0 ≤ n ∧ n ≤ 7 ∧ 1 ≤ l ∧ l ≤ 1099511627776 := by simp [mayM]

/-- Seats that may be, no node twice, none of those that were. -/
def seatsOk : List SeatV → Bool
  | [] => true
  | s :: L => mayM s.node s.life && (L.all (fun t => t.node != s.node) && seatsOk L)

/-- May it be a chain? -/
def rightC (c : ConfV) : Bool :=
  decide (1 ≤ c.epoch) && (decide (c.epoch ≤ 1099511627776) && (decide (1 ≤ c.chain.length) && (decide (c.chain.length ≤ 8) && ((c.chain[0]?.map SeatV.sync == some true) && seatsOk c.chain))))
theorem rightC_iff {c : ConfV} : rightC c = true ↔ 1 ≤ c.epoch ∧ c.epoch ≤ 1099511627776 ∧ 1 ≤ c.chain.length ∧ c.chain.length ≤ 8 ∧ c.chain[0]?.map SeatV.sync = some true ∧ seatsOk c.chain = true := by
  simp [rightC]

theorem seatsOk_snoc (L : List SeatV) (s : SeatV) : seatsOk (L ++ [s]) = (seatsOk L && (mayM s.node s.life && L.all (fun t => t.node != s.node))) := by
  induction L with
  | nil => simp [seatsOk]
  | cons x L ih =>
    simp only [List.cons_append, seatsOk, ih, List.all_append, List.all_cons, List.all_nil, Bool.and_true]
    have : (s.node != x.node) = (x.node != s.node) := bne_comm
    rw [this]
    cases mayM x.node x.life <;> cases (L.all fun t => t.node != x.node) <;> cases (x.node != s.node) <;> cases seatsOk L <;> cases mayM s.node s.life <;> cases (L.all fun t => t.node != s.node) <;> rfl
theorem seatsOk_pre {L M : List SeatV} (h : seatsOk L = false) : seatsOk (L ++ M) = false := by
  induction M generalizing L with
  | nil => simpa using h
  | cons s M ih =>
    have : L ++ s :: M = (L ++ [s]) ++ M := by simp
    rw [this]
    exact ih (by rw [seatsOk_snoc, h]; rfl)

/-- Where the first one is that .. -/
def placeBy (p : SeatV → Bool) (L : List SeatV) : Int := match L.findIdx? p with | some i => i | none => -1
def placeC (L : List SeatV) (n l : Int) : Int := placeBy (fun s => s.node == n && s.life == l) L
theorem placeBy_hit {p : SeatV → Bool} {L : List SeatV} {k : Nat} {s : SeatV} (hs : L[k]? = some s) (hp : p s = true) (hn : ∀ j t, j < k → L[j]? = some t → p t = false) : placeBy p L = k := by
  have hk := (List.getElem?_eq_some_iff.1 hs).1
  have : L.findIdx? p = some k := by
    rw [List.findIdx?_eq_some_iff_getElem]
    refine ⟨hk, ?_, fun j hj => ?_⟩
    · rw [(List.getElem?_eq_some_iff.1 hs).2]; exact hp
    · rw [hn j _ hj (List.getElem?_eq_getElem (by omega))]; simp
  rw [placeBy, this]
theorem placeBy_miss {p : SeatV → Bool} {L : List SeatV} (hn : ∀ j t, j < L.length → L[j]? = some t → p t = false) : placeBy p L = -1 := by
  have : L.findIdx? p = none := by
    rw [List.findIdx?_eq_none_iff]
    intro t ht
    obtain ⟨j, hj⟩ := List.getElem?_of_mem ht
    exact hn j t (List.getElem?_eq_some_iff.1 hj).1 hj
  rw [placeBy, this]
theorem placeBy_any (p : SeatV → Bool) (L : List SeatV) : (decide (0 ≤ placeBy p L)) = L.any p := by
  cases h : L.findIdx? p with
  | none =>
    rw [placeBy, h]
    rw [List.findIdx?_eq_none_iff] at h
    rw [Bool.eq_iff_iff]
    simp
    exact fun x hx => h x hx
  | some k =>
    rw [placeBy, h]
    rw [List.findIdx?_eq_some_iff_getElem] at h
    obtain ⟨hk, hp, _⟩ := h
    rw [Bool.eq_iff_iff]
    simp
    exact ⟨L[k], List.getElem_mem hk, hp⟩
theorem placeBy_facts (p : SeatV → Bool) (L : List SeatV) : (placeBy p L = -1 ∧ ∀ s ∈ L, p s = false) ∨ ∃ k s, placeBy p L = (k : Nat) ∧ L[k]? = some s ∧ p s = true ∧ ∀ j t, j < k → L[j]? = some t → p t = false := by
  cases h : L.findIdx? p with
  | none =>
    left
    rw [placeBy, h]
    rw [List.findIdx?_eq_none_iff] at h
    exact ⟨rfl, fun s hs => h s hs⟩
  | some k =>
    right
    rw [placeBy, h]
    rw [List.findIdx?_eq_some_iff_getElem] at h
    obtain ⟨hk, hp, hn⟩ := h
    refine ⟨k, L[k], rfl, List.getElem?_eq_getElem hk, hp, fun j t hj ht => ?_⟩
    have := hn j hj
    rw [(List.getElem?_eq_some_iff.1 ht).2] at this
    simpa using this

/-- Who sits somewhere. -/
def atC (L : List SeatV) (i : Int) : Int × Int × Bool := if i < 0 then (0, 0, false) else match L[i.toNat]? with | some s => (s.node, s.life, true) | none => (0, 0, false)
/-- A chain with other seats, one epoch on; an error. -/
def laterC (e : Int) (L : List SeatV) : ConfV × Int := if 1099511627776 ≤ e then (⟨0, []⟩, 5) else (⟨e + 1, L⟩, 0)
/-- Those that do not go. -/
def leftC (L : List SeatV) (gone : List (Int × Int)) : List SeatV := L.filter fun s => !gone.contains (s.node, s.life)
def withoutC (c : ConfV) (gone : List (Int × Int)) : ConfV × Int :=
  if rightC c = false then (⟨0, []⟩, 3) else
  if (leftC c.chain gone).length = c.chain.length then (⟨0, []⟩, 10) else
  if (leftC c.chain gone)[0]?.map SeatV.sync = some true then laterC c.epoch (leftC c.chain gone) else (⟨0, []⟩, 13)
def joinC (c : ConfV) (n l : Int) : ConfV × Int :=
  if rightC c = false then (⟨0, []⟩, 3) else
  if mayM n l = false then (⟨0, []⟩, 1) else
  if c.chain.any (fun s => s.node == n) = true then (⟨0, []⟩, 11) else laterC c.epoch (c.chain ++ [⟨n, l, false⟩])
def syncedC (c : ConfV) (n l : Int) : ConfV × Int :=
  if rightC c = false then (⟨0, []⟩, 3) else
  match c.chain.findIdx? (fun s => s.node == n && s.life == l) with
  | none => (⟨0, []⟩, 10)
  | some k => if (c.chain[k]?.map SeatV.sync) = some true then (⟨0, []⟩, 11) else (⟨c.epoch, c.chain.set k ⟨n, l, true⟩⟩, 0)
/-- The first chain. -/
def firstSeats (n : Nat) : List SeatV := (List.range n).map fun i : Nat => ⟨(i : Int), 1, true⟩
def firstC (n : Int) : ConfV × Int := if 1 ≤ n ∧ n ≤ 8 then (⟨1, firstSeats n.toNat⟩, 0) else (⟨0, []⟩, 1)
theorem firstSeats_snoc (n : Nat) : firstSeats (n + 1) = firstSeats n ++ [⟨n, 1, true⟩] := by simp [firstSeats, List.range_succ]
end Go.Proofs.YtomfmejodmfioaaGreat
namespace Go.Proofs.YtomfmejodmfioaaGreat
open Go.RowKit
set_option linter.unusedVariables false

/-- A number's 64 bits. -/
def u64 (x : Int) : Nat := (IntKind.u64.wrap x).toNat
theorem u64_wrap (x : Int) : IntKind.u64.wrap x = (u64 x : Int) := by
  unfold u64
  have : 0 ≤ IntKind.u64.wrap x := by
    simp only [IntKind.wrap_u64]
    omega
  omega
theorem u64_fit (x : Int) : F64 (u64 x) := by
  unfold u64 F64
  simp only [IntKind.wrap_u64]
  omega
theorem u64_small {x : Int} (h0 : 0 ≤ x) (h1 : x ≤ 1099511627776) : u64 x = x.toNat := by
  unfold u64
  simp only [IntKind.wrap_u64]
  omega
theorem u64_cast (n : Nat) (h : n ≤ 1099511627776) : u64 (n : Int) = n := by
  rw [u64_small (by omega) (by omega)]
  omega

def encU (l : List Int) : List UInt8 := l.flatMap fun x => enc (u64 x)
theorem encU_len (l : List Int) : (encU l).length ≤ 10 * l.length := by
  induction l with
  | nil => simp [encU]
  | cons x l ih =>
    have h := (enc_len (u64 x)).2
    have e : encU (x :: l) = enc (u64 x) ++ encU l := rfl
    rw [e, List.length_append, List.length_cons]
    omega
theorem encU_two (x y : Int) : encU [x, y] = enc (u64 x) ++ enc (u64 y) := by simp [encU]
def flagB (b : Bool) : UInt8 := if b = true then 1 else 0
def encSeat (s : SeatV) : List UInt8 := encU [s.node, s.life] ++ [flagB s.sync]
def encSeats (L : List SeatV) : List UInt8 := L.flatMap encSeat
/-- A chain's bytes. -/
def encConf (c : ConfV) : List UInt8 := encU [c.epoch, (c.chain.length : Int)] ++ encSeats c.chain
theorem encSeats_snoc (L : List SeatV) (s : SeatV) : encSeats (L ++ [s]) = encSeats L ++ encSeat s := by simp [encSeats]
theorem encSeat_len (s : SeatV) : (encSeat s).length ≤ 21 := by
  have := encU_len [s.node, s.life]
  simp only [encSeat, List.length_append, List.length_cons, List.length_nil] at *
  omega
theorem encSeats_len (L : List SeatV) : (encSeats L).length ≤ 21 * L.length := by
  induction L with
  | nil => simp [encSeats]
  | cons s L ih =>
    have h := encSeat_len s
    have e : encSeats (s :: L) = encSeat s ++ encSeats L := rfl
    rw [e, List.length_append, List.length_cons]
    omega
theorem encConf_len (c : ConfV) : (encConf c).length ≤ 20 + 21 * c.chain.length := by
  have h1 := encU_len [c.epoch, (c.chain.length : Int)]
  have h2 := encSeats_len c.chain
  simp only [encConf, List.length_append, List.length_cons, List.length_nil] at *
  omega

/-- The first error stays. -/
def fstE (e x : Int) : Int := if e = 0 then x else e
theorem fstE_ne {e x : Int} (hx : x ≠ 0) : fstE e x ≠ 0 := by
  unfold fstE
  split
  · exact hx
  · assumption
theorem fstE_keep {e x : Int} (he : e ≠ 0) : fstE e x = e := by rw [fstE, if_neg he]
/-- A number of at most 2^40. -/
def cntC (l : List UInt8) (e : Int) : Nat × List UInt8 × Int :=
  if 1099511627776 < (rdU l e).1 then (0, (rdU l e).2.1, fstE (rdU l e).2.2 3) else rdU l e
theorem cntC_len (l : List UInt8) (e : Int) : (cntC l e).2.1.length ≤ l.length := by
  unfold cntC
  split <;> exact rdU_len l e
theorem cntC_le (l : List UInt8) (e : Int) : (cntC l e).1 ≤ 1099511627776 := by
  unfold cntC
  split
  · exact Nat.zero_le _
  · omega
theorem rdU_err {l : List UInt8} {e : Int} (he : e ≠ 0) : rdU l e = (0, l, e) := by rw [rdU, if_neg he]
theorem rdB_err {l : List UInt8} {e : Int} (he : e ≠ 0) : rdB l e = (0, l, e) := by rw [rdB.eq_def, if_neg he]
theorem cntC_err {l : List UInt8} {e : Int} (he : e ≠ 0) : cntC l e = (0, l, e) := by
  unfold cntC
  rw [rdU_err he, if_neg (by simp)]
theorem cntC_enc {n : Nat} (h : n ≤ 1099511627776) (t : List UInt8) : cntC (enc n ++ t) 0 = (n, t, 0) := by
  unfold cntC
  rw [rdU_enc n (by unfold F64; omega), if_neg (by show ¬ 1099511627776 < n; omega)]
theorem cntC_back {l l' : List UInt8} {e : Int} {n : Nat} (h : cntC l e = (n, l', 0)) : e = 0 ∧ n ≤ 1099511627776 ∧ l = enc n ++ l' := by
  unfold cntC at h
  split at h
  · simp only [Prod.mk.injEq] at h
    exact absurd h.2.2 (fstE_ne (by decide))
  · have hb := rdU_back h
    rename_i hn
    rw [h] at hn
    exact ⟨hb.1, by simp only at hn; omega, hb.2.2⟩

/-- A seat that is read. -/
def seat1 (l : List UInt8) (e : Int) : SeatV × List UInt8 × Int :=
  (⟨((cntC l e).1 : Int), ((cntC (cntC l e).2.1 (cntC l e).2.2).1 : Int), decide ((rdB (cntC (cntC l e).2.1 (cntC l e).2.2).2.1 (cntC (cntC l e).2.1 (cntC l e).2.2).2.2).1 = 1)⟩,
    (rdB (cntC (cntC l e).2.1 (cntC l e).2.2).2.1 (cntC (cntC l e).2.1 (cntC l e).2.2).2.2).2.1,
    if 1 < (rdB (cntC (cntC l e).2.1 (cntC l e).2.2).2.1 (cntC (cntC l e).2.1 (cntC l e).2.2).2.2).1 then fstE (rdB (cntC (cntC l e).2.1 (cntC l e).2.2).2.1 (cntC (cntC l e).2.1 (cntC l e).2.2).2.2).2.2 3
      else (rdB (cntC (cntC l e).2.1 (cntC l e).2.2).2.1 (cntC (cntC l e).2.1 (cntC l e).2.2).2.2).2.2)
theorem seat1_of {l l1 l2 l3 : List UInt8} {e e1 e2 e3 : Int} {n1 n2 n3 : Nat} (h1 : cntC l e = (n1, l1, e1)) (h2 : cntC l1 e1 = (n2, l2, e2)) (h3 : rdB l2 e2 = (n3, l3, e3)) :
    seat1 l e = (⟨n1, n2, decide (n3 = 1)⟩, l3, if 1 < n3 then fstE e3 3 else e3) := by
  unfold seat1
  rw [h1]
  simp only
  rw [h2]
  simp only
  rw [h3]
theorem seat1_len (l : List UInt8) (e : Int) : (seat1 l e).2.1.length ≤ l.length := by
  unfold seat1
  exact Nat.le_trans (rdB_len _ _) (Nat.le_trans (cntC_len _ _) (cntC_len _ _))
theorem seat1_ok (l : List UInt8) (e : Int) : W64 (seat1 l e).1.node ∧ W64 (seat1 l e).1.life := by
  have h1 := cntC_le l e
  have h2 := cntC_le (cntC l e).2.1 (cntC l e).2.2
  exact ⟨W64.mk (by show (-9223372036854775808 : Int) ≤ ((cntC l e).1 : Int); omega) (by show ((cntC l e).1 : Int) ≤ 9223372036854775807; omega),
    W64.mk (by show (-9223372036854775808 : Int) ≤ ((cntC (cntC l e).2.1 (cntC l e).2.2).1 : Int); omega) (by show ((cntC (cntC l e).2.1 (cntC l e).2.2).1 : Int) ≤ 9223372036854775807; omega)⟩
theorem seat1_err {l : List UInt8} {e : Int} (he : e ≠ 0) : seat1 l e = (⟨0, 0, false⟩, l, e) := by
  rw [seat1_of (cntC_err he) (cntC_err he) (rdB_err he)]
  simp
theorem seat1_back {l l' : List UInt8} {e : Int} {s : SeatV} (h : seat1 l e = (s, l', 0)) : e = 0 ∧ 0 ≤ s.node ∧ s.node ≤ 1099511627776 ∧ 0 ≤ s.life ∧ s.life ≤ 1099511627776 ∧ l = encSeat s ++ l' := by
  obtain ⟨n1, l1, e1, h1⟩ : ∃ n1 l1 e1, cntC l e = (n1, l1, e1) := ⟨_, _, _, rfl⟩
  obtain ⟨n2, l2, e2, h2⟩ : ∃ n2 l2 e2, cntC l1 e1 = (n2, l2, e2) := ⟨_, _, _, rfl⟩
  obtain ⟨n3, l3, e3, h3⟩ : ∃ n3 l3 e3, rdB l2 e2 = (n3, l3, e3) := ⟨_, _, _, rfl⟩
  rw [seat1_of h1 h2 h3] at h
  simp only [Prod.mk.injEq] at h
  obtain ⟨rfl, rfl, he⟩ := h
  split at he
  · exact absurd he (fstE_ne (by decide))
  · subst he
    obtain ⟨rfl, b3⟩ := rdB_back h3
    obtain ⟨rfl, c2, b2⟩ := cntC_back h2
    obtain ⟨rfl, c1, b1⟩ := cntC_back h1
    have hn : n3 = 0 ∨ n3 = 1 := by omega
    refine ⟨rfl, by simp only; omega, by simp only; omega, by simp only; omega, by simp only; omega, ?_⟩
    have hf : UInt8.ofNat n3 = flagB (decide (n3 = 1)) := by
      rcases hn with rfl | rfl <;> rfl
    rw [b1, b2, b3, encSeat, encU_two]
    simp only [u64_cast n1 c1, u64_cast n2 c2, hf, List.append_assoc, List.cons_append, List.nil_append]
theorem seat1_enc {s : SeatV} (h0 : 0 ≤ s.node) (h1 : s.node ≤ 1099511627776) (h2 : 0 ≤ s.life) (h3 : s.life ≤ 1099511627776) (t : List UInt8) : seat1 (encSeat s ++ t) 0 = (s, t, 0) := by
  obtain ⟨n, l, b⟩ := s
  simp only at h0 h1 h2 h3
  have e : encSeat ⟨n, l, b⟩ ++ t = enc n.toNat ++ (enc l.toNat ++ (flagB b :: t)) := by
    rw [encSeat, encU_two, u64_small h0 h1, u64_small h2 h3]
    simp
  have hb : rdB (flagB b :: t) 0 = ((if b = true then 1 else 0), t, 0) := by
    rw [rdB.eq_def, if_pos rfl]
    cases b <;> rfl
  rw [e, seat1_of (cntC_enc (by omega) _) (cntC_enc (by omega) _) hb]
  have e1 : ((n.toNat : Nat) : Int) = n := by omega
  have e2 : ((l.toNat : Nat) : Int) = l := by omega
  cases b <;> simp [e1, e2]

/-- So many seats that are read. -/
def takeN : Nat → List UInt8 → Int → List SeatV × List UInt8 × Int
  | 0, l, e => ([], l, e)
  | n + 1, l, e => ((takeN n l e).1 ++ [(seat1 (takeN n l e).2.1 (takeN n l e).2.2).1], (seat1 (takeN n l e).2.1 (takeN n l e).2.2).2)
theorem takeN_len (n : Nat) (l : List UInt8) (e : Int) : (takeN n l e).2.1.length ≤ l.length ∧ (takeN n l e).1.length = n := by
  induction n with
  | zero => exact ⟨Nat.le_refl _, rfl⟩
  | succ n ih => exact ⟨Nat.le_trans (seat1_len _ _) ih.1, by rw [takeN, List.length_append, ih.2]; rfl⟩
theorem takeN_ok (n : Nat) (l : List UInt8) (e : Int) : ∀ s ∈ (takeN n l e).1, W64 s.node ∧ W64 s.life := by
  induction n with
  | zero => intro s hs; cases hs
  | succ n ih =>
    intro s hs
    rw [takeN] at hs
    rcases List.mem_append.1 hs with hs | hs
    · exact ih s hs
    · rw [List.mem_singleton] at hs
      subst hs
      exact seat1_ok _ _
theorem takeN_err {n : Nat} {l : List UInt8} {e : Int} (he : (takeN n l e).2.2 ≠ 0) (m : Nat) : (takeN (n + m) l e).2.2 ≠ 0 := by
  induction m with
  | zero => exact he
  | succ m ih =>
    rw [← Nat.add_assoc, takeN]
    rw [seat1_err ih]
    exact ih
theorem takeN_enc (L : List SeatV) (hL : ∀ s ∈ L, 0 ≤ s.node ∧ s.node ≤ 1099511627776 ∧ 0 ≤ s.life ∧ s.life ≤ 1099511627776) (t : List UInt8) : ∀ k, k ≤ L.length → takeN k (encSeats L ++ t) 0 = (L.take k, encSeats (L.drop k) ++ t, 0) := by
  intro k
  induction k with
  | zero => intro _; rfl
  | succ k ih =>
    intro hk
    have hs := List.drop_eq_getElem_cons (l := L) (i := k) (by omega)
    have hm := hL L[k] (List.getElem_mem _)
    have e : encSeats (L.drop k) ++ t = encSeat L[k] ++ (encSeats (L.drop (k + 1)) ++ t) := by
      rw [hs, ← List.append_assoc]
      rfl
    rw [takeN, ih (by omega)]
    simp only
    rw [e, seat1_enc hm.1 hm.2.1 hm.2.2.1 hm.2.2.2]
    simp only [Prod.mk.injEq, and_true]
    rw [List.take_succ_eq_append_getElem (by omega)]
theorem takeN_back : ∀ (n : Nat) {l l' : List UInt8} {e : Int} {L : List SeatV}, takeN n l e = (L, l', 0) → e = 0 ∧ l = encSeats L ++ l'
  | 0, l, l', e, L, h => by
    simp only [takeN, Prod.mk.injEq] at h
    obtain ⟨rfl, rfl, rfl⟩ := h
    exact ⟨rfl, rfl⟩
  | n + 1, l, l', e, L, h => by
    obtain ⟨M, m, x, hM⟩ : ∃ M m x, takeN n l e = (M, m, x) := ⟨_, _, _, rfl⟩
    obtain ⟨s, r, y, hs⟩ : ∃ s r y, seat1 m x = (s, r, y) := ⟨_, _, _, rfl⟩
    rw [takeN, hM] at h
    simp only at h
    rw [hs] at h
    simp only [Prod.mk.injEq] at h
    obtain ⟨rfl, rfl, rfl⟩ := h
    obtain ⟨rfl, _, _, _, _, rfl⟩ := seat1_back hs
    obtain ⟨rfl, rfl⟩ := takeN_back n hM
    exact ⟨rfl, by rw [encSeats_snoc, List.append_assoc]⟩

def confZero : ConfV := ⟨0, []⟩
/-- A chain that is read: what is handed back, what is left, the error. -/
def takeC (l : List UInt8) (e : Int) : ConfV × List UInt8 × Int :=
  if 8 < (cntC (cntC l e).2.1 (cntC l e).2.2).1 then (confZero, (cntC (cntC l e).2.1 (cntC l e).2.2).2.1, fstE (cntC (cntC l e).2.1 (cntC l e).2.2).2.2 3)
  else
    let c : ConfV := ⟨((cntC l e).1 : Int), (takeN (cntC (cntC l e).2.1 (cntC l e).2.2).1 (cntC (cntC l e).2.1 (cntC l e).2.2).2.1 (cntC (cntC l e).2.1 (cntC l e).2.2).2.2).1⟩
    let r := (takeN (cntC (cntC l e).2.1 (cntC l e).2.2).1 (cntC (cntC l e).2.1 (cntC l e).2.2).2.1 (cntC (cntC l e).2.1 (cntC l e).2.2).2.2).2
    let x := if rightC c = true then r.2 else fstE r.2 3
    (if x = 0 then c else confZero, r.1, x)
theorem takeC_of {l l1 l2 l3 : List UInt8} {e e1 e2 e3 : Int} {n1 n2 : Nat} {L : List SeatV} (h1 : cntC l e = (n1, l1, e1)) (h2 : cntC l1 e1 = (n2, l2, e2)) (h3 : takeN n2 l2 e2 = (L, l3, e3)) :
    takeC l e = if 8 < n2 then (confZero, l2, fstE e2 3) else (if (if rightC ⟨n1, L⟩ = true then e3 else fstE e3 3) = 0 then ⟨n1, L⟩ else confZero, l3, if rightC ⟨n1, L⟩ = true then e3 else fstE e3 3) := by
  unfold takeC
  rw [h1]
  simp only
  rw [h2]
  simp only
  rw [h3]
theorem takeC_len (l : List UInt8) (e : Int) : (takeC l e).2.1.length ≤ l.length := by
  have h1 := cntC_len l e
  have h2 := cntC_len (cntC l e).2.1 (cntC l e).2.2
  have h3 := (takeN_len (cntC (cntC l e).2.1 (cntC l e).2.2).1 (cntC (cntC l e).2.1 (cntC l e).2.2).2.1 (cntC (cntC l e).2.1 (cntC l e).2.2).2.2).1
  unfold takeC
  split
  · exact Nat.le_trans h2 h1
  · exact Nat.le_trans h3 (Nat.le_trans h2 h1)
theorem takeC_right {l : List UInt8} {e : Int} (h : (takeC l e).2.2 = 0) : rightC (takeC l e).1 = true := by
  obtain ⟨n1, l1, e1, h1⟩ : ∃ n1 l1 e1, cntC l e = (n1, l1, e1) := ⟨_, _, _, rfl⟩
  obtain ⟨n2, l2, e2, h2⟩ : ∃ n2 l2 e2, cntC l1 e1 = (n2, l2, e2) := ⟨_, _, _, rfl⟩
  obtain ⟨L, l3, e3, h3⟩ : ∃ L l3 e3, takeN n2 l2 e2 = (L, l3, e3) := ⟨_, _, _, rfl⟩
  rw [takeC_of h1 h2 h3] at h ⊢
  split at h
  · exact absurd h (fstE_ne (by decide))
  · rename_i h8
    rw [if_neg h8]
    simp only at h ⊢
    rw [if_pos h]
    by_cases hr : rightC ⟨n1, L⟩ = true
    · exact hr
    · rw [if_neg hr] at h
      exact absurd h (fstE_ne (by decide))
theorem takeC_zero {l : List UInt8} {e : Int} (h : (takeC l e).2.2 ≠ 0) : (takeC l e).1 = confZero := by
  obtain ⟨n1, l1, e1, h1⟩ : ∃ n1 l1 e1, cntC l e = (n1, l1, e1) := ⟨_, _, _, rfl⟩
  obtain ⟨n2, l2, e2, h2⟩ : ∃ n2 l2 e2, cntC l1 e1 = (n2, l2, e2) := ⟨_, _, _, rfl⟩
  obtain ⟨L, l3, e3, h3⟩ : ∃ L l3 e3, takeN n2 l2 e2 = (L, l3, e3) := ⟨_, _, _, rfl⟩
  rw [takeC_of h1 h2 h3] at h ⊢
  split
  · rfl
  · rename_i h8
    rw [if_neg h8] at h
    simp only at h ⊢
    rw [if_neg h]
theorem takeC_err {l : List UInt8} {e : Int} (he : e ≠ 0) : takeC l e = (confZero, l, e) := by
  rw [takeC_of (cntC_err he) (cntC_err he) (L := []) (l3 := l) (e3 := e) rfl]
  have hr : rightC ⟨((0 : Nat) : Int), []⟩ = false := rfl
  rw [if_neg (by omega), hr]
  simp only [Bool.false_eq_true, if_false]
  rw [fstE_keep he, if_neg he]
theorem right_bounds {c : ConfV} (h : rightC c = true) : ∀ s ∈ c.chain, 0 ≤ s.node ∧ s.node ≤ 1099511627776 ∧ 0 ≤ s.life ∧ s.life ≤ 1099511627776 := by
  have hs := (rightC_iff.1 h).2.2.2.2.2
  generalize c.chain = L at hs
  induction L with
  | nil => intro s hs'; cases hs'
  | cons x L ih =>
    simp only [seatsOk, Bool.and_eq_true] at hs
    intro s hs'
    rcases List.mem_cons.1 hs' with rfl | hs'
    · have := mayM_iff.1 hs.1
      omega
    · exact ih hs.2.2 s hs'
theorem takeC_enc {c : ConfV} (h : rightC c = true) (t : List UInt8) : takeC (encConf c ++ t) 0 = (c, t, 0) := by
  obtain ⟨e, L⟩ := c
  have hr := rightC_iff.1 h
  simp only at hr
  have he : encConf ⟨e, L⟩ ++ t = enc e.toNat ++ (enc L.length ++ (encSeats L ++ t)) := by
    rw [encConf, encU_two, u64_small (by simp only; omega) (by simp only; omega), u64_cast _ (by simp only; omega)]
    simp
  have h3 := takeN_enc L (right_bounds h) t L.length (Nat.le_refl _)
  have e1 : ((e.toNat : Nat) : Int) = e := by omega
  rw [he, takeC_of (cntC_enc (by omega) _) (cntC_enc (by omega) _) h3, if_neg (by omega)]
  simp only [List.take_length, List.drop_length, e1, h, if_true]
  rfl
theorem takeC_back {l l' : List UInt8} {e : Int} {c : ConfV} (h : takeC l e = (c, l', 0)) : e = 0 ∧ rightC c = true ∧ l = encConf c ++ l' := by
  have hr : rightC c = true := by
    have := takeC_right (l := l) (e := e) (by rw [h])
    rwa [h] at this
  obtain ⟨n1, l1, e1, h1⟩ : ∃ n1 l1 e1, cntC l e = (n1, l1, e1) := ⟨_, _, _, rfl⟩
  obtain ⟨n2, l2, e2, h2⟩ : ∃ n2 l2 e2, cntC l1 e1 = (n2, l2, e2) := ⟨_, _, _, rfl⟩
  obtain ⟨L, l3, e3, h3⟩ : ∃ L l3 e3, takeN n2 l2 e2 = (L, l3, e3) := ⟨_, _, _, rfl⟩
  rw [takeC_of h1 h2 h3] at h
  split at h
  · simp only [Prod.mk.injEq] at h
    exact absurd h.2.2 (fstE_ne (by decide))
  · simp only [Prod.mk.injEq] at h
    obtain ⟨hc, rfl, hx⟩ := h
    rw [if_pos hx] at hc
    subst hc
    rw [if_pos hr] at hx
    subst hx
    have hlen := (takeN_len n2 l2 e2).2
    rw [h3] at hlen
    simp only at hlen
    obtain ⟨rfl, rfl⟩ := takeN_back n2 h3
    obtain ⟨rfl, c2, rfl⟩ := cntC_back h2
    obtain ⟨rfl, c1, rfl⟩ := cntC_back h1
    refine ⟨rfl, hr, ?_⟩
    rw [encConf, encU_two]
    simp only [hlen, u64_cast n1 c1, u64_cast n2 c2, List.append_assoc]
/-- Bytes that are a chain, or none. -/
def readC (l : List UInt8) : ConfV × Bool := if (takeC l 0).2.2 = 0 ∧ (takeC l 0).2.1 = [] then ((takeC l 0).1, true) else (confZero, false)
theorem readC_enc {c : ConfV} (h : rightC c = true) : readC (encConf c) = (c, true) := by
  have := takeC_enc h []
  rw [List.append_nil] at this
  rw [readC, this]
  simp
end Go.Proofs.YtomfmejodmfioaaGreat
namespace Go.Proofs.YtomfmejodmfioaaGreat
set_option linter.unusedVariables false

def sameC (a b : ConfV) : Bool := a.epoch == b.epoch && decide (a.chain = b.chain)
theorem sameC_iff {a b : ConfV} : sameC a b = true ↔ a = b := by
  obtain ⟨e, L⟩ := a
  obtain ⟨f, M⟩ := b
  simp [sameC]
def syncTo (a b : ConfV) (s : SeatV) : Bool := ((syncedC a s.node s.life).2 == 0) && sameC (syncedC a s.node s.life).1 b
def joinTo (a b : ConfV) (n l : Int) : Bool := ((joinC a n l).2 == 0) && sameC (joinC a n l).1 b
/-- The members that are no more. -/
def goneC (L M : List SeatV) : List (Int × Int) := (L.filter fun s => !M.contains s).map fun s => (s.node, s.life)
def leaveTo (a b : ConfV) : Bool :=
  if (goneC a.chain b.chain).length = 0 then b.epoch == a.epoch + 1 && decide (a.chain = b.chain)
  else ((withoutC a (goneC a.chain b.chain)).2 == 0) && sameC (withoutC a (goneC a.chain b.chain)).1 b
def lastC (M : List SeatV) : Int × Int × Bool := atC M ((M.length : Int) - 1)
def followsC (a b : ConfV) : Bool :=
  if rightC a = false then false else
  if rightC b = false then false else
  if sameC a b = true then true else
  if a.epoch = b.epoch then a.chain.any (syncTo a b) else
  if joinTo a b (lastC b.chain).1 (lastC b.chain).2.1 = true then true else
  leaveTo a b
/-- How far the seats go, taken one by one. -/
def greedy (M : List SeatV) : Nat → List SeatV → Nat
  | k, [] => k
  | k, s :: L => if M[k]? = some s then greedy M (k + 1) L else greedy M k L
def qfollowsC (a b : ConfV) : Bool :=
  if rightC a = false then false else
  if rightC b = false then false else
  if sameC a b = true then true else
  if a.epoch = b.epoch then a.chain.any (syncTo a b) else
  if b.epoch = a.epoch + 1 then
    if joinTo a b (lastC b.chain).1 (lastC b.chain).2.1 = true then true else decide (greedy b.chain 0 a.chain = b.chain.length)
  else false

theorem greedy_snoc (M : List SeatV) : ∀ (L : List SeatV) (k : Nat) (s : SeatV), greedy M k (L ++ [s]) = if M[greedy M k L]? = some s then greedy M k L + 1 else greedy M k L
  | [], k, s => rfl
  | x :: L, k, s => by
    have e : ∀ k, greedy M k (x :: (L ++ [s])) = if M[k]? = some x then greedy M (k + 1) (L ++ [s]) else greedy M k (L ++ [s]) := fun _ => rfl
    have e' : ∀ k, greedy M k (x :: L) = if M[k]? = some x then greedy M (k + 1) L else greedy M k L := fun _ => rfl
    rw [List.cons_append, e, e']
    split
    · exact greedy_snoc M L (k + 1) s
    · exact greedy_snoc M L k s
theorem greedy_le (M : List SeatV) : ∀ (L : List SeatV) (k : Nat), k ≤ M.length → greedy M k L ≤ M.length
  | [], k, h => h
  | x :: L, k, h => by
    have e' : greedy M k (x :: L) = if M[k]? = some x then greedy M (k + 1) L else greedy M k L := rfl
    rw [e']
    split
    · rename_i hx
      have := (List.getElem?_eq_some_iff.1 hx).1
      exact greedy_le M L (k + 1) (by omega)
    · exact greedy_le M L k h
theorem greedy_sub (M : List SeatV) : ∀ (L : List SeatV) (k : Nat), k ≤ M.length → (greedy M k L = M.length ↔ (M.drop k).Sublist L)
  | [], k, h => by
    have e : greedy M k [] = k := rfl
    rw [e, List.sublist_nil, List.drop_eq_nil_iff]
    omega
  | x :: L, k, h => by
    have e' : greedy M k (x :: L) = if M[k]? = some x then greedy M (k + 1) L else greedy M k L := rfl
    rw [e']
    rcases Nat.lt_or_ge k M.length with hk | hk
    · rw [List.drop_eq_getElem_cons hk]
      by_cases hx : M[k]? = some x
      · have hxe : M[k] = x := (List.getElem?_eq_some_iff.1 hx).2
        rw [if_pos hx, greedy_sub M L (k + 1) (by omega), hxe, List.cons_sublist_cons]
      · have hxe : M[k] ≠ x := fun he => hx (by rw [List.getElem?_eq_getElem hk, he])
        rw [if_neg hx, greedy_sub M L k h, List.drop_eq_getElem_cons hk]
        constructor
        · intro hs; exact hs.cons _
        · intro hs
          rcases List.sublist_cons_iff.1 hs with hs | ⟨r, hr, _⟩
          · exact hs
          · cases hr; exact absurd rfl hxe
    · have hd : M.drop k = [] := List.drop_eq_nil_iff.2 hk
      rw [hd]
      have : M[k]? = none := List.getElem?_eq_none hk
      rw [if_neg (by rw [this]; simp), greedy_sub M L k h, hd]
      simp
theorem seatsOk_nodes : ∀ {L : List SeatV}, seatsOk L = true → L.Pairwise (fun s t => s.node ≠ t.node)
  | [], _ => List.Pairwise.nil
  | s :: L, h => by
    simp only [seatsOk, Bool.and_eq_true, List.all_eq_true, bne_iff_ne, ne_eq] at h
    exact List.pairwise_cons.2 ⟨fun t ht he => h.2.1 t ht he.symm, seatsOk_nodes h.2.2⟩
theorem nodes_inj {L : List SeatV} (h : L.Pairwise (fun s t => s.node ≠ t.node)) {s t : SeatV} (hs : s ∈ L) (ht : t ∈ L) (he : s.node = t.node) : s = t := by
  induction L with
  | nil => cases hs
  | cons x L ih =>
    rw [List.pairwise_cons] at h
    rcases List.mem_cons.1 hs with rfl | hs' <;> rcases List.mem_cons.1 ht with rfl | ht'
    · rfl
    · exact absurd he (h.1 _ ht')
    · exact absurd he.symm (h.1 _ hs')
    · exact ih h.2 hs' ht'
theorem nodes_nodup {L : List SeatV} (h : L.Pairwise (fun s t => s.node ≠ t.node)) : L.Nodup := h.imp (fun hne he => hne (by rw [he]))
/-- Those that do not go, where those go that are not there. -/
theorem left_gone {L M : List SeatV} (h : L.Pairwise (fun s t => s.node ≠ t.node)) : leftC L (goneC L M) = L.filter fun s => M.contains s := by
  unfold leftC
  apply List.filter_congr
  intro s hs
  rw [Bool.eq_iff_iff]
  simp only [Bool.not_eq_true', List.contains_iff_mem]
  constructor
  · intro hg
    by_cases hm : s ∈ M
    · exact hm
    · exfalso
      have : (s.node, s.life) ∈ goneC L M := List.mem_map.2 ⟨s, List.mem_filter.2 ⟨hs, by simpa using hm⟩, rfl⟩
      rw [← List.contains_iff_mem] at this
      rw [this] at hg
      cases hg
  · intro hm
    rw [← Bool.not_eq_true, List.contains_iff_mem]
    intro hg
    obtain ⟨t, ht, he⟩ := List.mem_map.1 hg
    obtain ⟨htL, htM⟩ := List.mem_filter.1 ht
    have : t = s := nodes_inj h htL hs (by injection he)
    subst this
    simp [hm] at htM
theorem filter_sublist_eq {L M : List SeatV} (h : M.Sublist L) (hn : L.Nodup) : (L.filter fun s => M.contains s) = M := by
  induction h with
  | slnil => rfl
  | cons a h ih =>
    rw [List.nodup_cons] at hn
    rw [List.filter_cons_of_neg (by simpa using fun hm => hn.1 (h.subset hm))]
    exact ih hn.2
  | cons_cons a h ih =>
    rename_i M' L'
    rw [List.nodup_cons] at hn
    rw [List.filter_cons_of_pos (by simp)]
    congr 1
    rw [← ih hn.2]
    apply List.filter_congr
    intro s hs
    rw [ih hn.2, Bool.eq_iff_iff]
    simp only [List.contains_iff_mem, List.mem_cons]
    constructor
    · rintro (rfl | h)
      · exact absurd hs hn.1
      · exact h
    · exact fun h => .inr h
theorem gone_nil {L M : List SeatV} : (goneC L M).length = 0 ↔ ∀ s ∈ L, s ∈ M := by
  rw [goneC, List.length_map, List.length_eq_zero_iff, List.filter_eq_nil_iff]
  simp

theorem qfollows_eq (a b : ConfV) : qfollowsC a b = followsC a b := by
  obtain ⟨e, L⟩ := a
  obtain ⟨f, M⟩ := b
  unfold qfollowsC followsC
  cases ha : rightC ⟨e, L⟩ with
  | false => rfl
  | true =>
  cases hb : rightC ⟨f, M⟩ with
  | false => rfl
  | true =>
  simp only [Bool.true_eq_false, if_false]
  cases hs : sameC ⟨e, L⟩ ⟨f, M⟩ with
  | true => rfl
  | false =>
  simp only [Bool.false_eq_true, if_false]
  by_cases hef : e = f
  · rw [if_pos hef, if_pos hef]
  rw [if_neg hef, if_neg hef]
  have ra := rightC_iff.1 ha
  have rb := rightC_iff.1 hb
  simp only at ra rb
  have hpa := seatsOk_nodes ra.2.2.2.2.2
  have hna := nodes_nodup hpa
  cases hj : joinTo ⟨e, L⟩ ⟨f, M⟩ (lastC M).1 (lastC M).2.1 with
  | true =>
    have hfe : f = e + 1 := by
      simp only [joinTo, Bool.and_eq_true, beq_iff_eq, sameC_iff] at hj
      obtain ⟨h0, h1⟩ := hj
      have := congrArg ConfV.epoch h1
      simp only at this
      rw [← this]
      unfold joinC laterC at h0 ⊢
      split at h0
      · simp at h0
      · split at h0
        · simp at h0
        · split at h0
          · simp at h0
          · split at h0
            · simp at h0
            · rw [if_neg ‹_›, if_neg ‹_›, if_neg ‹_›, if_neg ‹_›]
    simp [hfe]
  | false =>
    simp only [Bool.false_eq_true, if_false]
    have hg := greedy_sub M L 0 (Nat.zero_le _)
    rw [List.drop_zero] at hg
    unfold leaveTo
    simp only
    have hlf := left_gone (M := M) hpa
    by_cases hgn : (goneC L M).length = 0
    · rw [if_pos hgn]
      by_cases hfe : f = e + 1
      · rw [if_pos hfe, Bool.eq_iff_iff]
        simp only [decide_eq_true_eq, Bool.and_eq_true, beq_iff_eq, hg]
        constructor
        · intro h
          refine ⟨hfe, ?_⟩
          have hf := filter_sublist_eq h hna
          rw [List.filter_eq_self.2 (fun s hs => by simpa using gone_nil.1 hgn s hs)] at hf
          exact hf
        · rintro ⟨_, h⟩
          rw [h]
          exact List.Sublist.refl _
      · rw [if_neg hfe]
        symm
        rw [Bool.eq_false_iff]
        intro h
        simp only [Bool.and_eq_true, beq_iff_eq] at h
        exact hfe h.1
    · rw [if_neg hgn]
      have hw : withoutC ⟨e, L⟩ (goneC L M) = if (leftC L (goneC L M)).length = L.length then (⟨0, []⟩, 10) else if (leftC L (goneC L M))[0]?.map SeatV.sync = some true then laterC e (leftC L (goneC L M)) else (⟨0, []⟩, 13) := by
        rw [withoutC, if_neg (by rw [ha]; simp)]
      by_cases hfe : f = e + 1
      · rw [if_pos hfe, Bool.eq_iff_iff]
        simp only [decide_eq_true_eq, Bool.and_eq_true, beq_iff_eq, hg, sameC_iff]
        constructor
        · intro h
          have hf := filter_sublist_eq h hna
          rw [hlf, hf] at hw
          have hne : M.length ≠ L.length := by
            intro he
            have := h.eq_of_length he
            subst this
            exact hgn (gone_nil.2 fun s hs => hs)
          rw [if_neg hne, if_pos rb.2.2.2.2.1, laterC, if_neg (by omega)] at hw
          rw [hw]
          exact ⟨rfl, by rw [hfe]⟩
        · rintro ⟨h0, h1⟩
          rw [hw] at h0 h1
          split at h0
          · simp at h0
          · rename_i hq1
            rw [if_neg hq1] at h1
            split at h0
            · rename_i hq2
              rw [if_pos hq2] at h1
              unfold laterC at h0 h1
              split at h0
              · simp at h0
              · rename_i hq3
                rw [if_neg hq3] at h1
                have : leftC L (goneC L M) = M := congrArg ConfV.chain h1
                rw [← this]
                exact List.filter_sublist
            · simp at h0
      · rw [if_neg hfe]
        symm
        rw [Bool.eq_false_iff]
        intro h
        simp only [Bool.and_eq_true, beq_iff_eq, sameC_iff] at h
        obtain ⟨h0, h1⟩ := h
        rw [hw] at h0 h1
        split at h0
        · simp at h0
        · rename_i hq1
          rw [if_neg hq1] at h1
          split at h0
          · rename_i hq2
            rw [if_pos hq2] at h1
            unfold laterC at h0 h1
            split at h0
            · simp at h0
            · rename_i hq3
              rw [if_neg hq3] at h1
              exact hfe (congrArg ConfV.epoch h1).symm
          · simp at h0
end Go.Proofs.YtomfmejodmfioaaGreat
