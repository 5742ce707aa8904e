/- The master, in plain Lean: what its functions come to. What a master comes to, in plain Lean: the chain that it wants. -/
import Derived.Test.YtomfmejodmfioaaGreatCfgSteps
import Derived.Test.YtomfmejodmfioaaGreatStWrite
namespace Go.Proofs.YtomfmejodmfioaaGreat
set_option linter.unusedVariables false

/-- What a member said last. -/
structure BeatV where
  time : Int
  epoch : Int
  synced : Bool
  echo : Int
deriving DecidableEq
def beatZero : BeatV := ⟨0, 0, false, 0⟩
/-- A setup. -/
structure SetV where
  nodes : Int
  clients : Int
  timers : Int
  lease : Int
  suspect : Int
  skew : Int
  base : Int
/-- A master. -/
structure MstV where
  s : SetV
  cf : ConfV
  til : Int → Int → Int
  held : Int
  beats : Int → Int → Option BeatV
  lives : List Int
  sat : Int → Int → Bool
  since : Int → Int → Option Int
/-- One place turned. -/
def updM {α : Type} (f : Int → Int → α) (x y : Int) (v : α) : Int → Int → α := fun x' y' => if x' = x ∧ y' = y then v else f x' y'
theorem updM_same {α : Type} (f : Int → Int → α) (x y : Int) (v : α) : updM f x y v x y = v := by simp [updM]
theorem updM_other {α : Type} (f : Int → Int → α) {x y x' y' : Int} (v : α) (h : ¬ (x' = x ∧ y' = y)) : updM f x y v x' y' = f x' y' := by simp [updM, h]
theorem updM_updM {α : Type} (f : Int → Int → α) (x y : Int) (u v : α) : updM (updM f x y u) x y v = updM f x y v := by
  funext x' y'
  by_cases h : x' = x ∧ y' = y <;> simp [updM, h]
theorem updM_self {α : Type} (f : Int → Int → α) (x y : Int) : updM f x y (f x y) = f := by
  funext x' y'
  by_cases h : x' = x ∧ y' = y
  · obtain ⟨rfl, rfl⟩ := h; exact updM_same _ _ _ _
  · exact updM_other _ _ h
/-- May a setup be? -/
def mayS (s : SetV) : Bool :=
  decide (1 ≤ s.nodes ∧ s.nodes ≤ 8 ∧ 0 ≤ s.clients ∧ s.clients ≤ 4 ∧ 1 ≤ s.timers ∧ s.timers ≤ 16 ∧ 1 ≤ s.lease ∧ s.lease ≤ 1000 ∧ 1 ≤ s.suspect ∧ s.suspect ≤ 1000 ∧ 0 ≤ s.skew ∧ s.skew ≤ 100 ∧ 0 ≤ s.base ∧ s.base ≤ 1099511627776)
def MstV.life (V : MstV) (n : Int) : Int := (V.lives[n.toNat]?).getD 0
def MstV.beat (V : MstV) (n l : Int) : BeatV := (V.beats n l).getD beatZero
def SeatV.mem (s : SeatV) : Int × Int := (s.node, s.life)
def deadM (V : MstV) (n l : Int) : Bool := decide (l < V.life n)
def suspM (V : MstV) (n l now : Int) : Bool := decide (V.s.suspect < now - (V.beat n l).time)
/-- late: the list, who is in the way, whether a leader was seen. -/
def lateStep (V : MstV) (now : Int) (st : List (Int × Int) × List (Int × Int) × Bool) (s : SeatV) : List (Int × Int) × List (Int × Int) × Bool :=
  if (deadM V s.node s.life || suspM V s.node s.life now) = true then (st.1 ++ [s.mem], st.2.1, st.2.2)
  else if (s.sync && !st.2.2) = true then (st.1 ++ st.2.1, st.2.1, true)
  else if st.2.2 = false then (st.1, st.2.1 ++ [s.mem], st.2.2)
  else st
def lateF (V : MstV) (now : Int) (L : List SeatV) : List (Int × Int) × List (Int × Int) × Bool := L.foldl (lateStep V now) ([], [], false)
def lateM (V : MstV) (now : Int) : List (Int × Int) := (lateF V now V.cf.chain).1
def freeB (V : MstV) (n l now : Int) : Bool := decide (max (V.til n l) V.held ≤ now)
def freeStep (V : MstV) (now : Int) (st : List (Int × Int) × Int) (m : Int × Int) : List (Int × Int) × Int :=
  if (deadM V m.1 m.2 || !freeB V m.1 m.2 now) = true then st else (st.1 ++ [m], max st.2 ((V.since m.1 m.2).getD now))
def freeF (V : MstV) (now : Int) (L : List (Int × Int)) : List (Int × Int) × Int := L.foldl (freeStep V now) ([], 0)
def freeM (V : MstV) (now : Int) : List (Int × Int) × Int := freeF V now (lateM V now)
/-- note: over who is free. -/
def noteF (old : Int → Int → Option Int) (now : Int) (L : List (Int × Int)) : Int → Int → Option Int := L.foldl (fun f m => updM f m.1 m.2 (some ((old m.1 m.2).getD now))) (fun _ _ => none)
def noteM (V : MstV) (now : Int) : MstV := { V with since := noteF V.since now (freeM V now).1 }
def witS (V : MstV) (late : List (Int × Int)) (since : Int) (s : SeatV) : Bool := s.sync && (!late.contains s.mem && decide (since + V.s.lease ≤ (V.beat s.node s.life).echo))
def witnessM (V : MstV) (now since : Int) : Bool := V.cf.chain.any (witS V (lateM V now) since)
def deadL (V : MstV) (L : List SeatV) : List (Int × Int) := (L.filter fun s => deadM V s.node s.life).map SeatV.mem
def goneM (V : MstV) (now : Int) : List (Int × Int) :=
  deadL V V.cf.chain ++ (if (decide (0 < (freeM V now).1.length) && witnessM V now (freeM V now).2) = true then (freeM V now).1 else [])
def okC (r : ConfV × Int) : ConfV × Bool := (r.1, r.2 == 0)
def shrinkM (V : MstV) (now : Int) : ConfV × Bool := okC (withoutC V.cf (goneM V now))
def raiseS (V : MstV) (s : SeatV) : Bool := !s.sync && ((V.beat s.node s.life).synced && (V.beat s.node s.life).epoch == V.cf.epoch)
def raiseM (V : MstV) : ConfV × Bool := match V.cf.chain.find? (raiseS V) with | some s => okC (syncedC V.cf s.node s.life) | none => (⟨0, []⟩, false)
def growAt (V : MstV) (now : Int) (n : Nat) : Option ConfV :=
  match V.beats n (V.life n) with
  | none => none
  | some b => if (V.sat n (V.life n) || decide (V.s.suspect < now - b.time)) = true then none else if (joinC V.cf n (V.life n)).2 = 0 then some (joinC V.cf n (V.life n)).1 else none
def growM (V : MstV) (now : Int) : ConfV × Bool := match (List.range V.s.nodes.toNat).findSome? (growAt V now) with | some c => (c, true) | none => (⟨0, []⟩, false)
def wantsM (V : MstV) (now : Int) : ConfV × Bool :=
  if (shrinkM V now).2 = true then ((shrinkM V now).1, true) else if (raiseM V).2 = true then ((raiseM V).1, true) else growM V now
/-- Who sits is noted. -/
def seatF (f : Int → Int → Bool) (L : List SeatV) : Int → Int → Bool := L.foldl (fun f s => updM f s.node s.life true) f
def big : Int := 1099511627776
/-- turn: with the log's bytes. -/
def turnM (V : MstV) (l : List UInt8) (now : Int) : MstV × List UInt8 :=
  if (wantsM (noteM V now) now).2 = true then
    (if (writeS l false (encConf (wantsM (noteM V now) now).1) big).2 = 0 then
      ({ noteM V now with cf := (wantsM (noteM V now) now).1, sat := seatF V.sat (wantsM (noteM V now) now).1.chain }, (writeS l false (encConf (wantsM (noteM V now) now).1) big).1)
    else (noteM V now, l))
  else (noteM V now, l)
/-- announce: leases granted; who is told, and until when. -/
def grantS (V : MstV) (late : List (Int × Int)) (now : Int) (f : Int → Int → Int) (s : SeatV) : Int → Int → Int :=
  if late.contains s.mem = true then f else if f s.node s.life < now + V.s.lease then updM f s.node s.life (now + V.s.lease) else f
def tellS (V : MstV) (late : List (Int × Int)) (now : Int) (s : SeatV) : Int × Int := (s.node, if late.contains s.mem = true then 0 else now + V.s.lease)
def annM (V : MstV) (now : Int) : MstV := { V with til := V.cf.chain.foldl (grantS V (lateM V now) now) V.til }
def annL (V : MstV) (now : Int) : List (Int × Int) := V.cf.chain.map (tellS V (lateM V now) now)
def tickM (V : MstV) (l : List UInt8) (now : Int) : MstV × List UInt8 := (annM (turnM V l now).1 now, (turnM V l now).2)
def heardB (V : MstV) (n l : Int) : Bool := decide (0 ≤ n ∧ n < V.s.nodes ∧ max (V.life n) 1 ≤ l)
def hearM (V : MstV) (n l : Int) (b : BeatV) : MstV := { V with lives := V.lives.set n.toNat l, beats := updM V.beats n l (some b) }
def beatM (V : MstV) (l : List UInt8) (n lf : Int) (b : BeatV) (now : Int) : MstV × List UInt8 := if heardB V n lf = true then turnM (hearM V n lf b) l now else (V, l)
def beatL (V : MstV) (l : List UInt8) (n lf : Int) (b : BeatV) (now : Int) : List (Int × Int) :=
  if heardB V n lf = true then (if 0 ≤ placeC (beatM V l n lf b now).1.cf.chain n lf then [] else [(n, 0)]) else []
def longAgo : Int := -2199023255552
def suspS (node : Int) (f : Int → Int → Option BeatV) (s : SeatV) : Int → Int → Option BeatV :=
  if s.node = node then updM f s.node s.life (some { (f s.node s.life).getD beatZero with time := longAgo }) else f
def suspectM (V : MstV) (node : Int) : MstV := { V with beats := V.cf.chain.foldl (suspS node) V.beats }
/-- One that begins with a chain. -/
def beginB (now : Int) (L : List SeatV) : Int → Int → Option BeatV := L.foldl (fun f s => updM f s.node s.life (some { beatZero with time := now })) (fun _ _ => none)
def beginL (L : List SeatV) : List Int := L.foldl (fun f s => f.set s.node.toNat s.life) (List.replicate 8 0)
def beginM (s : SetV) (c : ConfV) (now : Int) : MstV :=
  { s := s, cf := c, til := fun _ _ => 0, held := 0, beats := beginB now c.chain, lives := beginL c.chain, sat := seatF (fun _ _ => false) c.chain, since := fun _ _ => none }
def recoverM (s : SetV) (cs : List ConfV) (c : ConfV) (now : Int) : MstV :=
  { beginM s c now with sat := cs.foldl (fun f d => seatF f d.chain) (beginM s c now).sat, held := max 0 (now + s.lease) }
/-- What a fall leaves of the log's bytes, torn or not. -/
def fallL (V : MstV) (l : List UInt8) (keep now : Int) : List UInt8 := if (wantsM V now).2 = true then (writeS l false (encConf (wantsM V now).1) keep).1 else l

/-! ### small facts -/
theorem hearM_cf (V : MstV) (n l : Int) (b : BeatV) : (hearM V n l b).cf = V.cf := rfl
theorem late_note (V : MstV) (now : Int) : lateM (noteM V now) now = lateM V now := rfl
theorem lateF_snoc (V : MstV) (now : Int) {L : List SeatV} {k : Nat} {s : SeatV} (h : L[k]? = some s) : lateF V now (L.take (k + 1)) = lateStep V now (lateF V now (L.take k)) s := by
  unfold lateF
  rw [List.take_add_one, h]
  simp
theorem lateStep_a {V : MstV} {now : Int} {st : List (Int × Int) × List (Int × Int) × Bool} {s : SeatV} (h : (deadM V s.node s.life || suspM V s.node s.life now) = true) : lateStep V now st s = (st.1 ++ [s.mem], st.2.1, st.2.2) := if_pos h
theorem lateStep_b {V : MstV} {now : Int} {st : List (Int × Int) × List (Int × Int) × Bool} {s : SeatV} (h : (deadM V s.node s.life || suspM V s.node s.life now) = false) (h1 : s.sync = true) (h2 : st.2.2 = false) : lateStep V now st s = (st.1 ++ st.2.1, st.2.1, true) := by
  simp [lateStep, h, h1, h2]
theorem lateStep_c {V : MstV} {now : Int} {st : List (Int × Int) × List (Int × Int) × Bool} {s : SeatV} (h : (deadM V s.node s.life || suspM V s.node s.life now) = false) (h1 : s.sync = false) (h2 : st.2.2 = false) : lateStep V now st s = (st.1, st.2.1 ++ [s.mem], st.2.2) := by
  simp [lateStep, h, h1, h2]
theorem lateStep_d {V : MstV} {now : Int} {st : List (Int × Int) × List (Int × Int) × Bool} {s : SeatV} (h : (deadM V s.node s.life || suspM V s.node s.life now) = false) (h2 : st.2.2 = true) : lateStep V now st s = st := by
  simp [lateStep, h, h2]
theorem late_fold (V : MstV) (now : Int) : ∀ (L : List SeatV) (st : List (Int × Int) × List (Int × Int) × Bool), st.2.1.length + L.length ≤ 8 →
    (L.foldl (lateStep V now) st).1.length ≤ st.1.length + 9 * L.length ∧ (L.foldl (lateStep V now) st).2.1.length ≤ st.2.1.length + L.length
  | [], st, h => by simp
  | s :: L, st, h => by
    simp only [List.length_cons] at h
    have key : (lateStep V now st s).1.length ≤ st.1.length + 9 ∧ (lateStep V now st s).2.1.length ≤ st.2.1.length + 1 := by
      unfold lateStep
      split
      · simp
      · split
        · simp; omega
        · split <;> simp
    have ih := late_fold V now L (lateStep V now st s) (by omega)
    rw [List.foldl_cons, List.length_cons]
    omega
theorem lateF_len (V : MstV) (now : Int) {L : List SeatV} (h : L.length ≤ 8) : (lateF V now L).1.length ≤ 72 ∧ (lateF V now L).2.1.length ≤ 8 := by
  have := late_fold V now L ([], [], false) (by simpa using h)
  unfold lateF
  simp only [List.length_nil] at this
  omega
theorem late_fold_mem (V : MstV) (now : Int) (C : List SeatV) : ∀ (L : List SeatV) (st : List (Int × Int) × List (Int × Int) × Bool), (∀ s ∈ L, s ∈ C) → (∀ m ∈ st.1, ∃ s ∈ C, m = s.mem) → (∀ m ∈ st.2.1, ∃ s ∈ C, m = s.mem) →
    (∀ m ∈ (L.foldl (lateStep V now) st).1, ∃ s ∈ C, m = s.mem)
  | [], st, h, h1, h2 => h1
  | s :: L, st, h, h1, h2 => by
    have hs := h s (by simp)
    have k1 : ∀ m ∈ (lateStep V now st s).1, ∃ s ∈ C, m = s.mem := by
      intro m hm
      unfold lateStep at hm
      split at hm
      · rcases List.mem_append.1 hm with hm | hm
        · exact h1 m hm
        · exact ⟨s, hs, List.mem_singleton.1 hm⟩
      · split at hm
        · rcases List.mem_append.1 hm with hm | hm
          · exact h1 m hm
          · exact h2 m hm
        · split at hm
          · exact h1 m hm
          · exact h1 m hm
    have k2 : ∀ m ∈ (lateStep V now st s).2.1, ∃ s ∈ C, m = s.mem := by
      intro m hm
      unfold lateStep at hm
      split at hm
      · exact h2 m hm
      · split at hm
        · exact h2 m hm
        · split at hm
          · rcases List.mem_append.1 hm with hm | hm
            · exact h2 m hm
            · exact ⟨s, hs, List.mem_singleton.1 hm⟩
          · exact h2 m hm
    exact late_fold_mem V now C L _ (fun u hu => h u (List.mem_cons_of_mem _ hu)) k1 k2
/-- Who is late sits. -/
theorem lateM_mem {V : MstV} {now : Int} {m : Int × Int} (h : m ∈ lateM V now) : ∃ s ∈ V.cf.chain, m = s.mem := late_fold_mem V now V.cf.chain V.cf.chain _ (fun _ h => h) (by simp) (by simp) m h
theorem freeF_snoc (V : MstV) (now : Int) {L : List (Int × Int)} {k : Nat} {m : Int × Int} (h : L[k]? = some m) : freeF V now (L.take (k + 1)) = freeStep V now (freeF V now (L.take k)) m := by
  unfold freeF
  rw [List.take_add_one, h]
  simp
theorem freeStep_no {V : MstV} {now : Int} {st : List (Int × Int) × Int} {m : Int × Int} (h : (deadM V m.1 m.2 || !freeB V m.1 m.2 now) = true) : freeStep V now st m = st := if_pos h
theorem freeStep_yes {V : MstV} {now : Int} {st : List (Int × Int) × Int} {m : Int × Int} (h : deadM V m.1 m.2 = false) (h2 : freeB V m.1 m.2 now = true) : freeStep V now st m = (st.1 ++ [m], max st.2 ((V.since m.1 m.2).getD now)) := by
  simp [freeStep, h, h2]
theorem free_fold (V : MstV) (now : Int) : ∀ (L : List (Int × Int)) (st : List (Int × Int) × Int), (L.foldl (freeStep V now) st).1.length ≤ st.1.length + L.length
  | [], st => by simp
  | m :: L, st => by
    have key : (freeStep V now st m).1.length ≤ st.1.length + 1 := by
      unfold freeStep
      split <;> simp
    have ih := free_fold V now L (freeStep V now st m)
    rw [List.foldl_cons, List.length_cons]
    omega
theorem freeF_len (V : MstV) (now : Int) (L : List (Int × Int)) : (freeF V now L).1.length ≤ L.length := by
  have := free_fold V now L ([], 0)
  unfold freeF
  simpa using this
theorem free_fold_mem (V : MstV) (now : Int) : ∀ (L : List (Int × Int)) (st : List (Int × Int) × Int) (m : Int × Int), m ∈ (L.foldl (freeStep V now) st).1 ↔ m ∈ st.1 ∨ (m ∈ L ∧ deadM V m.1 m.2 = false ∧ freeB V m.1 m.2 now = true)
  | [], st, m => by simp
  | u :: L, st, m => by
    rw [List.foldl_cons, free_fold_mem V now L]
    unfold freeStep
    split
    · rename_i h
      constructor
      · rintro (h1 | ⟨h1, h2⟩)
        · exact .inl h1
        · exact .inr ⟨List.mem_cons_of_mem _ h1, h2⟩
      · rintro (h1 | ⟨h1, h2, h3⟩)
        · exact .inl h1
        · rcases List.mem_cons.1 h1 with rfl | h1
          · simp [h2, h3] at h
          · exact .inr ⟨h1, h2, h3⟩
    · rename_i h
      simp only [Bool.or_eq_true, Bool.not_eq_true', not_or, Bool.not_eq_true, Bool.not_eq_false] at h
      constructor
      · rintro (h1 | ⟨h1, h2⟩)
        · rcases List.mem_append.1 h1 with h1 | h1
          · exact .inl h1
          · rw [List.mem_singleton.1 h1]
            exact .inr ⟨List.mem_cons_self, h.1, h.2⟩
        · exact .inr ⟨List.mem_cons_of_mem _ h1, h2⟩
      · rintro (h1 | ⟨h1, h2, h3⟩)
        · exact .inl (List.mem_append_left _ h1)
        · rcases List.mem_cons.1 h1 with rfl | h1
          · exact .inl (List.mem_append_right _ (by simp))
          · exact .inr ⟨h1, h2, h3⟩
/-- Who is free to go. -/
theorem freeM_mem {V : MstV} {now : Int} {m : Int × Int} : m ∈ (freeM V now).1 ↔ m ∈ lateM V now ∧ deadM V m.1 m.2 = false ∧ freeB V m.1 m.2 now = true := by
  unfold freeM freeF
  rw [free_fold_mem]
  simp
theorem lateM_len {V : MstV} {now : Int} (h : V.cf.chain.length ≤ 8) : (lateM V now).length ≤ 72 := (lateF_len V now h).1
theorem deadL_snoc_yes (V : MstV) {L : List SeatV} {k : Nat} {s : SeatV} (h : L[k]? = some s) (hd : deadM V s.node s.life = true) : deadL V (L.take (k + 1)) = deadL V (L.take k) ++ [s.mem] := by
  unfold deadL
  rw [List.take_add_one, h]
  simp [hd]
theorem deadL_snoc_no (V : MstV) {L : List SeatV} {k : Nat} {s : SeatV} (h : L[k]? = some s) (hd : deadM V s.node s.life = false) : deadL V (L.take (k + 1)) = deadL V (L.take k) := by
  unfold deadL
  rw [List.take_add_one, h]
  simp [hd]
theorem deadL_len (V : MstV) (L : List SeatV) : (deadL V L).length ≤ L.length := by
  unfold deadL
  rw [List.length_map]
  exact List.length_filter_le _ _
theorem seatF_snoc (f : Int → Int → Bool) {L : List SeatV} {k : Nat} {s : SeatV} (h : L[k]? = some s) : seatF f (L.take (k + 1)) = updM (seatF f (L.take k)) s.node s.life true := by
  unfold seatF
  rw [List.take_add_one, h]
  simp
theorem noteF_snoc (old : Int → Int → Option Int) (now : Int) {L : List (Int × Int)} {k : Nat} {m : Int × Int} (h : L[k]? = some m) : noteF old now (L.take (k + 1)) = updM (noteF old now (L.take k)) m.1 m.2 (some ((old m.1 m.2).getD now)) := by
  unfold noteF
  rw [List.take_add_one, h]
  simp
theorem grant_snoc (V : MstV) (late : List (Int × Int)) (now : Int) (f : Int → Int → Int) {L : List SeatV} {k : Nat} {s : SeatV} (h : L[k]? = some s) : (L.take (k + 1)).foldl (grantS V late now) f = grantS V late now ((L.take k).foldl (grantS V late now) f) s := by
  rw [List.take_add_one, h]
  simp
theorem tells_snoc (V : MstV) (late : List (Int × Int)) (now : Int) {L : List SeatV} {k : Nat} {s : SeatV} (h : L[k]? = some s) : (L.take (k + 1)).map (tellS V late now) = (L.take k).map (tellS V late now) ++ [tellS V late now s] := by
  rw [List.take_add_one, h]
  simp
theorem susp_snoc (node : Int) (f : Int → Int → Option BeatV) {L : List SeatV} {k : Nat} {s : SeatV} (h : L[k]? = some s) : (L.take (k + 1)).foldl (suspS node) f = suspS node ((L.take k).foldl (suspS node) f) s := by
  rw [List.take_add_one, h]
  simp
end Go.Proofs.YtomfmejodmfioaaGreat
namespace Go.Proofs.YtomfmejodmfioaaGreat
set_option linter.unusedVariables false

theorem ok_zero {r : ConfV × Int} {c : ConfV} (h : okC r = (c, true)) : r = (c, 0) := by
  unfold okC at h
  simp only [Prod.mk.injEq, beq_iff_eq] at h
  exact Prod.ext h.1 h.2
/-- The chain that is wanted is made in one of three ways. -/
theorem wants_cases {V : MstV} {now : Int} {c : ConfV} (h : wantsM V now = (c, true)) :
    withoutC V.cf (goneM V now) = (c, 0) ∨ (∃ s ∈ V.cf.chain, syncedC V.cf s.node s.life = (c, 0)) ∨ (∃ n : Nat, n < V.s.nodes.toNat ∧ joinC V.cf n (V.life n) = (c, 0) ∧ V.sat n (V.life n) = false) := by
  unfold wantsM at h
  split at h
  · rename_i h1
    left
    refine ok_zero ?_
    show shrinkM V now = _
    simp only [Prod.mk.injEq, and_true] at h
    rw [← h, ← h1]
  · split at h
    · rename_i h1
      right; left
      simp only [Prod.mk.injEq, and_true] at h
      have h2 : raiseM V = (c, true) := by rw [← h, ← h1]
      unfold raiseM at h2
      split at h2
      · rename_i s hs
        exact ⟨s, List.mem_of_find?_eq_some hs, ok_zero h2⟩
      · simp at h2
    · right; right
      unfold growM at h
      split at h
      · rename_i d hd
        simp only [Prod.mk.injEq, and_true] at h
        subst h
        obtain ⟨n, hn, hg⟩ := List.exists_of_findSome?_eq_some hd
        refine ⟨n, List.mem_range.1 hn, ?_⟩
        unfold growAt at hg
        split at hg
        · cases hg
        · split at hg
          · cases hg
          · rename_i hst
            split at hg
            · rename_i hj
              simp only [Option.some.injEq] at hg
              simp only [Bool.or_eq_true, not_or, Bool.not_eq_true] at hst
              exact ⟨Prod.ext hg hj, hst.1⟩
            · cases hg
      · simp at h
theorem wants_right {V : MstV} {now : Int} {c : ConfV} (h : wantsM V now = (c, true)) : rightC c = true := by
  rcases wants_cases h with h | ⟨s, _, h⟩ | ⟨n, _, h, _⟩
  · exact without_right (e := V.cf.epoch) (L := V.cf.chain) h
  · exact synced_right (e := V.cf.epoch) (L := V.cf.chain) h
  · exact join_right (e := V.cf.epoch) (L := V.cf.chain) h
theorem wants_follows {V : MstV} {now : Int} {c : ConfV} (h : wantsM V now = (c, true)) : followsC V.cf c = true := by
  rcases wants_cases h with h | ⟨s, _, h⟩ | ⟨n, _, h, _⟩
  · exact follows_without h
  · exact follows_synced h
  · exact follows_join h
/-- It is another chain. -/
theorem wants_other {V : MstV} {now : Int} {c : ConfV} (h : wantsM V now = (c, true)) : c ≠ V.cf := by
  rcases wants_cases h with h | ⟨s, _, h⟩ | ⟨n, _, h, _⟩
  · intro e
    have := without_epoch h
    rw [e] at this
    omega
  · intro e
    obtain ⟨_, k, hk, _, hd⟩ := synced_facts (e := V.cf.epoch) (L := V.cf.chain) h
    rw [e] at hd
    have h1 := congrArg ConfV.chain hd
    simp only at h1
    have hkl := (List.getElem?_eq_some_iff.1 hk).1
    have h2 : V.cf.chain[k]? = (V.cf.chain.set k ⟨s.node, s.life, true⟩)[k]? := by rw [← h1]
    rw [hk, List.getElem?_set_self hkl] at h2
    simp at h2
  · intro e
    have := join_epoch h
    rw [e] at this
    omega
/-- What is noted doesn't change what is wanted. -/
theorem note_since_get (f : Int → Int → Option Int) (now : Int) : ∀ (L : List (Int × Int)) (g : Int → Int → Option Int) (m : Int × Int), m ∈ L → ((L.foldl (fun g m => updM g m.1 m.2 (some ((f m.1 m.2).getD now))) g) m.1 m.2) = some ((f m.1 m.2).getD now)
  | [], g, m, h => by simp at h
  | u :: L, g, m, h => by
    rw [List.foldl_cons]
    by_cases hm : m ∈ L
    · exact note_since_get f now L _ m hm
    · rcases List.mem_cons.1 h with rfl | h
      · have key : ∀ (L : List (Int × Int)) (g : Int → Int → Option Int), m ∉ L → (L.foldl (fun g m => updM g m.1 m.2 (some ((f m.1 m.2).getD now))) g) m.1 m.2 = g m.1 m.2 := by
          intro L
          induction L with
          | nil => intro g _; rfl
          | cons v L ih =>
            intro g hn
            rw [List.foldl_cons, ih _ (fun h => hn (List.mem_cons_of_mem _ h)), updM_other]
            rintro ⟨h1, h2⟩
            exact hn (by rw [show m = v from Prod.ext h1 h2]; exact List.mem_cons_self)
        rw [key L _ hm, updM_same]
      · exact absurd h hm
theorem freeF_same {V W : MstV} {now : Int} (hl : W.lives = V.lives) (ht : W.til = V.til) (hh : W.held = V.held) : ∀ (L : List (Int × Int)) (st : List (Int × Int) × Int),
    (∀ m ∈ L, deadM V m.1 m.2 = false → freeB V m.1 m.2 now = true → (W.since m.1 m.2).getD now = (V.since m.1 m.2).getD now) → L.foldl (freeStep W now) st = L.foldl (freeStep V now) st
  | [], st, h => rfl
  | m :: L, st, h => by
    rw [List.foldl_cons, List.foldl_cons]
    have hd : deadM W m.1 m.2 = deadM V m.1 m.2 := by unfold deadM MstV.life; rw [hl]
    have hf : freeB W m.1 m.2 now = freeB V m.1 m.2 now := by unfold freeB; rw [ht, hh]
    have e : freeStep W now st m = freeStep V now st m := by
      unfold freeStep
      rw [hd, hf]
      split
      · rfl
      · rename_i hn
        simp only [Bool.or_eq_true, Bool.not_eq_true', not_or, Bool.not_eq_true, Bool.not_eq_false] at hn
        rw [h m List.mem_cons_self hn.1 hn.2]
    rw [e]
    exact freeF_same hl ht hh L _ (fun u hu => h u (List.mem_cons_of_mem _ hu))
theorem free_note (V : MstV) (now : Int) : freeM (noteM V now) now = freeM V now := by
  unfold freeM
  rw [late_note]
  refine freeF_same (V := V) (W := noteM V now) rfl rfl rfl _ _ fun m hm h1 h2 => ?_
  have : (noteM V now).since m.1 m.2 = some ((V.since m.1 m.2).getD now) := note_since_get V.since now _ _ m (freeM_mem.2 ⟨hm, h1, h2⟩)
  rw [this]
  rfl
theorem wants_note (V : MstV) (now : Int) : wantsM (noteM V now) now = wantsM V now := by
  have h1 : goneM (noteM V now) now = goneM V now := by
    unfold goneM
    rw [free_note]
    rfl
  have h2 : shrinkM (noteM V now) now = shrinkM V now := by
    unfold shrinkM
    rw [h1]
    rfl
  unfold wantsM
  rw [h2]
  rfl
end Go.Proofs.YtomfmejodmfioaaGreat
