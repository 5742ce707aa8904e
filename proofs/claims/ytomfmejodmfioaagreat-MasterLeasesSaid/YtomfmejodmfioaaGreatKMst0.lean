/- The master: how it lies in memory; what is left of it when something turns. The master: who is dead, who is suspect. -/
import Derived.Test.YtomfmejodmfioaaGreatMstLease
import Derived.Test.YtomfmejodmfioaaGreatWtk
import Derived.Test.YtomfmejodmfioaaGreatKMstP
import Derived.Test.YtomfmejodmfioaaGreatStCalls
namespace Go.Proofs.YtomfmejodmfioaaGreat
open Go.RowKit Go.Maps Go.ChangeShapes Go.WideShapes Go.Joins
set_option linter.unusedVariables false

/-! ### blocks of a kind -/
def IsCells (w : World) (k : Nat) (T : TypeId) : Prop := ∃ cs fr, w.heap[k]? = some (.cells cs T fr)
def IsMapB (w : World) (k : Nat) : Prop := ∃ es c, w.heap[k]? = some (.map es c)
theorem cells_ne {w : World} {j k : Nat} {T U : TypeId} (h : IsCells w j T) (h' : IsCells w k U) (hne : T ≠ U) : j ≠ k := by
  rintro rfl
  obtain ⟨cs, fr, h1⟩ := h
  obtain ⟨cs', fr', h2⟩ := h'
  rw [h1] at h2
  cases h2
  exact hne rfl
theorem cells_ne_map {w : World} {j k : Nat} {T : TypeId} (h : IsCells w j T) (h' : IsMapB w k) : j ≠ k := by
  rintro rfl
  obtain ⟨cs, fr, h1⟩ := h
  obtain ⟨es, c, h2⟩ := h'
  rw [h1] at h2
  cases h2
theorem BlkAt.kind {w : World} {b : Nat} {T : TypeId} {cs : List Value} (h : BlkAt w b T cs) : IsCells w b T := ⟨_, _, h⟩
theorem IsCells.lt {w : World} {b : Nat} {T : TypeId} (h : IsCells w b T) : b < w.heap.size := by
  obtain ⟨_, _, h⟩ := h
  exact (Array.getElem?_eq_some_iff.1 h).1
theorem IsMapB.lt {w : World} {b : Nat} (h : IsMapB w b) : b < w.heap.size := by
  obtain ⟨_, _, h⟩ := h
  exact (Array.getElem?_eq_some_iff.1 h).1

/-- All but the blocks bs, and bytes from block B on, is as it was. -/
structure FK (bs : List Nat) (B : Nat) (w w' : World) : Prop where
  os : w'.os = w.os
  tape : w'.tape = w.tape
  output : w'.output = w.output
  size : w.heap.size ≤ w'.heap.size
  block : ∀ k, k < w.heap.size → k ∉ bs → ¬ (B ≤ k ∧ IsCells w k 5) → w'.heap[k]? = w.heap[k]?
/-- New blocks alone come in; the second of seven (the log) stays. -/
def FNew (w : World) (bs bs' : List Nat) : Prop := (∀ k ∈ bs', k ∈ bs ∨ w.heap.size ≤ k) ∧ (bs.length = 7 → bs'.length = 7 ∧ bs'[1]? = bs[1]?)
theorem FNew.refl (w : World) (bs : List Nat) : FNew w bs bs := ⟨fun k hk => .inl hk, fun h => ⟨h, rfl⟩⟩
theorem FNew.trans {w w' : World} {a b c : List Nat} (h : FNew w a b) (hs : w.heap.size ≤ w'.heap.size) (g : FNew w' b c) : FNew w a c := ⟨fun k hk => by
  rcases g.1 k hk with h1 | h1
  · exact h.1 k h1
  · exact .inr (by omega), fun hl => ⟨(g.2 (h.2 hl).1).1, (g.2 (h.2 hl).1).2.trans (h.2 hl).2⟩⟩
theorem FK.refl (bs : List Nat) (B : Nat) (w : World) : FK bs B w w := ⟨rfl, rfl, rfl, Nat.le_refl _, fun _ _ _ _ => rfl⟩
theorem FK.of_below {bs : List Nat} {B : Nat} {w w' : World} (h : Below w.heap.size w w') : FK bs B w w' := ⟨h.os, h.tape, h.output, h.size, fun k hk _ _ => h.block k hk⟩
theorem FK.of_grown {bs : List Nat} {B : Nat} {w w' : World} {j : Nat} (h : w.grownBy w' (some j)) (hj : j ∈ bs) : FK bs B w w' := ⟨h.os, h.tape, h.output, h.size, fun k hk hn _ => h.block k hk (by
  intro e
  cases e
  exact hn hj)⟩
theorem FK.trans {bs bs' : List Nat} {B : Nat} {w w' w'' : World} (h : FK bs B w w') (hn : FNew w bs bs') (g : FK bs' B w' w'') : FK bs B w w'' :=
  ⟨g.os.trans h.os, g.tape.trans h.tape, g.output.trans h.output, Nat.le_trans h.size g.size, fun k hk h1 h2 => by
    have e := h.block k hk h1 h2
    rw [← e]
    refine g.block k (Nat.lt_of_lt_of_le hk h.size) (fun hm => ?_) (fun ⟨hB, cs, fr, hc⟩ => h2 ⟨hB, cs, fr, by rw [← e]; exact hc⟩)
    rcases hn.1 k hm with h3 | h3
    · exact h1 h3
    · omega⟩
theorem FK.same {bs : List Nat} {B : Nat} {w w' w'' : World} (h : FK bs B w w') (g : FK bs B w' w'') : FK bs B w w'' := h.trans (FNew.refl _ _) g
theorem FK.to_below {bs : List Nat} {B : Nat} {w0 w w' : World} (h : FK bs B w w') (hb : Below w0.heap.size w0 w) (hbs : ∀ k ∈ bs, w0.heap.size ≤ k) (hB : w0.heap.size ≤ B) : Below w0.heap.size w0 w' :=
  ⟨h.os.trans hb.os, h.tape.trans hb.tape, h.output.trans hb.output, Nat.le_trans hb.size h.size, fun k hk => (h.block k (Nat.lt_of_lt_of_le hk hb.size) (fun hm => by have := hbs k hm; omega) (fun ⟨h1, _⟩ => by omega)).trans (hb.block k hk)⟩
theorem FK.at {bs : List Nat} {B : Nat} {w w' : World} (h : FK bs B w w') {k : Nat} {T : TypeId} (hk : IsCells w k T) (hn : k ∉ bs) (hT : T ≠ 5) : w'.heap[k]? = w.heap[k]? :=
  h.block k hk.lt hn (fun ⟨_, h2⟩ => cells_ne hk h2 hT rfl)
theorem FK.atMap {bs : List Nat} {B : Nat} {w w' : World} (h : FK bs B w w') {k : Nat} (hk : IsMapB w k) (hn : k ∉ bs) : w'.heap[k]? = w.heap[k]? :=
  h.block k hk.lt hn (fun ⟨_, h2⟩ => cells_ne_map h2 hk rfl)

/-! ### values -/
def beatV (b : BeatV) : Value := .agg #[.int .i64 b.time, .int .i64 b.epoch, .bool b.synced, .int .i64 b.echo]
def beatsV (f : Int → Int → Option BeatV) : Int → Int → Option Value := fun x y => (f x y).map beatV
def satV (f : Int → Int → Bool) : Int → Int → Option Value := fun x y => if f x y = true then some (.bool true) else none
def sinceV (f : Int → Int → Option Int) : Int → Int → Option Value := fun x y => (f x y).map (.int .i64 ·)
theorem beatsV_upd (f : Int → Int → Option BeatV) (x y : Int) (b : BeatV) : updV (beatsV f) x y (beatV b) = beatsV (updM f x y (some b)) := by
  funext x' y'
  by_cases e : x' = x ∧ y' = y
  · simp [updV, beatsV, updM, e]
  · simp [updV, beatsV, updM, e]
theorem satV_upd (f : Int → Int → Bool) (x y : Int) : updV (satV f) x y (.bool true) = satV (updM f x y true) := by
  funext x' y'
  by_cases e : x' = x ∧ y' = y
  · simp [updV, satV, updM, e]
  · simp [updV, satV, updM, e]
theorem sinceV_upd (f : Int → Int → Option Int) (x y v : Int) : updV (sinceV f) x y (.int .i64 v) = sinceV (updM f x y (some v)) := by
  funext x' y'
  by_cases e : x' = x ∧ y' = y
  · simp [updV, sinceV, updM, e]
  · simp [updV, sinceV, updM, e]
theorem beatsV_get (f : Int → Int → Option BeatV) (x y : Int) : (beatsV f x y).getD (beatV beatZero) = beatV ((f x y).getD beatZero) := by
  unfold beatsV
  cases f x y <;> rfl
theorem satV_get (f : Int → Int → Bool) (x y : Int) : (satV f x y).getD (.bool false) = .bool (f x y) := by
  unfold satV
  cases f x y <;> rfl
theorem sinceV_get (f : Int → Int → Option Int) (x y : Int) : (sinceV f x y).getD (.int .i64 0) = .int .i64 ((f x y).getD 0) := by
  unfold sinceV
  cases f x y <;> rfl

/-- The blocks of a master. -/
structure MBlk where
  lb : Nat
  bk : Nat
  um : Nat
  bm : Nat
  sm : Nat
  nm : Nat
def MBlk.list (b : MBlk) (x : Nat) : List Nat := [x, b.lb, b.bk, b.um, b.bm, b.sm, b.nm]
theorem FNew.lb {w : World} {b b' : MBlk} {x x' : Nat} (h : FNew w (b.list x) (b'.list x')) : b'.lb = b.lb := by
  have := (h.2 rfl).2
  simpa [MBlk.list] using this
def setCells7 (s : SetV) : List Value := [.int .i64 s.nodes, .int .i64 s.clients, .int .i64 s.timers, .int .i64 s.lease, .int .i64 s.suspect, .int .i64 s.skew, .int .i64 s.base]
def mcells (b : MBlk) (v : Value) (V : MstV) : List Value :=
  [.int .i64 V.s.nodes, .int .i64 V.s.clients, .int .i64 V.s.timers, .int .i64 V.s.lease, .int .i64 V.s.suspect, .int .i64 V.s.skew, .int .i64 V.s.base, .pointer (some ⟨b.lb, 0, none⟩),
   .int .i64 V.cf.epoch, v, .pointer (some ⟨b.bk, 0, none⟩), .map (some b.bm)] ++ V.lives.map (.int .i64 ·) ++ [.map (some b.sm), .map (some b.nm)]
theorem mcells_low {b : MBlk} {v : Value} {V : MstV} {i : Nat} {u : Value} (h : ([.int .i64 V.s.nodes, .int .i64 V.s.clients, .int .i64 V.s.timers, .int .i64 V.s.lease, .int .i64 V.s.suspect, .int .i64 V.s.skew, .int .i64 V.s.base, .pointer (some ⟨b.lb, 0, none⟩),
   .int .i64 V.cf.epoch, v, .pointer (some ⟨b.bk, 0, none⟩), .map (some b.bm)] : List Value)[i]? = some u) : (mcells b v V)[i]? = some u := by
  have hi := (List.getElem?_eq_some_iff.1 h).1
  unfold mcells
  rw [List.append_assoc, List.getElem?_append_left hi]
  exact h
theorem mcells_life {b : MBlk} {v : Value} {V : MstV} {n : Nat} (hl : V.lives.length = 8) (hn : n < 8) : (mcells b v V)[12 + n]? = some (.int .i64 (V.life n)) := by
  unfold mcells
  rw [List.append_assoc, List.getElem?_append_right (by simp), List.getElem?_append_left (by simp; omega)]
  simp only [List.length_cons, List.length_nil]
  rw [show 12 + n - (0 + 1 + 1 + 1 + 1 + 1 + 1 + 1 + 1 + 1 + 1 + 1 + 1) = n by omega, List.getElem?_map]
  unfold MstV.life
  rw [Int.toNat_natCast, List.getElem?_eq_getElem (by omega)]
  rfl
theorem mcells_sat {b : MBlk} {v : Value} {V : MstV} (hl : V.lives.length = 8) : (mcells b v V)[20]? = some (.map (some b.sm)) := by
  unfold mcells
  rw [List.getElem?_append_right (by simp; omega)]
  simp [hl]
theorem mcells_since {b : MBlk} {v : Value} {V : MstV} (hl : V.lives.length = 8) : (mcells b v V)[21]? = some (.map (some b.nm)) := by
  unfold mcells
  rw [List.getElem?_append_right (by simp; omega)]
  simp [hl]

/-- Times that no sum of these overflows. -/
def TOk (t : Int) : Prop := -1125899906842624 ≤ t ∧ t ≤ 1125899906842624
def BOk (b : BeatV) : Prop := TOk b.time ∧ W64 b.epoch ∧ W64 b.echo
/-- A master that may be. -/
structure MOk (V : MstV) : Prop where
  set : mayS V.s = true
  right : rightC V.cf = true
  len : V.lives.length = 8
  lives : ∀ l ∈ V.lives, W64 l
  beats : ∀ x y b, V.beats x y = some b → BOk b
  since : ∀ x y t, V.since x y = some t → TOk t
/-- Block x is a master; its log holds the bytes l. -/
structure MAt (B : Nat) (w : World) (x : Nat) (b : MBlk) (N : Nat) (V : MstV) (l : List UInt8) : Prop where
  blk : ∃ v, BlkAt w x 87 (mcells b v V) ∧ ChainS w v V.cf.chain
  log : ∃ v, LogAt B w b.lb v l false
  book : BookAt w b.bk b.um N V.til V.held
  beats : MapM w b.bm N (beatsV V.beats)
  sat : MapM w b.sm N (satV V.sat)
  since : MapM w b.nm N (sinceV V.since)
  ne : b.um ≠ b.bm ∧ b.um ≠ b.sm ∧ b.um ≠ b.nm ∧ b.bm ≠ b.sm ∧ b.bm ≠ b.nm ∧ b.sm ≠ b.nm
  ok : MOk V
section
variable {B x N : Nat} {w w' : World} {b : MBlk} {V : MstV} {l : List UInt8}
theorem MAt.below (h : MAt B w x b N V l) (hb : Below w.heap.size w w') : MAt B w' x b N V l := by
  obtain ⟨v, h1, h2⟩ := h.blk
  obtain ⟨u, h3⟩ := h.log
  exact ⟨⟨v, h1.below hb, h2.below hb⟩, ⟨u, h3.below hb⟩, h.book.below hb, h.beats.below hb, h.sat.below hb, h.since.below hb, h.ne, h.ok⟩
theorem MAt.drewN (h : MAt B w x b N V l) (k : Nat) : MAt B (w.drewN k) x b N V l := h.below (below_drewN (Below.refl _ _) k)
theorem MAt.alloc (h : MAt B w x b N V l) (o : Obj) : MAt B (w.alloc o) x b N V l := h.below ((Below.refl _ _).alloc (Nat.le_refl _) o)
theorem MAt.mono (h : MAt B w x b N V l) {N' : Nat} (hn : N ≤ N') : MAt B w x b N' V l := ⟨h.blk, h.log, h.book.mono hn, h.beats.mono hn, h.sat.mono hn, h.since.mono hn, h.ne, h.ok⟩
theorem MAt.kindX (h : MAt B w x b N V l) : IsCells w x 87 := by
  obtain ⟨v, h1, _⟩ := h.blk
  exact h1.kind
theorem MAt.kindL (h : MAt B w x b N V l) : IsCells w b.lb 114 := by
  obtain ⟨u, h3⟩ := h.log
  exact ⟨_, _, h3.2.1⟩
theorem MAt.lt (h : MAt B w x b N V l) : x < w.heap.size := h.kindX.lt
theorem MAt.cells (h : MAt B w x b N V l) : ∃ A cap, ChainS w (.slice A V.cf.chain.length cap) V.cf.chain ∧ BlkAt w x 87 (mcells b (.slice A V.cf.chain.length cap) V) := by
  obtain ⟨v, h1, h2⟩ := h.blk
  have h3 := h2.1
  obtain ⟨a, cap, rfl, _⟩ := h3
  exact ⟨a, cap, h2, h1⟩
theorem LogAt.grownK {v : Value} {lb j : Nat} (h : LogAt B w lb v l false) (hg : w.grownBy w' (some j)) (h1 : lb ≠ j) (h2 : ¬ IsCells w j 5) : LogAt B w' lb v l false := by
  refine h.kept (c := j) (r := none) ⟨hg.os, hg.tape, hg.output, hg.size, fun k hk hn _ => hg.block k hk (by simpa using hn)⟩ h1 (by simp) ?_ (fun e => ?_)
  · rcases hv : v.ownBlock with _ | q
    · exact .inl rfl
    · exact .inr (by simp)
  · rcases h.2.2.2 with ⟨rfl, _⟩ | ⟨g, cap, cur, rfl, _, hr, _⟩
    · simp [Value.ownBlock] at e
    · simp only [Value.ownBlock, Option.some.injEq] at e
      subst e
      exact h2 ⟨_, _, hr⟩
theorem ChainAt.grownS {v : Value} {L : List SeatV} {j : Nat} (h : ChainS w v L) (hg : w.grownBy w' (some j)) (h2 : ¬ IsCells w j 49) : ChainS w' v L := by
  obtain ⟨h0, hr⟩ := h
  have hj : ∀ k, v.ownBlock = some k → w'.heap[k]? = w.heap[k]? := fun k hk => by
    obtain ⟨cs, fr, hc⟩ := hr k hk
    exact hg.block k (Array.getElem?_eq_some_iff.1 hc).1 (fun e => by cases e; exact h2 ⟨_, _, hc⟩)
  refine ⟨?_, fun k hk => ?_⟩
  · obtain ⟨a, cap, rfl, hs⟩ := h0
    refine ⟨a, cap, rfl, hs.1, hs.2.1, fun hp => ?_⟩
    obtain ⟨q, off, rfl, hab, hc⟩ := hs.2.2 hp
    have e := hj q rfl
    exact ⟨q, off, rfl, Nat.lt_of_lt_of_le hab hg.size, fun i s hi => (hc i s hi).of fun k => World.cell?_of_block e⟩
  · obtain ⟨cs, fr, hc⟩ := hr k hk
    exact ⟨cs, fr, (hj k hk).trans hc⟩
theorem mapB_not {j : Nat} {T : TypeId} (h : IsMapB w j) : ¬ IsCells w j T := fun h' => cells_ne_map h' h rfl
theorem cells_not {j : Nat} {T U : TypeId} (h : IsCells w j T) (hne : U ≠ T) : ¬ IsCells w j U := fun h' => cells_ne h' h hne rfl
theorem MAt.mem (k : Nat) (h : k = x ∨ k = b.lb ∨ k = b.bk ∨ k = b.um ∨ k = b.bm ∨ k = b.sm ∨ k = b.nm) : k ∈ b.list x := by simpa [MBlk.list] using h
/-- The leases' map turned. -/
theorem MAt.putUm (h : MAt B w x b N V l) {N' : Nat} {til : Int → Int → Int} (hn : N ≤ N') (hg : w.grownBy w' (some b.um)) (hB : BookAt w' b.bk b.um N' til V.held) : MAt B w' x b N' { V with til := til } l := by
  obtain ⟨v, h1, h2⟩ := h.blk
  obtain ⟨u, h3⟩ := h.log
  obtain ⟨e1, e2, e3, e4, e5, e6⟩ := h.ne
  have hm : IsMapB w b.um := h.book.map.isMap
  exact ⟨⟨v, h1.grown hg (cells_ne_map h1.kind hm), ChainAt.grownS h2 hg (mapB_not hm)⟩, ⟨u, h3.grownK hg (cells_ne_map h.kindL hm) (mapB_not hm)⟩, hB,
    (h.beats.grown hg (by simpa using Ne.symm e1)).mono hn, (h.sat.grown hg (by simpa using Ne.symm e2)).mono hn, (h.since.grown hg (by simpa using Ne.symm e3)).mono hn, h.ne, ⟨h.ok.set, h.ok.right, h.ok.len, h.ok.lives, h.ok.beats, h.ok.since⟩⟩
/-- Nobody is free ahead of another time. -/
theorem MAt.putBk (h : MAt B w x b N V l) {held : Int} (hg : w.grownBy w' (some b.bk)) (hB : BookAt w' b.bk b.um N V.til held) : MAt B w' x b N { V with held := held } l := by
  obtain ⟨v, h1, h2⟩ := h.blk
  obtain ⟨u, h3⟩ := h.log
  have hk : IsCells w b.bk 144 := h.book.blk.kind
  exact ⟨⟨v, h1.grown hg (cells_ne h1.kind hk (by decide)), ChainAt.grownS h2 hg (cells_not hk (by decide))⟩, ⟨u, h3.grownK hg (cells_ne h.kindL hk (by decide)) (cells_not hk (by decide))⟩, hB,
    h.beats.grown hg (by simpa using (cells_ne_map hk h.beats.isMap).symm), h.sat.grown hg (by simpa using (cells_ne_map hk h.sat.isMap).symm), h.since.grown hg (by simpa using (cells_ne_map hk h.since.isMap).symm), h.ne, ⟨h.ok.set, h.ok.right, h.ok.len, h.ok.lives, h.ok.beats, h.ok.since⟩⟩
/-- The beats turned. -/
theorem MAt.putBm (h : MAt B w x b N V l) {N' : Nat} {f : Int → Int → Option BeatV} (hn : N ≤ N') (hg : w.grownBy w' (some b.bm)) (hM : MapM w' b.bm N' (beatsV f)) (hok : ∀ x y b, f x y = some b → BOk b) : MAt B w' x b N' { V with beats := f } l := by
  obtain ⟨v, h1, h2⟩ := h.blk
  obtain ⟨u, h3⟩ := h.log
  obtain ⟨e1, e2, e3, e4, e5, e6⟩ := h.ne
  have hm : IsMapB w b.bm := h.beats.isMap
  exact ⟨⟨v, h1.grown hg (cells_ne_map h1.kind hm), ChainAt.grownS h2 hg (mapB_not hm)⟩, ⟨u, h3.grownK hg (cells_ne_map h.kindL hm) (mapB_not hm)⟩,
    (h.book.kept (hg.block _ h.book.lt (by simpa using cells_ne_map h.book.blk.kind hm)) (hg.block _ h.book.map.lt (by simpa using e1))).mono hn, hM,
    (h.sat.grown hg (by simpa using Ne.symm e4)).mono hn, (h.since.grown hg (by simpa using Ne.symm e5)).mono hn, h.ne, ⟨h.ok.set, h.ok.right, h.ok.len, h.ok.lives, hok, h.ok.since⟩⟩
/-- Who sat turned. -/
theorem MAt.putSm (h : MAt B w x b N V l) {N' : Nat} {f : Int → Int → Bool} (hn : N ≤ N') (hg : w.grownBy w' (some b.sm)) (hM : MapM w' b.sm N' (satV f)) : MAt B w' x b N' { V with sat := f } l := by
  obtain ⟨v, h1, h2⟩ := h.blk
  obtain ⟨u, h3⟩ := h.log
  obtain ⟨e1, e2, e3, e4, e5, e6⟩ := h.ne
  have hm : IsMapB w b.sm := h.sat.isMap
  exact ⟨⟨v, h1.grown hg (cells_ne_map h1.kind hm), ChainAt.grownS h2 hg (mapB_not hm)⟩, ⟨u, h3.grownK hg (cells_ne_map h.kindL hm) (mapB_not hm)⟩,
    (h.book.kept (hg.block _ h.book.lt (by simpa using cells_ne_map h.book.blk.kind hm)) (hg.block _ h.book.map.lt (by simpa using e2))).mono hn, (h.beats.grown hg (by simpa using e4)).mono hn, hM,
    (h.since.grown hg (by simpa using Ne.symm e6)).mono hn, h.ne, ⟨h.ok.set, h.ok.right, h.ok.len, h.ok.lives, h.ok.beats, h.ok.since⟩⟩
/-- Since when: turned. -/
theorem MAt.putNm (h : MAt B w x b N V l) {N' : Nat} {f : Int → Int → Option Int} (hn : N ≤ N') (hg : w.grownBy w' (some b.nm)) (hM : MapM w' b.nm N' (sinceV f)) (hok : ∀ x y t, f x y = some t → TOk t) : MAt B w' x b N' { V with since := f } l := by
  obtain ⟨v, h1, h2⟩ := h.blk
  obtain ⟨u, h3⟩ := h.log
  obtain ⟨e1, e2, e3, e4, e5, e6⟩ := h.ne
  have hm : IsMapB w b.nm := h.since.isMap
  exact ⟨⟨v, h1.grown hg (cells_ne_map h1.kind hm), ChainAt.grownS h2 hg (mapB_not hm)⟩, ⟨u, h3.grownK hg (cells_ne_map h.kindL hm) (mapB_not hm)⟩,
    (h.book.kept (hg.block _ h.book.lt (by simpa using cells_ne_map h.book.blk.kind hm)) (hg.block _ h.book.map.lt (by simpa using e3))).mono hn, (h.beats.grown hg (by simpa using e5)).mono hn,
    (h.sat.grown hg (by simpa using e6)).mono hn, hM, h.ne, ⟨h.ok.set, h.ok.right, h.ok.len, h.ok.lives, h.ok.beats, hok⟩⟩
/-- The master's own cells turned: its block b' (whose maps stand), its chain, its lives. -/
theorem MAt.putX (h : MAt B w x b N V l) {b' : MBlk} {V' : MstV} {v' : Value} (hg : w.grownBy w' (some x)) (hX : BlkAt w' x 87 (mcells b' v' V')) (hC : ChainS w v' V'.cf.chain)
    (e1 : b'.lb = b.lb) (e2 : b'.bk = b.bk) (e3 : b'.um = b.um) (e4 : b'.bm = b.bm) (e5 : b'.sm = b.sm) (hN : MapM w b'.nm N (sinceV V'.since)) (hnm : b'.nm ≠ b.um ∧ b'.nm ≠ b.bm ∧ b'.nm ≠ b.sm)
    (t1 : V'.til = V.til) (t2 : V'.held = V.held) (t3 : V'.beats = V.beats) (t4 : V'.sat = V.sat) (hok : MOk V') : MAt B w' x b' N V' l := by
  obtain ⟨u, h3⟩ := h.log
  have hk := h.kindX
  have d1 := cells_ne_map hk h.beats.isMap
  have d2 := cells_ne_map hk h.sat.isMap
  have d3 := cells_ne_map hk hN.isMap
  have d4 := cells_ne_map hk h.book.map.isMap
  have d5 := cells_ne hk h.book.blk.kind (by decide)
  have d6 := cells_ne hk h.kindL (by decide)
  obtain ⟨f1, f2, f3, f4, f5, f6⟩ := h.ne
  refine ⟨⟨v', hX, ChainAt.grownS hC hg (cells_not hk (by decide))⟩, ⟨u, ?_⟩, ?_, ?_, ?_, ?_, ?_, hok⟩
  · rw [e1]; exact h3.grownK hg (Ne.symm d6) (cells_not hk (by decide))
  · rw [e2, e3, t1, t2]; exact h.book.kept (hg.block _ h.book.lt (by simpa using Ne.symm d5)) (hg.block _ h.book.map.lt (by simpa using Ne.symm d4))
  · rw [e4, t3]; exact h.beats.grown hg (by simpa using Ne.symm d1)
  · rw [e5, t4]; exact h.sat.grown hg (by simpa using Ne.symm d2)
  · exact hN.grown hg (by simpa using Ne.symm d3)
  · rw [e3, e4, e5]; exact ⟨f1, f2, Ne.symm hnm.1, f4, Ne.symm hnm.2.1, Ne.symm hnm.2.2⟩
end
section
variable {B x N : Nat} {w w' : World} {b : MBlk} {V : MstV} {l : List UInt8}
theorem MAt.kinds (h : MAt B w x b N V l) : ∀ k ∈ b.list x, IsMapB w k ∨ IsCells w k 87 ∨ IsCells w k 114 ∨ IsCells w k 144 := by
  intro k hk
  simp only [MBlk.list, List.mem_cons, List.not_mem_nil, or_false] at hk
  rcases hk with rfl | rfl | rfl | rfl | rfl | rfl | rfl
  · exact .inr (.inl h.kindX)
  · exact .inr (.inr (.inl h.kindL))
  · exact .inr (.inr (.inr h.book.blk.kind))
  · exact .inl h.book.map.isMap
  · exact .inl h.beats.isMap
  · exact .inl h.sat.isMap
  · exact .inl h.since.isMap
theorem MAt.not (h : MAt B w x b N V l) {k : Nat} {T : TypeId} (hk : IsCells w k T) (h1 : T ≠ 87) (h2 : T ≠ 114) (h3 : T ≠ 144) : k ∉ b.list x := fun hm => by
  rcases h.kinds k hm with h4 | h4 | h4 | h4
  · exact cells_ne_map hk h4 rfl
  · exact cells_ne hk h4 h1 rfl
  · exact cells_ne hk h4 h2 rfl
  · exact cells_ne hk h4 h3 rfl
theorem MAt.ltAll (h : MAt B w x b N V l) : ∀ k ∈ b.list x, k < w.heap.size := fun k hk => by
  rcases h.kinds k hk with h4 | h4 | h4 | h4 <;> exact h4.lt
/-- Seats stay as they were where a master turns. -/
theorem ChainS.fk {v : Value} {L : List SeatV} (hC : ChainS w v L) (h : MAt B w x b N V l) (hk : FK (b.list x) B w w') : ChainS w' v L := by
  obtain ⟨h0, hr⟩ := hC
  have hj : ∀ k, v.ownBlock = some k → w'.heap[k]? = w.heap[k]? := fun k hv => by
    have hc : IsCells w k 49 := hr k hv
    exact hk.at hc (h.not hc (by decide) (by decide) (by decide)) (by decide)
  refine ⟨?_, fun k hk' => ?_⟩
  · obtain ⟨a, cap, rfl, hs⟩ := h0
    refine ⟨a, cap, rfl, hs.1, hs.2.1, fun hp => ?_⟩
    obtain ⟨q, off, rfl, hab, hc⟩ := hs.2.2 hp
    have e := hj q rfl
    exact ⟨q, off, rfl, Nat.lt_of_lt_of_le hab hk.size, fun i s hi => (hc i s hi).of fun k => World.cell?_of_block e⟩
  · obtain ⟨cs, fr, hc⟩ := hr k hk'
    exact ⟨cs, fr, (hj k hk').trans hc⟩
/-- A block of another kind stays as it was. -/
theorem BlkAt.fk {c : Nat} {T : TypeId} {cs : List Value} (hc : BlkAt w c T cs) (h : MAt B w x b N V l) (hk : FK (b.list x) B w w') (h1 : T ≠ 87) (h2 : T ≠ 114) (h3 : T ≠ 144) (h4 : T ≠ 5) : BlkAt w' c T cs :=
  (hk.at hc.kind (h.not hc.kind h1 h2 h3) h4).trans hc
end
section
variable {B x N : Nat} {w w' : World} {b : MBlk} {V : MstV} {l : List UInt8}
/-- What turns only rows of another kind leaves a master as it was. -/
theorem MAt.other (h : MAt B w x b N V l) {r : Option Nat} {T : TypeId} (hg : w.grownBy w' r) (hr : ∀ j, r = some j → IsCells w j T) (h1 : T ≠ 87) (h2 : T ≠ 114) (h3 : T ≠ 144) (h4 : T ≠ 5) (h5 : T ≠ 49) : MAt B w' x b N V l := by
  have kc : ∀ {k : Nat} {U : TypeId}, IsCells w k U → T ≠ U → w'.heap[k]? = w.heap[k]? := fun {k U} hc hne => hg.block k hc.lt (fun e => cells_ne (hr k e.symm) hc hne rfl)
  have km : ∀ {k : Nat}, IsMapB w k → w'.heap[k]? = w.heap[k]? := fun {k} hm => hg.block k hm.lt (fun e => cells_ne_map (hr k e.symm) hm rfl)
  obtain ⟨v, hX, hC, hS⟩ := h.blk
  obtain ⟨u, hl1, hl2, hl3⟩ := h.log
  refine ⟨⟨v, (kc hX.kind h1).trans hX, ?_, fun j hj => ?_⟩, ⟨u, hl1, (kc h.kindL h2).trans hl2, hl3.1, ?_⟩, h.book.kept (kc h.book.blk.kind h3) (km h.book.map.isMap), h.beats.kept (km h.beats.isMap), h.sat.kept (km h.sat.isMap), h.since.kept (km h.since.isMap), h.ne, h.ok⟩
  · obtain ⟨a, cap, rfl, hs⟩ := hC
    refine ⟨a, cap, rfl, hs.1, hs.2.1, fun hp => ?_⟩
    obtain ⟨q, off, rfl, hab, hc⟩ := hs.2.2 hp
    have e := kc (hS q rfl) h5
    exact ⟨q, off, rfl, Nat.lt_of_lt_of_le hab hg.size, fun i s hi => (hc i s hi).of fun k => World.cell?_of_block e⟩
  · obtain ⟨cs, fr, hc⟩ := hS j hj
    exact ⟨cs, fr, (kc ⟨cs, fr, hc⟩ h5).trans hc⟩
  · rcases hl3.2 with h6 | ⟨g, cap, cur, rfl, hg6, hr6, hrest⟩
    · exact .inl h6
    · exact .inr ⟨g, cap, cur, rfl, hg6, (kc ⟨_, _, hr6⟩ h4).trans hr6, hrest⟩
end
end Go.Proofs.YtomfmejodmfioaaGreat
namespace Go.Proofs.YtomfmejodmfioaaGreat
open Go.RowKit Go.Maps Go.ChangeShapes Go.WideShapes Go.Joins
set_option linter.unusedVariables false

set_option maxRecDepth 100000 in
set_option maxHeartbeats 1000000 in

theorem mdead_any {B x N : Nat} {w : World} {b : MBlk} {V : MstV} {l : List UInt8} (h : MAt B w x b N V l) {k : Nat} (hk : k < 8) {lf : Int} {q : Bool} (hq : deadM V k lf = q) :
    Calls Tryz.prog 77 #[.pointer (some ⟨x, 0, none⟩), .agg #[.int .i64 (k : Nat), .int .i64 lf]] w fun e w' => e = .returned (.bool q) ∧ Below w.heap.size w w' := by
  subst hq
  obtain ⟨A, cap, hC, hX⟩ := h.cells
  have c0 : w.cell? ⟨x, 12 + k, none⟩ = some (.int .i64 (V.life k)) := hX.cell (mcells_life h.ok.len hk)
  have hlt := h.lt
  have hk' : (k : Int) < 8 := by omega
  have hb := (Below.refl w.heap.size w).alloc (Nat.le_refl _) (.cells #[.int .i64 (k : Nat), .int .i64 lf] 42)
  have HQ := Lib.hid (show deadM V k lf = decide (lf < V.life k) from rfl)
  generalize V.life k = y at *
  clear h hX hC
  go_enter Tryz.func77, Tryz.ntmps77
  go_wp2_with fail
  go_quiet (fail)
  go_wp2_with fail
  go_ret
  exact ⟨by rw [HQ.out]; rfl, below_drewN hb _⟩
theorem beat_zero (w : World) : (zeroValue 102).run Tryz.prog w = .ok (beatV beatZero) w := by kernel_rfl
theorem look_beat {w : World} {m n : Nat} {f : Int → Int → Option BeatV} (h : MapM w m n (beatsV f)) {x y : Int} (hx : W64 x) (hy : W64 y) :
    (Instr.lookup 84 (.map (some m)) (.agg #[.int .i64 x, .int .i64 y]) false).run Tryz.prog w = .ok (.agg #[.int .i64 ((f x y).getD beatZero).time, .int .i64 ((f x y).getD beatZero).epoch, .bool ((f x y).getD beatZero).synced, .int .i64 ((f x y).getD beatZero).echo]) w := by
  have := h.look Tryz.underlying84 (beat_zero w) hx hy
  rw [beatsV_get] at this
  exact this
theorem look_beat_ok {w : World} {m n : Nat} {f : Int → Int → Option BeatV} (h : MapM w m n (beatsV f)) {x y : Int} (hx : W64 x) (hy : W64 y) :
    (Instr.lookup 84 (.map (some m)) (.agg #[.int .i64 x, .int .i64 y]) true).run Tryz.prog w = .ok (.tuple #[.agg #[.int .i64 ((f x y).getD beatZero).time, .int .i64 ((f x y).getD beatZero).epoch, .bool ((f x y).getD beatZero).synced, .int .i64 ((f x y).getD beatZero).echo], .bool (f x y).isSome]) w := by
  have := h.look_ok Tryz.underlying84 (beat_zero w) hx hy
  rw [beatsV_get, show (beatsV f x y).isSome = (f x y).isSome by unfold beatsV; cases f x y <;> rfl] at this
  exact this
theorem look_sat {w : World} {m n : Nat} {f : Int → Int → Bool} (h : MapM w m n (satV f)) {x y : Int} (hx : W64 x) (hy : W64 y) :
    (Instr.lookup 85 (.map (some m)) (.agg #[.int .i64 x, .int .i64 y]) false).run Tryz.prog w = .ok (.bool (f x y)) w := by
  have := h.look Tryz.underlying85 (z := .bool false) (by kernel_rfl) hx hy
  rw [satV_get] at this
  exact this
theorem look_since {w : World} {m n : Nat} {f : Int → Int → Option Int} (h : MapM w m n (sinceV f)) {x y : Int} (hx : W64 x) (hy : W64 y) :
    (Instr.lookup 30 (.map (some m)) (.agg #[.int .i64 x, .int .i64 y]) true).run Tryz.prog w = .ok (.tuple #[.int .i64 ((f x y).getD 0), .bool (f x y).isSome]) w := by
  have := h.look_ok Tryz.underlying30 (z := .int .i64 0) (by kernel_rfl) hx hy
  rw [sinceV_get, show (sinceV f x y).isSome = (f x y).isSome by unfold sinceV; cases f x y <;> rfl] at this
  exact this
theorem MOk.beat {V : MstV} (h : MOk V) (x y : Int) : BOk (V.beat x y) := by
  unfold MstV.beat
  cases hb : V.beats x y with
  | none => exact ⟨⟨by decide, by decide⟩, W64.mk (by decide) (by decide), W64.mk (by decide) (by decide)⟩
  | some c => exact h.beats x y c hb
theorem MOk.susp {V : MstV} (h : MOk V) : 1 ≤ V.s.suspect ∧ V.s.suspect ≤ 1000 ∧ 1 ≤ V.s.lease ∧ V.s.lease ≤ 1000 ∧ 1 ≤ V.s.nodes ∧ V.s.nodes ≤ 8 := by
  have := h.set
  unfold mayS at this
  rw [decide_eq_true_eq] at this
  omega
set_option maxRecDepth 100000 in
set_option maxHeartbeats 1000000 in

theorem msusp_any {B x N : Nat} {w : World} {b : MBlk} {V : MstV} {l : List UInt8} (h : MAt B w x b N V l) {n lf now : Int} (hn : W64 n) (hl : W64 lf) (ht : TOk now) {q : Bool} (hq : suspM V n lf now = q) :
    Calls Tryz.prog 98 #[.pointer (some ⟨x, 0, none⟩), .agg #[.int .i64 n, .int .i64 lf], .int .i64 now] w fun e w' => e = .returned (.bool q) ∧ Below w.heap.size w w' := by
  subst hq
  obtain ⟨A, cap, hC, hX⟩ := h.cells
  have c4 : w.cell? ⟨x, 4, none⟩ = some (.int .i64 V.s.suspect) := hX.cell (mcells_low rfl)
  have c11 : w.cell? ⟨x, 11, none⟩ = some (.map (some b.bm)) := hX.cell (mcells_low rfl)
  have hlk : ∀ (O : Obj) M, (Instr.lookup 84 (.map (some b.bm)) (.agg #[.int .i64 n, .int .i64 lf]) false).run Tryz.prog ((w.alloc O).drewN M) = .ok (.agg #[.int .i64 (V.beat n lf).time, .int .i64 (V.beat n lf).epoch, .bool (V.beat n lf).synced, .int .i64 (V.beat n lf).echo]) ((w.alloc O).drewN M) := fun O M => look_beat ((h.beats.alloc O).drewN M) hn hl
  have hfd : ∀ w : World, (Instr.field 102 (.agg #[.int .i64 (V.beat n lf).time, .int .i64 (V.beat n lf).epoch, .bool (V.beat n lf).synced, .int .i64 (V.beat n lf).echo]) 0).run Tryz.prog w = .ok (.int .i64 (V.beat n lf).time) w := fun _ => by kernel_rfl
  have hlt := h.lt
  have hbb := (Below.refl w.heap.size w).alloc (Nat.le_refl _) (.cells #[.int .i64 n, .int .i64 lf] 42)
  have HQ := Lib.hid (show suspM V n lf now = decide (V.s.suspect < now - (V.beat n lf).time) from rfl)
  have hbt := (h.ok.beat n lf).1
  unfold TOk at hbt ht
  generalize V.beat n lf = bt at *
  generalize V.s.suspect = sus at *
  clear h hX hC
  go_enter Tryz.func98, Tryz.ntmps98
  go_wp2_with fail
  go_quiet (fail)
  go_wp2_with fail
  go_ret
  exact ⟨by rw [HQ.out]; rfl, below_drewN hbb _⟩
end Go.Proofs.YtomfmejodmfioaaGreat
