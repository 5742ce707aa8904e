/- A law's own map beside a player: the player stays where the map turns; 'm[k]++'. -/
import Derived.Test.YtomfmejodmfioaaGreatMstSaid
import Derived.WideKeyEntry
namespace Go.Proofs.YtomfmejodmfioaaGreat
open Go.RowKit Go.Maps Go.ChangeShapes Go.WideShapes Go.Joins Go.Deep
set_option linter.unusedVariables false

section
variable {w0 w w' : World} {B x p N : Nat} {b : MBlk} {s : SetV} {V : MstV} {l : List UInt8} {cs : List ConfV} {now : Int} {bs : List Nat}
/-- What turns a map that is none of its own leaves a master as it was. -/
theorem MAt.otherMap (h : MAt B w x b N V l) {j : Nat} (hg : w.grownBy w' (some j)) (hj : IsMapB w j) (hn : j ∉ b.list x) : MAt B w' x b N V l := by
  have kc : ∀ {k : Nat} {U : TypeId}, IsCells w k U → w'.heap[k]? = w.heap[k]? := fun {k U} hc => hg.block k hc.lt (fun e => by cases e; exact cells_ne_map hc hj rfl)
  have km : ∀ {k : Nat}, IsMapB w k → k ∈ b.list x → w'.heap[k]? = w.heap[k]? := fun {k} hm hk => hg.block k hm.lt (fun e => by cases e; exact hn hk)
  obtain ⟨v, hX, hC, hS⟩ := h.blk
  obtain ⟨u, hl1, hl2, hl3⟩ := h.log
  refine ⟨⟨v, (kc hX.kind).trans hX, ?_, fun j hj => ?_⟩, ⟨u, hl1, (kc h.kindL).trans hl2, hl3.1, ?_⟩, h.book.kept (kc h.book.blk.kind) (km h.book.map.isMap (MAt.mem (b := b) (x := x) b.um (by simp))), h.beats.kept (km h.beats.isMap (MAt.mem (b := b) (x := x) b.bm (by simp))), h.sat.kept (km h.sat.isMap (MAt.mem (b := b) (x := x) b.sm (by simp))), h.since.kept (km h.since.isMap (MAt.mem (b := b) (x := x) b.nm (by simp))), h.ne, h.ok⟩
  · obtain ⟨a, cap, rfl, hs⟩ := hC
    refine ⟨a, cap, rfl, hs.1, hs.2.1, fun hp => ?_⟩
    obtain ⟨q, off, rfl, hab, hc⟩ := hs.2.2 hp
    have e := kc (hS q rfl)
    exact ⟨q, off, rfl, Nat.lt_of_lt_of_le hab hg.size, fun i s hi => (hc i s hi).of fun k => World.cell?_of_block e⟩
  · obtain ⟨cs, fr, hc⟩ := hS j hj
    exact ⟨cs, fr, (kc ⟨cs, fr, hc⟩).trans hc⟩
  · rcases hl3.2 with h6 | ⟨g, cap, cur, rfl, hg6, hr6, hrest⟩
    · exact .inl h6
    · exact .inr ⟨g, cap, cur, rfl, hg6, (kc ⟨_, _, hr6⟩).trans hr6, hrest⟩
theorem PlyAt.otherMap (h : PlyAt w0 w B p s N V l cs now bs) {j : Nat} (hg : w.grownBy w' (some j)) (hj : IsMapB w j) (hn : j ∉ bs) (hw : w0.heap.size ≤ j) : PlyAt w0 w' B p s N V l cs now bs := by
  obtain ⟨x, b, rfl, h2, h3⟩ := h.own
  exact ⟨⟨x, b, rfl, h2.grown hg (cells_ne_map h2.kind hj), h3.mst.otherMap hg hj hn, h3.below.grown hg h3.below.size (fun i e => by cases e; exact hw), h3.base, h3.loc⟩, h.inv, h.new⟩
theorem ChainS.otherMap {v : Value} {L : List SeatV} (h : ChainS w v L) {j : Nat} (hg : w.grownBy w' (some j)) (hj : IsMapB w j) : ChainS w' v L := ChainAt.grownS h hg (mapB_not hj)
theorem BlkAt.otherMap {c : Nat} {T : TypeId} {cs : List Value} (h : BlkAt w c T cs) {j : Nat} (hg : w.grownBy w' (some j)) (hj : IsMapB w j) : BlkAt w' c T cs := h.grown hg (cells_ne_map h.kind hj)
theorem MapM.keepP {m n : Nat} {f : Int → Int → Option Value} (h : MapM w m n f) (hk : KeepP w w' bs) (hn : m ∉ bs) : MapM w' m n f := h.kept (hk.2.2 m h.isMap hn)
theorem notin_next {bs' : List Nat} {m : Nat} (hn : m ∉ bs) (hF : FNew w bs bs') (hm : m < w.heap.size) : m ∉ bs' := fun h => by
  rcases hF.1 m h with h1 | h1
  · exact hn h1
  · omega
end
section
open Go.MapKept Go.WideElems Go.ChangeMaps
variable {w : World} {m n : Nat} {f : Int → Int → Option Value}
theorem setBlock_grown {w : World} {m : Nat} {es : Array MapEntry} {c : Nat} {o : Obj} (hb : w.heap[m]? = some (.map es c)) : w.grownBy (setBlock w m o) (some m) :=
  ⟨rfl, rfl, rfl, by simp [setBlock], fun i _ hi => heap_setBlock_other hb _ (fun e => hi (by rw [e]))⟩
set_option maxRecDepth 100000 in
/-- 'm[k] op= v', its entry: what is there, or nought, and a store behind it. -/
theorem MapM.entry (h : MapM w m n f) {t e : TypeId} (ht : Tryz.prog.underlying t = some (.map 42 e)) {z : Value} (hz : ∀ u : World, (zeroValue e).run Tryz.prog u = .ok z u) (hn : n < maxLen) {x y : Int} (hx : W64 x) (hy : W64 y) :
    ∃ (v0 : Value) (st : Nat) (w1 : World), (Instr.mapEntry t (.map (some m)) (.agg #[.int .i64 x, .int .i64 y])).run Tryz.prog w = .ok (.tuple #[v0, goInt st]) w1 ∧ w.grownBy w1 (some m) ∧
      (∃ f1, MapM w1 m (n + 1) f1 ∧ (f1 x y).getD z = (f x y).getD z) ∧
      ∀ (w2 : World) (val : Value), w2.heap[m]? = w1.heap[m]? → ∃ w3, (Instr.entryStore t (.map (some m)) (goInt st) val).run Tryz.prog w2 = .ok () w3 ∧ MapM w3 m (n + 1) (updV f x y val) ∧ w2.grownBy w3 (some m) := by
  have h0 := h
  obtain ⟨D, ⟨es, clock, hb, F, hs, hD⟩, hread⟩ := h
  have hkey := mem_key hx hy
  have K := mem_law
  obtain ⟨s1, s2, _⟩ := F.stamped
  have up : ∀ (val : Value) (es' : Array MapEntry) (clock' : Nat), (Instr.mapUpdate t (.map (some m)) (mval x y) val).run Tryz.prog w = .ok () (setBlock w m (.map es' clock')) → ∀ (w2 : World) (ob : Obj), (∃ es0 c0, w2.heap[m]? = some (.map es0 c0)) → MapM (setBlock w2 m (.map es' clock')) m (n + 1) (updV f x y val) := fun val es' clock' hr w2 _ ⟨es0, c0, h2⟩ => by
    obtain ⟨w', hrun, hM, _⟩ := h0.store ht hn hx hy val
    rw [show (Value.agg #[.int .i64 x, .int .i64 y]) = mval x y from rfl, hr] at hrun
    injection hrun with _ e2
    subst e2
    exact hM.kept (by rw [heap_setBlock_same h2, heap_setBlock_same hb])
  rcases K.find w hkey es.toList F.keys with ⟨h1, h2⟩ | ⟨j, e0, h1, h2, h3⟩
  · have hidx : (es.push ⟨mval x y, z, clock⟩).findIdx? (fun e => ((e.born : Nat) : Int) == ((clock : Nat) : Int)) = some es.size := by
      rw [findIdx_arr]
      have := findIdx_born (l := (es.push ⟨mval x y, z, clock⟩).toList) (j := es.size) (e0 := ⟨mval x y, z, clock⟩) (by
        simp only [Array.toList_push, List.map_append, List.map_cons, List.map_nil]
        refine List.nodup_append.2 ⟨s2, by simp, fun a ha c hc e1 => ?_⟩
        simp only [List.mem_singleton] at hc
        obtain ⟨q, hq, rfl⟩ := List.mem_map.1 ha
        have := s1 q hq
        omega) (by simp)
      exact this
    have hmod : ∀ val : Value, (es.push ⟨mval x y, z, clock⟩).modify es.size (fun e => { e with val := val }) = es.push ⟨mval x y, val, clock⟩ := fun val => by
      apply Array.ext'
      rw [Array.toList_modify, Array.toList_push, Array.toList_push, ← Array.length_toList, modify_last]
    have hupd : ∀ val : Value, (Instr.mapUpdate t (.map (some m)) (mval x y) val).run Tryz.prog w = .ok () (setBlock w m (.map (es.push ⟨mval x y, val, clock⟩) (clock + 1))) := fun val => by
      simp [Instr.mapUpdate, run_underlying ht, MapKept.run_getObj_map hb, K.check w false hkey, h1, MapKept.run_setObj_map _ hb, Result.andThen, setBlock]
    refine ⟨z, clock, setBlock w m (.map (es.push ⟨mval x y, z, clock⟩) (clock + 1)), ?_, setBlock_grown hb, ⟨_, up z _ _ (hupd z) w default ⟨_, _, hb⟩, ?_⟩, fun w2 val hw2 => ?_⟩
    · show (Instr.mapEntry t (.map (some m)) (mval x y)).run Tryz.prog w = _
      simp [Instr.mapEntry, run_underlying ht, MapKept.run_getObj_map hb, K.check w false hkey, h1, hz, MapKept.run_setObj_map _ hb, Result.andThen, setBlock]
    · have hnone : f x y = none := by
        obtain ⟨v', hrun⟩ : ∃ v', (Instr.lookup t (.map (some m)) (.agg #[.int .i64 x, .int .i64 y]) true).run Tryz.prog w = .ok v' w := ⟨_, h0.look_ok ht (hz w) hx hy⟩
        have h9 := h0.look_ok ht (hz w) hx hy
        have h10 : (Instr.lookup t (.map (some m)) (mval x y) true).run Tryz.prog w = .ok (.tuple #[z, .bool false]) w := by
          simp [Instr.lookup, run_underlying ht, MapKept.run_getObj_map hb, K.check w _ hkey, h1, hz, Result.andThen]
        rw [show (Value.agg #[.int .i64 x, .int .i64 y]) = mval x y from rfl, h10] at h9
        injection h9 with h9 _
        cases hf : f x y with
        | none => rfl
        | some q => rw [hf] at h9; simp at h9
      rw [hnone]
      simp [updV]
    · have hw2' : w2.heap[m]? = some (.map (es.push ⟨mval x y, z, clock⟩) (clock + 1)) := hw2.trans (heap_setBlock_same hb _)
      refine ⟨setBlock w2 m (.map (es.push ⟨mval x y, val, clock⟩) (clock + 1)), ?_, up val _ _ (hupd val) w2 default ⟨_, _, hw2'⟩, setBlock_grown hw2'⟩
      simp [Instr.entryStore, MapKept.run_getObj_map hw2', asInt, asIntOf, goInt, hidx, hmod, MapKept.run_setObj_map _ hw2', Result.andThen, setBlock]
  · have hj : es[j]? = some e0 := by simpa using h2
    have h3' : e0.key = mval x y := h3
    have hsame : es.modify j (fun e => { e with key := mval x y }) = es := by
      apply Array.ext'
      rw [Array.toList_modify, modify_eq_set _ _ _ _ h2]
      have : ({ e0 with key := mval x y } : MapEntry) = e0 := by rw [← h3']
      rw [this]
      exact set_self _ _ _ h2
    have hidx : es.findIdx? (fun e => ((e.born : Nat) : Int) == ((e0.born : Nat) : Int)) = some j := by
      rw [findIdx_arr]
      exact findIdx_born s2 h2
    have hmod : ∀ val : Value, es.modify j (fun e => { e with val := val }) = es.modify j (fun e' => { e' with key := mval x y, val := val }) := fun val => by
      apply Array.ext'
      rw [Array.toList_modify, Array.toList_modify, modify_eq_set _ _ _ _ h2, modify_eq_set _ _ _ _ h2, ← h3']
    have hupd : ∀ val : Value, (Instr.mapUpdate t (.map (some m)) (mval x y) val).run Tryz.prog w = .ok () (setBlock w m (.map (es.modify j (fun e' => { e' with key := mval x y, val := val })) clock)) := fun val => by
      simp [Instr.mapUpdate, run_underlying ht, MapKept.run_getObj_map hb, K.check w false hkey, h1, hj, h3', K.stays w hkey, MapKept.run_setObj_map _ hb, Result.andThen, setBlock]
    refine ⟨e0.val, e0.born, setBlock w m (.map es clock), ?_, setBlock_grown hb, ⟨f, (h0.kept (by rw [heap_setBlock_same hb]; exact hb.symm)).mono (by omega), rfl⟩, fun w2 val hw2 => ?_⟩
    · show (Instr.mapEntry t (.map (some m)) (mval x y)).run Tryz.prog w = _
      simp [Instr.mapEntry, run_underlying ht, MapKept.run_getObj_map hb, K.check w false hkey, h1, hj, h3', K.stays w hkey, hsame, MapKept.run_setObj_map _ hb, Result.andThen, setBlock]
    · have hw2' : w2.heap[m]? = some (.map es clock) := hw2.trans (heap_setBlock_same hb _)
      refine ⟨setBlock w2 m (.map (es.modify j (fun e' => { e' with key := mval x y, val := val })) clock), ?_, up val _ _ (hupd val) w2 default ⟨_, _, hw2'⟩, setBlock_grown hw2'⟩
      simp [Instr.entryStore, MapKept.run_getObj_map hw2', asInt, asIntOf, goInt, hidx, hmod, MapKept.run_setObj_map _ hw2', Result.andThen, setBlock]
end
theorem look_int {w : World} {m n : Nat} {f : Int → Int → Option Int} (h : MapM w m n (sinceV f)) {x y : Int} (hx : W64 x) (hy : W64 y) :
    (Instr.lookup 30 (.map (some m)) (.agg #[.int .i64 x, .int .i64 y]) false).run Tryz.prog w = .ok (.int .i64 ((f x y).getD 0)) w := by
  have := h.look Tryz.underlying30 (z := .int .i64 0) (by kernel_rfl) hx hy
  rw [sinceV_get] at this
  exact this
/-- What counts how often who was seen: at most M times; who was not, is not there. -/
def CntOk (g : Int → Int → Option Int) (P : Int → Int → Prop) (M : Int) : Prop := (∀ n lf c, g n lf = some c → 1 ≤ c ∧ c ≤ M ∧ P n lf) ∧ ∀ n lf, g n lf = none → ¬ P n lf
theorem CntOk.none (P : Int → Int → Prop) (hP : ∀ n lf, ¬ P n lf) (M : Int) : CntOk (fun _ _ => none) P M := ⟨fun _ _ _ h => by simp at h, fun n lf _ => hP n lf⟩
theorem CntOk.put {g : Int → Int → Option Int} {P P' : Int → Int → Prop} {M M' : Int} (h : CntOk g P M) (hM : M ≤ M') {x y c : Int} (h1 : 1 ≤ c) (h2 : c ≤ M') (hP : ∀ n lf, P' n lf ↔ P n lf ∨ (n = x ∧ lf = y)) : CntOk (updM g x y (some c)) P' M' := by
  refine ⟨fun n lf c' hc => ?_, fun n lf hn => ?_⟩
  · by_cases e : n = x ∧ lf = y
    · obtain ⟨rfl, rfl⟩ := e
      rw [updM_same] at hc
      cases hc
      exact ⟨h1, h2, (hP _ _).2 (.inr ⟨rfl, rfl⟩)⟩
    · rw [updM_other _ _ e] at hc
      obtain ⟨a1, a2, a3⟩ := h.1 n lf c' hc
      exact ⟨a1, by omega, (hP _ _).2 (.inl a3)⟩
  · by_cases e : n = x ∧ lf = y
    · obtain ⟨rfl, rfl⟩ := e
      rw [updM_same] at hn
      cases hn
    · rw [updM_other _ _ e] at hn
      intro h9
      rcases (hP _ _).1 h9 with h9 | h9
      · exact h.2 n lf hn h9
      · exact e h9
theorem CntOk.iff {g : Int → Int → Option Int} {P P' : Int → Int → Prop} {M : Int} (h : CntOk g P M) (hP : ∀ n lf, P' n lf ↔ P n lf) : CntOk g P' M :=
  ⟨fun n lf c hc => by obtain ⟨a1, a2, a3⟩ := h.1 n lf c hc; exact ⟨a1, a2, (hP _ _).2 a3⟩, fun n lf hn h9 => h.2 n lf hn ((hP _ _).1 h9)⟩
theorem CntOk.mono {g : Int → Int → Option Int} {P : Int → Int → Prop} {M M' : Int} (h : CntOk g P M) (hM : M ≤ M') : CntOk g P M' :=
  ⟨fun n lf c hc => by obtain ⟨a1, a2, a3⟩ := h.1 n lf c hc; exact ⟨a1, by omega, a3⟩, h.2⟩
theorem CntOk.get {g : Int → Int → Option Int} {P : Int → Int → Prop} {M : Int} (h : CntOk g P M) (hM : 0 ≤ M) (n lf : Int) : 0 ≤ (g n lf).getD 0 ∧ (g n lf).getD 0 ≤ M := by
  cases hg : g n lf with
  | none => exact ⟨Int.le_refl _, hM⟩
  | some c => obtain ⟨a1, a2, _⟩ := h.1 n lf c hg; exact ⟨by simp only [Option.getD_some]; omega, a2⟩
/-- Blocks of a master lie in the heap. -/
theorem MAt.blocks {B x N : Nat} {w : World} {b : MBlk} {V : MstV} {l : List UInt8} (h : MAt B w x b N V l) : ∀ k ∈ b.list x, k < w.heap.size := fun k hk => by
  simp only [MBlk.list, List.mem_cons, List.not_mem_nil, or_false] at hk
  rcases hk with rfl | rfl | rfl | rfl | rfl | rfl | rfl
  · exact h.lt
  · exact h.kindL.lt
  · exact h.book.blk.lt
  · exact h.book.map.lt
  · exact h.beats.lt
  · exact h.sat.lt
  · exact h.since.lt
end Go.Proofs.YtomfmejodmfioaaGreat
