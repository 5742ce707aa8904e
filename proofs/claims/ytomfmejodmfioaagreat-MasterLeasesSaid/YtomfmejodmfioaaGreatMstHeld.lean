/- A master that the call itself made: all of its blocks are new. -/
import Derived.Test.YtomfmejodmfioaaGreatMstLawA
import Derived.Test.YtomfmejodmfioaaGreatKMst4
import Derived.Test.YtomfmejodmfioaaGreatMstAwakeP
namespace Go.Proofs.YtomfmejodmfioaaGreat
open Go.RowKit Go.Maps Go.ChangeShapes Go.WideShapes Go.Joins Go.Deep
set_option linter.unusedVariables false

structure OwnM (w0 w : World) (B x : Nat) (b : MBlk) (N : Nat) (V : MstV) (l : List UInt8) : Prop where
  mst : MAt B w x b N V l
  below : Below w0.heap.size w0 w
  base : w0.heap.size ≤ B
  loc : ∀ k ∈ b.list x, w0.heap.size ≤ k
section
variable {w0 w w' : World} {B x x' lb N N' : Nat} {b b' : MBlk} {V V' : MstV} {l l' : List UInt8}
theorem OwnM.step (h : OwnM w0 w B x b N V l) (hb : Below w.heap.size w w') : OwnM w0 w' B x b N V l := ⟨h.mst.below hb, below_step h.below hb, h.base, h.loc⟩
theorem OwnM.next (h : OwnM w0 w B x b N V l) (hM : MAt B w' x' b' N' V' l') (hF : FK (b.list x) B w w') (hN : FNew w (b.list x) (b'.list x')) : OwnM w0 w' B x' b' N' V' l' :=
  ⟨hM, hF.to_below h.below h.loc h.base, h.base, fun k hk => by
    rcases hN.1 k hk with h1 | h1
    · exact h.loc k h1
    · exact Nat.le_trans h.below.size h1⟩
theorem OwnM.first (hb : Below w0.heap.size w0 w) (hB : w0.heap.size ≤ B) (hl : w0.heap.size ≤ lb) (hM : MAt B w' x b N V l) (hF : FK [lb] B w w') (hN : FNew w [lb] (b.list x)) : OwnM w0 w' B x b N V l :=
  ⟨hM, hF.to_below hb (fun k hk => by rw [List.mem_singleton.1 hk]; exact hl) hB, hB, fun k hk => by
    rcases hN.1 k hk with h1 | h1
    · rw [List.mem_singleton.1 h1]; exact hl
    · exact Nat.le_trans hb.size h1⟩
theorem OwnM.mono (h : OwnM w0 w B x b N V l) (hn : N ≤ N') : OwnM w0 w B x b N' V l := ⟨h.mst.mono hn, h.below, h.base, h.loc⟩
/-- Blocks of kinds that are no part of a master stay. -/
def KeepB (w w' : World) : Prop := w.heap.size ≤ w'.heap.size ∧ ∀ (k : Nat) (T : TypeId), IsCells w k T → T ≠ 87 → T ≠ 114 → T ≠ 144 → T ≠ 5 → w'.heap[k]? = w.heap[k]?
theorem KeepB.of_fk (h : MAt B w x b N V l) (hF : FK (b.list x) B w w') : KeepB w w' := ⟨hF.size, fun k T hk h1 h2 h3 h4 => hF.at hk (h.not hk h1 h2 h3) h4⟩
theorem KeepB.of_log {u : Value} {t : Bool} (h : LogAt B w lb u l t) (hF : FK [lb] B w w') : KeepB w w' := ⟨hF.size, fun k T hk h1 h2 h3 h4 => hF.at hk (fun e => by
  rw [List.mem_singleton.1 e] at hk
  exact cells_ne hk ⟨_, _, h.2.1⟩ h2 rfl) h4⟩
theorem KeepB.of_below (hb : Below w.heap.size w w') : KeepB w w' := ⟨hb.size, fun k T hk _ _ _ _ => hb.block k hk.lt⟩
theorem KeepB.kind {k : Nat} {T : TypeId} (h : KeepB w w') (hk : IsCells w k T) (h1 : T ≠ 87) (h2 : T ≠ 114) (h3 : T ≠ 144) (h4 : T ≠ 5) : IsCells w' k T := by
  obtain ⟨cs, fr, hc⟩ := hk
  exact ⟨cs, fr, (h.2 k T ⟨cs, fr, hc⟩ h1 h2 h3 h4).trans hc⟩
theorem KeepB.trans {w'' : World} (h : KeepB w w') (g : KeepB w' w'') : KeepB w w'' := ⟨Nat.le_trans h.1 g.1, fun k T hk h1 h2 h3 h4 => (g.2 k T (h.kind hk h1 h2 h3 h4) h1 h2 h3 h4).trans (h.2 k T hk h1 h2 h3 h4)⟩
theorem BlkAt.keepB {c : Nat} {T : TypeId} {cs : List Value} (hc : BlkAt w c T cs) (h : KeepB w w') (h1 : T ≠ 87) (h2 : T ≠ 114) (h3 : T ≠ 144) (h4 : T ≠ 5) : BlkAt w' c T cs := (h.2 c T hc.kind h1 h2 h3 h4).trans hc
theorem ChainS.keepB {v : Value} {L : List SeatV} (hc : ChainS w v L) (h : KeepB w w') : ChainS w' v L := hc.fkAt (fun k hk => h.2 k _ hk (by decide) (by decide) (by decide) (by decide)) h.1
end
/-- Amid the law's wakening. -/
def AwkS (w wr : World) (x lb : Nat) (V : MstV) (N K : Nat) : Prop := ∃ b l cs, b.lb = lb ∧ OwnM w wr w.heap.size x b N V l ∧ Inv set3 V l cs ∧ l.length ≤ K
theorem AwkS.below {w wr w' : World} {x lb N K : Nat} {V : MstV} (h : AwkS w wr x lb V N K) (hb : Below wr.heap.size wr w') : AwkS w w' x lb V N K := by
  obtain ⟨b, l, cs, h1, h2, h3, h4⟩ := h
  exact ⟨b, l, cs, h1, h2.step hb, h3, h4⟩
theorem AwkS.low {w wr : World} {x lb N K : Nat} {V : MstV} (h : AwkS w wr x lb V N K) : Below w.heap.size w wr := by
  obtain ⟨b, l, cs, h1, h2, h3, h4⟩ := h
  exact h2.below
theorem take_small {s : SetV} {V : MstV} {l : List UInt8} {cs : List ConfV} (h : Inv s V l cs) (hl : l.length ≤ 65000) (n now : Int) : (beatM V l n 1 (bt15 now) now).1 = take15 V n now ∧ (beatM V l n 1 (bt15 now) now).2.length ≤ l.length + 210 ∧ ∃ cs', Inv s (take15 V n now) (beatM V l n 1 (bt15 now) now).2 cs' := by
  unfold beatM take15
  cases heardB V n 1 with
  | false => exact ⟨rfl, by simp, cs, h⟩
  | true =>
    have h2 : Inv s (hearM V n 1 (bt15 now)) l cs := h.keep rfl rfl rfl
    obtain ⟨h3, h4⟩ := turn_small h2 hl now
    obtain ⟨cs', h5⟩ := turn_turned h2 now
    refine ⟨h3, h4, cs', ?_⟩
    have := h5.inv
    rw [h3] at this
    exact this
theorem awk_take {w wr : World} {x lb N K : Nat} {V : MstV} (h : AwkS w wr x lb V N K) (hN : N ≤ 100000) (hK : K ≤ 60000) {n now : Int} (hn : 0 ≤ n ∧ n ≤ 7) (ht : 0 ≤ now ∧ now ≤ 1000) :
    Calls Tryz.prog 25 #[.pointer (some ⟨x, 0, none⟩), .agg (beatC n 1 (bt15 now)).toArray, .int .i64 now] wr fun en w' => (∃ A k cap, en = .returned (.slice A k cap)) ∧ AwkS w w' x lb (take15 V n now) (N + 400) (K + 210) ∧ KeepB wr w' := by
  obtain ⟨b, l, cs, h1, h2, h3, h4⟩ := h
  obtain ⟨e1, e2, cs', e3⟩ := take_small h3 (by omega) n now
  refine (mtake_beat (bt := bt15 now) (now := now) h2.mst rfl rfl rfl rfl rfl rfl rfl ⟨⟨by show (_ : Int) ≤ now; omega, by show now ≤ _; omega⟩, W64.mk (by simp only [bt15]; omega) (by simp only [bt15]; omega), W64.mk (by simp only [bt15]; omega) (by simp only [bt15]; omega)⟩ (W64.mk (by omega) (by omega)) (W64.mk (by omega) (by omega)) ⟨by omega, by omega⟩ (by omega) (by omega)).mono ?_
  rintro en w' ⟨v, b', rfl, hS, hM, hF, hFN⟩
  obtain ⟨A, cap, rfl⟩ := hS.form
  rw [e1] at hM
  exact ⟨⟨_, _, _, rfl⟩, ⟨b', _, cs', hFN.lb.trans h1, h2.next hM hF hFN, e3, by omega⟩, KeepB.of_fk h2.mst hF⟩
theorem awk_tick {w wr : World} {x lb N K : Nat} {V : MstV} (h : AwkS w wr x lb V N K) (hN : N ≤ 100000) (hK : K ≤ 60000) {now : Int} (ht : 0 ≤ now ∧ now ≤ 1000) :
    Calls Tryz.prog 26 #[.pointer (some ⟨x, 0, none⟩), .int .i64 now] wr fun en w' => (∃ A cap, en = .returned (.slice A (annM (turnV V now) now).cf.chain.length cap)) ∧ AwkS w w' x lb (annM (turnV V now) now) (N + 400) (K + 210) ∧ KeepB wr w' := by
  obtain ⟨b, l, cs, h1, h2, h3, h4⟩ := h
  obtain ⟨e1, e2⟩ := turn_small h3 (by omega) now
  obtain ⟨cs', e3⟩ := turn_turned h3 now
  have e3 := e3.inv
  rw [e1] at e3
  refine (mtick_any h2.mst ⟨by omega, by omega⟩ (by omega) (by have := h3.len; omega) rfl rfl).mono ?_
  rintro en w' ⟨v, b', rfl, hS, hM, hF, hFN⟩
  obtain ⟨A, cap, rfl⟩ := hS.form
  rw [e1] at hM ⊢
  have el : (annL (turnV V now) now).length = (annM (turnV V now) now).cf.chain.length := by simp [annL, annM]
  rw [el]
  exact ⟨⟨_, _, rfl⟩, ⟨b', _, cs', hFN.lb.trans h1, h2.next hM hF hFN, e3.keep rfl rfl rfl, by omega⟩, KeepB.of_fk h2.mst hF⟩
theorem awk_conf {w wr : World} {x lb N K n : Nat} {V : MstV} (h : AwkS w wr x lb V N K) {e : Int} {L : List SeatV} (hcf : V.cf = ⟨e, L⟩) (hn : L.length = n) :
    Calls Tryz.prog 13 #[.pointer (some ⟨x, 0, none⟩)] wr fun en w' => ∃ A cap, en = .returned (.agg #[.int .i64 e, .slice A n cap]) ∧ ChainS w' (.slice A n cap) L ∧ Below wr.heap.size wr w' := by
  obtain ⟨b, l, cs, h1, h2, h3, h4⟩ := h
  refine (mconfig_any h2.mst).mono ?_
  rintro en w' ⟨A, cap, rfl, hC, hb⟩
  rw [hcf] at hC ⊢
  simp only at hC ⊢
  rw [hn] at hC ⊢
  exact ⟨A, cap, rfl, hC, hb⟩
theorem awk_recover {w wr : World} {x lb N K : Nat} {V : MstV} (h : AwkS w wr x lb V N K) {now : Int} (ht : 0 ≤ now ∧ now ≤ 1000) :
    Calls Tryz.prog 23 #[.agg (setCells7 set3).toArray, .pointer (some ⟨lb, 0, none⟩), .int .i64 now] wr fun en w' => ∃ y, en = .returned (.tuple #[.pointer (some ⟨y, 0, none⟩), .int .i64 0]) ∧ (∃ V', V'.cf = V.cf ∧ AwkS w w' y lb V' 1000000 K) ∧ KeepB wr w' := by
  obtain ⟨b, l, cs, h1, h2, h3, h4⟩ := h
  obtain ⟨u, hlog⟩ := h2.mst.log
  rw [h1] at hlog
  have hlb : w.heap.size ≤ lb := by rw [← h1]; exact h2.loc _ (MAt.mem (b := b) (x := x) b.lb (by simp))
  have hc := h3.count
  refine (mrecover_any hlog h3.len rfl h3.row h3.last h3.scan (by omega) ⟨by omega, by omega⟩ ⟨by simp only [set3]; omega, by simp only [set3]; omega⟩).mono ?_
  rintro en w' ⟨y, b', rfl, hlb', hM, hF, hFN⟩
  refine ⟨y, rfl, ⟨recoverM set3 cs V.cf now, rfl, b', _, cs, hlb', OwnM.first h2.below h2.base hlb hM hF hFN, ?_, by have := List.length_take_le' (scanS l).2 l; omega⟩, KeepB.of_log hlog hF⟩
  have hr := recover_inv (s := set3) h3.row h3.last (by rw [← h3.log]; exact h3.len) now
  have hk := mrecs_small (K := cs.map encConf) (by rw [← h3.log]; exact h3.len)
  have : l.take (scanS l).2 = recs (cs.map encConf) := by
    rw [h3.log, scan_all _ hk]
    exact List.take_length
  rw [this]
  exact hr
end Go.Proofs.YtomfmejodmfioaaGreat
