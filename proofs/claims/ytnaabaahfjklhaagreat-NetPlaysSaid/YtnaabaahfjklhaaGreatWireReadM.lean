/- A message is read: every field. -/
import Derived.Test.YtnaabaahfjklhaaGreatWireWrite
import Derived.Test.YtnaabaahfjklhaaGreatKOp2
namespace Go.Proofs.YtnaabaahfjklhaaGreat
open Go.RowKit Go.ChangeShapes Go.WideShapes Go.Joins Go.Deep Fld
set_option linter.unusedVariables false

/-- A message that was read, in blocks of its own. -/
def MsgR (n : Nat) (w : World) (m : Nat) (M : MsgV) : Prop := ∃ v1 v2, BlkAt w m 40 (msgCells M v1 v2) ∧ ChainFrom n w v1 M.cf.chain ∧ FiresFrom n w v2 M.fires
theorem FiresFrom.nil (n : Nat) (w : World) : FiresFrom n w (.slice none 0 0) [] := ⟨FiresAt.nil w, by simp [Value.ownBlock]⟩
theorem MsgR.at {n m : Nat} {w : World} {M : MsgV} (h : MsgR n w m M) : ∃ v1 v2, BlkAt w m 40 (msgCells M v1 v2) ∧ M.At w (.agg (msgCells M v1 v2).toArray) := by
  obtain ⟨v1, v2, h1, h2, h3⟩ := h
  exact ⟨v1, v2, h1, v1, v2, rfl, h2.1, h3.1⟩
theorem ChainFrom.mono {n n' : Nat} {w : World} {v : Value} {L : List SeatV} (h : ChainFrom n w v L) (hn : n' ≤ n) : ChainFrom n' w v L := ⟨h.1, fun k hk => Nat.le_trans hn (h.2 k hk)⟩
theorem FiresFrom.mono {n n' : Nat} {w : World} {v : Value} {L : List FireV} (h : FiresFrom n w v L) (hn : n' ≤ n) : FiresFrom n' w v L := ⟨h.1, fun k hk => Nat.le_trans hn (h.2 k hk)⟩
theorem MsgR.grown {n m X : Nat} {w w' : World} {M : MsgV} (h : MsgR n w m M) (hg : w.grownBy w' (some X)) (hX : X < n) (hm : m ≠ X) : MsgR n w' m M := by
  obtain ⟨v1, v2, h1, h2, h3⟩ := h
  exact ⟨v1, v2, h1.grown hg hm, h2.grown hg hX, h3.grown hg hX⟩
theorem MsgR.below {n m : Nat} {w w' : World} {M : MsgV} (h : MsgR n w m M) (hb : Below w.heap.size w w') : MsgR n w' m M := by
  obtain ⟨v1, v2, h1, h2, h3⟩ := h
  exact ⟨v1, v2, h1.below hb, ⟨h2.1.below hb, h2.2⟩, ⟨h3.1.below hb, h3.2⟩⟩

/-- A message as a value, what it leads to in blocks from n on. -/
def MsgV.From (M : MsgV) (n : Nat) (w : World) (v : Value) : Prop := ∃ v1 v2, v = .agg (msgCells M v1 v2).toArray ∧ ChainFrom n w v1 M.cf.chain ∧ FiresFrom n w v2 M.fires
theorem MsgV.From.at {M : MsgV} {n : Nat} {w : World} {v : Value} (h : M.From n w v) : M.At w v := by
  obtain ⟨v1, v2, h1, h2, h3⟩ := h
  exact ⟨v1, v2, h1, h2.1, h3.1⟩
theorem MsgV.From.mono {M : MsgV} {n n' : Nat} {w : World} {v : Value} (h : M.From n w v) (hn : n' ≤ n) : M.From n' w v := by
  obtain ⟨v1, v2, h1, h2, h3⟩ := h
  exact ⟨v1, v2, h1, h2.mono hn, h3.mono hn⟩
theorem MsgV.From.below {M : MsgV} {n : Nat} {w w' : World} {v : Value} (h : M.From n w v) (hb : Below w.heap.size w w') : M.From n w' v := by
  obtain ⟨v1, v2, h1, h2, h3⟩ := h
  exact ⟨v1, v2, h1, ⟨h2.1.below hb, h2.2⟩, ⟨h3.1.below hb, h3.2⟩⟩
theorem MsgV.From.grown {M : MsgV} {n X : Nat} {w w' : World} {v : Value} (h : M.From n w v) (hg : w.grownBy w' (some X)) (hX : X < n) : M.From n w' v := by
  obtain ⟨v1, v2, h1, h2, h3⟩ := h
  exact ⟨v1, v2, h1, h2.grown hg hX, h3.grown hg hX⟩
theorem MsgV.From.zero (n : Nat) (w : World) : msgZero.From n w (.agg (msgCells msgZero (.slice none 0 0) (.slice none 0 0)).toArray) := ⟨_, _, rfl, ChainFrom.nil _ _, FiresFrom.nil _ _⟩

/-- What a field's function does that reads. -/
def FldR (n : Nat) (w : World) (F : Fld) (d r m : Nat) (l : List UInt8) (e : Int) (M : MsgV) : Prop :=
  Calls Tryz.prog (fnOf F) #[.pointer (some ⟨d, 0, none⟩)] w fun en w' => en = .returned (.tuple #[]) ∧ RdAt w' r (rdFld F M l e).2.1 (rdFld F M l e).2.2 ∧ MsgR n w' m (rdFld F M l e).1 ∧ RKeep w w' r m
set_option maxRecDepth 100000 in
theorem fld_r (F : Fld) {n : Nat} {w : World} {r d m : Nat} {l : List UInt8} {e : Int} {M : MsgV} (hD : BlkAt w d 118 [.pointer (some ⟨m, 0, none⟩), .pointer none, .pointer (some ⟨r, 0, none⟩)]) (hM : MsgR n w m M)
    (hr : r < n) (hm : m < n) (hn : n ≤ w.heap.size) (ho : M.op.v.length = 8) (hR : RdAt w r l e) (hl : l.length ≤ 1000000) : FldR n w F d r m l e M := by
  obtain ⟨v1, v2, hM, hc, hf⟩ := hM
  obtain ⟨k, dst, fn, fl, ep, seq, req, cl, id, un, flag, op, re, rg, rd, cf, fires, life⟩ := M
  obtain ⟨ok, ov, oc⟩ := op
  obtain ⟨a1, a2, a3, a4, a5, a6, a7, a8, rfl⟩ := list8 ho
  obtain ⟨ce, ch⟩ := cf
  simp only at hc hf
  have one : ∀ {Q : List Int × List UInt8 × Int → Prop}, (∀ v l2 e2, rdIs 1 l e = ([v], l2, e2) → Q ([v], l2, e2)) → Q (rdIs 1 l e) := by
    intro Q h
    have hl := rdIs_len 1 l e
    obtain ⟨v, l1, e1, h1⟩ : ∃ v l1 e1, rdIs 1 l e = (v, l1, e1) := ⟨_, _, _, rfl⟩
    rw [h1] at hl ⊢
    obtain ⟨a, rfl⟩ := list1 hl
    exact h a l1 e1 h1
  have fin1 : ∀ {F : Fld} {g : Int → MsgV} (hg : ∀ v l2 e2, rdIs 1 l e = ([v], l2, e2) → rdFld F ⟨k, dst, fn, fl, ep, seq, req, cl, id, un, flag, ⟨ok, [a1, a2, a3, a4, a5, a6, a7, a8], oc⟩, re, rg, rd, ⟨ce, ch⟩, fires, life⟩ l e = (g v, l2, e2))
      (hgc : ∀ v, (g v).cf.chain = ch ∧ (g v).fires = fires)
      (h : ∀ v l2 e2, rdIs 1 l e = ([v], l2, e2) → Calls Tryz.prog (fnOf F) #[.pointer (some ⟨d, 0, none⟩)] w fun en w' => en = .returned (.tuple #[]) ∧ RdAt w' r l2 e2 ∧ BlkAt w' m 40 (msgCells (g v) v1 v2) ∧ RKeep w w' r m),
      FldR n w F d r m l e ⟨k, dst, fn, fl, ep, seq, req, cl, id, un, flag, ⟨ok, [a1, a2, a3, a4, a5, a6, a7, a8], oc⟩, re, rg, rd, ⟨ce, ch⟩, fires, life⟩ := by
    intro F g hg hgc h
    have hlen := rdIs_len 1 l e
    obtain ⟨v, l1, e1, h1⟩ : ∃ v l1 e1, rdIs 1 l e = (v, l1, e1) := ⟨_, _, _, rfl⟩
    rw [h1] at hlen
    obtain ⟨a, rfl⟩ := list1 hlen
    unfold FldR
    rw [hg a l1 e1 h1]
    refine (h a l1 e1 h1).mono ?_
    rintro en w' ⟨rfl, h2, h3, h4⟩
    exact ⟨rfl, h2, ⟨v1, v2, h3, by rw [(hgc a).1]; exact hc.rkeep h4 hr hm, by rw [(hgc a).2]; exact hf.rkeep h4 hr hm⟩, h4⟩
  cases F with
  | fE => exact fin1 (g := fun v => ⟨k, dst, fn, fl, v, seq, req, cl, id, un, flag, ⟨ok, [a1, a2, a3, a4, a5, a6, a7, a8], oc⟩, re, rg, rd, ⟨ce, ch⟩, fires, life⟩) (fun v l2 e2 h => by simp only [rdFld, h]; rfl) (fun _ => ⟨rfl, rfl⟩) fun v l2 e2 h => depoch_r hD hM rfl hR hl h
  | fS => exact fin1 (g := fun v => ⟨k, dst, fn, fl, ep, v, req, cl, id, un, flag, ⟨ok, [a1, a2, a3, a4, a5, a6, a7, a8], oc⟩, re, rg, rd, ⟨ce, ch⟩, fires, life⟩) (fun v l2 e2 h => by simp only [rdFld, h]; rfl) (fun _ => ⟨rfl, rfl⟩) fun v l2 e2 h => dseq_r hD hM rfl hR hl h
  | fU => exact fin1 (g := fun v => ⟨k, dst, fn, fl, ep, seq, req, cl, id, v, flag, ⟨ok, [a1, a2, a3, a4, a5, a6, a7, a8], oc⟩, re, rg, rd, ⟨ce, ch⟩, fires, life⟩) (fun v l2 e2 h => by simp only [rdFld, h]; rfl) (fun _ => ⟨rfl, rfl⟩) fun v l2 e2 h => duntil_r hD hM rfl hR hl h
  | fL => exact fin1 (g := fun v => ⟨k, dst, fn, fl, ep, seq, req, cl, id, un, flag, ⟨ok, [a1, a2, a3, a4, a5, a6, a7, a8], oc⟩, re, rg, rd, ⟨ce, ch⟩, fires, v⟩) (fun v l2 e2 h => by simp only [rdFld, h]; rfl) (fun _ => ⟨rfl, rfl⟩) fun v l2 e2 h => dlife_r hD hM rfl hR hl h
  | fQ => exact fin1 (g := fun v => ⟨k, dst, fn, fl, ep, seq, v, cl, id, un, flag, ⟨ok, [a1, a2, a3, a4, a5, a6, a7, a8], oc⟩, re, rg, rd, ⟨ce, ch⟩, fires, life⟩) (fun v l2 e2 h => by simp only [rdFld, h]; rfl) (fun _ => ⟨rfl, rfl⟩) fun v l2 e2 h => dreq_r hD hM rfl hR hl h
  | fI => exact fin1 (g := fun v => ⟨k, dst, fn, fl, ep, seq, req, cl, v, un, flag, ⟨ok, [a1, a2, a3, a4, a5, a6, a7, a8], oc⟩, re, rg, rd, ⟨ce, ch⟩, fires, life⟩) (fun v l2 e2 h => by simp only [rdFld, h]; rfl) (fun _ => ⟨rfl, rfl⟩) fun v l2 e2 h => did_r hD hM rfl hR hl h
  | fT => exact fin1 (g := fun v => ⟨k, dst, fn, fl, ep, seq, req, v, id, un, flag, ⟨ok, [a1, a2, a3, a4, a5, a6, a7, a8], oc⟩, re, rg, rd, ⟨ce, ch⟩, fires, life⟩) (fun v l2 e2 h => by simp only [rdFld, h]; rfl) (fun _ => ⟨rfl, rfl⟩) fun v l2 e2 h => dclient_r hD hM rfl hR hl h
  | fF =>
    have hlen := rdIs_len 2 l e
    obtain ⟨v, l1, e1, h1⟩ : ∃ v l1 e1, rdIs 2 l e = (v, l1, e1) := ⟨_, _, _, rfl⟩
    rw [h1] at hlen
    obtain ⟨x0, x1, rfl⟩ := list2 hlen
    unfold FldR
    simp only [rdFld, h1]
    refine Calls.mono (dfrom_r hD hM rfl rfl hR hl h1) ?_
    rintro en w' ⟨rfl, h2, h3, h4⟩
    exact ⟨rfl, h2, ⟨v1, v2, h3, hc.rkeep h4 hr hm, hf.rkeep h4 hr hm⟩, h4⟩
  | fR =>
    have hlen := rdIs_len 3 l e
    obtain ⟨v, l1, e1, h1⟩ : ∃ v l1 e1, rdIs 3 l e = (v, l1, e1) := ⟨_, _, _, rfl⟩
    rw [h1] at hlen
    obtain ⟨x0, x1, x2, rfl⟩ := list3 hlen
    unfold FldR
    simp only [rdFld, h1]
    refine Calls.mono (dreply_r hD hM rfl rfl rfl hR hl h1) ?_
    rintro en w' ⟨rfl, h2, h3, h4⟩
    exact ⟨rfl, h2, ⟨v1, v2, h3, hc.rkeep h4 hr hm, hf.rkeep h4 hr hm⟩, h4⟩
  | fG =>
    obtain ⟨b, l1, e1, h1⟩ : ∃ b l1 e1, rdB l e = (b, l1, e1) := ⟨_, _, _, rfl⟩
    unfold FldR
    simp only [rdFld, h1]
    refine Calls.mono (dflag_r hD hM rfl hR hl h1 rfl rfl) ?_
    rintro en w' ⟨rfl, h2, h3, h4⟩
    exact ⟨rfl, h2, ⟨v1, v2, h3, hc.rkeep h4 hr hm, hf.rkeep h4 hr hm⟩, h4⟩
  | fC =>
    obtain ⟨c, l1, e1, h1⟩ : ∃ c l1 e1, takeC l e = (c, l1, e1) := ⟨_, _, _, rfl⟩
    unfold FldR
    simp only [rdFld, h1]
    refine Calls.mono (dconf_r hD hM rfl rfl hR hl h1) ?_
    rintro en w' ⟨rfl, h2, ⟨v, h5, h3⟩, h4⟩
    exact ⟨rfl, h2, ⟨v, v2, h3, h5.mono hn, hf.rkeep h4 hr hm⟩, h4⟩
  | fO =>
    obtain ⟨o, l1, e1, h1⟩ : ∃ o l1 e1, takeOp l e = (o, l1, e1) := ⟨_, _, _, rfl⟩
    have hok := (takeOp_ok l e hl).1.1
    rw [h1] at hok
    obtain ⟨pk, pv, pc⟩ := o
    obtain ⟨b1, b2, b3, b4, b5, b6, b7, b8, rfl⟩ := list8 hok
    unfold FldR
    simp only [rdFld, h1]
    refine Calls.mono (dop_r hD hM rfl rfl rfl rfl rfl rfl rfl rfl rfl rfl hR hl h1) ?_
    rintro en w' ⟨rfl, h2, h3, h4⟩
    exact ⟨rfl, h2, ⟨v1, v2, h3, hc.rkeep h4 hr hm, hf.rkeep h4 hr hm⟩, h4⟩
  | fX =>
    obtain ⟨c, l1, e1, h1⟩ : ∃ c l1 e1, rdU l e = (c, l1, e1) := ⟨_, _, _, rfl⟩
    unfold FldR
    by_cases h8 : 8 < c
    · simp only [rdFld, h1, if_pos h8]
      refine Calls.mono (dfires_many hD hM hR hl h1 h8) ?_
      rintro en w' ⟨rfl, h2, h3, h4⟩
      exact ⟨rfl, h2, ⟨v1, v2, h3, hc.rkeep h4 hr hm, hf.rkeep h4 hr hm⟩, h4⟩
    · obtain ⟨L, l2, e2, h5⟩ : ∃ L l2 e2, rdFires c l1 e1 = (L, l2, e2) := ⟨_, _, _, rfl⟩
      simp only [rdFld, h1, if_neg h8, h5]
      refine Calls.mono (dfires_few hD hM rfl hR hl h1 (by omega) h5) ?_
      rintro en w' ⟨rfl, h2, ⟨v, h6, h3⟩, h4⟩
      exact ⟨rfl, h2, ⟨v1, v, h3, hc.rkeep h4 hr hm, h6.mono hn⟩, h4⟩
theorem rdFld_op {F : Fld} {M : MsgV} {l : List UInt8} {e : Int} (hl : l.length ≤ 1000000) (h : M.op.v.length = 8) : (rdFld F M l e).1.op.v.length = 8 := by
  cases F with
  | fO => exact (takeOp_ok l e hl).1.1
  | fX =>
    simp only [rdFld]
    split <;> exact h
  | _ => exact h
theorem rdFld_len (F : Fld) (M : MsgV) (l : List UInt8) (e : Int) (hl : l.length ≤ 1000000) : (rdFld F M l e).2.1.length ≤ l.length := by
  cases F with
  | fG => exact rdB_len l e
  | fC => exact takeC_len l e
  | fO => exact (takeOp_ok l e hl).2
  | fX =>
    simp only [rdFld]
    split
    · exact rdU_len l e
    · exact Nat.le_trans (rdFires_len _ _ _).2 (rdU_len l e)
  | _ => exact rdIs_short _ l e
theorem rdFlds_facts (R : List Fld) (M : MsgV) (l : List UInt8) (e : Int) (hl : l.length ≤ 1000000) (h : M.op.v.length = 8) : (rdFlds R M l e).1.op.v.length = 8 ∧ (rdFlds R M l e).2.1.length ≤ l.length := by
  induction R generalizing M l e with
  | nil => exact ⟨h, Nat.le_refl _⟩
  | cons F R ih =>
    have h1 := rdFld_len F M l e hl
    have h2 := ih (rdFld F M l e).1 (rdFld F M l e).2.1 (rdFld F M l e).2.2 (Nat.le_trans h1 hl) (rdFld_op hl h)
    exact ⟨h2.1, Nat.le_trans h2.2 h1⟩
end Go.Proofs.YtnaabaahfjklhaaGreat
