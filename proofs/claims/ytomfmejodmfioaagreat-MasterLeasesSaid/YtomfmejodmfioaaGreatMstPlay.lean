/- A player's step. -/
import Derived.Test.YtomfmejodmfioaaGreatMstOpen
namespace Go.Proofs.YtomfmejodmfioaaGreat
open Go.RowKit Go.Maps Go.ChangeShapes Go.WideShapes Go.Joins Go.Deep
set_option linter.unusedVariables false


/-- The cells of a player: its setup, its log, its master, its time. -/
def playC (s : SetV) (lb x : Nat) (now : Int) : List Value := setC7 s ++ [.pointer (some ⟨lb, 0, none⟩), .pointer (some ⟨x, 0, none⟩), .int .i64 now]
/-- Blocks that are no part of a player stay: of other kinds, and maps that are none of the master's. -/
def KeepP (w w' : World) (bs : List Nat) : Prop :=
  w.heap.size ≤ w'.heap.size ∧ (∀ (k : Nat) (T : TypeId), IsCells w k T → T ≠ 87 → T ≠ 114 → T ≠ 144 → T ≠ 5 → T ≠ 39 → w'.heap[k]? = w.heap[k]?) ∧ ∀ k, IsMapB w k → k ∉ bs → w'.heap[k]? = w.heap[k]?
/-- A player at block p, all of whose blocks are the call's own: the master's are bs. -/
structure PlyAt (w0 w : World) (B p : Nat) (s : SetV) (N : Nat) (V : MstV) (l : List UInt8) (cs : List ConfV) (now : Int) (bs : List Nat) : Prop where
  own : ∃ x b, bs = b.list x ∧ BlkAt w p 39 (playC s b.lb x now) ∧ OwnM w0 w B x b N V l
  inv : Inv s V l cs
  new : w0.heap.size ≤ p
section
variable {w0 w w' : World} {B p N : Nat} {s : SetV} {V : MstV} {l : List UInt8} {cs : List ConfV} {now : Int} {bs : List Nat}
theorem PlyAt.low (h : PlyAt w0 w B p s N V l cs now bs) : Below w0.heap.size w0 w := by
  obtain ⟨x, b, _, _, ho⟩ := h.own
  exact ho.below
theorem PlyAt.below (h : PlyAt w0 w B p s N V l cs now bs) (hb : Below w.heap.size w w') : PlyAt w0 w' B p s N V l cs now bs := by
  obtain ⟨x, b, h1, h2, h3⟩ := h.own
  exact ⟨⟨x, b, h1, h2.below hb, h3.step hb⟩, h.inv, h.new⟩
theorem PlyAt.mono (h : PlyAt w0 w B p s N V l cs now bs) {N' : Nat} (hn : N ≤ N') : PlyAt w0 w B p s N' V l cs now bs := by
  obtain ⟨x, b, h1, h2, h3⟩ := h.own
  exact ⟨⟨x, b, h1, h2, h3.mono hn⟩, h.inv, h.new⟩
theorem KeepP.of_below (hb : Below w.heap.size w w') (bs : List Nat) : KeepP w w' bs := ⟨hb.size, fun k T hk _ _ _ _ _ => hb.block k hk.lt, fun k hk _ => hb.block k hk.lt⟩
theorem KeepP.of_fk {x : Nat} {b : MBlk} (h : MAt B w x b N V l) (hF : FK (b.list x) B w w') : KeepP w w' (b.list x) := ⟨hF.size, fun k T hk h1 h2 h3 h4 _ => hF.at hk (h.not hk h1 h2 h3) h4, fun k hk hn => hF.atMap hk hn⟩
theorem KeepP.of_log {lb : Nat} {u : Value} {t : Bool} (h : LogAt B w lb u l t) (hF : FK [lb] B w w') (bs : List Nat) : KeepP w w' bs :=
  ⟨hF.size, fun k T hk h1 h2 h3 h4 _ => (KeepB.of_log h hF).2 k T hk h1 h2 h3 h4, fun k hk _ => hF.atMap hk (fun e => by
    rw [List.mem_singleton.1 e] at hk
    exact cells_ne_map ⟨_, _, h.2.1⟩ hk rfl)⟩
theorem KeepP.of_player {cs : List Value} {i : Nat} {v : Value} (h : BlkAt w p 39 cs) (bs : List Nat) : KeepP w (w.setCell ⟨p, i, none⟩ v) bs := by
  have g := grown_setCell w p i v
  exact ⟨g.size, fun k T hk _ _ _ _ h5 => g.block k hk.lt (fun e => by cases e; exact cells_ne hk h.kind h5 rfl), fun k hk _ => g.block k hk.lt (fun e => by cases e; exact cells_ne_map h.kind hk rfl)⟩
theorem KeepP.kind {k : Nat} {T : TypeId} (h : KeepP w w' bs) (hk : IsCells w k T) (h1 : T ≠ 87) (h2 : T ≠ 114) (h3 : T ≠ 144) (h4 : T ≠ 5) (h5 : T ≠ 39) : IsCells w' k T := by
  obtain ⟨cs, fr, hc⟩ := hk
  exact ⟨cs, fr, (h.2.1 k T ⟨cs, fr, hc⟩ h1 h2 h3 h4 h5).trans hc⟩
theorem KeepP.kindM {k : Nat} (h : KeepP w w' bs) (hk : IsMapB w k) (hn : k ∉ bs) : IsMapB w' k := by
  obtain ⟨es, c, hc⟩ := hk
  exact ⟨es, c, (h.2.2 k ⟨es, c, hc⟩ hn).trans hc⟩
theorem KeepP.trans {w'' : World} {bs' : List Nat} (h : KeepP w w' bs) (hn : FNew w bs bs') (g : KeepP w' w'' bs') : KeepP w w'' bs :=
  ⟨Nat.le_trans h.1 g.1, fun k T hk h1 h2 h3 h4 h5 => (g.2.1 k T (h.kind hk h1 h2 h3 h4 h5) h1 h2 h3 h4 h5).trans (h.2.1 k T hk h1 h2 h3 h4 h5),
   fun k hk hm => (g.2.2 k (h.kindM hk hm) (fun e => by
    rcases hn.1 k e with h1 | h1
    · exact hm h1
    · have := hk.lt; omega)).trans (h.2.2 k hk hm)⟩
theorem KeepP.same {w'' : World} (h : KeepP w w' bs) (g : KeepP w' w'' bs) : KeepP w w'' bs := h.trans (FNew.refl _ _) g
theorem BlkAt.keepP {c : Nat} {T : TypeId} {cs : List Value} (hc : BlkAt w c T cs) (h : KeepP w w' bs) (h1 : T ≠ 87) (h2 : T ≠ 114) (h3 : T ≠ 144) (h4 : T ≠ 5) (h5 : T ≠ 39) : BlkAt w' c T cs := (h.2.1 c T hc.kind h1 h2 h3 h4 h5).trans hc
theorem ChainS.keepP {v : Value} {L : List SeatV} (hc : ChainS w v L) (h : KeepP w w' bs) : ChainS w' v L := hc.fkAt (fun k hk => h.2.1 k _ hk (by decide) (by decide) (by decide) (by decide) (by decide)) h.1
/-- The player's time goes on. -/
theorem PlyAt.setNow (h : PlyAt w0 w B p s N V l cs now bs) (now' : Int) : PlyAt w0 (w.setCell ⟨p, 9, none⟩ (.int .i64 now')) B p s N V l cs now' bs := by
  obtain ⟨x, b, h1, h2, h3⟩ := h.own
  have g := grown_setCell w p 9 (.int .i64 now')
  have hM : MAt B (w.setCell ⟨p, 9, none⟩ (.int .i64 now')) x b N V l := h3.mst.other g (fun j e => by cases e; exact h2.kind) (by decide) (by decide) (by decide) (by decide) (by decide)
  exact ⟨⟨x, b, h1, h2.set 9 _, hM, h3.below.grown g h3.below.size (fun j e => by cases e; exact h.new), h3.base, h3.loc⟩, h.inv, h.new⟩
end
/-- What a step leaves, in memory. -/
def PlyRes (w0 w w' : World) (B p : Nat) (s : SetV) (N : Nat) (V : MstV) (l : List UInt8) (cs : List ConfV) (now : Int) (bs : List Nat) (o : MopV) (en : Ending) : Prop :=
  ∃ v V' l' cs' said bs', en = .returned (.tuple #[v, .bool true]) ∧ MsgsS w.heap.size w' v said V'.cf ∧ PlyAt w0 w' B p s (N + 1100000) V' l' cs' now bs' ∧ KeepP w w' bs ∧ FNew w bs bs' ∧ Stepd s V l cs now o V' l' cs' said
theorem ply_fin {w0 w w2 w4 w5 : World} {B p N N' x : Nat} {s : SetV} {V V' : MstV} {l l' : List UInt8} {cs cs' : List ConfV} {now : Int} {b b' : MBlk} {o : MopV} {v : Value} {said : List (Int × Int)}
    (hK2 : KeepP w w2 (b.list x)) (hb : Below w2.heap.size w2 w4) (hX : BlkAt w2 p 39 (playC s b.lb x now)) (hO : OwnM w0 w2 B x b N V l) (hp : w0.heap.size ≤ p)
    (hM : MAt B w5 x b' N' V' l') (hF : FK (b.list x) B w4 w5) (hFN : FNew w4 (b.list x) (b'.list x)) (hN : N' ≤ N + 1100000) (hS : MsgsS w4.heap.size w5 v said V'.cf) (hst : Stepd s V l cs now o V' l' cs' said) :
    PlyRes w0 w w5 B p s N V l cs now (b.list x) o (.returned (.tuple #[v, .bool true])) := by
  have hsz := Nat.le_trans hK2.1 hb.size
  have hO4 := hO.step hb
  refine ⟨v, V', l', cs', said, b'.list x, rfl, hS.mono hsz, ⟨⟨x, b', rfl, ?_, (hO4.next hM hF hFN).mono hN⟩, hst.inv, hp⟩, (hK2.same (KeepP.of_below hb _)).same (KeepP.of_fk hO4.mst hF), (FNew.refl w (b.list x)).trans hsz hFN, hst⟩
  rw [hFN.lb]
  exact ((hX.below hb).fk hO4.mst hF (by decide) (by decide) (by decide) (by decide))
theorem modU_wrap {x k : Int} (h0 : 0 < k) (h1 : k ≤ 1000) : wrap64 ((IntKind.u64.wrap x).tmod k) = modU x k := by
  have := modU_in (x := x) h0
  unfold modU at this ⊢
  rw [IntWalk.wrap64_in _ ⟨by omega, by omega⟩]
theorem ply_fall {w0 w w2 w4 w5 w6 : World} {B p N x y : Nat} {s : SetV} {V V' : MstV} {l l' : List UInt8} {cs cs' : List ConfV} {now : Int} {b b' : MBlk} {o : MopV} {u : Value} {lt : List UInt8} {t : Bool}
    (hK2 : KeepP w w2 (b.list x)) (hb : Below w2.heap.size w2 w4) (hX : BlkAt w2 p 39 (playC s b.lb x now)) (hO : OwnM w0 w2 B x b N V l) (hp : w0.heap.size ≤ p)
    (hF : FK [b.lb] B w4 w5) (hlog : LogAt B w5 b.lb u lt t) (hF6 : FK [b.lb] B w5 w6) (hFN : FNew w5 [b.lb] (b'.list y)) (hlb : b'.lb = b.lb) (hM : MAt B w6 y b' 1000000 V' l') (hst : Stepd s V l cs now o V' l' cs' []) :
    BlkAt w6 p 39 (playC s b.lb x now) ∧ PlyRes w0 w (w6.setCell ⟨p, 8, none⟩ (.pointer (some ⟨y, 0, none⟩))) B p s N V l cs now (b.list x) o (.returned (.tuple #[.slice none 0 0, .bool true])) := by
  have hO4 := hO.step hb
  obtain ⟨u4, hlog4⟩ := hO4.mst.log
  have hlbn : w0.heap.size ≤ b.lb := hO.loc _ (MAt.mem (b := b) (x := x) b.lb (by simp))
  have k5 := KeepP.of_log hlog4 hF (b.list x)
  have k6 := KeepP.of_log hlog hF6 (b.list x)
  have hX6 : BlkAt w6 p 39 (playC s b.lb x now) := by
    have h5 : BlkAt w5 p 39 (playC s b.lb x now) := ((KeepB.of_log hlog4 hF).2 p _ (hX.below hb).kind (by decide) (by decide) (by decide) (by decide)).trans (hX.below hb)
    exact ((KeepB.of_log hlog hF6).2 p _ h5.kind (by decide) (by decide) (by decide) (by decide)).trans h5
  have g := grown_setCell w6 p 8 (.pointer (some ⟨y, 0, none⟩))
  have hb5 := hF.to_below hO4.below (fun k hk => by rw [List.mem_singleton.1 hk]; exact hlbn) hO.base
  have hO6 := OwnM.first hb5 hO.base hlbn hM hF6 hFN
  have hs5 := hF.size
  have hs6 := hF6.size
  have hk24 := Nat.le_trans hK2.1 hb.size
  refine ⟨hX6, .slice none 0 0, V', l', cs', [], b'.list y, rfl, MsgsS.nil _ _ _, ⟨⟨y, b', rfl, ?_, ?_⟩, hst.inv, hp⟩, (((hK2.same (KeepP.of_below hb _)).same k5).same k6).same (KeepP.of_player hX6 _), ⟨fun k hk => ?_, fun _ => ⟨rfl, ?_⟩⟩, hst⟩
  · rw [hlb]
    exact hX6.set 8 _
  · exact OwnM.mono ⟨hO6.mst.other g (fun j e => by cases e; exact hX6.kind) (by decide) (by decide) (by decide) (by decide) (by decide), hO6.below.grown g hO6.below.size (fun j e => by cases e; exact hp), hO6.base, hO6.loc⟩ (by omega)
  · rcases hFN.1 k hk with h1 | h1
    · left
      rw [List.mem_singleton.1 h1]
      exact MAt.mem (b := b) (x := x) b.lb (by simp)
    · right
      omega
  · simp [MBlk.list, hlb]
set_option maxRecDepth 100000 in
set_option maxHeartbeats 8000000 in

theorem play_go {w0 w : World} {B p N : Nat} {s : SetV} {V : MstV} {l : List UInt8} {cs : List ConfV} {now nw : Int} {bs : List Nat} (h : PlyAt w0 w B p s N V l cs now bs) (hset : mayS s = true) {kd d e kp nd lf : Int} {fl : Bool} (hod : W64 d) (hoe : W64 e) (hond : W64 nd) (holf : W64 lf) (ht : 0 ≤ now ∧ now ≤ 1000000000000) (hN : N ≤ 400000000) (hnow : nowP now d = nw) :
    Calls Tryz.prog 14 #[.pointer (some ⟨p, 0, none⟩), .agg (mopC ⟨kd, d, e, kp, nd, lf, fl⟩).toArray] w fun en w' => PlyRes w0 w w' B p s N V l cs nw bs ⟨kd, d, e, kp, nd, lf, fl⟩ en := by
  have hdd := modU_in (x := d) (k := 10) (by decide)
  have HDW := Lib.hid (modU_wrap (x := d) (k := 10) (by decide) (by decide))
  unfold nowP at hnow
  generalize modU d 10 = dd at *
  have HNW := Lib.hid hnow
  have HDW2 : Hid (wrap64 (now + wrap64 ((IntKind.u64.wrap d).tmod 10)) = now + dd) := Lib.hid (by rw [HDW.out, IntWalk.wrap64_in _ ⟨by omega, by omega⟩])
  have hnwb : 0 ≤ nw ∧ nw ≤ 1000000000010 := by omega
  clear hnow
  have hQ := BlkAt.new w 44 (mopC ⟨kd, d, e, kp, nd, lf, fl⟩)
  have hb := (Below.refl w.heap.size w).alloc (Nat.le_refl _) (.cells (mopC ⟨kd, d, e, kp, nd, lf, fl⟩).toArray 44)
  have hP := h.below hb
  have HK := Lib.hid (KeepP.of_below hb bs)
  go_enter Tryz.func14, Tryz.ntmps14
  go_upto_region 1 with (fail)
  change Code.wp _ _ _ _ (w.alloc (.cells (mopC ⟨kd, d, e, kp, nd, lf, fl⟩).toArray 44))
  generalize w.alloc (.cells (mopC ⟨kd, d, e, kp, nd, lf, fl⟩).toArray 44) = w1 at *
  obtain ⟨Q, hQd⟩ : ∃ Q, Q = w.heap.size := ⟨_, rfl⟩
  rw [← hQd] at hQ ⊢
  clear hQd hb h
  obtain ⟨x, b, rfl, hX, hO⟩ := hP.own
  have hp0 := hP.new
  have hinv := hP.inv
  clear hP
  have c9 : w1.cell? ⟨p, 9, none⟩ = some (.int .i64 now) := hX.cell rfl
  have q1 : w1.cell? ⟨Q, 1, none⟩ = some (.int .i64 d) := hQ.cell rfl
  have hxf := hX.free
  refine still_tail 12 (by kernel_rfl) (by kernel_rfl) ?_
  simp only [List.take_succ_cons, List.take_zero, List.drop_succ_cons, List.drop_zero]
  repeat still_step
  refine wpStill_nil ?_
  change wpList _ _ _ _ _ _
  go_upto_region 2 with (fail)
  rw [HDW2.out]
  have g2 := grown_setCell w1 p 9 (.int .i64 (now + dd))
  have HK2 : Hid (KeepP w (w1.setCell ⟨p, 9, none⟩ (.int .i64 (now + dd))).drew (b.list x)) := Lib.hid ((HK.out.same (KeepP.of_player hX _)).same (KeepP.of_below (below_drewN (Below.refl _ _) 1) _))
  have hX2 : BlkAt (w1.setCell ⟨p, 9, none⟩ (.int .i64 (now + dd))).drew p 39 (playC s b.lb x (now + dd)) := hX.set 9 _
  have hQ2 : BlkAt (w1.setCell ⟨p, 9, none⟩ (.int .i64 (now + dd))).drew Q 44 (mopC ⟨kd, d, e, kp, nd, lf, fl⟩) := BlkAt.grown (w := w1) (w' := w1.setCell ⟨p, 9, none⟩ (.int .i64 (now + dd))) hQ g2 (cells_ne hQ.kind hX.kind (by decide))
  have hO2 : OwnM w0 (w1.setCell ⟨p, 9, none⟩ (.int .i64 (now + dd))).drew B x b N V l :=
    OwnM.step ⟨hO.mst.other g2 (fun j e => by cases e; exact hX.kind) (by decide) (by decide) (by decide) (by decide) (by decide), hO.below.grown g2 hO.below.size (fun j e => by cases e; exact hp0), hO.base, hO.loc⟩ (below_drewN (Below.refl _ _) 1)
  clear hX hQ hO g2 HK c9 q1 hxf HDW HDW2
  generalize (w1.setCell ⟨p, 9, none⟩ (.int .i64 (now + dd))).drew = w2 at *
  rw [HNW.out] at hX2
  have HTN : Hid (TOk nw) := Lib.hid ⟨by omega, by omega⟩
  clear HNW hdd ht
  have HLEN : Hid (l.length ≤ 65536) := Lib.hid hinv.len
  have q0 : w2.cell? ⟨Q, 0, none⟩ = some (.int .i64 kd) := hQ2.cell rfl
  by_cases h1 : kd = 1
  · subst h1
    have hkk := modU_in (x := kp) (k := 8) (by decide)
    have HKW := Lib.hid (modU_wrap (x := kp) (k := 8) (by decide) (by decide))
    obtain ⟨cs', hst⟩ := step_one hinv ⟨1, d, e, kp, nd, lf, fl⟩ rfl nw
    have HST := Lib.hid hst
    clear hst
    simp only at HST
    generalize modU kp 8 = kk at *
    have HKW2 : Hid (IntKind.i64.wrap (nw + IntKind.i64.wrap ((IntKind.u64.wrap kp).tmod 8)) = nw + kk) := Lib.hid (by rw [IntWalk.i64_left, IntWalk.i64_left, HKW.out, IntWalk.wrap64_in _ ⟨by omega, by omega⟩])
    have HWE : Hid (W64 (nw + kk)) := Lib.hid (W64.mk (by omega) (by omega))
    go_upto_region 4 with (fail)
    have hb := Below.refl w2.heap.size w2
    have hX := hX2
    have hQ := hQ2
    have hM := hO2.mst
    have bd : Below w2.heap.size w2 w2.drew := below_drewN (Below.refl _ _) 1
    replace hX := hX.below bd
    replace hQ := hQ.below bd
    replace hM := hM.below bd
    replace hb := below_step hb bd
    clear bd
    refine wp_region_noPanic ?_
    refine wp_region_held_drew (S := (fun w' => w'.cell? ⟨p, 8, none⟩ = some (.pointer (some ⟨x, 0, none⟩)) ∧ w'.cell? ⟨p, 9, none⟩ = some (.int .i64 nw) ∧ w'.cell? ⟨Q, 2, none⟩ = some (.int .i64 e) ∧ w'.cell? ⟨Q, 3, none⟩ = some (.int .i64 kp) ∧ w'.cell? ⟨Q, 4, none⟩ = some (.int .i64 nd) ∧ w'.cell? ⟨Q, 5, none⟩ = some (.int .i64 lf) ∧ w'.cell? ⟨Q, 6, none⟩ = some (.bool fl))) (by kernel_rfl) (by exact ⟨hX.cell rfl, hX.cell rfl, hQ.cell rfl, hQ.cell rfl, hQ.cell rfl, hQ.cell rfl, hQ.cell rfl⟩) (fun hHeld => ?_)
    refine wtk 0 hHeld ?_
    refine wtk 1 hHeld ?_
    refine wtk 2 hHeld ?_
    refine wtk 3 hHeld ?_
    refine wtk 4 hHeld ?_
    refine wtk 5 hHeld ?_
    refine wtk 6 hHeld ?_
    refine wtk 7 hHeld ?_
    refine wtk 8 hHeld ?_
    refine wtk 9 hHeld ?_
    refine wtk 10 hHeld ?_
    refine wtk 11 hHeld ?_
    refine wtk 12 hHeld ?_
    refine wtk 13 hHeld ?_
    refine wtk 14 hHeld ?_
    refine wtk 15 hHeld ?_
    refine wtk 16 hHeld ?_
    refine wtk 17 hHeld ?_
    refine wtk 18 hHeld ?_
    refine wtk 19 hHeld ?_
    refine wtk 21 hHeld ?_
    refine wtk 22 hHeld ?_
    refine wtk 23 hHeld ?_
    refine wtk 24 hHeld ?_
    refine wpAnyH_ready (rs := [20]) (by kernel_rfl) (by simp) (AllReadyH.cons (o := ?oq_1_20) ?op_1_20 (fun K hK => ?re_1_20) AllReadyH.nil)
    case op_1_20 => (simp only [List.getElem?_toArray, List.getElem?_cons_succ, List.getElem?_cons_zero]; rfl)
    go_simp
    go_at_call 31
    rw [HKW2.out]
    refine (beat15_any nd lf ⟨nw, e, fl, nw + kk⟩ _).mono ?_
    rintro en w4 ⟨rfl, bz⟩
    replace hX := hX.below bz
    replace hQ := hQ.below bz
    replace hM := hM.below bz
    replace hb := below_step hb bz
    clear bz
    refine hK.out _ _ (by exact ⟨hX.cell rfl, hX.cell rfl, hQ.cell rfl, hQ.cell rfl, hQ.cell rfl, hQ.cell rfl, hQ.cell rfl⟩) (fun hHeld => ?_)
    clear hK K
    try simp only [Act.put, List.setIfInBounds_toArray, List.set_cons_zero, List.set_cons_succ]
    refine wpAnyH_ready (rs := [25]) (by kernel_rfl) (by simp) (AllReadyH.cons (o := ?oq_1_25) ?op_1_25 (fun K hK => ?re_1_25) AllReadyH.nil)
    case op_1_25 => (simp only [List.getElem?_toArray, List.getElem?_cons_succ, List.getElem?_cons_zero]; rfl)
    go_simp
    go_at_call 25
    refine (mtake_beat (bt := ⟨nw, e, fl, nw + kk⟩) (now := nw) (by exact hM) rfl rfl rfl rfl rfl rfl rfl ⟨HTN.out, hoe, HWE.out⟩ hond holf HTN.out (by omega) HLEN.out).mono ?_
    rintro en w5 ⟨v, b', rfl, hS, hM5, hF, hFN⟩
    obtain ⟨SA, Scap, rfl⟩ := hS.form
    have hX5 := hX.fk hM hF (by decide) (by decide) (by decide) (by decide)
    have hQ5 := hQ.fk hM hF (by decide) (by decide) (by decide) (by decide)
    refine hK.out _ _ (by exact ⟨hX5.cell rfl, hX5.cell rfl, hQ5.cell rfl, hQ5.cell rfl, hQ5.cell rfl, hQ5.cell rfl, hQ5.cell rfl⟩) (fun hHeld => ?_)
    clear hK K
    try simp only [Act.put, List.setIfInBounds_toArray, List.set_cons_zero, List.set_cons_succ]
    refine wtk 26 hHeld ?_
    refine wtk 27 hHeld ?_
    refine wpAnyH_done (by kernel_rfl) ?_ _
    refine NoPanic.normal ?_
    clear hHeld
    go_wp2_with fail
    go_ret2
    exact ply_fin HK2.out hb hX2 hO2 hp0 hM5 hF hFN (by omega) hS HST.out
  · by_cases h2 : kd = 2
    · subst h2
      obtain ⟨cs', hst⟩ := step_two hinv ⟨2, d, e, kp, nd, lf, fl⟩ rfl nw
      have HST := Lib.hid hst
      clear hst
      go_upto_region 6 with (fail)
      have hb := Below.refl w2.heap.size w2
      have hX := hX2
      have hQ := hQ2
      have hM := hO2.mst
      have bd : Below w2.heap.size w2 w2.drew := below_drewN (Below.refl _ _) 1
      replace hX := hX.below bd
      replace hQ := hQ.below bd
      replace hM := hM.below bd
      replace hb := below_step hb bd
      clear bd
      refine wp_region_noPanic ?_
      refine wp_region_held_drew (S := (fun w' => w'.cell? ⟨p, 8, none⟩ = some (.pointer (some ⟨x, 0, none⟩)) ∧ w'.cell? ⟨p, 9, none⟩ = some (.int .i64 nw))) (by kernel_rfl) (by exact ⟨hX.cell rfl, hX.cell rfl⟩) (fun hHeld => ?_)
      refine wtk 0 hHeld ?_
      refine wtk 1 hHeld ?_
      refine wtk 2 hHeld ?_
      refine wtk 3 hHeld ?_
      refine wtk 4 hHeld ?_
      refine wtk 5 hHeld ?_
      refine wtk 6 hHeld ?_
      refine wtk 7 hHeld ?_
      refine wpAnyH_ready (rs := [8]) (by kernel_rfl) (by simp) (AllReadyH.cons (o := ?oq_2_8) ?op_2_8 (fun K hK => ?re_2_8) AllReadyH.nil)
      case op_2_8 => (simp only [List.getElem?_toArray, List.getElem?_cons_succ, List.getElem?_cons_zero]; rfl)
      go_simp
      go_at_call 26
      refine (mtick_any (by exact hM) HTN.out (by omega) HLEN.out rfl rfl).mono ?_
      rintro en w5 ⟨v, b', rfl, hS, hM5, hF, hFN⟩
      obtain ⟨SA, Scap, rfl⟩ := hS.form
      have hX5 := hX.fk hM hF (by decide) (by decide) (by decide) (by decide)
      have hQ5 := hQ.fk hM hF (by decide) (by decide) (by decide) (by decide)
      refine hK.out _ _ (by exact ⟨hX5.cell rfl, hX5.cell rfl⟩) (fun hHeld => ?_)
      clear hK K
      try simp only [Act.put, List.setIfInBounds_toArray, List.set_cons_zero, List.set_cons_succ]
      refine wtk 9 hHeld ?_
      refine wtk 10 hHeld ?_
      refine wpAnyH_done (by kernel_rfl) ?_ _
      refine NoPanic.normal ?_
      clear hHeld
      go_wp2_with fail
      go_ret2
      exact ply_fin HK2.out hb hX2 hO2 hp0 hM5 hF hFN (by omega) hS HST.out
    · by_cases h3 : kd = 3
      · subst h3
        have HST := Lib.hid (step_three hinv ⟨3, d, e, kp, nd, lf, fl⟩ rfl nw)
        go_upto_region 8 with (fail)
        have hb := Below.refl w2.heap.size w2
        have hX := hX2
        have hQ := hQ2
        have hM := hO2.mst
        have bd : Below w2.heap.size w2 w2.drew := below_drewN (Below.refl _ _) 1
        replace hX := hX.below bd
        replace hQ := hQ.below bd
        replace hM := hM.below bd
        replace hb := below_step hb bd
        clear bd
        refine wp_region_noPanic ?_
        refine wp_region_held_drew (S := (fun w' => w'.cell? ⟨p, 8, none⟩ = some (.pointer (some ⟨x, 0, none⟩)) ∧ w'.cell? ⟨Q, 4, none⟩ = some (.int .i64 nd))) (by kernel_rfl) (by exact ⟨hX.cell rfl, hQ.cell rfl⟩) (fun hHeld => ?_)
        refine wtk 0 hHeld ?_
        refine wtk 1 hHeld ?_
        refine wtk 2 hHeld ?_
        refine wtk 3 hHeld ?_
        refine wtk 4 hHeld ?_
        refine wtk 5 hHeld ?_
        refine wtk 6 hHeld ?_
        refine wpAnyH_ready (rs := [7]) (by kernel_rfl) (by simp) (AllReadyH.cons (o := ?oq_3_7) ?op_3_7 (fun K hK => ?re_3_7) AllReadyH.nil)
        case op_3_7 => (simp only [List.getElem?_toArray, List.getElem?_cons_succ, List.getElem?_cons_zero]; rfl)
        go_simp
        go_at_call 19
        refine (msuspect_any (by exact hM) nd (by omega)).mono ?_
        rintro en w5 ⟨rfl, hM5, hF⟩
        have hX5 := hX.fk hM hF (by decide) (by decide) (by decide) (by decide)
        have hQ5 := hQ.fk hM hF (by decide) (by decide) (by decide) (by decide)
        refine hK.out _ _ (by exact ⟨hX5.cell rfl, hQ5.cell rfl⟩) (fun hHeld => ?_)
        clear hK K
        try simp only [Act.put, List.setIfInBounds_toArray, List.set_cons_zero, List.set_cons_succ]
        refine wpAnyH_done (by kernel_rfl) ?_ _
        refine NoPanic.normal ?_
        clear hHeld
        go_wp2_with fail
        go_ret2
        exact ply_fin HK2.out hb hX2 hO2 hp0 hM5 hF (FNew.refl _ _) (by omega) (MsgsS.nil _ _ _) HST.out
      · by_cases h4 : kd = 4
        · subst h4
          obtain ⟨cs', last, hsc, htk, hl2, hlast, hrow, hcase⟩ := fall_scan hinv kp nw
          have hlr : (recs (cs'.map encConf)).length ≤ 65536 := by
            have := List.length_take_le' (scanS (fallL V l kp nw)).2 (fallL V l kp nw)
            rw [htk] at this
            omega
          have HST := Lib.hid (step_four hinv ⟨4, d, e, kp, nd, lf, fl⟩ rfl nw hlast hrow hlr hcase)
          have hcl : cs'.length ≤ 65536 := by
            have h1 := mrecs_count (K := cs'.map encConf)
            rw [List.length_map] at h1
            omega
          have HTL : Hid (TOk (nw + s.lease)) := Lib.hid (by
            unfold mayS at hset
            rw [decide_eq_true_eq] at hset
            exact ⟨by omega, by omega⟩)
          clear hcase hlr
          go_upto_region 10 with (fail)
          have hb := Below.refl w2.heap.size w2
          have hX := hX2
          have hQ := hQ2
          have hM := hO2.mst
          have bd : Below w2.heap.size w2 w2.drew := below_drewN (Below.refl _ _) 1
          replace hX := hX.below bd
          replace hQ := hQ.below bd
          replace hM := hM.below bd
          replace hb := below_step hb bd
          clear bd
          refine wp_region_noPanic ?_
          refine wp_region_held_drew (S := (fun w' => w'.cell? ⟨p, 8, none⟩ = some (.pointer (some ⟨x, 0, none⟩)) ∧ w'.cell? ⟨p, 9, none⟩ = some (.int .i64 nw) ∧ w'.cell? ⟨Q, 3, none⟩ = some (.int .i64 kp))) (by kernel_rfl) (by exact ⟨hX.cell rfl, hX.cell rfl, hQ.cell rfl⟩) (fun hHeld => ?_)
          refine wtk 0 hHeld ?_
          refine wtk 1 hHeld ?_
          refine wtk 2 hHeld ?_
          refine wtk 3 hHeld ?_
          refine wtk 4 hHeld ?_
          refine wtk 5 hHeld ?_
          refine wtk 6 hHeld ?_
          refine wtk 7 hHeld ?_
          refine wtk 8 hHeld ?_
          refine wtk 9 hHeld ?_
          refine wpAnyH_ready (rs := [10]) (by kernel_rfl) (by simp) (AllReadyH.cons (o := ?oq_4_10) ?op_4_10 (fun K hK => ?re_4_10) AllReadyH.nil)
          case op_4_10 => (simp only [List.getElem?_toArray, List.getElem?_cons_succ, List.getElem?_cons_zero]; rfl)
          go_simp
          go_at_call 20
          refine (mfall_any (by exact hM) HTN.out HLEN.out rfl).mono ?_
          rintro en w5 ⟨rfl, ⟨u, t, hlog⟩, hF⟩
          obtain ⟨u0, hlog0⟩ := hM.log
          have hkb := KeepB.of_log hlog0 hF
          have hX5 : BlkAt w5 p 39 (playC s b.lb x nw) := (hkb.2 p _ hX.kind (by decide) (by decide) (by decide) (by decide)).trans hX
          have hQ5 : BlkAt w5 Q 44 (mopC ⟨4, d, e, kp, nd, lf, fl⟩) := (hkb.2 Q _ hQ.kind (by decide) (by decide) (by decide) (by decide)).trans hQ
          refine hK.out _ _ (by exact ⟨hX5.cell rfl, hX5.cell rfl, hQ5.cell rfl⟩) (fun hHeld => ?_)
          clear hK K
          try simp only [Act.put, List.setIfInBounds_toArray, List.set_cons_zero, List.set_cons_succ]
          refine wpAnyH_done (by kernel_rfl) ?_ _
          refine NoPanic.normal ?_
          clear hHeld hkb hlog0 hX hQ hM
          have hb4 := hb
          have hF5 := hF
          clear hb hF hQ2 hQ5
          go_upto_region 11 with (fail)
          have hX := hX5.drew
          have hF5 := hF5.same (FK.of_below (below_drewN (Below.refl _ _) 1))
          have hlog := hlog.drewN 1
          change BlkAt w5.drew p 39 (playC s b.lb x nw) at hX
          change LogAt B w5.drew b.lb u _ t at hlog
          change FK [b.lb] B w2.drew w5.drew at hF5
          refine wp_region_noPanic ?_
          refine wp_region_held_drew (S := (fun w' => w'.cell? ⟨p, 0, none⟩ = some (.int .i64 s.nodes) ∧ w'.cell? ⟨p, 1, none⟩ = some (.int .i64 s.clients) ∧ w'.cell? ⟨p, 2, none⟩ = some (.int .i64 s.timers) ∧ w'.cell? ⟨p, 3, none⟩ = some (.int .i64 s.lease) ∧ w'.cell? ⟨p, 4, none⟩ = some (.int .i64 s.suspect) ∧ w'.cell? ⟨p, 5, none⟩ = some (.int .i64 s.skew) ∧ w'.cell? ⟨p, 6, none⟩ = some (.int .i64 s.base) ∧ w'.cell? ⟨p, 7, none⟩ = some (.pointer (some ⟨b.lb, 0, none⟩)) ∧ w'.cell? ⟨p, 8, none⟩ = some (.pointer (some ⟨x, 0, none⟩)) ∧ w'.cell? ⟨p, 9, none⟩ = some (.int .i64 nw))) (by kernel_rfl) (by exact ⟨hX.cell rfl, hX.cell rfl, hX.cell rfl, hX.cell rfl, hX.cell rfl, hX.cell rfl, hX.cell rfl, hX.cell rfl, hX.cell rfl, hX.cell rfl⟩) (fun hHeld => ?_)
          refine wtk 0 hHeld ?_
          refine wtk 1 hHeld ?_
          refine wtk 2 hHeld ?_
          refine wtk 3 hHeld ?_
          refine wtk 4 hHeld ?_
          refine wtk 5 hHeld ?_
          refine wtk 6 hHeld ?_
          refine wtk 7 hHeld ?_
          refine wtk 8 hHeld ?_
          refine wtk 9 hHeld ?_
          refine wtk 10 hHeld ?_
          refine wtk 11 hHeld ?_
          refine wpAnyH_ready (rs := [12]) (by kernel_rfl) (by simp) (AllReadyH.cons (o := ?oq_5_12) ?op_5_12 (fun K hK => ?re_5_12) AllReadyH.nil)
          case op_5_12 => (simp only [List.getElem?_toArray, List.getElem?_cons_succ, List.getElem?_cons_zero]; rfl)
          go_simp
          go_at_call 23
          refine (mrecover_any (by exact hlog) hl2 hset hrow hlast hsc (by omega) HTN.out HTL.out).mono ?_
          rintro en w7 ⟨y, b', rfl, hlb', hM7, hF7, hFN⟩
          rw [htk] at hM7
          obtain ⟨hX7, HRES⟩ := ply_fall HK2.out hb4 hX2 hO2 hp0 hF5 hlog hF7 hFN hlb' hM7 HST.out
          refine hK.out _ _ (by exact ⟨hX7.cell rfl, hX7.cell rfl, hX7.cell rfl, hX7.cell rfl, hX7.cell rfl, hX7.cell rfl, hX7.cell rfl, hX7.cell rfl, hX7.cell rfl, hX7.cell rfl⟩) (fun hHeld => ?_)
          clear hK K
          try simp only [Act.put, List.setIfInBounds_toArray, List.set_cons_zero, List.set_cons_succ]
          refine wtk 13 hHeld ?_
          refine wtk 14 hHeld ?_
          refine wtk 15 hHeld ?_
          refine wtk 16 hHeld ?_
          refine wtk 17 hHeld ?_
          refine wpAnyH_done (by kernel_rfl) ?_ _
          refine NoPanic.normal ?_
          clear hHeld hX hX5 hlog hF5 hF7 hFN hM7
          have c8 : w7.cell? ⟨p, 8, none⟩ = some (.pointer (some ⟨x, 0, none⟩)) := hX7.cell rfl
          have cf := hX7.free
          clear hX7
          go_wp2_with fail
          go_ret2
          exact HRES
        · by_cases h5 : kd = 5
          · subst h5
            obtain ⟨L5, hL5⟩ : ∃ L5 : List (Int × Int), L5 = if e < 100 then [] else [(e, 0)] := ⟨_, rfl⟩
            have hst := step_five hinv ⟨5, d, e, kp, nd, lf, fl⟩ rfl nw
            simp only at hst
            rw [← hL5] at hst
            have HST := Lib.hid hst
            have HL5 := Lib.hid hL5
            clear hst hL5
            go_upto_region 16 with (fail)
            have hb := Below.refl w2.heap.size w2
            have hX := hX2
            have hQ := hQ2
            have hM := hO2.mst
            have bd : Below w2.heap.size w2 w2.drew := below_drewN (Below.refl _ _) 1
            replace hX := hX.below bd
            replace hQ := hQ.below bd
            replace hM := hM.below bd
            replace hb := below_step hb bd
            clear bd
            refine wp_region_noPanic ?_
            refine wp_region_held_drew (S := (fun w' => w'.cell? ⟨p, 8, none⟩ = some (.pointer (some ⟨x, 0, none⟩)) ∧ w'.cell? ⟨p, 9, none⟩ = some (.int .i64 nw) ∧ w'.cell? ⟨Q, 2, none⟩ = some (.int .i64 e))) (by kernel_rfl) (by exact ⟨hX.cell rfl, hX.cell rfl, hQ.cell rfl⟩) (fun hHeld => ?_)
            refine wtk 0 hHeld ?_
            refine wtk 1 hHeld ?_
            refine wtk 2 hHeld ?_
            refine wtk 3 hHeld ?_
            refine wtk 4 hHeld ?_
            refine wtk 5 hHeld ?_
            refine wtk 6 hHeld ?_
            refine wtk 7 hHeld ?_
            refine wtk 8 hHeld ?_
            refine wtk 9 hHeld ?_
            refine wtk 10 hHeld ?_
            refine wtk 11 hHeld ?_
            refine wpAnyH_ready (rs := [12]) (by kernel_rfl) (by simp) (AllReadyH.cons (o := ?oq_6_12) ?op_6_12 (fun K hK => ?re_6_12) AllReadyH.nil)
            case op_6_12 => (simp only [List.getElem?_toArray, List.getElem?_cons_succ, List.getElem?_cons_zero]; rfl)
            go_simp
            go_at_call 25
            refine (mtake_where (now := nw) (n := e) (by exact hM) rfl rfl HL5.out).mono ?_
            rintro en w5 ⟨v, b', rfl, hS, hM5, hF, hFN⟩
            obtain ⟨SA, Scap, rfl⟩ := hS.form
            have hX5 := hX.fk hM hF (by decide) (by decide) (by decide) (by decide)
            have hQ5 := hQ.fk hM hF (by decide) (by decide) (by decide) (by decide)
            refine hK.out _ _ (by exact ⟨hX5.cell rfl, hX5.cell rfl, hQ5.cell rfl⟩) (fun hHeld => ?_)
            clear hK K
            try simp only [Act.put, List.setIfInBounds_toArray, List.set_cons_zero, List.set_cons_succ]
            refine wtk 13 hHeld ?_
            refine wtk 14 hHeld ?_
            refine wpAnyH_done (by kernel_rfl) ?_ _
            refine NoPanic.normal ?_
            clear hHeld
            go_wp2_with fail
            go_ret2
            exact ply_fin HK2.out hb hX2 hO2 hp0 hM5 hF hFN (by omega) hS HST.out
          · have HST := Lib.hid (step_other hinv ⟨kd, d, e, kp, nd, lf, fl⟩ h1 h2 h3 h4 h5 nw)
            have HX := Lib.hid hX2
            have HO := Lib.hid hO2
            clear hX2 hO2 hQ2 hinv
            go_wp2_with fail
            go_ret2
            exact ply_fin HK2.out (Below.refl _ _) HX.out HO.out hp0 HO.out.mst (FK.refl _ _ _) (FNew.refl _ _) (by omega) (MsgsS.nil _ _ _) HST.out
theorem play_any {w0 w : World} {B p N : Nat} {s : SetV} {V : MstV} {l : List UInt8} {cs : List ConfV} {now nw : Int} {bs : List Nat} (h : PlyAt w0 w B p s N V l cs now bs) (hset : mayS s = true) {o : MopV} (ho : MopOk o) (ht : 0 ≤ now ∧ now ≤ 1000000000000) (hN : N ≤ 400000000) (hnow : nowP now o.d = nw) :
    Calls Tryz.prog 14 #[.pointer (some ⟨p, 0, none⟩), .agg (mopC o).toArray] w fun en w' => PlyRes w0 w w' B p s N V l cs nw bs o en := by
  obtain ⟨kd, d, e, kp, nd, lf, fl⟩ := o
  exact play_go h hset ho.2.1 ho.2.2.1 ho.2.2.2.2.1 ho.2.2.2.2.2 ht hN hnow
end Go.Proofs.YtomfmejodmfioaaGreat
